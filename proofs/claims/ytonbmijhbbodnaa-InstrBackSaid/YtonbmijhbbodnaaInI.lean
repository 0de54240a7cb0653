/-
  Bytes as instructions (plain), and the two Wrap.
-/
import Derived.Test.YtonbmijhbbodnaaInD
import Derived.Test.YtonbmijhbbodnaaInH
import Derived.Laws.BitsLemmas
namespace Go.Proofs.Ytonbmijhbbodnaa
open Go.RowKit

def w32 (n : Int) : Int := (n + 2147483648) % 4294967296 - 2147483648
theorem wrap_val {n : Int} (_h0 : 0 ≤ n) (_h1 : n < 4294967296) : Ending.returned (.int .i64 (wrap64 (wrap32 n))) = .returned (.int .i64 (w32 n)) := by
  have e : wrap64 (wrap32 n) = w32 n := by unfold wrap64 wrap32 w32; omega
  rw [e]
theorem wrap_any (n : Int) (w : World) (h0 : 0 ≤ n) (h1 : n < 4294967296) : Calls Try.prog 52 #[.int .i64 n] w fun e w' => e = .returned (.int .i64 (w32 n)) ∧ w' = w := by
  go_enter Try.func52, Try.ntmps52
  go_wp2
  go_ret
  exact ⟨wrap_val h0 h1, rfl⟩
theorem rwrap_any (n : Int) (w : World) (h0 : 0 ≤ n) (h1 : n < 4294967296) : Calls Try.prog 81 #[.int .i64 n] w fun e w' => e = .returned (.int .i64 (w32 n)) ∧ w' = w := by
  go_enter Try.func81, Try.ntmps81
  go_wp2
  go_ret
  exact ⟨wrap_val h0 h1, rfl⟩

theorem wraps63 (n : Int) (h0 : 0 ≤ n) (h1 : n < 2 ^ 63) : IntKind.i64.wrap n = n := Go.IntWalk.i64_in n ⟨by omega, by omega⟩
theorem or_join (i : Nat) {x y : Int} (h0 : 0 ≤ x) (h1 : x % 2 ^ i = 0) (h2 : x < 4294967296) (h3 : 0 ≤ y) (h4 : y < 2 ^ i) (h5 : y < 4294967296) : bits .or .i64 x y = x + y :=
  bits_join .i64 63 (by decide) wraps63 i x y h0 h1 (by omega) h3 h4 (by omega)
theorem byt_in {z : Int} (h0 : 0 ≤ z) (h1 : z ≤ 255) (m : Int) (hm : 0 ≤ m) (hm1 : m ≤ 16777216) : IntKind.i64.wrap (z * m) = z * m := by
  have : 0 ≤ z * m := Int.mul_nonneg h0 hm
  have : z * m ≤ 255 * 16777216 := Int.le_trans (Int.mul_le_mul_of_nonneg_right h1 hm) (by omega)
  exact Go.IntWalk.i64_in _ ⟨by omega, by omega⟩
theorem wrap_in {n : Int} {j : Nat} (h : n = j) (h1 : j ≤ 1000000) : IntKind.i64.wrap n = (j : Int) := by
  rw [Go.IntWalk.i64_in n ⟨by omega, by omega⟩, h]

/-! ### Bytes as instructions -/
def mkI (b0 b1 b2 b3 b4 b5 b6 b7 : Int) : Ins := ⟨b0, b1 / 16, b1 % 16, b2, b3, w32 (b4 * 16777216 + b5 * 65536 + b6 * 256 + b7)⟩
def insAt (bs : List Int) (k : Nat) : Ins := mkI (bs.getD k 0) (bs.getD (k + 1) 0) (bs.getD (k + 2) 0) (bs.getD (k + 3) 0) (bs.getD (k + 4) 0) (bs.getD (k + 5) 0) (bs.getD (k + 6) 0) (bs.getD (k + 7) 0)
def decP (bs : List Int) (j : Nat) : List Ins := (List.range j).map fun i => insAt bs (8 * i)
def decL (bs : List Int) : List Ins := decP bs (bs.length / 8)
def decBad (bs : List Int) : Prop := bs.length % 8 ≠ 0 ∨ 8192 < bs.length
instance (bs : List Int) : Decidable (decBad bs) := by unfold decBad; infer_instance
def decE (bs : List Int) : Int := if decBad bs then 10 else match bad (decL bs) with | some _ => 10 | none => 0
def decO (bs : List Int) : List Ins := if decBad bs then [] else match bad (decL bs) with | some _ => [] | none => decL bs
def DecRet (bs : List Int) (w : World) (e : Ending) (w' : World) : Prop := ∃ v, e = .returned (.tuple #[v, .int .i64 (decE bs)]) ∧ w'.ownsRow w.heap.size 50 6 v (decO bs).length (ics (decO bs)) ∧ Below w.heap.size w w'
theorem decE_bad {bs : List Int} (h : decBad bs) : decE bs = 10 ∧ decO bs = [] := by unfold decE decO; rw [if_pos h, if_pos h]; exact ⟨rfl, rfl⟩
theorem decE_some {bs : List Int} {x : Ins} (h : ¬ decBad bs) (hb : bad (decL bs) = some x) : decE bs = 10 ∧ decO bs = [] := by unfold decE decO; rw [if_neg h, if_neg h, hb]; exact ⟨rfl, rfl⟩
theorem decE_good {bs : List Int} (h : ¬ decBad bs) (hb : Good (decL bs)) : decE bs = 0 ∧ decO bs = decL bs := by unfold decE decO; rw [if_neg h, if_neg h, bad_none hb]; exact ⟨rfl, rfl⟩
theorem decP_length (bs : List Int) (j : Nat) : (decP bs j).length = j := by simp [decP]
theorem decP_succ (bs : List Int) (j : Nat) : decP bs (j + 1) = decP bs j ++ [insAt bs (8 * j)] := by unfold decP; rw [List.range_succ, List.map_append]; rfl
theorem decP_get {bs : List Int} {i j : Nat} (h : i < j) : (decP bs j)[i]? = some (insAt bs (8 * i)) := by unfold decP; rw [List.getElem?_map, List.getElem?_range h]; rfl
theorem decP_take {bs : List Int} {i j : Nat} (h : i ≤ j) : (decP bs j).take i = decP bs i := by
  unfold decP; rw [← List.map_take, List.take_range, Nat.min_eq_left h]
theorem getD_of {bs : List Int} {k : Nat} {z : Int} (h : bs[k]? = some z) : bs.getD k 0 = z := by rw [List.getD_eq_getElem?_getD, h]; rfl
theorem insAt_of {bs : List Int} {k : Nat} {z0 z1 z2 z3 z4 z5 z6 z7 : Int} (h0 : bs[k]? = some z0) (h1 : bs[k + 1]? = some z1) (h2 : bs[k + 2]? = some z2) (h3 : bs[k + 3]? = some z3) (h4 : bs[k + 4]? = some z4) (h5 : bs[k + 5]? = some z5) (h6 : bs[k + 6]? = some z6) (h7 : bs[k + 7]? = some z7) : insAt bs k = mkI z0 z1 z2 z3 z4 z5 z6 z7 := by
  unfold insAt; rw [getD_of h0, getD_of h1, getD_of h2, getD_of h3, getD_of h4, getD_of h5, getD_of h6, getD_of h7]
theorem getD_byt {bs : List Int} (h : Byt bs) (k : Nat) : 0 ≤ bs.getD k 0 ∧ bs.getD k 0 ≤ 255 := by
  rw [List.getD_eq_getElem?_getD]
  cases e : bs[k]? with
  | none => exact ⟨by decide, by decide⟩
  | some z => exact h z (List.mem_of_getElem? e)
theorem insAt_in {bs : List Int} (h : Byt bs) (k : Nat) : (insAt bs k).In := by
  have := getD_byt h k; have := getD_byt h (k + 1); have := getD_byt h (k + 2); have := getD_byt h (k + 3)
  unfold insAt mkI w32
  constructor <;> (simp only [I64]; omega)
theorem decO_in {bs : List Int} (h : Byt bs) : ∀ x ∈ decO bs, x.In := by
  intro x hx
  unfold decO at hx
  split at hx
  · simp at hx
  · split at hx
    · simp at hx
    · obtain ⟨j, _, rfl⟩ := List.mem_map.1 hx
      exact insAt_in h _
theorem decO_length (bs : List Int) : (decO bs).length ≤ 1024 := by
  unfold decO
  split
  · simp
  · next h =>
    split
    · simp
    · unfold decBad at h; unfold decL; rw [decP_length]; omega
/-- The bytes of a decoded instruction are those that it was decoded from. -/
theorem enc_mkI {b0 b1 b2 b3 b4 b5 b6 b7 : Int} (h0 : 0 ≤ b0 ∧ b0 ≤ 255) (h1 : 0 ≤ b1 ∧ b1 ≤ 255) (h2 : 0 ≤ b2 ∧ b2 ≤ 255) (h3 : 0 ≤ b3 ∧ b3 ≤ 255) (h4 : 0 ≤ b4 ∧ b4 ≤ 255) (h5 : 0 ≤ b5 ∧ b5 ≤ 255) (h6 : 0 ≤ b6 ∧ b6 ≤ 255) (h7 : 0 ≤ b7 ∧ b7 ≤ 255) :
    enc8 (mkI b0 b1 b2 b3 b4 b5 b6 b7) = [b0, b1, b2, b3, b4, b5, b6, b7] := by
  simp only [enc8, mkI, b8, w32]
  have e0 : b0 % 256 = b0 := by omega
  have e1 : (16 * (b1 / 16) + b1 % 16) % 256 = b1 := by omega
  have e2 : b2 % 256 = b2 := by omega
  have e3 : b3 % 256 = b3 := by omega
  have e4 : ((b4 * 16777216 + b5 * 65536 + b6 * 256 + b7 + 2147483648) % 4294967296 - 2147483648) / 16777216 % 256 = b4 := by omega
  have e5 : ((b4 * 16777216 + b5 * 65536 + b6 * 256 + b7 + 2147483648) % 4294967296 - 2147483648) / 65536 % 256 = b5 := by omega
  have e6 : ((b4 * 16777216 + b5 * 65536 + b6 * 256 + b7 + 2147483648) % 4294967296 - 2147483648) / 256 % 256 = b6 := by omega
  have e7 : ((b4 * 16777216 + b5 * 65536 + b6 * 256 + b7 + 2147483648) % 4294967296 - 2147483648) % 256 = b7 := by omega
  rw [e0, e1, e2, e3, e4, e5, e6, e7]
end Go.Proofs.Ytonbmijhbbodnaa
