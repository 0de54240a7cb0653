/-
  Slices of bytes as strings; a literal of instructions. Small laws.
-/
import Derived.Test.YtonbmijhbbodnaaZInS
import Derived.Test.YtonbmijhbbodnaaZGrow2
namespace Go.Proofs.Ytonbmijhbbodnaa
open Go.RowKit

theorem conv_bytes {K : Nat → Prop} {w : World} {a : Option Addr} {len cap : Nat} {xs : List Int} (r : Bytes K w a len cap xs) : (convert 47 9 (.slice a len cap)).run Try.prog w = .ok (.string (strOfNums xs)) w := by
  have hcell : ∀ b o, a = some ⟨b, o, none⟩ → ∀ i, i < len → w.cell? ⟨b, o + i, none⟩ = some (.int .u8 (xs.getD i 0)) := fun b o e i hi => by
    obtain ⟨b', o', z, e', hz, hc, _⟩ := Bytes.get r hi
    rw [e] at e'
    cases e'
    rw [hc, List.getD_eq_getElem?_getD, hz]
    rfl
  by_cases h0 : len = 0
  · have hx : xs = [] := by have := r.hlen; exact List.eq_nil_of_length_eq_zero (by omega)
    subst hx
    subst h0
    cases a with
    | none => exact run_convert_bytes_nil w 47 5 Try.underlying47 Try.underlying5 0 cap 9 Try.underlying9
    | some ad =>
      rw [run_convert_bytes_string w _ _ 5 _ 0 cap Try.underlying47 Try.underlying5 Try.underlying9]
      simp [Conv.bytesToString, loadCells, strOfNums]
      rfl
  · obtain ⟨b, o, z, rfl, _⟩ := Bytes.get r (show 0 < len by omega)
    exact run_convert_bytes_arg w 47 5 Try.underlying47 Try.underlying5 b o len cap xs r.hlen (hcell b o rfl) 9 Try.underlying9
theorem u8_inj {x y : Int} (hx : 0 ≤ x ∧ x ≤ 255) (hy : 0 ≤ y ∧ y ≤ 255) (h : UInt8.ofNat x.toNat = UInt8.ofNat y.toNat) : x = y := by
  have := congrArg UInt8.toNat h
  simp at this
  omega
theorem bytesOf_inj : ∀ {xs ys : List Int}, Byt xs → Byt ys → Lib.bytesOf xs = Lib.bytesOf ys → xs = ys
  | [], [], _, _, _ => rfl
  | [], y :: ys, _, _, h => by simp [Lib.bytesOf] at h
  | x :: xs, [], _, _, h => by simp [Lib.bytesOf] at h
  | x :: xs, y :: ys, hx, hy, h => by
    simp only [Lib.bytesOf, List.map_cons, List.cons.injEq] at h
    rw [u8_inj (hx x (by simp)) (hy y (by simp)) h.1, bytesOf_inj (fun z hz => hx z (by simp [hz])) (fun z hz => hy z (by simp [hz])) h.2]
theorem bytes_beq {xs ys : List Int} (hx : Byt xs) (hy : Byt ys) : (Lib.bytesOf xs == Lib.bytesOf ys) = decide (xs = ys) := by
  by_cases h : xs = ys
  · subst h; simp
  · rw [decide_eq_false h]
    have : ¬ Lib.bytesOf xs = Lib.bytesOf ys := fun e => h (bytesOf_inj hx hy e)
    simpa using this
theorem str_beq {xs ys : List Int} (hx : Byt xs) (hy : Byt ys) : ((strOfNums xs).toList == (strOfNums ys).toList) = decide (xs = ys) := by
  rw [Lib.strOfNums_toList, Lib.strOfNums_toList]; exact bytes_beq hx hy
theorem bequal_any (K K' : Nat → Prop) (a a' : Option Addr) (n n' c c' : Nat) (xs ys : List Int) (w : World) (r : Bytes K w a n c xs) (r' : Bytes K' w a' n' c' ys) (hx : Byt xs) (hy : Byt ys) :
    Calls Try.prog 53 #[.slice a n c, .slice a' n' c'] w fun e w' => e = .returned (.bool (decide (xs = ys))) ∧ w' = w := by
  have h := sh_bytes_Equal (.slice a n c) (.slice a' n' c') xs ys w (conv_bytes r) (conv_bytes r')
  rw [bytes_beq hx hy] at h
  exact h
/-- A literal of instructions reads as its list. -/
theorem ins_new (w : World) (l : List Ins) (n : Nat) (t : TypeId) (hn : l.length = n) (hm : n ≤ 1000) (hz : ∀ x ∈ l, x.In) : InsL (Ge w.heap.size) (w.alloc (.cells (ics l).toArray t)) (some ⟨w.heap.size, 0, none⟩) n n l :=
  ⟨hn, Nat.le_refl _, by omega, by omega, fun i x hx => ⟨w.heap.size, 0, rfl, Nat.le_refl _, by simp, fun j v hv => by
    rw [Nat.zero_add]
    exact (Blk.new w (ics l) t).cell (ics_get hx hv), hz x (List.mem_of_getElem? hx)⟩⟩
/-- A part of a slice of bytes. -/
theorem Bytes.part {K : Nat → Prop} {w : World} {b o len cap : Nat} {xs : List Int} (r : Bytes K w (some ⟨b, o, none⟩) len cap xs) (k n c : Nat) (h : k + n ≤ len) (hc : n ≤ c) (hc2 : c ≤ cap) : Bytes K w (some ⟨b, o + k, none⟩) n c ((xs.drop k).take n) := by
  have hl := r.hlen; have := r.hmax; have := r.hsz
  refine ⟨by rw [List.length_take, List.length_drop]; omega, hc, by omega, by omega, fun i x hx => ?_⟩
  have hi := (List.getElem?_eq_some_iff.1 hx).1
  rw [List.length_take, List.length_drop] at hi
  rw [List.getElem?_take, if_pos (by omega), List.getElem?_drop] at hx
  obtain ⟨b', o', e, e1, e2, e3⟩ := r.row (k + i) x hx
  cases e
  refine ⟨b, o + k, rfl, e1, e2, ?_⟩
  rw [Nat.mul_one] at e3 ⊢
  rw [Nat.add_assoc]
  exact e3
end Go.Proofs.Ytonbmijhbbodnaa
