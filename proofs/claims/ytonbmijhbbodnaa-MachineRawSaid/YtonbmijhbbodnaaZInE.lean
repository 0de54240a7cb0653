/-
  Numbers as bytes: instr.join.
  Instructions as bytes: what Encode gives (plain).
  The document's Encode.
  Bytes as instructions (plain), and the two Wrap.
-/
import Derived.Deep.DeepCutAuto
import Derived.Deep.RegionHeld3
import Derived.Laws.BitsLemmas
import Derived.Test.YtonbmijhbbodnaaZGrow
import Derived.Test.YtonbmijhbbodnaaZInA
import Derived.Test.YtonbmijhbbodnaaInD
namespace Go.Proofs.Ytonbmijhbbodnaa
open Go.RowKit

def b8 (z : Int) : Int := z % 256
theorem take_map_b8 {xs : List Int} {k : Nat} {z : Int} (h : xs[k]? = some z) : (xs.take (k + 1)).map b8 = (xs.take k).map b8 ++ [z % 256] := by
  rw [List.take_add_one, h]; simp [b8]
def JoinRet (xs : List Int) (w : World) (e : Ending) (w' : World) : Prop := ∃ v, e = .returned v ∧ w'.ownsRow w.heap.size 5 1 v xs.length (bcs (xs.map b8)) ∧ Below w.heap.size w w'
set_option maxHeartbeats 4000000 in
theorem join_any (K : Nat → Prop) (a : Option Addr) (len cap : Nat) (xs : List Int) (w : World) (r : Ints K w a len cap xs) (hl : len ≤ 1000) : Calls Try.prog 51 #[.slice a len cap] w (JoinRet xs w) := by
  have R := Lib.hid r
  clear r
  go_enter Try.func51, Try.ntmps51
  go_wp2
  go_loopw [3, 8] (fun v i wr => ∃ k : Nat, k ≤ len ∧ i = .int .i64 k ∧ wr.ownsRow w.heap.size 5 1 v k (bcs ((xs.take k).map b8)) ∧ Below w.heap.size w wr) (fun _ i _ => len - (intOf i).toNat)
  case atStart => exact ⟨0, Nat.zero_le _, rfl, World.ownsRow_nil _ _ _ _, Below.refl _ _⟩
  case round =>
    obtain ⟨k, hk, rfl, h1, h2⟩ := hrel
    obtain ⟨va, vc, rfl⟩ := flat_form h1
    have H1 := Lib.hid h1; have H2 := Lib.hid h2; clear h1 h2
    by_cases hlt : k < len
    · obtain ⟨b, o, z, rfl, hz, hcz0, hz0, hz1, _, hbw⟩ := Ints.get R.out hlt
      have hcz := (H2.out.cell (p := ⟨b, o + k, none⟩) hbw).trans hcz0
      have HZ := Lib.hid hz; clear hz hcz0
      have O1 := Lib.hid (flat_below H1.out ((Below.refl _ _).alloc (Nat.le_refl _) (.cells #[.int .u8 (z % 256)] 5)))
      have B1 := Lib.hid (Blk.new wr [.int .u8 (z % 256)] 5)
      go_wp2_with (at_builtin; refine wpList_append_flat rfl _ _ 47 rfl 5 Try.underlying47 info_u8 rfl (by decide) O1.out rfl (by have := H2.out.size; simp; omega) ⟨wr.heap.size, 0, none⟩ 1 1 [.int .u8 (z % 256)] rfl rfl (news_one B1.out) (by simp [Value.oneCell']) (by decide) (by omega) (by decide) ?_; intro g cap w6 hap)
      have C6 := Lib.hid (hap.out.non O1.out (M := Non) ((Chg.of_below H2.out).alloc _) (Nat.le_refl _)).below0
      have Q6 := Lib.hid hap.out.owns
      clear hap
      go_roundw
      case rel => exact ⟨k + 1, by omega, by go_num, by rw [take_map_b8 HZ.out, bcs_append]; exact Q6.out, C6.out⟩
      case measure => simp [intOf]; omega
    · go_wp2
      have e : k = xs.length := by have := R.out.hlen; omega
      subst e
      rw [List.take_length] at H1
      go_ret
      exact ⟨_, rfl, H1.out, H2.out⟩
/-- A literal of integers reads as its list. -/
theorem ints_new (w : World) (l : List Int) (n : Nat) (t : TypeId) (hn : l.length = n) (hm : n ≤ 1000) (hz : ∀ z ∈ l, -9223372036854775808 ≤ z ∧ z ≤ 9223372036854775807) : Ints (Ge w.heap.size) (w.alloc (.cells (ivs l).toArray t)) (some ⟨w.heap.size, 0, none⟩) n n l :=
  ⟨hn, Nat.le_refl _, by omega, by omega, fun i x hx => ⟨w.heap.size, 0, rfl, Nat.le_refl _, by simp, by
    refine ⟨?_, hz x (List.mem_of_getElem? hx)⟩
    rw [Nat.zero_add, Nat.mul_one]
    exact (Blk.new w (ivs l) t).cell (ivs_get hx)⟩⟩

def enc8 (x : Ins) : List Int := [b8 x.k, b8 (16 * x.a + x.b), b8 x.c, b8 x.op, b8 (x.imm / 16777216), b8 (x.imm / 65536), b8 (x.imm / 256), b8 x.imm]
def encs (l : List Ins) : List Int := l.flatMap enc8
def bad (l : List Ins) : Option Ins := l.find? (fun x => chkI x != 0)
def encE (l : List Ins) : Int := if 1024 < l.length then 4 else match bad l with | some x => chkI x | none => 0
def encB (l : List Ins) : List Int := if 1024 < l.length then [] else match bad l with | some _ => [] | none => encs l
def EncRet (l : List Ins) (w : World) (e : Ending) (w' : World) : Prop := ∃ v, e = .returned (.tuple #[v, .int .i64 (encE l)]) ∧ w'.ownsRow w.heap.size 5 1 v (encB l).length (bcs (encB l)) ∧ Below w.heap.size w w'
def Good (l : List Ins) : Prop := ∀ x ∈ l, chkI x = 0
theorem encs_length (l : List Ins) : (encs l).length = 8 * l.length := by
  induction l with
  | nil => rfl
  | cons x l ih => unfold encs at ih ⊢; rw [List.flatMap_cons, List.length_append, ih]; simp [enc8]; omega
theorem encs_take {l : List Ins} {k : Nat} {x : Ins} (h : l[k]? = some x) : encs (l.take (k + 1)) = encs (l.take k) ++ enc8 x := by
  rw [List.take_add_one, h]; simp [encs]
theorem good_take {l : List Ins} {k : Nat} {x : Ins} (h : l[k]? = some x) (hg : Good (l.take k)) (hx : chkI x = 0) : Good (l.take (k + 1)) := by
  rw [List.take_add_one, h]
  intro y hy
  rcases List.mem_append.1 hy with hy | hy
  · exact hg y hy
  · simp at hy; subst hy; exact hx
theorem bad_of {l : List Ins} {k : Nat} {x : Ins} (h : l[k]? = some x) (hg : Good (l.take k)) (hx : chkI x ≠ 0) : bad l = some x := by
  induction l generalizing k with
  | nil => simp at h
  | cons y l ih =>
    cases k with
    | zero => simp at h; subst h; unfold bad; rw [List.find?_cons_of_pos]; simpa using hx
    | succ k =>
      have hy : chkI y = 0 := hg y (by simp)
      unfold bad
      rw [List.find?_cons_of_neg (by simp [hy])]
      exact ih (by simpa using h) (fun z hz => hg z (by simp [hz]))
theorem bad_none {l : List Ins} (h : Good l) : bad l = none := by
  unfold bad
  rw [List.find?_eq_none]
  intro x hx
  simp [h x hx]
theorem good_of_bad {l : List Ins} (h : bad l = none) : Good l := by
  unfold bad at h
  rw [List.find?_eq_none] at h
  intro x hx
  simpa using h x hx
theorem encE_bad {l : List Ins} {x : Ins} (hl : ¬ 1024 < l.length) (h : bad l = some x) : encE l = chkI x ∧ encB l = [] := by
  unfold encE encB; rw [if_neg hl, if_neg hl, h]; exact ⟨rfl, rfl⟩
theorem encE_good {l : List Ins} (hl : ¬ 1024 < l.length) (h : Good l) : encE l = 0 ∧ encB l = encs l := by
  unfold encE encB; rw [if_neg hl, if_neg hl, bad_none h]; exact ⟨rfl, rfl⟩
theorem encE_long {l : List Ins} (hl : 1024 < l.length) : encE l = 4 ∧ encB l = [] := by
  unfold encE encB; rw [if_pos hl, if_pos hl]; exact ⟨rfl, rfl⟩
/-- What a right instruction's fields are between. -/
structure Small (x : Ins) : Prop where
  k0 : 0 ≤ x.k
  k1 : x.k ≤ 10
  a0 : 0 ≤ x.a
  a1 : x.a < 8
  b0 : 0 ≤ x.b
  b1 : x.b < 8
  c0 : 0 ≤ x.c
  c1 : x.c < 8
  o0 : 0 ≤ x.op
  o1 : x.op ≤ 14
  i0 : -2147483648 ≤ x.imm
  i1 : x.imm ≤ 2147483647
theorem regB_small {n : Bool} {z : Int} (h : regB n z = true) : 0 ≤ z ∧ z < 8 := by
  simp [regB] at h
  omega
theorem fldOf_small (k : Int) : -2147483648 ≤ (fldOf k).least ∧ (fldOf k).most ≤ 2147483647 := by
  unfold fldOf
  repeat (first | (split; (first | decide | skip)) | decide)
theorem small_of {x : Ins} (h : chkI x = 0) : Small x := by
  unfold chkI at h
  split at h
  next hk =>
    split at h
    next hg =>
      have hk2 := kn_cases hk
      simp only [goodI, Bool.and_eq_true, decide_eq_true_eq] at hg
      obtain ⟨⟨⟨⟨⟨⟨ha, hb⟩, hc⟩, ho⟩, ho2⟩, h1⟩, h2⟩ := hg
      have hF := fldOf_small x.k
      have o : 0 ≤ x.op ∧ x.op ≤ 14 := by
        cases hf : (fldOf x.k).op with
        | true => rw [hf] at ho; simp [opB] at ho; omega
        | false => rw [hf] at ho2; simp at ho2; omega
      have := regB_small ha; have := regB_small hb; have := regB_small hc
      constructor <;> omega
    next => omega
  next => omega
/-- The bytes of a right instruction. -/
def enc8s (x : Ins) : List Int := [x.k, 16 * x.a + x.b, x.c, x.op, x.imm / 16777216 % 256, x.imm / 65536 % 256, x.imm / 256 % 256, x.imm % 256]
theorem enc8_small {x : Ins} (h : chkI x = 0) : enc8 x = enc8s x := by
  obtain ⟨k0, k1, a0, a1, b0, b1, c0, c1, o0, o1, i0, i1⟩ := small_of h
  simp only [enc8, enc8s, b8]
  rw [Int.emod_eq_of_lt k0 (by omega), Int.emod_eq_of_lt (a := 16 * x.a + x.b) (by omega) (by omega), Int.emod_eq_of_lt c0 (by omega), Int.emod_eq_of_lt o0 (by omega)]

set_option maxRecDepth 100000 in
set_option maxHeartbeats 8000000 in
theorem rencode_any (K : Nat → Prop) (a : Option Addr) (len cap : Nat) (l : List Ins) (w : World) (r : InsL K w a len cap l) : Calls Try.prog 20 #[.slice a len cap] w (EncRet l w) := by
  have R := Lib.hid r
  have hll := r.hlen
  have hsz := r.hsz
  clear r
  go_enter Try.func20, Try.ntmps20
  by_cases hbig : 1024 < len
  · have E1 := Lib.hid (encE_long (l := l) (by omega))
    go_wp2
    exact bodyPost_ret (v := .tuple #[.slice none 0 0, .int .i64 4]) (by simp [results, Try.results20, go_sem]) rfl ⟨.slice none 0 0, by rw [E1.out.1], by rw [E1.out.2]; exact World.ownsRow_nil _ _ _ _, Below.refl _ _⟩
  · go_wp2
    go_loopw [4, 5] (fun v i wr => ∃ k : Nat, k ≤ len ∧ i = .int .i64 k ∧ Good (l.take k) ∧ wr.ownsRow w.heap.size 5 1 v (8 * k) (bcs (encs (l.take k))) ∧ Below w.heap.size w wr) (fun _ i _ => len - (intOf i).toNat)
    case atStart => exact ⟨0, Nat.zero_le _, rfl, fun _ h => by simp at h, World.ownsRow_nil _ _ _ _, Below.refl _ _⟩
    case round =>
      obtain ⟨k, hk, rfl, hg, h1, h2⟩ := hrel
      obtain ⟨va, vc, rfl⟩ := flat_form h1
      have H1 := Lib.hid h1; have H2 := Lib.hid h2; have HG := Lib.hid hg; clear h1 h2 hg
      by_cases hlt : k < len
      · obtain ⟨b, o, x, rfl, hx, hin, _, hbw, c0, c1, c2, c3, c4, c5⟩ := InsL.get R.out hlt
        have d0 := (H2.out.cell (p := ⟨b, o + k * 6, none⟩) hbw).trans c0
        have d1 := (H2.out.cell (p := ⟨b, o + k * 6 + 1, none⟩) hbw).trans c1
        have d2 := (H2.out.cell (p := ⟨b, o + k * 6 + 2, none⟩) hbw).trans c2
        have d3 := (H2.out.cell (p := ⟨b, o + k * 6 + 3, none⟩) hbw).trans c3
        have d4 := (H2.out.cell (p := ⟨b, o + k * 6 + 4, none⟩) hbw).trans c4
        have d5 := (H2.out.cell (p := ⟨b, o + k * 6 + 5, none⟩) hbw).trans c5
        have HX := Lib.hid hx; have HI := Lib.hid hin
        have N1 := Lib.hid (Has.new wr (ICells x) 50)
        clear c0 c1 c2 c3 c4 c5 hx hin
        go_wp2_with fail
        refine (rcheck_any x _).mono ?_
        rintro e w1 ⟨rfl, hb1⟩
        have B1 := Lib.hid (H2.out.trans (((Below.refl wr.heap.size wr).alloc (Nat.le_refl _) _).trans (hb1.mono (by simp)) |>.mono H2.out.size))
        have N2 := Lib.hid (N1.out.below hb1 (by simp))
        have H3 := Lib.hid (flat_below (flat_below H1.out ((Below.refl _ _).alloc (Nat.le_refl _) (.cells (ICells x).toArray 50))) hb1)
        have HS1 := Lib.hid hb1.size
        clear N1 H1 H2 hb1 d0 d1 d2 d3 d4 d5
        have e0 := N2.out.cell 0 _ rfl; have e1 := N2.out.cell 1 _ rfl; have e2 := N2.out.cell 2 _ rfl; have e3 := N2.out.cell 3 _ rfl; have e4 := N2.out.cell 4 _ rfl; have e5 := N2.out.cell 5 _ rfl
        by_cases hc : chkI x = 0
        · have S := small_of hc
          obtain ⟨k0, k1, a0, a1, b0, b1, c0, c1, o0, o1, i0, i1⟩ := S
          rw [hc]
          have H4 := Lib.hid (flat_below H3.out ((Below.refl _ _).alloc (Nat.le_refl _) (.cells (bcs (enc8s x)).toArray 5)))
          have B2 := Lib.hid (B1.out.alloc B1.out.size (.cells (bcs (enc8s x)).toArray 5))
          have HJ := Lib.hid (Blk.new w1 (bcs (enc8s x)) 5)
          have HE := Lib.hid (enc8_small hc)
          clear H3
          go_wp2_with (at_builtin; refine wpList_append_flat rfl _ _ 47 rfl 5 Try.underlying47 info_u8 rfl (by decide) H4.out rfl B2.out.size ⟨w1.heap.size, 0, none⟩ 8 8 (bcs (enc8s x)) rfl rfl (fun j u hu => by rw [Go.WideShapes.add_plain, Nat.zero_add]; exact HJ.out.cell hu) bcs_one (by decide) (by omega) (by decide) ?_; intro g c6 w6 hap)
          have C6 := Lib.hid (hap.out.non H4.out (M := Non) (Chg.of_below B2.out) (Nat.le_refl _)).below0
          have Q6 := Lib.hid hap.out.owns
          have HG2 := Lib.hid (good_take HX.out HG.out hc)
          clear hap
          go_roundw
          case rel => exact ⟨k + 1, by omega, by go_num, HG2.out, by rw [encs_take HX.out, HE.out, bcs_append, Nat.mul_add]; exact Q6.out, C6.out⟩
          case measure => simp [intOf]; omega
        · have E1 := Lib.hid (encE_bad (by omega) (bad_of HX.out HG.out hc))
          go_wp2
          exact bodyPost_ret (v := .tuple #[.slice none 0 0, .int .i64 (chkI x)]) (by simp [results, Try.results20, go_sem]) rfl ⟨.slice none 0 0, by rw [E1.out.1], by rw [E1.out.2]; exact World.ownsRow_nil _ _ _ _, B1.out⟩
      · have e : k = l.length := by omega
        subst e
        rw [List.take_length] at H1 HG
        have E1 := Lib.hid (encE_good (by omega) HG.out)
        go_wp2
        exact bodyPost_ret (v := .tuple #[.slice va (8 * l.length) vc, .int .i64 0]) (by simp [results, Try.results20, go_sem]) rfl ⟨_, by rw [E1.out.1], by rw [E1.out.2, encs_length]; exact H1.out, H2.out⟩

def w32 (n : Int) : Int := (n + 2147483648) % 4294967296 - 2147483648
theorem wrap_val {n : Int} (_h0 : 0 ≤ n) (_h1 : n < 4294967296) : Ending.returned (.int .i64 (wrap64 (wrap32 n))) = .returned (.int .i64 (w32 n)) := by
  have e : wrap64 (wrap32 n) = w32 n := by unfold wrap64 wrap32 w32; omega
  rw [e]
theorem wrap_any (n : Int) (w : World) (h0 : 0 ≤ n) (h1 : n < 4294967296) : Calls Try.prog 52 #[.int .i64 n] w fun e w' => e = .returned (.int .i64 (w32 n)) ∧ w' = w := by
  go_enter Try.func52, Try.ntmps52
  go_wp2
  go_ret
  exact ⟨wrap_val h0 h1, rfl⟩
theorem rwrap_any (n : Int) (w : World) (h0 : 0 ≤ n) (h1 : n < 4294967296) : Calls Try.prog 81 #[.int .i64 n] w fun e w' => e = .returned (.int .i64 (w32 n)) ∧ w' = w := by
  go_enter Try.func81, Try.ntmps81
  go_wp2
  go_ret
  exact ⟨wrap_val h0 h1, rfl⟩

theorem wraps63 (n : Int) (h0 : 0 ≤ n) (h1 : n < 2 ^ 63) : IntKind.i64.wrap n = n := Go.IntWalk.i64_in n ⟨by omega, by omega⟩
theorem or_join (i : Nat) {x y : Int} (h0 : 0 ≤ x) (h1 : x % 2 ^ i = 0) (h2 : x < 4294967296) (h3 : 0 ≤ y) (h4 : y < 2 ^ i) (h5 : y < 4294967296) : bits .or .i64 x y = x + y :=
  bits_join .i64 63 (by decide) wraps63 i x y h0 h1 (by omega) h3 h4 (by omega)
theorem byt_in {z : Int} (h0 : 0 ≤ z) (h1 : z ≤ 255) (m : Int) (hm : 0 ≤ m) (hm1 : m ≤ 16777216) : IntKind.i64.wrap (z * m) = z * m := by
  have : 0 ≤ z * m := Int.mul_nonneg h0 hm
  have : z * m ≤ 255 * 16777216 := Int.le_trans (Int.mul_le_mul_of_nonneg_right h1 hm) (by omega)
  exact Go.IntWalk.i64_in _ ⟨by omega, by omega⟩
theorem wrap_in {n : Int} {j : Nat} (h : n = j) (h1 : j ≤ 1000000) : IntKind.i64.wrap n = (j : Int) := by
  rw [Go.IntWalk.i64_in n ⟨by omega, by omega⟩, h]

/-! ### Bytes as instructions -/
def mkI (b0 b1 b2 b3 b4 b5 b6 b7 : Int) : Ins := ⟨b0, b1 / 16, b1 % 16, b2, b3, w32 (b4 * 16777216 + b5 * 65536 + b6 * 256 + b7)⟩
def insAt (bs : List Int) (k : Nat) : Ins := mkI (bs.getD k 0) (bs.getD (k + 1) 0) (bs.getD (k + 2) 0) (bs.getD (k + 3) 0) (bs.getD (k + 4) 0) (bs.getD (k + 5) 0) (bs.getD (k + 6) 0) (bs.getD (k + 7) 0)
def decP (bs : List Int) (j : Nat) : List Ins := (List.range j).map fun i => insAt bs (8 * i)
def decL (bs : List Int) : List Ins := decP bs (bs.length / 8)
def decBad (bs : List Int) : Prop := bs.length % 8 ≠ 0 ∨ 8192 < bs.length
instance (bs : List Int) : Decidable (decBad bs) := by unfold decBad; infer_instance
def decE (bs : List Int) : Int := if decBad bs then 10 else match bad (decL bs) with | some _ => 10 | none => 0
def decO (bs : List Int) : List Ins := if decBad bs then [] else match bad (decL bs) with | some _ => [] | none => decL bs
def DecRet (bs : List Int) (w : World) (e : Ending) (w' : World) : Prop := ∃ v, e = .returned (.tuple #[v, .int .i64 (decE bs)]) ∧ w'.ownsRow w.heap.size 50 6 v (decO bs).length (ics (decO bs)) ∧ Below w.heap.size w w'
theorem decE_bad {bs : List Int} (h : decBad bs) : decE bs = 10 ∧ decO bs = [] := by unfold decE decO; rw [if_pos h, if_pos h]; exact ⟨rfl, rfl⟩
theorem decE_some {bs : List Int} {x : Ins} (h : ¬ decBad bs) (hb : bad (decL bs) = some x) : decE bs = 10 ∧ decO bs = [] := by unfold decE decO; rw [if_neg h, if_neg h, hb]; exact ⟨rfl, rfl⟩
theorem decE_good {bs : List Int} (h : ¬ decBad bs) (hb : Good (decL bs)) : decE bs = 0 ∧ decO bs = decL bs := by unfold decE decO; rw [if_neg h, if_neg h, bad_none hb]; exact ⟨rfl, rfl⟩
theorem decP_length (bs : List Int) (j : Nat) : (decP bs j).length = j := by simp [decP]
theorem decP_succ (bs : List Int) (j : Nat) : decP bs (j + 1) = decP bs j ++ [insAt bs (8 * j)] := by unfold decP; rw [List.range_succ, List.map_append]; rfl
theorem decP_get {bs : List Int} {i j : Nat} (h : i < j) : (decP bs j)[i]? = some (insAt bs (8 * i)) := by unfold decP; rw [List.getElem?_map, List.getElem?_range h]; rfl
theorem decP_take {bs : List Int} {i j : Nat} (h : i ≤ j) : (decP bs j).take i = decP bs i := by
  unfold decP; rw [← List.map_take, List.take_range, Nat.min_eq_left h]
theorem getD_of {bs : List Int} {k : Nat} {z : Int} (h : bs[k]? = some z) : bs.getD k 0 = z := by rw [List.getD_eq_getElem?_getD, h]; rfl
theorem insAt_of {bs : List Int} {k : Nat} {z0 z1 z2 z3 z4 z5 z6 z7 : Int} (h0 : bs[k]? = some z0) (h1 : bs[k + 1]? = some z1) (h2 : bs[k + 2]? = some z2) (h3 : bs[k + 3]? = some z3) (h4 : bs[k + 4]? = some z4) (h5 : bs[k + 5]? = some z5) (h6 : bs[k + 6]? = some z6) (h7 : bs[k + 7]? = some z7) : insAt bs k = mkI z0 z1 z2 z3 z4 z5 z6 z7 := by
  unfold insAt; rw [getD_of h0, getD_of h1, getD_of h2, getD_of h3, getD_of h4, getD_of h5, getD_of h6, getD_of h7]
theorem getD_byt {bs : List Int} (h : Byt bs) (k : Nat) : 0 ≤ bs.getD k 0 ∧ bs.getD k 0 ≤ 255 := by
  rw [List.getD_eq_getElem?_getD]
  cases e : bs[k]? with
  | none => exact ⟨by decide, by decide⟩
  | some z => exact h z (List.mem_of_getElem? e)
theorem insAt_in {bs : List Int} (h : Byt bs) (k : Nat) : (insAt bs k).In := by
  have := getD_byt h k; have := getD_byt h (k + 1); have := getD_byt h (k + 2); have := getD_byt h (k + 3)
  unfold insAt mkI w32
  constructor <;> (simp only [I64]; omega)
theorem decO_in {bs : List Int} (h : Byt bs) : ∀ x ∈ decO bs, x.In := by
  intro x hx
  unfold decO at hx
  split at hx
  · simp at hx
  · split at hx
    · simp at hx
    · obtain ⟨j, _, rfl⟩ := List.mem_map.1 hx
      exact insAt_in h _
theorem decO_length (bs : List Int) : (decO bs).length ≤ 1024 := by
  unfold decO
  split
  · simp
  · next h =>
    split
    · simp
    · unfold decBad at h; unfold decL; rw [decP_length]; omega
/-- The bytes of a decoded instruction are those that it was decoded from. -/
theorem enc_mkI {b0 b1 b2 b3 b4 b5 b6 b7 : Int} (h0 : 0 ≤ b0 ∧ b0 ≤ 255) (h1 : 0 ≤ b1 ∧ b1 ≤ 255) (h2 : 0 ≤ b2 ∧ b2 ≤ 255) (h3 : 0 ≤ b3 ∧ b3 ≤ 255) (h4 : 0 ≤ b4 ∧ b4 ≤ 255) (h5 : 0 ≤ b5 ∧ b5 ≤ 255) (h6 : 0 ≤ b6 ∧ b6 ≤ 255) (h7 : 0 ≤ b7 ∧ b7 ≤ 255) :
    enc8 (mkI b0 b1 b2 b3 b4 b5 b6 b7) = [b0, b1, b2, b3, b4, b5, b6, b7] := by
  simp only [enc8, mkI, b8, w32]
  have e0 : b0 % 256 = b0 := by omega
  have e1 : (16 * (b1 / 16) + b1 % 16) % 256 = b1 := by omega
  have e2 : b2 % 256 = b2 := by omega
  have e3 : b3 % 256 = b3 := by omega
  have e4 : ((b4 * 16777216 + b5 * 65536 + b6 * 256 + b7 + 2147483648) % 4294967296 - 2147483648) / 16777216 % 256 = b4 := by omega
  have e5 : ((b4 * 16777216 + b5 * 65536 + b6 * 256 + b7 + 2147483648) % 4294967296 - 2147483648) / 65536 % 256 = b5 := by omega
  have e6 : ((b4 * 16777216 + b5 * 65536 + b6 * 256 + b7 + 2147483648) % 4294967296 - 2147483648) / 256 % 256 = b6 := by omega
  have e7 : ((b4 * 16777216 + b5 * 65536 + b6 * 256 + b7 + 2147483648) % 4294967296 - 2147483648) % 256 = b7 := by omega
  rw [e0, e1, e2, e3, e4, e5, e6, e7]
end Go.Proofs.Ytonbmijhbbodnaa
