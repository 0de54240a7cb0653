/-
  Instructions as bytes: what Encode gives (plain).
-/
import Derived.Test.YtonbmijhbbodnaaInE
namespace Go.Proofs.Ytonbmijhbbodnaa
open Go.RowKit

def enc8 (x : Ins) : List Int := [b8 x.k, b8 (16 * x.a + x.b), b8 x.c, b8 x.op, b8 (x.imm / 16777216), b8 (x.imm / 65536), b8 (x.imm / 256), b8 x.imm]
def encs (l : List Ins) : List Int := l.flatMap enc8
def bad (l : List Ins) : Option Ins := l.find? (fun x => chkI x != 0)
def encE (l : List Ins) : Int := if 1024 < l.length then 4 else match bad l with | some x => chkI x | none => 0
def encB (l : List Ins) : List Int := if 1024 < l.length then [] else match bad l with | some _ => [] | none => encs l
def EncRet (l : List Ins) (w : World) (e : Ending) (w' : World) : Prop := ∃ v, e = .returned (.tuple #[v, .int .i64 (encE l)]) ∧ w'.ownsRow w.heap.size 5 1 v (encB l).length (bcs (encB l)) ∧ Below w.heap.size w w'
def Good (l : List Ins) : Prop := ∀ x ∈ l, chkI x = 0
theorem encs_length (l : List Ins) : (encs l).length = 8 * l.length := by
  induction l with
  | nil => rfl
  | cons x l ih => unfold encs at ih ⊢; rw [List.flatMap_cons, List.length_append, ih]; simp [enc8]; omega
theorem encs_take {l : List Ins} {k : Nat} {x : Ins} (h : l[k]? = some x) : encs (l.take (k + 1)) = encs (l.take k) ++ enc8 x := by
  rw [List.take_add_one, h]; simp [encs]
theorem good_take {l : List Ins} {k : Nat} {x : Ins} (h : l[k]? = some x) (hg : Good (l.take k)) (hx : chkI x = 0) : Good (l.take (k + 1)) := by
  rw [List.take_add_one, h]
  intro y hy
  rcases List.mem_append.1 hy with hy | hy
  · exact hg y hy
  · simp at hy; subst hy; exact hx
theorem bad_of {l : List Ins} {k : Nat} {x : Ins} (h : l[k]? = some x) (hg : Good (l.take k)) (hx : chkI x ≠ 0) : bad l = some x := by
  induction l generalizing k with
  | nil => simp at h
  | cons y l ih =>
    cases k with
    | zero => simp at h; subst h; unfold bad; rw [List.find?_cons_of_pos]; simpa using hx
    | succ k =>
      have hy : chkI y = 0 := hg y (by simp)
      unfold bad
      rw [List.find?_cons_of_neg (by simp [hy])]
      exact ih (by simpa using h) (fun z hz => hg z (by simp [hz]))
theorem bad_none {l : List Ins} (h : Good l) : bad l = none := by
  unfold bad
  rw [List.find?_eq_none]
  intro x hx
  simp [h x hx]
theorem good_of_bad {l : List Ins} (h : bad l = none) : Good l := by
  unfold bad at h
  rw [List.find?_eq_none] at h
  intro x hx
  simpa using h x hx
theorem encE_bad {l : List Ins} {x : Ins} (hl : ¬ 1024 < l.length) (h : bad l = some x) : encE l = chkI x ∧ encB l = [] := by
  unfold encE encB; rw [if_neg hl, if_neg hl, h]; exact ⟨rfl, rfl⟩
theorem encE_good {l : List Ins} (hl : ¬ 1024 < l.length) (h : Good l) : encE l = 0 ∧ encB l = encs l := by
  unfold encE encB; rw [if_neg hl, if_neg hl, bad_none h]; exact ⟨rfl, rfl⟩
theorem encE_long {l : List Ins} (hl : 1024 < l.length) : encE l = 4 ∧ encB l = [] := by
  unfold encE encB; rw [if_pos hl, if_pos hl]; exact ⟨rfl, rfl⟩
/-- What a right instruction's fields are between. -/
structure Small (x : Ins) : Prop where
  k0 : 0 ≤ x.k
  k1 : x.k ≤ 10
  a0 : 0 ≤ x.a
  a1 : x.a < 8
  b0 : 0 ≤ x.b
  b1 : x.b < 8
  c0 : 0 ≤ x.c
  c1 : x.c < 8
  o0 : 0 ≤ x.op
  o1 : x.op ≤ 14
  i0 : -2147483648 ≤ x.imm
  i1 : x.imm ≤ 2147483647
theorem regB_small {n : Bool} {z : Int} (h : regB n z = true) : 0 ≤ z ∧ z < 8 := by
  simp [regB] at h
  omega
theorem fldOf_small (k : Int) : -2147483648 ≤ (fldOf k).least ∧ (fldOf k).most ≤ 2147483647 := by
  unfold fldOf
  repeat (first | (split; (first | decide | skip)) | decide)
theorem small_of {x : Ins} (h : chkI x = 0) : Small x := by
  unfold chkI at h
  split at h
  next hk =>
    split at h
    next hg =>
      have hk2 := kn_cases hk
      simp only [goodI, Bool.and_eq_true, decide_eq_true_eq] at hg
      obtain ⟨⟨⟨⟨⟨⟨ha, hb⟩, hc⟩, ho⟩, ho2⟩, h1⟩, h2⟩ := hg
      have hF := fldOf_small x.k
      have o : 0 ≤ x.op ∧ x.op ≤ 14 := by
        cases hf : (fldOf x.k).op with
        | true => rw [hf] at ho; simp [opB] at ho; omega
        | false => rw [hf] at ho2; simp at ho2; omega
      have := regB_small ha; have := regB_small hb; have := regB_small hc
      constructor <;> omega
    next => omega
  next => omega
/-- The bytes of a right instruction. -/
def enc8s (x : Ins) : List Int := [x.k, 16 * x.a + x.b, x.c, x.op, x.imm / 16777216 % 256, x.imm / 65536 % 256, x.imm / 256 % 256, x.imm % 256]
theorem enc8_small {x : Ins} (h : chkI x = 0) : enc8 x = enc8s x := by
  obtain ⟨k0, k1, a0, a1, b0, b1, c0, c1, o0, o1, i0, i1⟩ := small_of h
  simp only [enc8, enc8s, b8]
  rw [Int.emod_eq_of_lt k0 (by omega), Int.emod_eq_of_lt (a := 16 * x.a + x.b) (by omega) (by omega), Int.emod_eq_of_lt c0 (by omega), Int.emod_eq_of_lt o0 (by omega)]
end Go.Proofs.Ytonbmijhbbodnaa
