/-
  The simplex dictionary.
  A cell that is kept by a store elsewhere.
-/
import Derived.Test.YtdegpgonphgbcaaZFxN
import Derived.Test.YtdegpgonphgbcaaMem
namespace Go.Proofs.Ytdegpgonphgbcaa
open Go.RowKit
def gR (l : List Rat) (j : Nat) : Rat := l.getD j 0
theorem gR_of {l : List Rat} {j : Nat} {x : Rat} (h : l[j]? = some x) : gR l j = x := by unfold gR; rw [List.getD_eq_getElem?_getD, h]; rfl
def byOf (row : List Rat) (k : Nat) : Rat := -(1 / gR row (k + 1))
def pivA (row : List Rat) (k : Nat) : List Rat := (List.range row.length).map fun j => if j = k + 1 then gR row j else gR row j * byOf row k
def pivRow (row : List Rat) (k : Nat) : List Rat := (pivA row k).set (k + 1) (-(byOf row k))
def pivOther (p other : List Rat) (k : Nat) : List Rat := (List.range other.length).map fun j => if j = k + 1 then gR other (k + 1) * gR p j else gR other j + gR other (k + 1) * gR p j
def pivRows (rows : List (List Rat)) (i k : Nat) : List (List Rat) :=
  (List.range rows.length).map fun r => if r = i then pivRow (rows.getD i []) k else pivOther (pivRow (rows.getD i []) k) (rows.getD r []) k
def FitL (l : List Rat) : Prop := ∀ x ∈ l, Fit x
theorem FitL.get {l : List Rat} (h : FitL l) {j : Nat} {x : Rat} (hx : l[j]? = some x) : Fit x := h x (List.mem_of_getElem? hx)
structure PivFit (rows : List (List Rat)) (i k : Nat) : Prop where
  all : ∀ r ∈ rows, FitL r
  ne : gR (rows.getD i []) (k + 1) ≠ 0
  by_ : Fit (1 / gR (rows.getD i []) (k + 1))
  row : FitL (pivRow (rows.getD i []) k)
  mul : ∀ r o, rows[r]? = some o → r ≠ i → ∀ j, j < o.length → Fit (gR o (k + 1) * gR (pivRow (rows.getD i []) k) j)
  other : ∀ r o, rows[r]? = some o → r ≠ i → FitL (pivOther (pivRow (rows.getD i []) k) o k)
def part {α : Type} (new old : List α) (j : Nat) : List α := new.take j ++ old.drop j
theorem part_zero {α : Type} (new old : List α) : part new old 0 = old := by simp [part]
theorem part_all {α : Type} {new old : List α} (h : new.length = old.length) : part new old old.length = new := by simp [part, ← h]
theorem part_length {α : Type} {new old : List α} {j : Nat} (h : new.length = old.length) (hj : j ≤ old.length) : (part new old j).length = old.length := by simp [part]; omega
theorem part_get {α : Type} {new old : List α} {j : Nat} (h : new.length = old.length) (hj : j < old.length) : (part new old j)[j]? = old[j]? := by
  unfold part
  rw [List.getElem?_append_right (by simp; omega), List.getElem?_drop]
  simp; congr 1; omega
theorem part_succ {α : Type} {new old : List α} {j : Nat} {x : α} (h : new.length = old.length) (hx : new[j]? = some x) : (part new old j).set j x = part new old (j + 1) := by
  have hj := (List.getElem?_eq_some_iff.1 hx).1
  unfold part
  have hl : (new.take j).length = j := by simp; omega
  rw [List.set_append_right _ _ (by omega), hl, Nat.sub_self, List.take_add_one, hx, List.append_assoc]
  congr 1
  rw [List.drop_eq_getElem_cons (by omega)]
  rfl
theorem part_same {α : Type} {new old : List α} {j : Nat} {x : α} (h : new.length = old.length) (hx : new[j]? = some x) (ho : old[j]? = some x) : part new old j = part new old (j + 1) := by
  rw [← part_succ h hx]
  have hg := part_get (new := new) h (List.getElem?_eq_some_iff.1 ho).1
  rw [ho] at hg
  refine List.ext_getElem? fun i => ?_
  rw [List.getElem?_set]
  split
  · rename_i e
    subst e
    split
    · exact hg
    · rename_i h2; exact absurd (List.getElem?_eq_some_iff.1 hg).1 h2
  · rfl
theorem pivA_length (row : List Rat) (k : Nat) : (pivA row k).length = row.length := by simp [pivA]
theorem pivRow_length (row : List Rat) (k : Nat) : (pivRow row k).length = row.length := by simp [pivRow, pivA]
theorem pivOther_length (p o : List Rat) (k : Nat) : (pivOther p o k).length = o.length := by simp [pivOther]
theorem pivA_get {row : List Rat} {k j : Nat} {x : Rat} (h : row[j]? = some x) : (pivA row k)[j]? = some (if j = k + 1 then x else x * byOf row k) := by
  have hj := (List.getElem?_eq_some_iff.1 h).1
  unfold pivA
  rw [List.getElem?_map, List.getElem?_range hj]
  simp [gR_of h]
theorem pivOther_get {p o : List Rat} {k j : Nat} {x : Rat} (h : o[j]? = some x) : (pivOther p o k)[j]? = some (if j = k + 1 then gR o (k + 1) * gR p j else x + gR o (k + 1) * gR p j) := by
  have hj := (List.getElem?_eq_some_iff.1 h).1
  unfold pivOther
  rw [List.getElem?_map, List.getElem?_range hj]
  simp [gR_of h]
theorem pivRows_length (rows : List (List Rat)) (i k : Nat) : (pivRows rows i k).length = rows.length := by simp [pivRows]
theorem pivRows_get {rows : List (List Rat)} {i k r : Nat} {o row : List Rat} (hg : rows.getD i [] = row) (h : rows[r]? = some o) : (pivRows rows i k)[r]? = some (if r = i then pivRow row k else pivOther (pivRow row k) o k) := by
  have hj := (List.getElem?_eq_some_iff.1 h).1
  unfold pivRows
  rw [List.getElem?_map, List.getElem?_range hj]
  simp only [Option.map_some, hg]
  rw [show rows.getD r [] = o by rw [List.getD_eq_getElem?_getD, h]; rfl]
theorem cell_set {w : World} {b o g k : Nat} {u v : Value} (hne : g ≠ b) (h : w.cell? ⟨b, o, none⟩ = some v) : (w.setCell ⟨g, k, none⟩ u).cell? ⟨b, o, none⟩ = some v :=
  (World.cell?_setCell_other w ⟨g, k, none⟩ ⟨b, o, none⟩ u (fun e => hne (by cases e; rfl))).trans h
end Go.Proofs.Ytdegpgonphgbcaa
