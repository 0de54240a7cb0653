/-
  Contents and the states that describe them: an access of contents is a use of their state; what is known is there. Plain.
-/
import Derived.Test.YtikhbijobkkhgaaMuAa
namespace Go.Proofs.Ytikhbijobkkhgaa
open Go.RowKit

theorem at_ofRow {x : List Int} {i : Nat} {y : Int} : At (ofRow x) i y ↔ x[i]? = some y ∧ 0 ≤ y := by
  unfold At ofRow
  constructor
  · rintro ⟨l, hl, hy⟩
    rw [List.getElem?_map, Option.map_eq_some_iff] at hl
    obtain ⟨z, hz, rfl⟩ := hl
    split at hy
    · simp at hy; subst hy; exact ⟨hz, by assumption⟩
    · cases hy
  · rintro ⟨h, h0⟩
    exact ⟨[y], by rw [List.getElem?_map, h]; simp [h0], by simp⟩
theorem acc_get {x : List Int} {k : Int} {i : Nat} {y : Int} (hx : 0 < x.length) : (acc x k)[i]? = some y ↔ (i = 0 ∧ y = k) ∨ ∃ a, x[a]? = some y ∧ a ≠ pos x k ∧ i = (if a < pos x k then a + 1 else a) ∧ 0 < i := by
  have hp := pos_lt (n := k) hx
  unfold acc
  cases i with
  | zero =>
    simp only [List.getElem?_cons_zero, Option.some.injEq]
    constructor
    · intro h; exact .inl ⟨trivial, h.symm⟩
    · rintro (h | ⟨a, _, _, _, h⟩)
      · exact h.2.symm
      · omega
  | succ j =>
    rw [List.getElem?_cons_succ]
    have hl : (x.take (pos x k)).length = pos x k := by rw [List.length_take]; omega
    by_cases hj : j < pos x k
    · rw [List.getElem?_append_left (by omega), List.getElem?_take, if_pos hj]
      constructor
      · intro h; exact .inr ⟨j, h, by omega, by rw [if_pos hj], by omega⟩
      · rintro (h | ⟨a, h1, h2, h3, _⟩)
        · omega
        · split at h3
          · obtain rfl : a = j := by omega
            exact h1
          · omega
    · rw [List.getElem?_append_right (by omega), hl, List.getElem?_drop, show pos x k + 1 + (j - pos x k) = j + 1 by omega]
      constructor
      · intro h; exact .inr ⟨j + 1, h, by omega, by rw [if_neg (by omega)], by omega⟩
      · rintro (h | ⟨a, h1, h2, h3, _⟩)
        · omega
        · split at h3
          · omega
          · obtain rfl : a = j + 1 := by omega
            exact h1
theorem ofRow_set {S W s : Nat} {x : List Int} (h : SetOk S W s x) : WSet (fun y => 0 ≤ y ∧ y ≤ 1048576 ∧ y % (S : Int) = s) W (ofRow x) := by
  refine ⟨by rw [ofRow_len]; have := h.1; omega, fun i l hl => ?_, fun i y hy => ?_, fun i j y hi hj => ?_⟩
  · unfold ofRow at hl
    rw [List.getElem?_map, Option.map_eq_some_iff] at hl
    obtain ⟨z, hz, rfl⟩ := hl
    split <;> simp [Asc]
  · obtain ⟨h1, h2⟩ := at_ofRow.1 hy
    rcases h.2 i y h1 with h3 | h3
    · omega
    · exact ⟨h3.1, h3.2.1, h3.2.2.1⟩
  · obtain ⟨h1, h2⟩ := at_ofRow.1 hi
    obtain ⟨h3, _⟩ := at_ofRow.1 hj
    have key : ∀ a b : Nat, x[a]? = some y → x[b]? = some y → ¬ a < b := fun a b ha hb hab => by
      rcases h.2 b y hb with h4 | h4
      · omega
      · refine h4.2.2.2.1 (List.mem_of_getElem? (i := a) ?_)
        rw [List.getElem?_take, if_pos hab]; exact ha
    have a1 := key i j h1 h3
    have a2 := key j i h3 h1
    omega
theorem plc_ofRow {S W s : Nat} {x : List Int} (h : SetOk S W s x) (_hx : 0 < x.length) {k : Int} (hk : 0 ≤ k) : (k ∈ x → plc (ofRow x) k = pos x k ∧ x[pos x k]? = some k) ∧ (k ∉ x → plc (ofRow x) k = x.length ∧ pos x k = x.length - 1) := by
  constructor
  · intro hm
    have hlt := List.idxOf_lt_length_of_mem hm
    have hg : x[pos x k]? = some k := by unfold pos; rw [if_pos hm, List.getElem?_eq_getElem hlt, List.getElem_idxOf hlt]
    exact ⟨(ofRow_set h).plc (at_ofRow.2 ⟨hg, hk⟩), hg⟩
  · intro hm
    refine ⟨?_, by unfold pos; rw [if_neg hm]⟩
    rw [plc_no (fun i hi => hm (List.mem_of_getElem? (at_ofRow.1 hi).1)), ofRow_len]
/-- An access of contents is a use of their state. -/
theorem ofRow_acc {S W s : Nat} {x : List Int} (h : SetOk S W s x) (hW : 0 < W) {k : Int} (h0 : 0 ≤ k) (h1 : k ≤ 1048576) (hs : k % (S : Int) = s) : ofRow (acc x k) = useS W k (ofRow x) := by
  have hxl : 0 < x.length := by have := h.1; omega
  have hlW : x.length = W := by have := h.1; omega
  have h' : SetOk S W s (acc x k) := setOk_acc h h0 h1 hs hxl
  obtain ⟨u1, u2⟩ := useS_spec (ofRow_set h) hW (n := k) ⟨h0, h1, hs⟩
  refine (ofRow_set h').ext u1 fun i y => ?_
  rw [at_ofRow, u2, acc_get hxl]
  obtain ⟨p1, p2⟩ := plc_ofRow h hxl h0
  constructor
  · rintro ⟨hy | ⟨a, ha, hne, hi, hi0⟩, hy0⟩
    · exact .inl hy
    · right
      have halt := (List.getElem?_eq_some_iff.1 ha).1
      have hyk : y ≠ k := fun e => by
        subst e
        have hm := List.mem_of_getElem? ha
        have e1 := (p1 hm).1
        have e2 := (ofRow_set h).once _ _ _ (at_ofRow.2 ⟨ha, h0⟩) (at_ofRow.2 ⟨(p1 hm).2, h0⟩)
        omega
      refine ⟨hyk, a, at_ofRow.2 ⟨ha, hy0⟩, ?_, ?_⟩
      · unfold dst
        by_cases hm : k ∈ x
        · rw [(p1 hm).1]; exact hi
        · have := p2 hm
          rw [this.1, if_pos halt]
          split at hi <;> omega
      · by_cases hm : k ∈ x
        · have := List.idxOf_lt_length_of_mem hm
          have hp := pos_lt (n := k) hxl
          split at hi <;> omega
        · have := p2 hm
          split at hi <;> omega
  · rintro (hy | ⟨hyk, a, ha, hi, hiW⟩)
    · exact ⟨.inl hy, by have := hy.2; omega⟩
    · obtain ⟨ha, hy0⟩ := at_ofRow.1 ha
      have halt := (List.getElem?_eq_some_iff.1 ha).1
      refine ⟨.inr ⟨a, ha, ?_, ?_, ?_⟩, hy0⟩
      · intro e
        subst e
        by_cases hm : k ∈ x
        · rw [(p1 hm).2] at ha; cases ha; exact hyk rfl
        · have := p2 hm
          unfold dst at hi
          rw [this.1, if_pos halt] at hi
          omega
      · unfold dst at hi
        by_cases hm : k ∈ x
        · rw [(p1 hm).1] at hi; exact hi
        · have := p2 hm
          rw [this.1, if_pos halt] at hi
          rw [if_pos (by omega)]; exact hi
      · unfold dst at hi
        by_cases hm : k ∈ x
        · rw [(p1 hm).1] at hi
          split at hi
          · omega
          · rename_i hnp
            by_cases ha0 : a = pos x k
            · subst ha0; rw [(p1 hm).2] at ha; cases ha; exact absurd rfl hyk
            · omega
        · have := p2 hm
          rw [this.1, if_pos halt] at hi
          omega
theorem of_acc {S W : Nat} {ss : List (List Int)} (h : ValidP S W ss) (hW : 0 < W) (hS : ¬ S = 0) {k : Int} (h0 : 0 ≤ k) (h1 : k ≤ 1048576) : ofM (accS S ss k) = touchM S W (ofM ss) k := by
  have hlt := setN_lt (S := S) (by omega) k
  have hl : ss.length = S := by have := h.1; omega
  have hg : ss[setN S k]? = some (ss.getD (setN S k) []) := by rw [List.getD_eq_getElem?_getD, List.getElem?_eq_getElem (by omega)]; rfl
  have hk := setN_int (S := S) (by omega) k
  rw [touch_get hS]
  unfold accS
  show ofM (ss.set (setN S k) (acc (ss.getD (setN S k) []) k)) = _
  have hgd : (ofM ss).getD (setN S k) [] = ofRow (ss.getD (setN S k) []) := by rw [List.getD_eq_getElem?_getD, ofM_get hg]; rfl
  rw [hgd, ← ofRow_acc (h.2 _ _ hg) hW h0 h1 hk.symm]
  unfold ofM
  rw [List.map_set]
/-- Every line that a state knows is there. -/
theorem known_hits {S W : Nat} {U : List Int} {ss : List (List Int)} {m : List (List (List Int))} (h : ValidP S W ss) (hm : MSt U S W m) (hb : BelowM (ofM ss) m) (hS : ¬ S = 0) {z : Int} (ha : ageN S W m z < W) : hitS S ss z = true := by
  have hlt := setN_lt (S := S) (by omega) z
  obtain ⟨g, hg, hgd, hw⟩ := hm.at hlt
  have hl : ss.length = S := by have := h.1; omega
  have hgs : ss[setN S z]? = some (ss.getD (setN S z) []) := by rw [List.getD_eq_getElem?_getD, List.getElem?_eq_getElem (by omega)]; rfl
  rw [ageN_found hS hgd] at ha
  obtain ⟨j, hj, _⟩ := hb _ _ _ (ofM_get hgs) hg _ z (plc_found (g := g) (n := z) (by rw [hw.len]; exact ha))
  unfold hitS
  exact decide_eq_true (List.mem_of_getElem? (at_ofRow.1 hj).1)
theorem BelowM.refl (a : List (List (List Int))) : BelowM a a := fun s f g hf hg => by rw [hf] at hg; cases hg; exact Under.refl _
/-- The use of one of several lines is above the use of each. -/
theorem eitherP_above {U : List Int} {S W : Nat} {m : List (List (List Int))} (hm : MSt U S W m) (hW : 0 < W) {lines : List Int} (hl : LnsOk U lines) (h0 : 0 < lines.length) : ∀ (k i : Nat) (y : Int), i ≤ k → k < lines.length → lines[i]? = some y → BelowM (touchM S W m y) (eitherP S W m lines k) := by
  intro k
  induction k with
  | zero =>
    intro i y hi _ hy
    obtain rfl : i = 0 := by omega
    have : eitherP S W m lines 0 = touchM S W m y := by unfold eitherP; rw [List.getD_eq_getElem?_getD, hy]; rfl
    rw [this]; exact BelowM.refl _
  | succ k ih =>
    intro i y hi hk hy
    obtain ⟨z, hz⟩ : ∃ z, lines[1 + k]? = some z := ⟨_, List.getElem?_eq_getElem (by omega)⟩
    obtain ⟨a, b, c⟩ := hl _ (List.mem_of_getElem? hz)
    have hP := eitherP_st hm hW hl h0 k
    rw [eitherP_succ hz]
    have hbj := below_join hP (touch_st hm hW a b c)
    by_cases hik : i ≤ k
    · exact BelowM.trans hP (join_st hP (touch_st hm hW a b c)).len (ih i y hik (by omega) hy) hbj.1
    · obtain rfl : i = 1 + k := by omega
      rw [hz] at hy; cases hy
      exact hbj.2
theorem either_above {U : List Int} {S W : Nat} {m : List (List (List Int))} (hm : MSt U S W m) (hW : 0 < W) {lines : List Int} (hl : LnsOk U lines) {y : Int} (hy : y ∈ lines) : BelowM (touchM S W m y) (eitherM S W m lines) := by
  obtain ⟨i, hi⟩ := List.getElem?_of_mem hy
  have hlt := (List.getElem?_eq_some_iff.1 hi).1
  unfold eitherM
  rw [if_neg (fun e => by rw [e] at hlt; simp at hlt)]
  exact eitherP_above hm hW hl (by omega) _ i y (by omega) (by omega) hi
end Go.Proofs.Ytikhbijobkkhgaa
