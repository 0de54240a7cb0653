/-
  The program's dictionaries as dictionaries of the .
  The document's simplex table.
  timeboundmake2.
-/
import Derived.Test.YtdegpgonphgbcaaSxT
import Derived.Test.YtdegpgonphgbcaaZThD
import Derived.Test.YtdegpgonphgbcaaZSxO
import Derived.Test.YtdegpgonphgbcaaDeck
namespace Go.Proofs.Ytdegpgonphgbcaa
open Go.RowKit
def dg (d : Dc) : Dg := ⟨d.ins.length, d.outs.length, fun i => (iAt d.ins i).toNat, fun k => (iAt d.outs k).toNat, fun i j => gR (d.rows.getD i []) j⟩
theorem num_pos_iff {x : Rat} : 0 < x.num ↔ 0 < x := by
  have h := Rat.num_nonneg (q := -x)
  rw [Rat.neg_num] at h
  constructor
  · intro k
    have : ¬ 0 ≤ -x := fun e => by have := h.2 e; omega
    grind
  · intro k
    have : ¬ 0 ≤ -x.num := fun e => by have := h.1 e; grind
    omega
theorem num_neg_iff {x : Rat} : x.num < 0 ↔ x < 0 := by
  have h := Rat.num_nonneg (q := x)
  constructor
  · intro k
    have : ¬ 0 ≤ x := fun e => by have := h.2 e; omega
    grind
  · intro k
    have : ¬ 0 ≤ x.num := fun e => by have := h.1 e; grind
    omega
theorem gR_put {l : List Rat} {j : Nat} (hj : j < l.length) (i : Nat) (x : Rat) : gR (l.set i x) j = if j = i then x else gR l j := by
  unfold gR
  rw [List.getD_eq_getElem?_getD, List.getElem?_set]
  by_cases e : i = j
  · subst e
    rw [if_pos rfl, if_pos hj, if_pos rfl]; rfl
  · rw [if_neg e, if_neg (fun h => e h.symm), List.getD_eq_getElem?_getD]
theorem gR_pivRow {row : List Rat} {k j : Nat} (hj : j < row.length) : gR (pivRow row k) j = if j = k + 1 then 1 / gR row (k + 1) else gR row j * -(1 / gR row (k + 1)) := by
  unfold pivRow
  rw [gR_put (by rw [pivA_length]; exact hj) (k + 1) _]
  split
  · rename_i e
    subst e
    unfold byOf; grind
  · rename_i e
    have := pivA_get (k := k) (List.getElem?_eq_getElem hj)
    rw [gR_of this, if_neg e, gR_of (List.getElem?_eq_getElem hj)]; rfl
theorem gR_pivOther {p o : List Rat} {k j : Nat} (hj : j < o.length) : gR (pivOther p o k) j = if j = k + 1 then gR o (k + 1) * gR p j else gR o j + gR o (k + 1) * gR p j := by
  have := pivOther_get (p := p) (k := k) (List.getElem?_eq_getElem hj)
  rw [gR_of this, gR_of (List.getElem?_eq_getElem hj)]
theorem getD_row {rows : List (List Rat)} {r : Nat} (hr : r < rows.length) : rows[r]? = some (rows.getD r []) := by
  rw [List.getD_eq_getElem?_getD, List.getElem?_eq_getElem hr]; rfl
theorem DcFit.row {d : Dc} (w : DcFit d) {r : Nat} (hr : r < d.rows.length) : (d.rows.getD r []).length = d.outs.length + 1 := w.cols _ (List.mem_of_getElem? (getD_row hr))
theorem iAt_put {l : List Int} {j : Nat} (hj : j < l.length) (i : Nat) (x : Int) : iAt (l.set i x) (j : Int) = if j = i then x else iAt l (j : Int) := by
  unfold iAt
  rw [Int.toNat_natCast, List.getD_eq_getElem?_getD, List.getElem?_set]
  by_cases e : i = j
  · subst e
    rw [if_pos rfl, if_pos hj, if_pos rfl]; rfl
  · rw [if_neg e, if_neg (fun h => e h.symm), List.getD_eq_getElem?_getD]
theorem pivD_row {d : Dc} {i k r : Nat} (hr : r < d.rows.length) : (pivD d i k).rows.getD r [] = if r = i then pivRow (d.rows.getD i []) k else pivOther (pivRow (d.rows.getD i []) k) (d.rows.getD r []) k := by
  have := pivRows_get (i := i) (k := k) rfl (getD_row hr)
  show (pivRows d.rows i k).getD r [] = _
  rw [List.getD_eq_getElem?_getD, this]; rfl
theorem pivD_is {d : Dc} (w : DcFit d) {i k : Nat} (hi : i < d.ins.length) (hk : k < d.outs.length) (ne : gR (d.rows.getD i []) (k + 1) ≠ 0) : IsPiv (dg d) i k (dg (pivD d i k)) := by
  have hrl := w.rows
  have li := w.row (r := i) (by omega)
  refine ⟨by simp [dg, pivD], by simp [dg, pivD], hi, hk, ne, ?_, ?_, ?_, ?_, ?_, ?_, ?_, ?_⟩
  · show (iAt (d.ins.set i (d.outs.getD k 0)) (i : Int)).toNat = (iAt d.outs (k : Int)).toNat
    rw [iAt_put hi, if_pos rfl]; rfl
  · intro r hr hne
    show (iAt (d.ins.set i (d.outs.getD k 0)) (r : Int)).toNat = (iAt d.ins (r : Int)).toNat
    rw [iAt_put hr, if_neg hne]
  · show (iAt (d.outs.set k (d.ins.getD i 0)) (k : Int)).toNat = (iAt d.ins (i : Int)).toNat
    rw [iAt_put hk, if_pos rfl]; rfl
  · intro r hr hne
    show (iAt (d.outs.set k (d.ins.getD i 0)) (r : Int)).toNat = (iAt d.outs (r : Int)).toNat
    rw [iAt_put hr, if_neg hne]
  · show gR ((pivD d i k).rows.getD i []) (k + 1) = 1 / gR (d.rows.getD i []) (k + 1)
    rw [pivD_row (by omega), if_pos rfl, gR_pivRow (by omega), if_pos rfl]
  · intro j hj hne
    have hj : j ≤ d.outs.length := hj
    show gR ((pivD d i k).rows.getD i []) j = gR (d.rows.getD i []) j * -(1 / gR (d.rows.getD i []) (k + 1))
    rw [pivD_row (by omega), if_pos rfl, gR_pivRow (by omega), if_neg hne]
  · intro r hr hne
    have hr : r ≤ d.ins.length := hr
    show gR ((pivD d i k).rows.getD r []) (k + 1) = gR (d.rows.getD r []) (k + 1) * (1 / gR (d.rows.getD i []) (k + 1))
    have lr := w.row (r := r) (by omega)
    rw [pivD_row (by omega), if_neg hne, gR_pivOther (by omega), if_pos rfl, gR_pivRow (by omega), if_pos rfl]
  · intro r hr hne j hj hjk
    have hr : r ≤ d.ins.length := hr
    have hj : j ≤ d.outs.length := hj
    show gR ((pivD d i k).rows.getD r []) j = gR (d.rows.getD r []) j + gR (d.rows.getD r []) (k + 1) * (gR (d.rows.getD i []) j * -(1 / gR (d.rows.getD i []) (k + 1)))
    have lr := w.row (r := r) (by omega)
    rw [pivD_row (by omega), if_neg hne, gR_pivOther (by omega), if_neg hjk, gR_pivRow (by omega), if_neg hjk]
theorem ent_spec (outs : List Int) (goal : List Rat) (j : Nat) : (entAt outs goal j = -1 ∧ ∀ k, k < j → ¬ 0 < gR goal (k + 1)) ∨ ∃ t : Nat, entAt outs goal j = (t : Int) ∧ t < j ∧ 0 < gR goal (t + 1) ∧ ∀ k : Nat, k < j → 0 < gR goal (k + 1) → iAt outs t ≤ iAt outs k := by
  induction j with
  | zero => exact .inl ⟨rfl, fun k hk => by omega⟩
  | succ j ih =>
    unfold entAt entStep
    rcases ih with ⟨h, hall⟩ | ⟨t, h, ht, hp, hall⟩
    · rw [h]
      by_cases e : 0 < gR goal (j + 1)
      · rw [if_pos ⟨num_pos_iff.2 e, .inl (by omega)⟩]
        refine .inr ⟨j, rfl, by omega, e, fun k hk hkp => ?_⟩
        by_cases hkj : k = j
        · rw [hkj]; exact Int.le_refl _
        · exact absurd hkp (hall k (by omega))
      · rw [if_neg (fun h => e (num_pos_iff.1 h.1))]
        refine .inl ⟨rfl, fun k hk => ?_⟩
        by_cases hkj : k = j
        · rw [hkj]; exact e
        · exact hall k (by omega)
    · rw [h]
      by_cases e : 0 < gR goal (j + 1) ∧ ((t : Int) < 0 ∨ iAt outs j < iAt outs t)
      · rw [if_pos ⟨num_pos_iff.2 e.1, e.2⟩]
        have hlt : iAt outs j < iAt outs t := e.2.resolve_left (by omega)
        refine .inr ⟨j, rfl, by omega, e.1, fun k hk hkp => ?_⟩
        by_cases hkj : k = j
        · rw [hkj]; exact Int.le_refl _
        · have := hall k (by omega) hkp; omega
      · rw [if_neg (fun h => e ⟨num_pos_iff.1 h.1, h.2⟩)]
        refine .inr ⟨t, rfl, by omega, hp, fun k hk hkp => ?_⟩
        by_cases hkj : k = j
        · rw [hkj] at hkp ⊢
          have : ¬ iAt outs j < iAt outs t := fun h => e ⟨hkp, .inr h⟩
          omega
        · exact hall k (by omega) hkp
def limR (rows : List (List Rat)) (k i : Nat) : Rat := -(gR (rows.getD i []) 0 / gR (rows.getD i []) (k + 1))
theorem lev_spec (ins : List Int) (rows : List (List Rat)) (k j : Nat) : ((levAt ins rows k j).1 = -1 ∧ ∀ r, r < j → ¬ gR (rows.getD r []) (k + 1) < 0) ∨
    ∃ t : Nat, (levAt ins rows k j).1 = (t : Int) ∧ (levAt ins rows k j).2 = limR rows k t ∧ t < j ∧ gR (rows.getD t []) (k + 1) < 0 ∧ ∀ r : Nat, r < j → gR (rows.getD r []) (k + 1) < 0 → limR rows k t ≤ limR rows k r ∧ (limR rows k r = limR rows k t → iAt ins t ≤ iAt ins r) := by
  induction j with
  | zero => exact .inl ⟨rfl, fun k hk => by omega⟩
  | succ j ih =>
    unfold levAt levStep
    by_cases hn : gR (rows.getD j []) (k + 1) < 0
    · have hn' : ¬ 0 ≤ (gR (rows.getD j []) (k + 1)).num := by have := num_neg_iff.2 hn; omega
      rw [if_neg hn']
      rcases ih with ⟨h, hall⟩ | ⟨t, h, h2, ht, hp, hall⟩
      · rw [h, if_neg (fun e => by omega)]
        refine .inr ⟨j, rfl, rfl, by omega, hn, fun r hr hrn => ?_⟩
        by_cases hrj : r = j
        · rw [hrj]; exact ⟨Rat.le_refl, fun _ => Int.le_refl _⟩
        · exact absurd hrn (hall r (by omega))
      · rw [h, h2]
        show ((if 0 ≤ (t : Int) ∧ (0 < cmpR (limR rows k j) (limR rows k t) ∨ cmpR (limR rows k j) (limR rows k t) = 0 ∧ iAt ins t < iAt ins j) then levAt ins rows k j else ((j : Int), limR rows k j)).1 = -1 ∧ _) ∨ _
        by_cases e : 0 < cmpR (limR rows k j) (limR rows k t) ∨ cmpR (limR rows k j) (limR rows k t) = 0 ∧ iAt ins t < iAt ins j
        · rw [show (-(gR (rows.getD j []) 0 / gR (rows.getD j []) (k + 1))) = limR rows k j from rfl, if_pos ⟨by omega, e⟩]
          refine .inr ⟨t, h, h2, by omega, hp, fun r hr hrn => ?_⟩
          by_cases hrj : r = j
          · rw [hrj]
            unfold cmpR at e
            rcases e with e | e
            · split at e
              · simp at e
              · split at e
                · simp at e
                · rename_i a b
                  exact ⟨by grind, fun q => absurd q b⟩
            · have e1 := e.1
              split at e1
              · simp at e1
              · split at e1
                · rename_i a b
                  exact ⟨by rw [b]; exact Rat.le_refl, fun _ => by have := e.2; omega⟩
                · simp at e1
          · exact hall r (by omega) hrn
        · rw [show (-(gR (rows.getD j []) 0 / gR (rows.getD j []) (k + 1))) = limR rows k j from rfl, if_neg (fun h => e h.2)]
          have hle : limR rows k j ≤ limR rows k t := by
            refine Classical.byContradiction fun hc => e (.inl ?_)
            unfold cmpR
            rw [if_neg (by grind), if_neg (by intro h; rw [h] at hc; exact hc Rat.le_refl)]; decide
          refine .inr ⟨j, rfl, rfl, by omega, hn, fun r hr hrn => ?_⟩
          by_cases hrj : r = j
          · rw [hrj]; exact ⟨Rat.le_refl, fun _ => Int.le_refl _⟩
          · obtain ⟨g1, g2⟩ := hall r (by omega) hrn
            refine ⟨Rat.le_trans hle g1, fun q => ?_⟩
            have e3 : limR rows k j = limR rows k t := by
              rw [← q]
              have : limR rows k r ≤ limR rows k j := by rw [q]; exact Rat.le_refl
              grind
            have g3 := g2 (by rw [q, e3])
            have : ¬ iAt ins t < iAt ins j := fun hlt => e (.inr ⟨by unfold cmpR; rw [if_neg (by rw [e3]; grind), if_pos e3], hlt⟩)
            omega
    · have hn' : 0 ≤ (gR (rows.getD j []) (k + 1)).num := by have := mt num_neg_iff.1 hn; omega
      rw [if_pos hn']
      rcases ih with ⟨h, hall⟩ | ⟨t, h, h2, ht, hp, hall⟩
      · refine .inl ⟨h, fun r hr => ?_⟩
        by_cases hrj : r = j
        · rw [hrj]; exact hn
        · exact hall r (by omega)
      · refine .inr ⟨t, h, h2, by omega, hp, fun r hr hrn => ?_⟩
        by_cases hrj : r = j
        · rw [hrj] at hrn; exact absurd hrn hn
        · exact hall r (by omega) hrn
structure Tab where
  rows : List (List Rat)
  basis : List Nat
  goal : List Rat
def clr (l b : List Rat) (c : Nat) : List Rat := (List.range l.length).map fun j => gR l j - gR l c * gR b j
def nrm (l : List Rat) (c : Nat) : List Rat := (List.range l.length).map fun j => gR l j / gR l c
theorem clr_length (l b : List Rat) (c : Nat) : (clr l b c).length = l.length := by simp [clr]
theorem nrm_length (l : List Rat) (c : Nat) : (nrm l c).length = l.length := by simp [nrm]
theorem clr_get {l b : List Rat} {c j : Nat} {x : Rat} (h : l[j]? = some x) : (clr l b c)[j]? = some (x - gR l c * gR b j) := by
  have hj := (List.getElem?_eq_some_iff.1 h).1
  unfold clr
  rw [List.getElem?_map, List.getElem?_range hj]
  simp [gR_of h]
theorem nrm_get {l : List Rat} {c j : Nat} {x : Rat} (h : l[j]? = some x) : (nrm l c)[j]? = some (x / gR l c) := by
  have hj := (List.getElem?_eq_some_iff.1 h).1
  unfold nrm
  rw [List.getElem?_map, List.getElem?_range hj]
  simp [gR_of h]
theorem gR_clr {l b : List Rat} {c j : Nat} (hj : j < l.length) : gR (clr l b c) j = gR l j - gR l c * gR b j := by
  rw [gR_of (clr_get (List.getElem?_eq_getElem hj)), gR_of (List.getElem?_eq_getElem hj)]
theorem gR_nrm {l : List Rat} {c j : Nat} (hj : j < l.length) : gR (nrm l c) j = gR l j / gR l c := by
  rw [gR_of (nrm_get (List.getElem?_eq_getElem hj)), gR_of (List.getElem?_eq_getElem hj)]
def Tab.row (T : Tab) (r : Nat) : List Rat := T.rows.getD r []
theorem Tab.row_of {T : Tab} {r : Nat} {o : List Rat} (h : T.rows[r]? = some o) : T.row r = o := by unfold Tab.row; rw [List.getD_eq_getElem?_getD, h]; rfl
theorem Tab.row_some {T : Tab} {r : Nat} (h : r < T.rows.length) : T.rows[r]? = some (T.row r) := getD_row h
def newRow (T : Tab) (i c r : Nat) : List Rat := if r = i then nrm (T.row i) c else clr (T.row r) (nrm (T.row i) c) c
def pivRs (T : Tab) (i c : Nat) : List (List Rat) := (List.range T.rows.length).map (newRow T i c)
def pivT (T : Tab) (i c : Nat) : Tab := ⟨pivRs T i c, T.basis.set i c, clr T.goal (nrm (T.row i) c) c⟩
theorem pivRs_length (T : Tab) (i c : Nat) : (pivRs T i c).length = T.rows.length := by simp [pivRs]
theorem pivRs_get {T : Tab} {i c r : Nat} (hr : r < T.rows.length) : (pivRs T i c)[r]? = some (newRow T i c r) := by
  unfold pivRs
  rw [List.getElem?_map, List.getElem?_range hr]; rfl
theorem pivT_row {T : Tab} {i c r : Nat} (hr : r < T.rows.length) : (pivT T i c).row r = newRow T i c r := Tab.row_of (pivRs_get hr)
structure PivTFit (T : Tab) (i c : Nat) : Prop where
  all : ∀ r ∈ T.rows, FitL r
  goal : FitL T.goal
  ne : gR (T.row i) c ≠ 0
  row : FitL (nrm (T.row i) c)
  mul : ∀ r, r < T.rows.length → r ≠ i → ∀ j, j < (T.row r).length → Fit (gR (T.row r) c * gR (nrm (T.row i) c) j)
  other : ∀ r, r < T.rows.length → r ≠ i → FitL (clr (T.row r) (nrm (T.row i) c) c)
  gmul : ∀ j, j < T.goal.length → Fit (gR T.goal c * gR (nrm (T.row i) c) j)
  gother : FitL (clr T.goal (nrm (T.row i) c) c)
structure TabLen (T : Tab) (m L : Nat) : Prop where
  rows : T.rows.length = m
  basis : T.basis.length = m
  len : ∀ r, r < m → (T.row r).length = L
  goal : T.goal.length = L
theorem TabLen.piv {T : Tab} {m L : Nat} (h : TabLen T m L) (i c : Nat) (hi : i < m) : TabLen (pivT T i c) m L := by
  refine ⟨by simp [pivT, pivRs_length, h.rows], by simp [pivT, h.basis], fun r hr => ?_, by simp [pivT, clr_length, h.goal]⟩
  rw [pivT_row (by rw [h.rows]; exact hr)]
  unfold newRow
  split
  · rw [nrm_length]; exact h.len i hi
  · rw [clr_length]; exact h.len r hr
def entAtT (G : List Rat) : Nat → Int
  | 0 => -1
  | j + 1 => if entAtT G j < 0 ∧ (gR G j).num < 0 then (j : Int) else entAtT G j
def bsAt (T : Tab) (i : Int) : Nat := T.basis.getD i.toNat 0
def levAtT (T : Tab) (c last : Nat) : Nat → Int × Rat
  | 0 => (-1, 0)
  | j + 1 =>
    if (gR (T.row j) c).num ≤ 0 then levAtT T c last j
    else if 0 ≤ (levAtT T c last j).1 ∧ (0 < cmpR (gR (T.row j) last / gR (T.row j) c) (levAtT T c last j).2 ∨ cmpR (gR (T.row j) last / gR (T.row j) c) (levAtT T c last j).2 = 0 ∧ bsAt T (levAtT T c last j).1 < bsAt T (j : Int)) then levAtT T c last j
    else ((j : Int), gR (T.row j) last / gR (T.row j) c)
structure LevTFit (T : Tab) (c last : Nat) : Prop where
  all : ∀ r ∈ T.rows, FitL r
  quo : ∀ r, r < T.rows.length → 0 < (gR (T.row r) c).num → Fit (gR (T.row r) last / gR (T.row r) c)
inductive RunT (n last : Nat) : Nat → Tab → Bool → Tab → Prop
  | stop {T : Tab} (h : entAtT T.goal n = -1) : RunT n last 0 T true T
  | opn {T : Tab} (c : Nat) (he : entAtT T.goal n = (c : Int)) (hc : c < n) (lf : LevTFit T c last) (hl : (levAtT T c last T.rows.length).1 = -1) : RunT n last 0 T false T
  | step {k : Nat} {T T' : Tab} {b : Bool} (c i : Nat) (he : entAtT T.goal n = (c : Int)) (hc : c < n) (lf : LevTFit T c last) (hl : (levAtT T c last T.rows.length).1 = (i : Int)) (hi : i < T.rows.length) (pf : PivTFit T i c) (h : RunT n last k (pivT T i c) b T') : RunT n last (k + 1) T b T'
theorem RunT.inv {n last k : Nat} {T T' : Tab} {b : Bool} (h : RunT n last k T b T') :
    (b = true ∧ T = T' ∧ entAtT T.goal n = -1) ∨ (∃ c : Nat, b = false ∧ T = T' ∧ entAtT T.goal n = (c : Int) ∧ c < n ∧ LevTFit T c last ∧ (levAtT T c last T.rows.length).1 = -1) ∨
    ∃ k' c i : Nat, k = k' + 1 ∧ entAtT T.goal n = (c : Int) ∧ c < n ∧ LevTFit T c last ∧ (levAtT T c last T.rows.length).1 = (i : Int) ∧ i < T.rows.length ∧ PivTFit T i c ∧ RunT n last k' (pivT T i c) b T' := by
  cases h with
  | stop h => exact .inl ⟨rfl, rfl, h⟩
  | opn c he hc lf hl => exact .inr (.inl ⟨c, rfl, rfl, he, hc, lf, hl⟩)
  | step c i he hc lf hl hi pf h => exact .inr (.inr ⟨_, c, i, rfl, he, hc, lf, hl, hi, pf, h⟩)
theorem RunT.len {n last k m L : Nat} {T T' : Tab} {b : Bool} (h : RunT n last k T b T') (l : TabLen T m L) : TabLen T' m L := by
  induction h with
  | stop => exact l
  | opn => exact l
  | step c i _ _ _ _ hi _ _ ih => exact ih (l.piv i c (by rw [← l.rows]; exact hi))
theorem ent_pos_stay {G : List Rat} {j : Nat} (h : 0 ≤ entAtT G j) : ∀ k, entAtT G (j + k) = entAtT G j
  | 0 => rfl
  | k + 1 => by
    have ih := ent_pos_stay h k
    have e : entAtT G (j + (k + 1)) = if entAtT G (j + k) < 0 ∧ (gR G (j + k)).num < 0 then ((j + k : Nat) : Int) else entAtT G (j + k) := rfl
    rw [e, if_neg (by rw [ih]; omega), ih]
theorem ent_stay {G : List Rat} {j n : Nat} (h : 0 ≤ entAtT G j) (hj : j ≤ n) : entAtT G n = entAtT G j := by
  have := ent_pos_stay h (n - j)
  rwa [show j + (n - j) = n by omega] at this
theorem ent_specT (G : List Rat) (j : Nat) : (entAtT G j = -1 ∧ ∀ k, k < j → ¬ gR G k < 0) ∨ ∃ t : Nat, entAtT G j = (t : Int) ∧ t < j ∧ gR G t < 0 ∧ ∀ k : Nat, k < t → ¬ gR G k < 0 := by
  induction j with
  | zero => exact .inl ⟨rfl, fun k hk => by omega⟩
  | succ j ih =>
    unfold entAtT
    rcases ih with ⟨h, hall⟩ | ⟨t, h, ht, hp, hall⟩
    · rw [h]
      by_cases e : gR G j < 0
      · rw [if_pos ⟨by decide, num_neg_iff.2 e⟩]
        exact .inr ⟨j, rfl, by omega, e, hall⟩
      · rw [if_neg (fun h => e (num_neg_iff.1 h.2))]
        refine .inl ⟨rfl, fun k hk => ?_⟩
        by_cases hkj : k = j
        · rw [hkj]; exact e
        · exact hall k (by omega)
    · rw [h, if_neg (fun h => by omega)]
      exact .inr ⟨t, rfl, by omega, hp, hall⟩
def quoT (T : Tab) (c last i : Nat) : Rat := gR (T.row i) last / gR (T.row i) c
theorem lev_specT (T : Tab) (c last j : Nat) : ((levAtT T c last j).1 = -1 ∧ ∀ r, r < j → ¬ 0 < gR (T.row r) c) ∨
    ∃ t : Nat, (levAtT T c last j).1 = (t : Int) ∧ (levAtT T c last j).2 = quoT T c last t ∧ t < j ∧ 0 < gR (T.row t) c ∧ ∀ r : Nat, r < j → 0 < gR (T.row r) c → quoT T c last t ≤ quoT T c last r ∧ (quoT T c last r = quoT T c last t → bsAt T t ≤ bsAt T r) := by
  induction j with
  | zero => exact .inl ⟨rfl, fun k hk => by omega⟩
  | succ j ih =>
    unfold levAtT
    by_cases hn : 0 < gR (T.row j) c
    · have hn' : ¬ (gR (T.row j) c).num ≤ 0 := by have := num_pos_iff.2 hn; omega
      rw [if_neg hn']
      rcases ih with ⟨h, hall⟩ | ⟨t, h, h2, ht, hp, hall⟩
      · rw [h, if_neg (fun e => by omega)]
        refine .inr ⟨j, rfl, rfl, by omega, hn, fun r hr hrn => ?_⟩
        by_cases hrj : r = j
        · rw [hrj]; exact ⟨Rat.le_refl, fun _ => Nat.le_refl _⟩
        · exact absurd hrn (hall r (by omega))
      · rw [h, h2]
        by_cases e : 0 < cmpR (quoT T c last j) (quoT T c last t) ∨ cmpR (quoT T c last j) (quoT T c last t) = 0 ∧ bsAt T t < bsAt T j
        · rw [show gR (T.row j) last / gR (T.row j) c = quoT T c last j from rfl, if_pos ⟨by omega, e⟩]
          refine .inr ⟨t, h, h2, by omega, hp, fun r hr hrn => ?_⟩
          by_cases hrj : r = j
          · rw [hrj]
            unfold cmpR at e
            rcases e with e | e
            · split at e
              · simp at e
              · split at e
                · simp at e
                · rename_i a b
                  exact ⟨by grind, fun q => absurd q b⟩
            · have e1 := e.1
              split at e1
              · simp at e1
              · split at e1
                · rename_i a b
                  exact ⟨by rw [b]; exact Rat.le_refl, fun _ => by have := e.2; omega⟩
                · simp at e1
          · exact hall r (by omega) hrn
        · rw [show gR (T.row j) last / gR (T.row j) c = quoT T c last j from rfl, if_neg (fun h => e h.2)]
          have hle : quoT T c last j ≤ quoT T c last t := by
            refine Classical.byContradiction fun hc => e (.inl ?_)
            unfold cmpR
            rw [if_neg (by grind), if_neg (by intro h; rw [h] at hc; exact hc Rat.le_refl)]; decide
          refine .inr ⟨j, rfl, rfl, by omega, hn, fun r hr hrn => ?_⟩
          by_cases hrj : r = j
          · rw [hrj]; exact ⟨Rat.le_refl, fun _ => Nat.le_refl _⟩
          · obtain ⟨g1, g2⟩ := hall r (by omega) hrn
            refine ⟨Rat.le_trans hle g1, fun q => ?_⟩
            have e3 : quoT T c last j = quoT T c last t := by
              rw [← q]
              have : quoT T c last r ≤ quoT T c last j := by rw [q]; exact Rat.le_refl
              grind
            have g3 := g2 (by rw [q, e3])
            have : ¬ bsAt T t < bsAt T j := fun hlt => e (.inr ⟨by unfold cmpR; rw [if_neg (by rw [e3]; grind), if_pos e3], hlt⟩)
            omega
    · have hn' : (gR (T.row j) c).num ≤ 0 := by have := mt num_pos_iff.1 hn; omega
      rw [if_pos hn']
      rcases ih with ⟨h, hall⟩ | ⟨t, h, h2, ht, hp, hall⟩
      · refine .inl ⟨h, fun r hr => ?_⟩
        by_cases hrj : r = j
        · rw [hrj]; exact hn
        · exact hall r (by omega)
      · refine .inr ⟨t, h, h2, by omega, hp, fun r hr hrn => ?_⟩
        by_cases hrj : r = j
        · rw [hrj] at hrn; exact absurd hrn hn
        · exact hall r (by omega) hrn
theorem But.chg {d : Nat} {w w' : World} (h : But d w w') : Chg (fun k => k = d) w w' := ⟨h.os, h.tape, h.output, h.size, fun k hk hm => h.block k hk hm⟩
theorem Chg.but {d : Nat} {w w' : World} (h : Chg (fun k => k = d) w w') : But d w w' := ⟨h.os, h.tape, h.output, h.size, fun k hk hm => h.block k hk hm⟩
theorem Deck.chg {M : Nat → Prop} {w w' : World} {d : Nat} (h : Deck w d) (k : Chg M w w') (hM : ∀ j, j < w.heap.size → j ≤ d → ¬ M j) : Deck w' d := by
  have hd := h.lt
  obtain ⟨a, len, cap, zs, i, h1, h2, h3, h4⟩ := h
  refine ⟨a, len, cap, zs, i, ?_, h2, k.has h3 hd (hM d hd (Nat.le_refl _)), h4⟩
  rcases h1 with h1 | ⟨x, rfl, k1, k2, k3, k4, k5⟩
  · exact .inl h1
  · refine .inr ⟨x, rfl, k1, k2, k3, fun j hj => ?_, k5⟩
    have hx := h2 x rfl (by omega)
    exact (World.cell?_of_block (w := w) (a := x.add j) (by rw [add_block]; exact k.block _ (by omega) (hM _ (by omega) (by omega)))).trans (k4 j hj)
def tcs (l : List (Int × Int)) : List Value := l.flatMap fun t => [.int .i64 t.1, .int .i64 t.2]
theorem tcs_append (l m : List (Int × Int)) : tcs (l ++ m) = tcs l ++ tcs m := by unfold tcs; rw [List.flatMap_append]
theorem tcs_get : ∀ {l : List (Int × Int)} {i : Nat} {t : Int × Int}, l[i]? = some t → (tcs l)[i * 2]? = some (.int .i64 t.1) ∧ (tcs l)[i * 2 + 1]? = some (.int .i64 t.2)
  | [], i, x, h => by simp at h
  | y :: l, 0, x, h => by cases h; exact ⟨rfl, rfl⟩
  | y :: l, i + 1, x, h => by
    have h2 : l[i]? = some x := h
    have := tcs_get h2
    have e : tcs (y :: l) = [.int .i64 y.1, .int .i64 y.2] ++ tcs l := by unfold tcs; rw [List.flatMap_cons]
    rw [e, List.getElem?_append_right (by simp; omega), List.getElem?_append_right (by simp; omega)]
    simp only [List.length_cons, List.length_nil]
    rw [show (i + 1) * 2 - (0 + 1 + 1) = i * 2 by omega, show (i + 1) * 2 + 1 - (0 + 1 + 1) = i * 2 + 1 by omega]
    exact this
theorem info_tm : (Try.prog.info? 56).map (fun i => (i.zero, i.size, i.bytes)) = some (some (.agg #[.int .i64 0, .int .i64 0]), 2, 16) := by kernel_rfl
theorem tm_read {w : World} {B n c : Nat} {a : Option Addr} {l : List (Int × Int)} (h : w.ownsRow B 56 2 (.slice a n c) n (tcs l)) (hl : l.length = n) (h9 : n ≤ 17592186044416) : Row RTm 2 (fun k => B ≤ k ∧ k < w.heap.size) w a n c l := by
  obtain ⟨h1, h2, h3⟩ := flat_len h
  refine ⟨hl, h2, by unfold maxLen at h3; omega, h9, fun i t ht => ?_⟩
  have hi := (List.getElem?_eq_some_iff.1 ht).1
  obtain ⟨g, rfl, hg, hgl, _, _, _, hc⟩ := flat_cells h (by omega)
  have := tcs_get ht
  exact ⟨g, 0, rfl, ⟨hg, hgl⟩, hgl, by rw [Nat.zero_add]; exact hc _ _ this.1, by rw [Nat.zero_add]; exact hc _ _ this.2⟩
def TmOk (l : List (Int × Int)) (k : Int) : Prop := TermsOk l k 9 l.length
theorem TmOk.nil : TmOk [] 0 := fun _i _t h => absurd h (Nat.not_lt_zero _)
theorem TmOk.up {l : List (Int × Int)} {k m : Int} (h : TmOk l k) (hm : k ≤ m) : TmOk l m := fun i t hi ht => by
  obtain ⟨h1, h2, h3⟩ := h i t hi ht
  exact ⟨h1, by omega, h3⟩
theorem TmOk.snoc {l : List (Int × Int)} {k n : Int} (h : TmOk l k) (hk : 0 ≤ k) (hn : n ≠ 0) (h0 : -9 ≤ n) (h1 : n ≤ 9) : TmOk (l ++ [(k, n)]) (k + 1) := by
  intro i t hi ht
  rw [List.length_append, List.length_singleton] at hi
  by_cases e : i < l.length
  · rw [List.getElem?_append_left e] at ht
    obtain ⟨a, b, c, d⟩ := h i t e ht
    refine ⟨a, by omega, fun p s hp hs => ?_, d⟩
    rw [List.getElem?_append_left (by omega)] at hs
    exact c p s hp hs
  · have e2 : i = l.length := by omega
    subst e2
    rw [List.getElem?_append_right (Nat.le_refl _), Nat.sub_self] at ht
    cases ht
    refine ⟨hk, by show k < k + 1; omega, fun p s hp hs => ?_, hn, h0, h1⟩
    rw [List.getElem?_append_left (by omega)] at hs
    exact (h p s (by omega) hs).2.1
def TmRet (d : Nat) (cols : Int) (w : World) (e : Ending) (w' : World) : Prop := ∃ v l, e = .returned v ∧ w'.ownsRow w.heap.size 56 2 v l.length (tcs l) ∧ TmOk l cols ∧ l.length ≤ cols.toNat ∧ Deck w' d ∧ But d w w'
set_option maxHeartbeats 4000000 in
theorem mterms_any (d cols : Nat) (hc : cols ≤ 1000) (w : World) (hd : Deck w d) : Calls Try.prog 18 #[.pointer (some ⟨d, 0, none⟩), .int .i64 cols] w (TmRet d cols w) := by
  have HD := Lib.hid hd
  have HLT := Lib.hid hd.lt
  clear hd
  go_enter Try.func18, Try.ntmps18
  go_wp2
  go_loopw [6, 5] (fun s v wr => ∃ (k : Nat) (l : List (Int × Int)), k ≤ cols ∧ s = .int .i64 k ∧ wr.ownsRow w.heap.size 56 2 v l.length (tcs l) ∧ TmOk l k ∧ l.length ≤ k ∧ Deck wr d ∧ But d w wr) (fun s _ _ => cols - (intOf s).toNat)
  case atStart => exact ⟨0, [], Nat.zero_le _, rfl, World.ownsRow_nil _ _ _ _, TmOk.nil, Nat.le_refl _, HD.out, But.of_below (Below.refl _ _)⟩
  case round =>
    obtain ⟨k, l, hk, rfl, ho, ht, hl, hdk, hbt⟩ := hrel
    obtain ⟨a, c, rfl⟩ := flat_form ho
    have OW := Lib.hid ho; have TO := Lib.hid ht; have BT := Lib.hid hbt; have HL := Lib.hid hl
    clear ho ht hbt
    by_cases hlt : k < cols
    · go_wp2_with fail
      refine (next_any d 19 (by omega) (by omega) _ hdk).mono ?_
      rintro e w1 ⟨r1, rfl, a1, b1, hd1, hb1⟩
      have O1 := Lib.hid (flat_of OW.out hb1.chg (fun x h1 _ e => by have := HLT.out; omega))
      have B1 := Lib.hid (BT.out.trans hb1)
      clear hb1
      obtain ⟨n, hn⟩ : ∃ n : Int, n = r1 - 9 := ⟨_, rfl⟩
      have wn : IntKind.i64.wrap (r1 - 9) = n := by rw [Go.IntWalk.i64_in _ ⟨by omega, by omega⟩]; omega
      have n0 : -9 ≤ n := by omega
      have n1 : n ≤ 9 := by omega
      clear hn a1 b1
      by_cases hz : n = 0
      · subst hz
        have TU := Lib.hid (TO.out.up (m := (k + 1 : Nat)) (by omega))
        have D1 := Lib.hid hd1
        clear hd1
        go_wp2
        go_roundw
        case rel => exact ⟨k + 1, l, by omega, by go_num, O1.out, TU.out, by have := HL.out; omega, D1.out, B1.out⟩
        case measure => simp [intOf]; omega
      · have hzb : (n != 0) = true := by simpa using hz
        have HZ := Lib.hid hz
        clear hz
        go_wp2_with fail
        refine (next_any d 3 (by omega) (by omega) _ hd1).mono ?_
        rintro e w2 ⟨r2, rfl, a2, b2, hd2, hb2⟩
        have O2 := Lib.hid (flat_of O1.out hb2.chg (fun x h1 _ e => by have := HLT.out; omega))
        have B2 := Lib.hid (B1.out.trans hb2)
        have D2 := Lib.hid hd2
        clear hb2 hd1 hd2
        by_cases hr : 0 < r2
        · obtain ⟨w3, hw3⟩ : ∃ w3, w3 = w2.alloc (.cells #[.int .i64 k, .int .i64 n] 56) := ⟨_, rfl⟩
          have A3 := Lib.hid (show Below w2.heap.size w2 w3 by rw [hw3]; exact (Below.refl _ _).alloc (Nat.le_refl _) _)
          have N3 := Lib.hid (show Blk w3 w2.heap.size 56 (tcs [((k : Int), n)]) by rw [hw3]; exact Blk.new w2 _ _)
          have O3 := Lib.hid (flat_below O2.out A3.out)
          have HW3 := Lib.hid hw3
          have B3 := Lib.hid (B2.out.trans (But.of_below A3.out))
          have D3 := Lib.hid (D2.out.below A3.out (Nat.le_refl _))
          clear hw3
          go_wp2_with (at_builtin; rw [← HW3.out]; refine wpList_append_flat rfl (.tmp 23) (.tmp 27) 26 rfl 56 Try.underlying26 info_tm rfl (by decide) O3.out rfl (Nat.le_trans B2.out.size A3.out.size) ⟨w2.heap.size, 0, none⟩ 1 1 (tcs [((k : Int), n)]) rfl rfl (fun j u hu => by rw [Addr.add_lit, Nat.zero_add]; exact N3.out.cell hu) (by simp [tcs, Value.oneCell']) (by decide) (by have := HL.out; omega) (by decide) ?_; intro g cap w4 hap)
          have P := Lib.hid (show w4.ownsRow w.heap.size 56 2 (.slice (some ⟨g, 0, none⟩) (l.length + 1) cap) (l ++ [((k : Int), n)]).length (tcs (l ++ [((k : Int), n)])) ∧ Deck w4 d ∧ But d w w4 from by
            have ho := hap.out.owns
            rw [← tcs_append] at ho
            refine ⟨by rw [List.length_append]; exact ho, D3.out.chg hap.out.chg (fun j _ hj e => ?_), (B3.out.chg.trans hap.out.chg (fun x hx e => ?_)).but⟩
            · have := (O3.out.lt j e).1; have := HLT.out; omega
            · have := (O3.out.lt x e).1; omega)
          have TS := Lib.hid (TO.out.snoc (by omega) HZ.out n0 n1)
          clear hap
          go_wp2
          go_roundw
          case rel => exact ⟨k + 1, l ++ [((k : Int), n)], by omega, by go_num, by have := P.out.1; rwa [List.length_append] at this ⊢, TS.out, by have := HL.out; rw [List.length_append]; show l.length + 1 ≤ k + 1; omega, P.out.2.1, P.out.2.2⟩
          case measure => simp [intOf]; omega
        · have TU := Lib.hid (TO.out.up (m := (k + 1 : Nat)) (by omega))
          go_wp2
          go_roundw
          case rel => exact ⟨k + 1, l, by omega, by go_num, O2.out, TU.out, by have := HL.out; omega, D2.out, B2.out⟩
          case measure => simp [intOf]; omega
    · obtain rfl : k = cols := by omega
      have DK := Lib.hid hdk
      clear hdk
      go_wp2
      go_ret
      exact ⟨_, l, rfl, OW.out, TO.out, by rw [Int.toNat_natCast]; exact HL.out, DK.out, BT.out⟩
end Go.Proofs.Ytdegpgonphgbcaa
