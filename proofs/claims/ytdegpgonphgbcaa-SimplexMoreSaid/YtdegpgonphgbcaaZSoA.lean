/-
  The program's dictionaries as dictionaries of the theory: a pivot, entering and leaving are Bland's.
  The program's climbing ends, and all numbers on the way are small.
  The equations of a small model: begin's dictionary.
  The first phase: feasible finds columns that obey the model, or there are none.
  The first phase, ended: feasible's dictionaries.
  The second phase: the variable 0 is taken out, the goal put in.
  Between the phases: the dictionary without the variable 0.
  The goal is put in: what its row says, and how large its numbers are.
  The second phase; what Solve comes to for every small model, and what it means.
  Solve: what it comes to for every small model, and what that means.
  Solve, for every small model: the call, and what its answer means.
  Programs of one column (plain); models that say the same.
  The optimum's parts; models of more rows, and models that say the same (plain).
-/
import Derived.Test.YtdegpgonphgbcaaSxT
import Derived.Test.YtdegpgonphgbcaaZThA
import Derived.Test.YtdegpgonphgbcaaZPrG
import Derived.Test.YtdegpgonphgbcaaSxU
import Derived.Test.YtdegpgonphgbcaaZPrC
namespace Go.Proofs.Ytdegpgonphgbcaa
open Go.RowKit

def dg (d : Dc) : Dg := ⟨d.ins.length, d.outs.length, fun i => (iAt d.ins i).toNat, fun k => (iAt d.outs k).toNat, fun i j => gR (d.rows.getD i []) j⟩
theorem num_pos_iff {x : Rat} : 0 < x.num ↔ 0 < x := by
  have h := Rat.num_nonneg (q := -x)
  rw [Rat.neg_num] at h
  constructor
  · intro k
    have : ¬ 0 ≤ -x := fun e => by have := h.2 e; omega
    grind
  · intro k
    have : ¬ 0 ≤ -x.num := fun e => by have := h.1 e; grind
    omega
theorem num_neg_iff {x : Rat} : x.num < 0 ↔ x < 0 := by
  have h := Rat.num_nonneg (q := x)
  constructor
  · intro k
    have : ¬ 0 ≤ x := fun e => by have := h.2 e; omega
    grind
  · intro k
    have : ¬ 0 ≤ x.num := fun e => by have := h.1 e; grind
    omega
theorem gR_put {l : List Rat} {j : Nat} (hj : j < l.length) (i : Nat) (x : Rat) : gR (l.set i x) j = if j = i then x else gR l j := by
  unfold gR
  rw [List.getD_eq_getElem?_getD, List.getElem?_set]
  by_cases e : i = j
  · subst e
    rw [if_pos rfl, if_pos hj, if_pos rfl]; rfl
  · rw [if_neg e, if_neg (fun h => e h.symm), List.getD_eq_getElem?_getD]
theorem gR_pivRow {row : List Rat} {k j : Nat} (hj : j < row.length) : gR (pivRow row k) j = if j = k + 1 then 1 / gR row (k + 1) else gR row j * -(1 / gR row (k + 1)) := by
  unfold pivRow
  rw [gR_put (by rw [pivA_length]; exact hj) (k + 1) _]
  split
  · rename_i e
    subst e
    unfold byOf; grind
  · rename_i e
    have := pivA_get (k := k) (List.getElem?_eq_getElem hj)
    rw [gR_of this, if_neg e, gR_of (List.getElem?_eq_getElem hj)]; rfl
theorem gR_pivOther {p o : List Rat} {k j : Nat} (hj : j < o.length) : gR (pivOther p o k) j = if j = k + 1 then gR o (k + 1) * gR p j else gR o j + gR o (k + 1) * gR p j := by
  have := pivOther_get (p := p) (k := k) (List.getElem?_eq_getElem hj)
  rw [gR_of this, gR_of (List.getElem?_eq_getElem hj)]
theorem getD_row {rows : List (List Rat)} {r : Nat} (hr : r < rows.length) : rows[r]? = some (rows.getD r []) := by
  rw [List.getD_eq_getElem?_getD, List.getElem?_eq_getElem hr]; rfl
theorem DcFit.row {d : Dc} (w : DcFit d) {r : Nat} (hr : r < d.rows.length) : (d.rows.getD r []).length = d.outs.length + 1 := w.cols _ (List.mem_of_getElem? (getD_row hr))
theorem iAt_put {l : List Int} {j : Nat} (hj : j < l.length) (i : Nat) (x : Int) : iAt (l.set i x) (j : Int) = if j = i then x else iAt l (j : Int) := by
  unfold iAt
  rw [Int.toNat_natCast, List.getD_eq_getElem?_getD, List.getElem?_set]
  by_cases e : i = j
  · subst e
    rw [if_pos rfl, if_pos hj, if_pos rfl]; rfl
  · rw [if_neg e, if_neg (fun h => e h.symm), List.getD_eq_getElem?_getD]
theorem pivD_row {d : Dc} {i k r : Nat} (hr : r < d.rows.length) : (pivD d i k).rows.getD r [] = if r = i then pivRow (d.rows.getD i []) k else pivOther (pivRow (d.rows.getD i []) k) (d.rows.getD r []) k := by
  have := pivRows_get (i := i) (k := k) rfl (getD_row hr)
  show (pivRows d.rows i k).getD r [] = _
  rw [List.getD_eq_getElem?_getD, this]; rfl
/-- The program's pivot is one. -/
theorem pivD_is {d : Dc} (w : DcFit d) {i k : Nat} (hi : i < d.ins.length) (hk : k < d.outs.length) (ne : gR (d.rows.getD i []) (k + 1) ≠ 0) : IsPiv (dg d) i k (dg (pivD d i k)) := by
  have hrl := w.rows
  have li := w.row (r := i) (by omega)
  refine ⟨by simp [dg, pivD], by simp [dg, pivD], hi, hk, ne, ?_, ?_, ?_, ?_, ?_, ?_, ?_, ?_⟩
  · show (iAt (d.ins.set i (d.outs.getD k 0)) (i : Int)).toNat = (iAt d.outs (k : Int)).toNat
    rw [iAt_put hi, if_pos rfl]; rfl
  · intro r hr hne
    show (iAt (d.ins.set i (d.outs.getD k 0)) (r : Int)).toNat = (iAt d.ins (r : Int)).toNat
    rw [iAt_put hr, if_neg hne]
  · show (iAt (d.outs.set k (d.ins.getD i 0)) (k : Int)).toNat = (iAt d.ins (i : Int)).toNat
    rw [iAt_put hk, if_pos rfl]; rfl
  · intro r hr hne
    show (iAt (d.outs.set k (d.ins.getD i 0)) (r : Int)).toNat = (iAt d.outs (r : Int)).toNat
    rw [iAt_put hr, if_neg hne]
  · show gR ((pivD d i k).rows.getD i []) (k + 1) = 1 / gR (d.rows.getD i []) (k + 1)
    rw [pivD_row (by omega), if_pos rfl, gR_pivRow (by omega), if_pos rfl]
  · intro j hj hne
    have hj : j ≤ d.outs.length := hj
    show gR ((pivD d i k).rows.getD i []) j = gR (d.rows.getD i []) j * -(1 / gR (d.rows.getD i []) (k + 1))
    rw [pivD_row (by omega), if_pos rfl, gR_pivRow (by omega), if_neg hne]
  · intro r hr hne
    have hr : r ≤ d.ins.length := hr
    show gR ((pivD d i k).rows.getD r []) (k + 1) = gR (d.rows.getD r []) (k + 1) * (1 / gR (d.rows.getD i []) (k + 1))
    have lr := w.row (r := r) (by omega)
    rw [pivD_row (by omega), if_neg hne, gR_pivOther (by omega), if_pos rfl, gR_pivRow (by omega), if_pos rfl]
  · intro r hr hne j hj hjk
    have hr : r ≤ d.ins.length := hr
    have hj : j ≤ d.outs.length := hj
    show gR ((pivD d i k).rows.getD r []) j = gR (d.rows.getD r []) j + gR (d.rows.getD r []) (k + 1) * (gR (d.rows.getD i []) j * -(1 / gR (d.rows.getD i []) (k + 1)))
    have lr := w.row (r := r) (by omega)
    rw [pivD_row (by omega), if_neg hne, gR_pivOther (by omega), if_neg hjk, gR_pivRow (by omega), if_neg hjk]
theorem ent_spec (outs : List Int) (goal : List Rat) (j : Nat) : (entAt outs goal j = -1 ∧ ∀ k, k < j → ¬ 0 < gR goal (k + 1)) ∨ ∃ t : Nat, entAt outs goal j = (t : Int) ∧ t < j ∧ 0 < gR goal (t + 1) ∧ ∀ k : Nat, k < j → 0 < gR goal (k + 1) → iAt outs t ≤ iAt outs k := by
  induction j with
  | zero => exact .inl ⟨rfl, fun k hk => by omega⟩
  | succ j ih =>
    unfold entAt entStep
    rcases ih with ⟨h, hall⟩ | ⟨t, h, ht, hp, hall⟩
    · rw [h]
      by_cases e : 0 < gR goal (j + 1)
      · rw [if_pos ⟨num_pos_iff.2 e, .inl (by omega)⟩]
        refine .inr ⟨j, rfl, by omega, e, fun k hk hkp => ?_⟩
        by_cases hkj : k = j
        · rw [hkj]; exact Int.le_refl _
        · exact absurd hkp (hall k (by omega))
      · rw [if_neg (fun h => e (num_pos_iff.1 h.1))]
        refine .inl ⟨rfl, fun k hk => ?_⟩
        by_cases hkj : k = j
        · rw [hkj]; exact e
        · exact hall k (by omega)
    · rw [h]
      by_cases e : 0 < gR goal (j + 1) ∧ ((t : Int) < 0 ∨ iAt outs j < iAt outs t)
      · rw [if_pos ⟨num_pos_iff.2 e.1, e.2⟩]
        have hlt : iAt outs j < iAt outs t := e.2.resolve_left (by omega)
        refine .inr ⟨j, rfl, by omega, e.1, fun k hk hkp => ?_⟩
        by_cases hkj : k = j
        · rw [hkj]; exact Int.le_refl _
        · have := hall k (by omega) hkp; omega
      · rw [if_neg (fun h => e ⟨num_pos_iff.1 h.1, h.2⟩)]
        refine .inr ⟨t, rfl, by omega, hp, fun k hk hkp => ?_⟩
        by_cases hkj : k = j
        · rw [hkj] at hkp ⊢
          have : ¬ iAt outs j < iAt outs t := fun h => e ⟨hkp, .inr h⟩
          omega
        · exact hall k (by omega) hkp
def limR (rows : List (List Rat)) (k i : Nat) : Rat := -(gR (rows.getD i []) 0 / gR (rows.getD i []) (k + 1))
theorem lev_spec (ins : List Int) (rows : List (List Rat)) (k j : Nat) : ((levAt ins rows k j).1 = -1 ∧ ∀ r, r < j → ¬ gR (rows.getD r []) (k + 1) < 0) ∨
    ∃ t : Nat, (levAt ins rows k j).1 = (t : Int) ∧ (levAt ins rows k j).2 = limR rows k t ∧ t < j ∧ gR (rows.getD t []) (k + 1) < 0 ∧ ∀ r : Nat, r < j → gR (rows.getD r []) (k + 1) < 0 → limR rows k t ≤ limR rows k r ∧ (limR rows k r = limR rows k t → iAt ins t ≤ iAt ins r) := by
  induction j with
  | zero => exact .inl ⟨rfl, fun k hk => by omega⟩
  | succ j ih =>
    unfold levAt levStep
    by_cases hn : gR (rows.getD j []) (k + 1) < 0
    · have hn' : ¬ 0 ≤ (gR (rows.getD j []) (k + 1)).num := by have := num_neg_iff.2 hn; omega
      rw [if_neg hn']
      rcases ih with ⟨h, hall⟩ | ⟨t, h, h2, ht, hp, hall⟩
      · rw [h, if_neg (fun e => by omega)]
        refine .inr ⟨j, rfl, rfl, by omega, hn, fun r hr hrn => ?_⟩
        by_cases hrj : r = j
        · rw [hrj]; exact ⟨Rat.le_refl, fun _ => Int.le_refl _⟩
        · exact absurd hrn (hall r (by omega))
      · rw [h, h2]
        show ((if 0 ≤ (t : Int) ∧ (0 < cmpR (limR rows k j) (limR rows k t) ∨ cmpR (limR rows k j) (limR rows k t) = 0 ∧ iAt ins t < iAt ins j) then levAt ins rows k j else ((j : Int), limR rows k j)).1 = -1 ∧ _) ∨ _
        by_cases e : 0 < cmpR (limR rows k j) (limR rows k t) ∨ cmpR (limR rows k j) (limR rows k t) = 0 ∧ iAt ins t < iAt ins j
        · rw [show (-(gR (rows.getD j []) 0 / gR (rows.getD j []) (k + 1))) = limR rows k j from rfl, if_pos ⟨by omega, e⟩]
          refine .inr ⟨t, h, h2, by omega, hp, fun r hr hrn => ?_⟩
          by_cases hrj : r = j
          · rw [hrj]
            unfold cmpR at e
            rcases e with e | e
            · split at e
              · simp at e
              · split at e
                · simp at e
                · rename_i a b
                  exact ⟨by grind, fun q => absurd q b⟩
            · have e1 := e.1
              split at e1
              · simp at e1
              · split at e1
                · rename_i a b
                  exact ⟨by rw [b]; exact Rat.le_refl, fun _ => by have := e.2; omega⟩
                · simp at e1
          · exact hall r (by omega) hrn
        · rw [show (-(gR (rows.getD j []) 0 / gR (rows.getD j []) (k + 1))) = limR rows k j from rfl, if_neg (fun h => e h.2)]
          have hle : limR rows k j ≤ limR rows k t := by
            refine Classical.byContradiction fun hc => e (.inl ?_)
            unfold cmpR
            rw [if_neg (by grind), if_neg (by intro h; rw [h] at hc; exact hc Rat.le_refl)]; decide
          refine .inr ⟨j, rfl, rfl, by omega, hn, fun r hr hrn => ?_⟩
          by_cases hrj : r = j
          · rw [hrj]; exact ⟨Rat.le_refl, fun _ => Int.le_refl _⟩
          · obtain ⟨g1, g2⟩ := hall r (by omega) hrn
            refine ⟨Rat.le_trans hle g1, fun q => ?_⟩
            have e3 : limR rows k j = limR rows k t := by
              rw [← q]
              have : limR rows k r ≤ limR rows k j := by rw [q]; exact Rat.le_refl
              grind
            have g3 := g2 (by rw [q, e3])
            have : ¬ iAt ins t < iAt ins j := fun hlt => e (.inr ⟨by unfold cmpR; rw [if_neg (by rw [e3]; grind), if_pos e3], hlt⟩)
            omega
    · have hn' : 0 ≤ (gR (rows.getD j []) (k + 1)).num := by have := mt num_neg_iff.1 hn; omega
      rw [if_pos hn']
      rcases ih with ⟨h, hall⟩ | ⟨t, h, h2, ht, hp, hall⟩
      · refine .inl ⟨h, fun r hr => ?_⟩
        by_cases hrj : r = j
        · rw [hrj]; exact hn
        · exact hall r (by omega)
      · refine .inr ⟨t, h, h2, by omega, hp, fun r hr hrn => ?_⟩
        by_cases hrj : r = j
        · rw [hrj] at hrn; exact absurd hrn hn
        · exact hall r (by omega) hrn
end Go.Proofs.Ytdegpgonphgbcaa
namespace Go.Proofs.Ytdegpgonphgbcaa
open Go.RowKit

theorem whole_ne {D : Rat} (h : Whole D) (hne : D ≠ 0) : ∃ z : Int, D = (z : Rat) ∧ z ≠ 0 := by
  obtain ⟨z, hz⟩ := h
  exact ⟨z, hz, fun e => hne (by rw [hz, e]; simp)⟩
theorem ab_int {z B : Int} (h : Ab (z : Rat) (B : Rat)) : -B ≤ z ∧ z ≤ B := by
  obtain ⟨h1, h2⟩ := h
  rw [← Rat.intCast_neg] at h1
  exact ⟨Rat.intCast_le_intCast.1 h1, Rat.intCast_le_intCast.1 h2⟩
/-- A quotient of whole numbers that are small fits. -/
theorem quo_fit {x D : Rat} (hD : Whole D) (hne : D ≠ 0) (bD : Ab D (1152921504606846976 : Int)) (hx : Big x D (1152921504606846976 : Int)) : Fit x := by
  obtain ⟨q, hq, hq0⟩ := whole_ne hD hne
  obtain ⟨⟨p, hp⟩, bp⟩ := hx
  rw [hp] at bp
  rw [hq] at bD
  obtain ⟨p0, p1⟩ := ab_int bp
  obtain ⟨q0, q1⟩ := ab_int bD
  have e : Rat.divInt p q = x := by rw [Rat.divInt_eq_div, ← hp, ← hq]; grind
  obtain ⟨e1, e2⟩ := fND_rat (a := p) (b := q) hq0
  rw [e] at e1 e2
  have l1 := fN_le (a := p) (b := q) hq0
  have l2 := fD_le (a := p) (b := q) hq0
  rw [e1] at l1
  rw [e2] at l2
  exact ⟨by omega, by omega, by omega⟩
theorem Ab.mulle {x y X Y C : Rat} (h : Ab x X) (k : Ab y Y) (hC : X * Y ≤ C) : Ab (x * y) C := (h.mul k).le hC
theorem Big.prod {x y D E X Y C : Rat} (h : Big x D X) (k : Big y E Y) (hC : X * Y ≤ C) : Big (x * y) (D * E) C := by
  have e : x * y * (D * E) = x * D * (y * E) := by grind
  exact ⟨by rw [e]; exact h.1.mul k.1, by rw [e]; exact h.2.mulle k.2 hC⟩
theorem cast60 : ((1152921504606846976 : Int) : Rat) = 1152921504606846976 := by simp
theorem quo_fit' {x D B C : Rat} (hD : Whole D) (hne : D ≠ 0) (bD : Ab D B) (hx : Big x D C) (hB : B ≤ 1152921504606846976) (hC : C ≤ 1152921504606846976) : Fit x :=
  quo_fit hD hne (bD.le (by rw [cast60]; exact hB)) (hx.le (by rw [cast60]; exact hC))
section
variable {d : Dc} {D : Rat}
theorem rep_all (w : DcFit d) (r : Rep (dg d) D) : ∀ row ∈ d.rows, FitL row := by
  intro row hrow x hx
  obtain ⟨j, hj⟩ := List.getElem?_of_mem hrow
  obtain ⟨i, hi⟩ := List.getElem?_of_mem hx
  have hjl := (List.getElem?_eq_some_iff.1 hj).1
  have hil := (List.getElem?_eq_some_iff.1 hi).1
  have hl := w.cols row hrow
  have hrl := w.rows
  have hx2 : x = (dg d).a j i := by
    show x = gR (d.rows.getD j []) i
    rw [List.getD_eq_getElem?_getD, hj]
    exact (gR_of hi).symm
  rw [hx2]
  cases i with
  | zero =>
    by_cases hjm : j < d.ins.length
    · exact quo_fit' r.w r.ne r.bd (r.con j hjm) (by grind) (by grind)
    · have : j = d.ins.length := by omega
      rw [this]
      exact quo_fit' r.w r.ne r.bd r.goal (by grind) (by grind)
  | succ i => exact quo_fit' r.w r.ne r.bd (r.row j i (by show j ≤ d.ins.length; omega) (by show i < d.outs.length; omega)) (by grind) (by grind)
theorem big_div {x y D X : Rat} (h : Big x D X) (hy : y ≠ 0) (_hD : D ≠ 0) : Big (x / y) (y * D) X := by
  have e : x / y * (y * D) = x * D := by grind
  exact ⟨by rw [e]; exact h.1, by rw [e]; exact h.2⟩
theorem lev_fit (w : DcFit d) (r : Rep (dg d) D) {k : Nat} (hk : k < d.outs.length) : LevFit d.ins d.rows k := by
  refine ⟨rep_all w r, fun i row hi hr hn => ?_⟩
  have hg : d.rows.getD i [] = row := by rw [List.getD_eq_getElem?_getD, hr]; rfl
  have hne : gR row (k + 1) ≠ 0 := fun e => by rw [e] at hn; simp at hn
  have h0 := r.con i hi
  have h1 := r.row i k (by show i ≤ d.ins.length; omega) hk
  rw [show (dg d).a i 0 = gR row 0 by show gR (d.rows.getD i []) 0 = _; rw [hg]] at h0
  rw [show (dg d).a i (k + 1) = gR row (k + 1) by show gR (d.rows.getD i []) (k + 1) = _; rw [hg]] at h1
  exact quo_fit' h1.1 (fun e => by rcases Rat.mul_eq_zero.1 e with e | e; exact hne e; exact r.ne e) h1.2 (big_div h0 hne r.ne) (by grind) (by grind)
theorem piv_fit (w : DcFit d) (r : Rep (dg d) D) {i k : Nat} (hi : i < d.ins.length) (hk : k < d.outs.length) (ne : gR (d.rows.getD i []) (k + 1) ≠ 0) {E : Rat} (w2 : DcFit (pivD d i k)) (r2 : Rep (dg (pivD d i k)) E) : PivFit d.rows i k := by
  have hrl := w.rows
  have all2 := rep_all w2 r2
  have hp := r.row i k (by show i ≤ d.ins.length; omega) hk
  have prow : (pivD d i k).rows.getD i [] = pivRow (d.rows.getD i []) k := by rw [pivD_row (by omega), if_pos rfl]
  have hmem : ∀ t, t < d.rows.length → (pivD d i k).rows.getD t [] ∈ (pivD d i k).rows := fun t ht => by
    have : t < (pivD d i k).rows.length := by simp [pivD, pivRows_length]; exact ht
    exact List.mem_of_getElem? (getD_row this)
  refine ⟨rep_all w r, ne, ?_, ?_, ?_, ?_⟩
  · have h1 : Big 1 D 382637520 := ⟨by rw [Rat.one_mul]; exact r.w, by rw [Rat.one_mul]; exact r.bd⟩
    exact quo_fit' hp.1 (fun e => by rcases Rat.mul_eq_zero.1 e with e | e; exact ne e; exact r.ne e) hp.2 (big_div h1 ne r.ne) (by grind) (by grind)
  · rw [← prow]; exact all2 _ (hmem i (by omega))
  · intro t o ho hne j hj
    have ht := (List.getElem?_eq_some_iff.1 ho).1
    have hol := w.cols o (List.mem_of_getElem? ho)
    have hg : d.rows.getD t [] = o := by rw [List.getD_eq_getElem?_getD, ho]; rfl
    have h1 := r.row t k (by show t ≤ d.ins.length; omega) hk
    rw [show (dg d).a t (k + 1) = gR o (k + 1) by show gR (d.rows.getD t []) (k + 1) = _; rw [hg]] at h1
    have h2 : Big (gR (pivRow (d.rows.getD i []) k) j) E 2125764000 := by
      rw [← prow]
      have hl2 : (dg (pivD d i k)).m = d.ins.length := by simp [dg, pivD]
      have hn2 : (dg (pivD d i k)).n = d.outs.length := by simp [dg, pivD]
      cases j with
      | zero => exact r2.con i (by rw [hl2]; exact hi)
      | succ j => exact (r2.row i j (by rw [hl2]; omega) (by rw [hn2]; omega)).le (by grind)
    exact quo_fit' (r.w.mul r2.w) (fun e => by rcases Rat.mul_eq_zero.1 e with e | e; exact r.ne e; exact r2.ne e) (r.bd.mul r2.bd) (h1.prod h2 (C := 1000000000000000000) (by grind)) (by grind) (by grind)
  · intro t o ho hne
    have ht := (List.getElem?_eq_some_iff.1 ho).1
    have e := pivD_row (d := d) (i := i) (k := k) ht
    rw [if_neg hne] at e
    have hg : d.rows.getD t [] = o := by rw [List.getD_eq_getElem?_getD, ho]; rfl
    rw [hg] at e
    rw [← e]; exact all2 _ (hmem t ht)
end
/-- A dictionary with whole numbers of variables that are not negative. -/
structure Wf (d : Dc) : Prop where
  fit : DcFit d
  ne : d.outs ≠ []
  i0 : ∀ z ∈ d.ins, 0 ≤ z
  o0 : ∀ z ∈ d.outs, 0 ≤ z
theorem Wf.piv {d : Dc} (w : Wf d) {i k : Nat} (hi : i < d.ins.length) (hk : k < d.outs.length) : Wf (pivD d i k) := by
  have ok : DcOk d := ⟨w.fit.rows, w.fit.cols, w.fit.i8, w.fit.o8, w.ne⟩
  have ok2 := pivD_ok ok i k
  refine ⟨ok2.fit, ok2.ne, fun z hz => ?_, fun z hz => ?_⟩
  · rcases List.mem_or_eq_of_mem_set hz with h | h
    · exact w.i0 z h
    · rw [h, List.getD_eq_getElem?_getD, List.getElem?_eq_getElem hk]; exact w.o0 _ (List.getElem_mem hk)
  · rcases List.mem_or_eq_of_mem_set hz with h | h
    · exact w.o0 z h
    · rw [h, List.getD_eq_getElem?_getD, List.getElem?_eq_getElem hi]; exact w.i0 _ (List.getElem_mem hi)
theorem iAt_mem {l : List Int} {j : Nat} (hj : j < l.length) : iAt l (j : Int) ∈ l := by
  unfold iAt
  rw [Int.toNat_natCast, List.getD_eq_getElem?_getD, List.getElem?_eq_getElem hj]
  exact List.getElem_mem hj
/-- A step of climbing: the column and the row. -/
def StepAt (d : Dc) (i k : Nat) : Prop := entP d.outs d.rows = (k : Int) ∧ k < d.outs.length ∧ levP d.ins d.rows k = (i : Int) ∧ i < d.ins.length
theorem lastR_eq {d : Dc} (w : DcFit d) : lastR d.rows = d.rows.getD d.ins.length [] := by unfold lastR; rw [w.rows]; rfl
theorem step_bland {d : Dc} (w : Wf d) {i k : Nat} (h : StepAt d i k) : Bland (dg d) i k (dg (pivD d i k)) := by
  obtain ⟨he, hk, hl, hi⟩ := h
  rcases ent_spec d.outs (lastR d.rows) d.outs.length with ⟨h1, _⟩ | ⟨t, h1, ht, hp, hall⟩
  · unfold entP at he; omega
  have htk : t = k := by unfold entP at he; omega
  subst htk
  rw [lastR_eq w.fit] at hp hall
  rcases lev_spec d.ins d.rows t d.ins.length with ⟨h2, _⟩ | ⟨u, h2, _, hu, hn, hlim⟩
  · unfold levP at hl; omega
  have hui : u = i := by unfold levP at hl; omega
  subst hui
  refine ⟨pivD_is w.fit hi hk (by intro e; rw [e] at hn; grind), hp, fun c hc hcp => ?_, hn, fun r hr hrn => ?_⟩
  · have := hall c hc hcp
    have h0 := w.o0 _ (iAt_mem hk)
    show (iAt d.outs (t : Int)).toNat ≤ (iAt d.outs (c : Int)).toNat
    omega
  · obtain ⟨g1, g2⟩ := hlim r hr hrn
    refine ⟨g1, fun q => ?_⟩
    have := g2 q
    show (iAt d.ins (u : Int)).toNat ≤ (iAt d.ins (r : Int)).toNat
    omega
/-- What holds of a dictionary on the way. -/
structure OnWay (F : Dg → Prop) (V : Nat) (d : Dc) : Prop where
  w : Wf d
  I : (dg d).Inj
  ok : (dg d).Ok
  f : F (dg d)
  vb : ∀ v, (dg d).Bas v → v < V
  vn : ∀ v, (dg d).Non v → v < V
section
variable {F : Dg → Prop} {V : Nat} (hF : ∀ (d e : Dg) (i k : Nat), F d → d.Inj → IsPiv d i k e → F e) (hR : ∀ d : Dg, F d → d.Inj → ∃ D, Rep d D)
include hF
theorem OnWay.step {d : Dc} (h : OnWay F V d) {i k : Nat} (s : StepAt d i k) : OnWay F V (pivD d i k) ∧ DEqv (dg d) (dg (pivD d i k)) := by
  have b := step_bland h.w s
  have e := b.p.eqv h.I
  exact ⟨⟨h.w.piv s.2.2.2 s.2.1, e.j, b.ok h.ok, hF _ _ _ _ h.f h.I b.p, fun v hv => (e.v v).1 (.inl hv) |>.elim (h.vb v) (h.vn v), fun v hv => (e.v v).1 (.inr hv) |>.elim (h.vb v) (h.vn v)⟩, e⟩
/-- Climbing stops after t steps. -/
def Stops : Nat → Dc → Prop
  | 0, d => ¬ ∃ i k, StepAt d i k
  | t + 1, d => ∃ i k, StepAt d i k ∧ Stops t (pivD d i k)
theorem stops_some {d : Dc} (h : OnWay F V d) : ∃ t, Stops t d := by
  classical
  refine Classical.byContradiction fun no => ?_
  have no : ∀ t, ¬ Stops t d := fun t ht => no ⟨t, ht⟩
  let nx : Dc → Dc := fun d => if e : ∃ i k, StepAt d i k then pivD d (Classical.choose e) (Classical.choose (Classical.choose_spec e)) else d
  have hnx : ∀ d, (∀ t, ¬ Stops t d) → OnWay F V d → (∃ i k, StepAt d i k ∧ nx d = pivD d i k) ∧ (∀ t, ¬ Stops t (nx d)) ∧ OnWay F V (nx d) := by
    intro d hno ho
    have e : ∃ i k, StepAt d i k := Classical.byContradiction fun h => hno 0 h
    have hs := Classical.choose_spec (Classical.choose_spec e)
    have hd : nx d = pivD d (Classical.choose e) (Classical.choose (Classical.choose_spec e)) := dif_pos e
    rw [hd]
    exact ⟨⟨_, _, hs, rfl⟩, fun t ht => hno (t + 1) ⟨_, _, hs, ht⟩, (ho.step hF hs).1⟩
  let seq : Nat → Dc := fun t => Nat.rec d (fun _ x => nx x) t
  have hseq : ∀ t, (∀ u, ¬ Stops u (seq t)) ∧ OnWay F V (seq t) := by
    intro t
    induction t with
    | zero => exact ⟨no, h⟩
    | succ t ih => exact (hnx _ ih.1 ih.2).2
  refine no_run (s := fun t => dg (seq t)) h.I h.ok V h.vn h.vb fun t => ?_
  obtain ⟨i, k, hs, hd⟩ := (hnx _ (hseq t).1 (hseq t).2).1
  refine ⟨i, k, ?_⟩
  show Bland (dg (seq t)) i k (dg (nx (seq t)))
  rw [hd]
  exact step_bland (hseq t).2.w hs
include hR
theorem climb_of : ∀ (t : Nat) (d : Dc), OnWay F V d → Stops t d → ∃ n b d', Climb n d b d' ∧ DEqv (dg d) (dg d') ∧ OnWay F V d' ∧ (b = true → ∀ k, k < d'.outs.length → ¬ 0 < (dg d').a (dg d').m (k + 1)) ∧ (b = false → ∃ k, k < d'.outs.length ∧ 0 < (dg d').a (dg d').m (k + 1) ∧ ∀ r, r < d'.ins.length → ¬ (dg d').a r (k + 1) < 0)
  | 0, d, h, hs => by
    obtain ⟨D, hD⟩ := hR _ h.f h.I
    rcases ent_spec d.outs (lastR d.rows) d.outs.length with ⟨h1, hall⟩ | ⟨t, h1, ht, hp, _⟩
    · rw [lastR_eq h.w.fit] at hall
      exact ⟨0, true, d, .stop h1, DEqv.refl h.I, h, fun _ k hk => hall k hk, fun e => by cases e⟩
    · rw [lastR_eq h.w.fit] at hp
      rcases lev_spec d.ins d.rows t d.ins.length with ⟨h2, hall⟩ | ⟨u, h2, _, hu, _⟩
      · exact ⟨0, false, d, .opn t h1 ht (lev_fit h.w.fit hD ht) h2, DEqv.refl h.I, h, (fun e => by cases e), fun _ => ⟨t, ht, hp, fun r hr => hall r hr⟩⟩
      · exact absurd ⟨u, t, h1, ht, h2, hu⟩ hs
  | t + 1, d, h, hs => by
    obtain ⟨i, k, s, hs2⟩ := hs
    obtain ⟨h2, e2⟩ := h.step hF s
    obtain ⟨n, b, d', hc, e3, g1, g2, g3⟩ := climb_of t _ h2 hs2
    obtain ⟨D, hD⟩ := hR _ h.f h.I
    obtain ⟨E, hE⟩ := hR _ h2.f h2.I
    have bl := step_bland h.w s
    exact ⟨n + 1, b, d', .step k i s.1 s.2.1 (lev_fit h.w.fit hD s.2.1) s.2.2.1 s.2.2.2 (piv_fit h.w.fit hD s.2.2.2 s.2.1 bl.p.ne h2.w.fit hE) hc, e2.trans e3, g1, g2, g3⟩
theorem climb_ex {d : Dc} (h : OnWay F V d) : ∃ n b d', Climb n d b d' ∧ DEqv (dg d) (dg d') ∧ OnWay F V d' ∧ (b = true → ∀ k, k < d'.outs.length → ¬ 0 < (dg d').a (dg d').m (k + 1)) ∧ (b = false → ∃ k, k < d'.outs.length ∧ 0 < (dg d').a (dg d').m (k + 1) ∧ ∀ r, r < d'.ins.length → ¬ (dg d').a r (k + 1) < 0) := by
  obtain ⟨t, ht⟩ := stops_some hF h
  exact climb_of hF hR t d h ht
end
end Go.Proofs.Ytdegpgonphgbcaa
namespace Go.Proofs.Ytdegpgonphgbcaa
open Go.RowKit

theorem sm_front (f : Nat → Rat) : ∀ n : Nat, sm f (n + 1) = f 0 + sm (fun k => f (k + 1)) n
  | 0 => by show sm f 0 + f 0 = f 0 + 0; unfold sm; grind
  | n + 1 => by
    show sm f (n + 1) + f (n + 1) = f 0 + (sm (fun k => f (k + 1)) n + f (n + 1))
    rw [sm_front f n]; grind
/-- The sum of the first terms times numbers. -/
def dotY (tm : List (Int × Int)) (y : Nat → Rat) (k : Nat) : Rat := (tm.take k).foldl (fun s t => s + (t.2 : Rat) * y t.1.toNat) 0
theorem dotY_succ {tm : List (Int × Int)} {y : Nat → Rat} {k : Nat} {t : Int × Int} (h : tm[k]? = some t) : dotY tm y (k + 1) = dotY tm y k + (t.2 : Rat) * y t.1.toNat := by
  unfold dotY; rw [List.take_add_one, h, List.foldl_append]; rfl
theorem dotY_sm {tm : List (Int × Int)} {n : Nat} {m : Int} (h : TermsOk tm n m tm.length) (y : Nat → Rat) : ∀ k : Nat, k ≤ tm.length → dotY tm y k = sm (fun j => (coefF (tm.take k) j : Rat) * y j) n
  | 0, _ => by
    rw [sm_zero (fun j _ => by show ((0 : Int) : Rat) * y j = 0; simp)]
    unfold dotY; simp
  | k + 1, hk => by
    obtain ⟨t, ht⟩ : ∃ t, tm[k]? = some t := ⟨_, List.getElem?_eq_getElem (by omega)⟩
    obtain ⟨h0, h1, _⟩ := h k t (by omega) ht
    rw [dotY_succ ht, dotY_sm h y k (by omega)]
    have z := coefF_take0 h ht
    rw [sm_one (f := fun j => (coefF (tm.take (k + 1)) j : Rat) * y j) (g := fun j => (coefF (tm.take k) j : Rat) * y j) (k := t.1.toNat) (by omega) (fun j hj hne => by rw [coefF_take h ht, if_neg (by omega)])]
    have e : ((t.1.toNat : Nat) : Int) = t.1 := by omega
    rw [e, z, coefF_take h ht, if_pos rfl]
    simp only [Rat.intCast_zero]
    grind
theorem dotY_all {tm : List (Int × Int)} {n : Nat} {m : Int} (h : TermsOk tm n m tm.length) (y : Nat → Rat) : dotY tm y tm.length = sm (fun j => (coefF tm j : Rat) * y j) n := by
  have := dotY_sm h y tm.length (Nat.le_refl _)
  rwa [List.take_length] at this
/-- The columns of a model's variables: c0 for the variable 0, then the columns, what is left in each row, and the goal's. -/
def mcol (n m : Nat) (rows : List MRow) (g : List (Int × Int)) (c0 : Nat → Rat) (v r : Nat) : Rat :=
  if v = 0 then c0 r else if v ≤ n then (if r < m then (coefF (rowD rows r).1 ((v - 1 : Nat) : Int) : Rat) else -(coefF g ((v - 1 : Nat) : Int) : Rat)) else if r = v - n - 1 then 1 else 0
def mrhs (m : Nat) (rows : List MRow) (k r : Int) : Rat := if r < m then ((rowD rows r.toNat).2 : Rat) else (k : Rat)
theorem gR_app0 (a b : Rat) (n j : Nat) : gR ([a, b] ++ List.replicate n 0) (j + 2) = 0 := by
  unfold gR
  rw [List.getD_eq_getElem?_getD]
  by_cases h : j < n
  · rw [List.getElem?_append_right (by simp), List.getElem?_replicate, if_pos (by simpa using h)]; rfl
  · rw [List.getElem?_eq_none (by simp; omega)]; rfl
theorem rowTo_get {n : Nat} {x : MRow} {m : Int} (h : TermsOk x.1 n m x.1.length) (j : Nat) : ∀ k : Nat, k ≤ x.1.length → gR (rowTo x.1 ([(x.2 : Rat), 1] ++ List.replicate n 0) k) (j + 2) = -(coefF (x.1.take k) j : Rat) ∧ gR (rowTo x.1 ([(x.2 : Rat), 1] ++ List.replicate n 0) k) 0 = (x.2 : Rat) ∧ gR (rowTo x.1 ([(x.2 : Rat), 1] ++ List.replicate n 0) k) 1 = 1
  | 0, _ => by
    refine ⟨?_, rfl, rfl⟩
    show gR ([(x.2 : Rat), 1] ++ List.replicate n 0) (j + 2) = -((0 : Int) : Rat)
    rw [gR_app0]; simp
  | k + 1, hk => by
    obtain ⟨t, ht⟩ : ∃ t, x.1[k]? = some t := ⟨_, List.getElem?_eq_getElem (by omega)⟩
    obtain ⟨h0, h1, _⟩ := h k t (by omega) ht
    obtain ⟨i1, i2, i3⟩ := rowTo_get h j k (by omega)
    have e : rowTo x.1 ([(x.2 : Rat), 1] ++ List.replicate n 0) (k + 1) = rowSet (rowTo x.1 ([(x.2 : Rat), 1] ++ List.replicate n 0) k) t := by
      unfold rowTo; rw [List.take_add_one, ht, List.foldl_append]; rfl
    have hl : (rowTo x.1 ([(x.2 : Rat), 1] ++ List.replicate n 0) k).length = n + 2 := by rw [rowTo_length]; simp
    rw [e]
    unfold rowSet
    refine ⟨?_, ?_, ?_⟩
    · by_cases hj : j + 2 < n + 2
      · rw [gR_put (by rw [hl]; exact hj), coefF_take h ht, i1]
        by_cases hjt : (j : Int) = t.1
        · rw [if_pos (by omega), if_pos hjt, Rat.intCast_neg]
        · rw [if_neg (by omega), if_neg hjt]
      · unfold gR
        rw [List.getD_eq_getElem?_getD, List.getElem?_eq_none (by rw [List.length_set, hl]; omega)]
        have := coefF_none (l := x.1.take (k + 1)) (c := (j : Int)) (fun s hs => by
          obtain ⟨i, hi⟩ := List.getElem?_of_mem (List.mem_of_mem_take hs)
          have := (h i s (List.getElem?_eq_some_iff.1 hi).1 hi).2.1
          omega)
        rw [this]; simp
    · rw [gR_put (by rw [hl]; omega), if_neg (by omega), i2]
    · rw [gR_put (by rw [hl]; omega), if_neg (by omega), i3]
theorem rowOf_get {n : Nat} {x : MRow} {m : Int} (h : TermsOk x.1 n m x.1.length) (j : Nat) : gR (rowOf n x) (j + 2) = -(coefF x.1 j : Rat) ∧ gR (rowOf n x) 0 = (x.2 : Rat) ∧ gR (rowOf n x) 1 = 1 := by
  have := rowTo_get h j x.1.length (Nat.le_refl _)
  unfold rowTo at this
  rw [List.take_length] at this
  exact this
section
variable {n : Nat} {rows : List MRow} {goal : List (Int × Int)} {c0 : Int} (hs : SmallP n rows goal c0)
theorem insOf_at {n m i : Nat} (h : i < m) : iAt (insOf n m) (i : Int) = ((n + 1 + i : Nat) : Int) := iAt_of (by unfold insOf; rw [List.getElem?_map, List.getElem?_range h]; rfl)
theorem outsOf_at {n k : Nat} (h : k < n + 1) : iAt (outsOf n) (k : Int) = (k : Int) := iAt_of (by unfold outsOf; rw [List.getElem?_map, List.getElem?_range h]; rfl)
theorem begD_row {r : Nat} (h : r < rows.length) : (begD n rows).rows.getD r [] = rowOf n (rowD rows r) := by
  unfold begD
  dsimp only
  rw [List.getD_eq_getElem?_getD, List.getElem?_append_left (by simpa using h), List.getElem?_map, List.getElem?_eq_getElem h]
  unfold rowD
  rw [List.getD_eq_getElem?_getD, List.getElem?_eq_getElem h]; rfl
theorem begD_last : (begD n rows).rows.getD rows.length [] = [0, -1] ++ List.replicate n 0 := by
  unfold begD
  dsimp only
  rw [List.getD_eq_getElem?_getD, List.getElem?_append_right (by simp)]
  simp
theorem beg_m : (dg (begD n rows)).m = rows.length := by simp [dg, begD, insOf]
theorem beg_n : (dg (begD n rows)).n = n + 1 := by simp [dg, begD, outsOf]
theorem beg_B {i : Nat} (h : i < rows.length) : (dg (begD n rows)).B i = n + 1 + i := by
  show (iAt (insOf n rows.length) (i : Int)).toNat = _
  rw [insOf_at h]; omega
theorem beg_N {k : Nat} (h : k < n + 1) : (dg (begD n rows)).N k = k := by
  show (iAt (outsOf n) (k : Int)).toNat = _
  rw [outsOf_at h]; omega
include hs
theorem beg_a {r j : Nat} (h : r < rows.length) : (dg (begD n rows)).a r (j + 2) = -(coefF (rowD rows r).1 j : Rat) ∧ (dg (begD n rows)).a r 0 = ((rowD rows r).2 : Rat) ∧ (dg (begD n rows)).a r 1 = 1 := by
  show gR ((begD n rows).rows.getD r []) (j + 2) = _ ∧ gR ((begD n rows).rows.getD r []) 0 = _ ∧ gR ((begD n rows).rows.getD r []) 1 = _
  rw [begD_row h]
  exact rowOf_get (small_rowD hs r).1 j
omit hs in
theorem beg_g {j : Nat} : (dg (begD n rows)).a rows.length (j + 2) = 0 ∧ (dg (begD n rows)).a rows.length 0 = 0 ∧ (dg (begD n rows)).a rows.length 1 = -1 := by
  show gR ((begD n rows).rows.getD rows.length []) (j + 2) = _ ∧ gR ((begD n rows).rows.getD rows.length []) 0 = _ ∧ gR ((begD n rows).rows.getD rows.length []) 1 = _
  rw [begD_last]
  exact ⟨gR_app0 _ _ _ _, rfl, rfl⟩
omit hs in
theorem beg_inj : (dg (begD n rows)).Inj := by
  refine ⟨fun i j hi hj e => ?_, fun i j hi hj e => ?_, fun i k hi hk e => ?_⟩
  · rw [beg_m] at hi hj
    rw [beg_B hi, beg_B hj] at e; omega
  · rw [beg_n] at hi hj
    rw [beg_N hi, beg_N hj] at e; exact e
  · rw [beg_m] at hi
    rw [beg_n] at hk
    rw [beg_B hi, beg_N hk] at e; omega
/-- What the variable 0's column is in the first phase. -/
def col0 (m r : Nat) : Rat := if r < m then -1 else 1
omit hs in
theorem beg_bz {j : Nat} (h : j < rows.length + 1) : (dg (begD n rows)).Bz (n + 1 + rows.length) j = n + 1 + j := by
  unfold Dg.Bz
  rw [beg_m]
  split
  · rename_i hl; exact beg_B hl
  · have : j = rows.length := by omega
    rw [this]
omit hs in
theorem mcol_unit {m : Nat} {g : List (Int × Int)} {c : Nat → Rat} {j r : Nat} : mcol n m rows g c (n + 1 + j) r = if r = j then 1 else 0 := by
  unfold mcol
  rw [if_neg (by omega), if_neg (by omega), show n + 1 + j - n - 1 = j by omega]
omit hs in
theorem det_id : ∀ m : Nat, det m (fun j i => if i = j then 1 else 0) = 1
  | 0 => rfl
  | m + 1 => by
    unfold det
    rw [sm_only (k := 0) (fun r _ hne => by
      show sgn r * (if r = 0 then 1 else 0) * _ = 0
      rw [if_neg hne]; grind), if_pos (by omega)]
    show sgn 0 * (if 0 = 0 then 1 else 0) * det m (fun j i => if skip 0 i = j + 1 then 1 else 0) = 1
    rw [if_pos rfl]
    have : det m (fun j i => if skip 0 i = j + 1 then 1 else 0) = det m (fun j i => if i = j then 1 else 0) := det_congr fun j _ i _ => by
      have e : skip 0 i = i + 1 := by unfold skip; rw [if_neg (by omega)]
      rw [e]
      by_cases h : i = j
      · rw [if_pos (by omega), if_pos h]
      · rw [if_neg (by omega), if_neg h]
    rw [this, det_id m]
    show sgn 0 * 1 * 1 = 1
    unfold sgn; simp
omit hs in
theorem sm_unit (f : Nat → Rat) {M r : Nat} (h : r < M) : sm (fun j => f j * (if r = j then 1 else 0)) M = f r := by
  rw [sm_only (k := r) (fun j _ hne => by rw [if_neg (fun e => hne e.symm)]; grind), if_pos h, if_pos rfl]; grind
/-- The equations of the first phase. -/
theorem beg_cr : Crd (mcol n rows.length rows [] (col0 rows.length)) (fun r => mrhs rows.length rows 0 r) (n + 1 + rows.length) (dg (begD n rows)) := by
  have hsum : ∀ (x : Nat → Rat) (r : Nat), r < rows.length + 1 → sm (fun j => x j * mcol n rows.length rows [] (col0 rows.length) ((dg (begD n rows)).Bz (n + 1 + rows.length) j) r) (rows.length + 1) = x r := fun x r hr => by
    rw [sm_congr (g := fun j => x j * (if r = j then 1 else 0)) (fun j hj => by rw [beg_bz hj, mcol_unit]), sm_unit x hr]
  refine ⟨fun r hr => ?_, fun c hc r hr => ?_, ?_⟩
  · rw [beg_m] at hr ⊢
    rw [hsum (fun j => (dg (begD n rows)).a j 0) r hr]
    unfold mrhs
    by_cases h : r < rows.length
    · rw [(beg_a hs (j := 0) h).2.1, if_pos (by omega)]; rfl
    · rw [show r = rows.length by omega, (beg_g (j := 0)).2.1, if_neg (by omega)]; simp
  · rw [beg_m] at hr ⊢
    rw [beg_n] at hc
    rw [hsum (fun j => (dg (begD n rows)).a j (c + 1)) r hr, beg_N hc]
    unfold mcol col0
    cases c with
    | zero =>
      rw [if_pos rfl]
      by_cases h : r < rows.length
      · rw [(beg_a hs (j := 0) h).2.2, if_pos h]; grind
      · rw [show r = rows.length by omega, (beg_g (j := 0)).2.2, if_neg (by omega)]
    | succ c =>
      rw [if_neg (by omega), if_pos (by omega)]
      by_cases h : r < rows.length
      · rw [(beg_a hs (j := c) h).1, if_pos h]; rfl
      · rw [show r = rows.length by omega, (beg_g (j := c)).1, if_neg (by omega)]
        show 0 = - -((0 : Int) : Rat); simp
  · rw [beg_m]
    have : det (rows.length + 1) (fun j => mcol n rows.length rows [] (col0 rows.length) ((dg (begD n rows)).Bz (n + 1 + rows.length) j)) = det (rows.length + 1) (fun j i => if i = j then 1 else 0) := det_congr fun j hj i _ => by rw [beg_bz hj, mcol_unit]
    rw [this, det_id]; grind
end
end Go.Proofs.Ytdegpgonphgbcaa
namespace Go.Proofs.Ytdegpgonphgbcaa
open Go.RowKit

theorem whole_int (z : Int) : Whole (z : Rat) := ⟨z, rfl⟩
theorem ab_of_int {z B : Int} (h0 : -B ≤ z) (h1 : z ≤ B) : Ab (z : Rat) (B : Rat) := ⟨by rw [← Rat.intCast_neg]; exact Rat.intCast_le_intCast.2 h0, Rat.intCast_le_intCast.2 h1⟩
theorem ab9 {z : Int} (h0 : -9 ≤ z) (h1 : z ≤ 9) : Ab (z : Rat) 9 := ab_of_int (B := 9) h0 h1
theorem ab50 {z : Int} (h0 : -50 ≤ z) (h1 : z ≤ 50) : Ab (z : Rat) 50 := ab_of_int (B := 50) h0 h1
section
variable {n : Nat} {rows : List MRow} {goal : List (Int × Int)} {c0 : Int} (hs : SmallP n rows goal c0)
include hs
theorem bas_of {g : List (Int × Int)} (hg : ∀ v, -9 ≤ coefF g v ∧ coefF g v ≤ 9) {cf : Nat → Rat} (hcf : ∀ r, Whole (cf r) ∧ Ab (cf r) 9) {k : Int} (hk : -9 ≤ k ∧ k ≤ 9) {st : Nat → Prop} (hst : ∀ v, ¬ st v → n < v ∨ (v = 0 ∧ ∀ r, cf r = 0)) :
    Bas (rows.length + 1) st (mcol n rows.length rows g cf) (fun r => mrhs rows.length rows k r) (n + 1 + rows.length) := by
  have co : ∀ r v : Nat, -9 ≤ coefF (rowD rows r).1 v ∧ coefF (rowD rows r).1 v ≤ 9 := fun r v => coef_nine (by decide) (small_rowD hs r).1 v
  have uz : ∀ v, n < v → UC (rows.length + 1) (mcol n rows.length rows g cf v) := fun v hv => ⟨v - n - 1, fun r _ => by
    unfold mcol
    rw [if_neg (by omega), if_neg (by omega)]
    refine ⟨fun hne => if_neg hne, ?_⟩
    split
    · exact ⟨by grind, by grind⟩
    · exact ⟨by grind, by grind⟩⟩
  refine ⟨fun v r => ?_, fun r => ?_, fun v r _ => ?_, fun r _ => ?_, fun v hv => ?_, uz _ (by omega)⟩
  · unfold mcol
    split
    · exact (hcf r).1
    · split
      · split
        · exact whole_int _
        · exact (whole_int _).neg
      · split
        · exact ⟨1, by simp⟩
        · exact ⟨0, by simp⟩
  · unfold mrhs; split <;> exact whole_int _
  · unfold mcol
    split
    · exact (hcf r).2
    · split
      · split
        · exact ab9 (co _ _).1 (co _ _).2
        · exact (ab9 (hg _).1 (hg _).2).neg
      · split <;> exact ⟨by grind, by grind⟩
  · unfold mrhs; split
    · have := (small_rowD hs ((r : Int).toNat)).2; exact ab50 this.1 this.2
    · exact ab50 (by omega) (by omega)
  · rcases hst v hv with h | ⟨rfl, h⟩
    · exact uz v h
    · exact ⟨0, fun r _ => by
        unfold mcol
        rw [if_pos rfl, h r]
        exact ⟨fun _ => rfl, by grind, by grind⟩⟩
theorem bas1 : Bas (rows.length + 1) (fun v => v ≤ n) (mcol n rows.length rows [] (col0 rows.length)) (fun r => mrhs rows.length rows 0 r) (n + 1 + rows.length) :=
  bas_of hs (fun v => ⟨by show -9 ≤ (0 : Int); decide, by show (0 : Int) ≤ 9; decide⟩) (fun r => by unfold col0; split; exact ⟨⟨-1, by simp⟩, by grind, by grind⟩; exact ⟨⟨1, by simp⟩, by grind, by grind⟩) ⟨by decide, by decide⟩ (fun v hv => .inl (by omega))
/-- What holds in the first phase. -/
def F1 (n : Nat) (rows : List MRow) (d : Dg) : Prop := d.m = rows.length ∧ Crd (mcol n rows.length rows [] (col0 rows.length)) (fun r => mrhs rows.length rows 0 r) (n + 1 + rows.length) d ∧ (∀ v, d.Bas v → v ≤ n + rows.length) ∧ ∀ v, d.Non v → v ≤ n + rows.length
omit hs in
theorem f1_piv (d e : Dg) (i k : Nat) (f : F1 n rows d) (I : d.Inj) (h : IsPiv d i k e) : F1 n rows e := by
  obtain ⟨hm, hc, hb, hn⟩ := f
  have q := h.eqv I
  exact ⟨h.m.trans hm, hc.piv h, fun v hv => (q.v v).1 (.inl hv) |>.elim (hb v) (hn v), fun v hv => (q.v v).1 (.inr hv) |>.elim (hb v) (hn v)⟩
theorem f1_rep (d : Dg) (f : F1 n rows d) (I : d.Inj) : ∃ D, Rep d D := by
  obtain ⟨hm, hc, hb, hn⟩ := f
  have h6 : d.m ≤ 6 := by have := hs.2.2.1; omega
  have b : Bas (d.m + 1) (fun v => v ≤ n) (mcol n rows.length rows [] (col0 rows.length)) (fun r => mrhs rows.length rows 0 r) (n + 1 + rows.length) := by rw [hm]; exact bas1 hs
  obtain ⟨wD, bD⟩ := rep_D b h6
  refine ⟨_, wD, hc.dt, bD, fun j x hj hx => ?_, fun j hj => rep_row0 b hc h6 hj, rep_goal0 b hc h6⟩
  by_cases hjm : j < d.m
  · exact rep_row b hc h6 hjm hx
  · have hj2 : j = d.m := by omega
    rw [hj2]
    have e := hc.ck x hx d.m (by omega)
    have lastc : ∀ v, v ≤ n + rows.length → mcol n rows.length rows [] (col0 rows.length) v d.m = if v = 0 then 1 else 0 := fun v hv => by
      unfold mcol col0
      rw [hm, if_neg (Nat.lt_irrefl _)]
      split
      · rfl
      · split
        · rw [if_neg (Nat.lt_irrefl _)]; show -((0 : Int) : Rat) = 0; simp
        · rw [if_neg (by omega)]
    have hz : mcol n rows.length rows [] (col0 rows.length) (n + 1 + rows.length) d.m = 1 := by rw [mcol_unit, hm, if_pos rfl]
    have e2 : sm (fun j => d.a j (x + 1) * mcol n rows.length rows [] (col0 rows.length) (d.Bz (n + 1 + rows.length) j) d.m) (d.m + 1) = sm (fun j => d.a j (x + 1) * (if d.B j = 0 then 1 else 0)) d.m + d.a d.m (x + 1) := by
      show sm _ d.m + d.a d.m (x + 1) * mcol n rows.length rows [] (col0 rows.length) (d.Bz (n + 1 + rows.length) d.m) d.m = _
      rw [bz_last, hz, sm_congr (g := fun j => d.a j (x + 1) * (if d.B j = 0 then 1 else 0)) (fun j hj => by
        have : d.Bz (n + 1 + rows.length) j = d.B j := by unfold Dg.Bz; rw [if_pos hj]
        rw [this, lastc _ (hb _ ⟨j, hj, rfl⟩)])]
      grind
    rw [e2, lastc _ (hn _ ⟨x, hx, rfl⟩)] at e
    by_cases hN : d.N x = 0
    · rw [if_pos hN, sm_zero (fun j hj => by rw [if_neg (fun h => I.bn j x hj hx (by rw [h, hN]))]; grind)] at e
      have e3 : d.a d.m (x + 1) = -1 := by grind
      rw [e3]
      exact ⟨by rw [show -1 * d.D (mcol n rows.length rows [] (col0 rows.length)) (n + 1 + rows.length) = -(d.D (mcol n rows.length rows [] (col0 rows.length)) (n + 1 + rows.length)) by grind]; exact wD.neg, by rw [show -1 * d.D (mcol n rows.length rows [] (col0 rows.length)) (n + 1 + rows.length) = -(d.D (mcol n rows.length rows [] (col0 rows.length)) (n + 1 + rows.length)) by grind]; exact bD.neg⟩
    · rw [if_neg hN] at e
      by_cases hB : ∃ j, j < d.m ∧ d.B j = 0
      · obtain ⟨j0, hj0, hB0⟩ := hB
        rw [sm_only (k := j0) (fun j hj hne => by rw [if_neg (fun h => hne (I.b j j0 hj hj0 (by rw [h, hB0])))]; grind), if_pos hj0, if_pos hB0] at e
        have e3 : d.a d.m (x + 1) = -d.a j0 (x + 1) := by grind
        rw [e3]; exact (rep_row b hc h6 hj0 hx).neg
      · rw [sm_zero (fun j hj => by rw [if_neg (fun h => hB ⟨j, hj, h⟩)]; grind)] at e
        have e3 : d.a d.m (x + 1) = 0 := by grind
        rw [e3]
        exact ⟨⟨0, by rw [Rat.zero_mul]; simp⟩, by rw [Rat.zero_mul]; exact ab_zero (by grind)⟩
/-- Columns that obey the model. -/
def FeasX (n : Nat) (rows : List MRow) (y : Nat → Rat) : Prop := (∀ j, j < n → 0 ≤ y j) ∧ ∀ r ∈ rows, dotY r.1 y r.1.length ≤ (r.2 : Rat)
def objX (goal : List (Int × Int)) (c0 : Int) (y : Nat → Rat) : Rat := (c0 : Rat) + dotY goal y goal.length
def dotA (rows : List MRow) (i : Nat) (y : Nat → Rat) : Rat := dotY (rowD rows i).1 y (rowD rows i).1.length
omit hs in
theorem feasX_iff {y : Nat → Rat} : FeasX n rows y ↔ (∀ j, j < n → 0 ≤ y j) ∧ ∀ i, i < rows.length → dotA rows i y ≤ ((rowD rows i).2 : Rat) := by
  unfold FeasX dotA
  constructor
  · rintro ⟨h1, h2⟩
    exact ⟨h1, fun i hi => by rw [rowD_of (List.getElem?_eq_getElem hi)]; exact h2 _ (List.getElem_mem hi)⟩
  · rintro ⟨h1, h2⟩
    refine ⟨h1, fun r hr => ?_⟩
    obtain ⟨i, hi⟩ := List.getElem?_of_mem hr
    have := h2 i (List.getElem?_eq_some_iff.1 hi).1
    rw [rowD_of hi] at this; exact this
/-- What begin's dictionary says. -/
theorem beg_sat (x : Nat → Rat) (z : Rat) : (dg (begD n rows)).Sat x z ↔ (∀ i, i < rows.length → x (n + 1 + i) = ((rowD rows i).2 : Rat) + x 0 - dotA rows i (fun j => x (j + 1))) ∧ z = - x 0 := by
  have hv : ∀ i, i < rows.length → (dg (begD n rows)).val i x = ((rowD rows i).2 : Rat) + x 0 - dotA rows i (fun j => x (j + 1)) := fun i hi => by
    unfold Dg.val dotA
    rw [beg_n, sm_front, (beg_a hs (j := 0) hi).2.1, (beg_a hs (j := 0) hi).2.2, beg_N (by omega), dotY_all (small_rowD hs i).1,
      sm_congr (g := fun k => (-1) * ((coefF (rowD rows i).1 k : Rat) * x (k + 1))) (fun k hk => by rw [(beg_a hs (j := k) hi).1, beg_N (by omega)]; grind), sm_mul]
    grind
  have hg : (dg (begD n rows)).val rows.length x = - x 0 := by
    unfold Dg.val
    rw [beg_n, sm_front, (beg_g (j := 0)).2.1, (beg_g (j := 0)).2.2, beg_N (by omega), sm_zero (fun k hk => by rw [(beg_g (j := k)).1]; grind)]
    grind
  unfold Dg.Sat
  rw [beg_m, hg]
  constructor
  · rintro ⟨h1, h2⟩
    exact ⟨fun i hi => by rw [← beg_B hi, h1 i hi, hv i hi], h2⟩
  · rintro ⟨h1, h2⟩
    exact ⟨fun i hi => by rw [beg_B hi, h1 i hi, hv i hi], h2⟩
end
end Go.Proofs.Ytdegpgonphgbcaa
namespace Go.Proofs.Ytdegpgonphgbcaa
open Go.RowKit

theorem wor_spec (rows : List (List Rat)) (j : Nat) : (worAt rows j = -1 ∧ ∀ r, r < j → ¬ gR (rows.getD r []) 0 < 0) ∨
    ∃ t : Nat, worAt rows j = (t : Int) ∧ t < j ∧ gR (rows.getD t []) 0 < 0 ∧ ∀ r : Nat, r < j → gR (rows.getD t []) 0 ≤ gR (rows.getD r []) 0 := by
  induction j with
  | zero => exact .inl ⟨rfl, fun k hk => by omega⟩
  | succ j ih =>
    unfold worAt worStep
    rcases ih with ⟨h, hall⟩ | ⟨t, h, ht, hn, hall⟩
    · rw [h]
      by_cases e : gR (rows.getD j []) 0 < 0
      · rw [if_pos ⟨num_neg_iff.2 e, .inl (by omega)⟩]
        refine .inr ⟨j, rfl, by omega, e, fun r hr => ?_⟩
        by_cases hrj : r = j
        · rw [hrj]; exact Rat.le_refl
        · have := hall r (by omega); grind
      · rw [if_neg (fun h => e (num_neg_iff.1 h.1))]
        refine .inl ⟨rfl, fun r hr => ?_⟩
        by_cases hrj : r = j
        · rw [hrj]; exact e
        · exact hall r (by omega)
    · rw [h, Int.toNat_natCast]
      by_cases e : (gR (rows.getD j []) 0).num < 0 ∧ ((t : Int) < 0 ∨ cmpR (gR (rows.getD j []) 0) (gR (rows.getD t []) 0) < 0)
      · rw [if_pos e]
        have hc := e.2.resolve_left (by omega)
        rw [cmpR_lt] at hc
        refine .inr ⟨j, rfl, by omega, num_neg_iff.1 e.1, fun r hr => ?_⟩
        by_cases hrj : r = j
        · rw [hrj]; exact Rat.le_refl
        · have := hall r (by omega); grind
      · rw [if_neg e]
        refine .inr ⟨t, rfl, by omega, hn, fun r hr => ?_⟩
        by_cases hrj : r = j
        · rw [hrj]
          refine Classical.byContradiction fun hc => e ⟨num_neg_iff.2 (by grind), .inr ?_⟩
          rw [cmpR_lt]; exact hc
        · exact hall r (by omega)
theorem idx_spec (l : List Int) (z : Int) : (idxP l z = -1 ∧ ∀ j : Nat, j < l.length → iAt l j ≠ z) ∨ ∃ k : Nat, idxP l z = (k : Int) ∧ k < l.length ∧ iAt l k = z := by
  unfold idxP
  cases h : l.findIdx? (· == z) with
  | none =>
    refine .inl ⟨rfl, fun j hj e => ?_⟩
    have := List.findIdx?_eq_none_iff.1 h l[j] (List.getElem_mem hj)
    rw [iAt_of (List.getElem?_eq_getElem hj)] at e
    rw [e] at this; simp at this
  | some k =>
    obtain ⟨h1, h2, _⟩ := List.findIdx?_eq_some_iff_getElem.1 h
    exact .inr ⟨k, rfl, h1, by rw [iAt_of (List.getElem?_eq_getElem h1)]; simpa using h2⟩
theorem first_of {P : Nat → Prop} (dec : ∀ t, P t ∨ ¬ P t) : ∀ n : Nat, (∀ t, t < n → ¬ P t) ∨ ∃ k, k < n ∧ P k ∧ ∀ t, t < k → ¬ P t
  | 0 => .inl fun t ht => by omega
  | n + 1 => by
    rcases first_of dec n with h | ⟨k, hk, hp, hall⟩
    · rcases dec n with hp | hp
      · exact .inr ⟨n, by omega, hp, h⟩
      · refine .inl fun t ht => ?_
        by_cases e : t = n
        · rw [e]; exact hp
        · exact h t (by omega)
    · exact .inr ⟨k, by omega, hp, hall⟩
theorem onway_ok {F : Dg → Prop} {V : Nat} {d : Dc} (h : OnWay F V d) : DcOk d := ⟨h.w.fit.rows, h.w.fit.cols, h.w.fit.i8, h.w.fit.o8, h.w.ne⟩
section
variable {n : Nat} {rows : List MRow} {goal : List (Int × Int)} {c0 : Int} (hs : SmallP n rows goal c0)
/-- Behind the first phase. -/
structure End1 (n : Nat) (rows : List MRow) (d : Dc) : Prop where
  w : OnWay (F1 n rows) (n + 1 + rows.length) d
  e : DEqv (dg (begD n rows)) (dg d)
include hs
theorem beg_wf : Wf (begD n rows) := by
  have h6 : n ≤ 6 := by have := hs.2.1; omega
  have hr6 : rows.length ≤ 6 := by have := hs.2.2.1; omega
  have ok := begD_ok h6 hr6
  refine ⟨ok.fit, ok.ne, fun z hz => ?_, fun z hz => ?_⟩
  · unfold begD insOf at hz
    simp at hz
    obtain ⟨a, _, rfl⟩ := hz; omega
  · unfold begD outsOf at hz
    simp at hz
    obtain ⟨a, _, rfl⟩ := hz; omega
theorem beg_f1 : F1 n rows (dg (begD n rows)) := ⟨beg_m, beg_cr hs, fun v ⟨i, hi, e⟩ => by
    rw [beg_m] at hi
    rw [beg_B hi] at e; omega, fun v ⟨k, hk, e⟩ => by
    rw [beg_n] at hk
    rw [beg_N hk] at e; omega⟩
theorem beg_fits : ∀ r ∈ (begD n rows).rows, FitL r := by
  obtain ⟨D, hD⟩ := f1_rep hs _ (beg_f1 hs) beg_inj
  exact rep_all (beg_wf hs).fit hD
theorem beg_onway (o : (dg (begD n rows)).Ok) : OnWay (F1 n rows) (n + 1 + rows.length) (begD n rows) :=
  ⟨beg_wf hs, beg_inj, o, beg_f1 hs, fun v h => by have := (beg_f1 hs).2.2.1 v h; omega, fun v h => by have := (beg_f1 hs).2.2.2 v h; omega⟩
/-- The goal of the first phase is never above 0. -/
theorem end1_goal {d : Dc} (h : End1 n rows d) : (dg d).a (dg d).m 0 ≤ 0 ∧ (¬ (dg d).a (dg d).m 0 < 0 → ∀ i, i < (dg d).m → (dg d).B i = 0 → (dg d).a i 0 = 0) := by
  obtain ⟨x, hs1, hn, hb⟩ := h.w.I.sol0
  have hz := ((beg_sat hs x _).1 ((h.e.s x _).1 hs1)).2
  have h0 : (dg d).Bas 0 ∨ (dg d).Non 0 := (h.e.v 0).2 (.inr ⟨0, by rw [beg_n]; omega, by rw [beg_N (by omega)]⟩)
  rcases h0 with ⟨i, hi, hB⟩ | ⟨k, hk, hN⟩
  · have hx := hb i hi
    rw [hB] at hx
    have ho := h.w.ok i hi
    refine ⟨by rw [hz, hx]; grind, fun hnn j hj hBj => ?_⟩
    have : j = i := h.w.I.b j i hj hi (by rw [hBj, hB])
    rw [this, ← hx]
    rw [hz, hx] at hnn
    rw [hx]; grind
  · have hx := hn k hk
    rw [hN] at hx
    exact ⟨by rw [hz, hx]; grind, fun _ j hj hBj => absurd (by rw [hBj, hN]) (h.w.I.bn j k hj hk)⟩
/-- Columns that obey the model are values of the first dictionary's variables. -/
theorem feas_sat {y : Nat → Rat} (hy : FeasX n rows y) : ∃ x, (dg (begD n rows)).Sat x 0 ∧ x 0 = 0 ∧ (∀ j, j < n → x (j + 1) = y j) ∧ ∀ v, 0 ≤ x v := by
  rw [feasX_iff] at hy
  let x : Nat → Rat := fun v => if v = 0 then 0 else if v ≤ n then y (v - 1) else if v - n - 1 < rows.length then ((rowD rows (v - n - 1)).2 : Rat) - dotA rows (v - n - 1) y else 0
  have x0 : x 0 = 0 := rfl
  have xj : ∀ j, j < n → x (j + 1) = y j := fun j hj => by
    show (if j + 1 = 0 then _ else if j + 1 ≤ n then y (j + 1 - 1) else _) = _
    rw [if_neg (by omega), if_pos (by omega), Nat.add_sub_cancel]
  have hd : ∀ i, dotA rows i (fun j => x (j + 1)) = dotA rows i y := fun i => by
    unfold dotA
    rw [dotY_all (small_rowD hs i).1, dotY_all (small_rowD hs i).1]
    exact sm_congr fun j hj => by rw [xj j hj]
  have xs : ∀ i, i < rows.length → x (n + 1 + i) = ((rowD rows i).2 : Rat) - dotA rows i y := fun i hi => by
    show (if n + 1 + i = 0 then _ else if n + 1 + i ≤ n then _ else if n + 1 + i - n - 1 < rows.length then _ else _) = _
    rw [if_neg (by omega), if_neg (by omega), show n + 1 + i - n - 1 = i by omega, if_pos hi]
  refine ⟨x, (beg_sat hs x 0).2 ⟨fun i hi => by rw [xs i hi, hd, x0]; grind, by rw [x0]; grind⟩, x0, xj, fun v => ?_⟩
  show 0 ≤ (if v = 0 then 0 else if v ≤ n then y (v - 1) else if v - n - 1 < rows.length then ((rowD rows (v - n - 1)).2 : Rat) - dotA rows (v - n - 1) y else 0)
  split
  · exact Rat.le_refl
  · split
    · exact hy.1 _ (by omega)
    · split
      · rename_i h; have := hy.2 _ h; grind
      · exact Rat.le_refl

omit hs in
theorem non0 {d : Dc} (h : End1 n rows d) (hi : idxP d.ins 0 = -1) : (dg d).Non 0 := by
  rcases (h.e.v 0).2 (.inr ⟨0, by rw [beg_n]; omega, by rw [beg_N (by omega)]⟩) with ⟨i, hi2, e⟩ | h2
  · rcases idx_spec d.ins 0 with ⟨_, hall⟩ | ⟨k, hk, _⟩
    · have h0 := h.w.w.i0 _ (iAt_mem hi2)
      have e : (iAt d.ins (i : Int)).toNat = 0 := e
      exact absurd (by omega) (hall i hi2)
    · omega
  · exact h2
theorem fit_of_end {d : Dc} (h : End1 n rows d) {i k : Nat} (hi : i < d.ins.length) (hk : k < d.outs.length) (ne : gR (d.rows.getD i []) (k + 1) ≠ 0) : PivFit d.rows i k := by
  have p := pivD_is h.w.w.fit hi hk ne
  have f2 := f1_piv _ _ _ _ h.w.f h.w.I p
  obtain ⟨D, hD⟩ := f1_rep hs _ h.w.f h.w.I
  obtain ⟨E, hE⟩ := f1_rep hs _ f2 (p.eqv h.w.I).j
  exact piv_fit h.w.w.fit hD hi hk ne (h.w.w.piv hi hk).fit hE
/-- The second half of feasible: the variable 0 leaves the rows. -/
theorem feas2_ex {d : Dc} (h : End1 n rows d) (hnn : ¬ (dg d).a (dg d).m 0 < 0) : ∃ d2, Feas2 d d2 ∧ End1 n rows d2 ∧ (dg d2).Non 0 := by
  rcases idx_spec d.ins 0 with ⟨hi, _⟩ | ⟨j, hj, hjl, hz⟩
  · exact ⟨d, .out hi, h, non0 h hi⟩
  · have hB : (dg d).B j = 0 := by show (iAt d.ins (j : Int)).toNat = 0; rw [hz]; rfl
    have hc := (end1_goal hs h).2 hnn j hjl hB
    rcases first_of (P := fun t => (gR (d.rows.getD j []) (t + 1)).num ≠ 0) (fun t => by rcases Classical.em ((gR (d.rows.getD j []) (t + 1)).num ≠ 0) with h | h; exact .inl h; exact .inr h) d.outs.length with hall | ⟨k, hk, hne, hall⟩
    · exfalso
      obtain ⟨x, z, hsx, _, _⟩ := (beg_inj (n := n) (rows := rows)).sol (fun k => if k = 0 then 1 else 0)
      have hx0 : x 0 = 1 := by
        rename_i hN _
        have := hN 0 (by rw [beg_n]; omega)
        rw [beg_N (by omega)] at this
        simpa using this
      have e := ((h.e.s x z).2 hsx).1 j hjl
      rw [hB, hx0] at e
      unfold Dg.val at e
      rw [hc, sm_zero (fun t ht => by
        have : (dg d).a j (t + 1) = 0 := Rat.num_eq_zero.1 (Classical.not_not.1 (hall t ht))
        rw [this]; grind)] at e
      grind
    · have hne2 : gR (d.rows.getD j []) (k + 1) ≠ 0 := fun e => hne (by rw [e]; rfl)
      have p := pivD_is h.w.w.fit hjl hk hne2
      have q := p.eqv h.w.I
      have hok : (dg (pivD d j k)).Ok := by
        intro r hr
        rw [p.m] at hr
        by_cases hrj : r = j
        · rw [hrj, p.ij 0 (by omega) (by omega), hc]; grind
        · rw [p.rj r (by omega) hrj 0 (by omega) (by omega), hc]
          have := h.w.ok r hr
          grind
      refine ⟨pivD d j k, .piv j k hjl hj hk (fun t ht => Classical.not_not.1 (hall t ht)) hne (fit_of_end hs h hjl hk hne2), ⟨⟨h.w.w.piv hjl hk, q.j, hok, f1_piv _ _ _ _ h.w.f h.w.I p, fun v hv => ?_, fun v hv => ?_⟩, h.e.trans q⟩, ?_⟩
      · exact (q.v v).1 (.inl hv) |>.elim (h.w.vb v) (h.w.vn v)
      · exact (q.v v).1 (.inr hv) |>.elim (h.w.vb v) (h.w.vn v)
      · exact (p.non h.w.I 0).2 (.inl hB.symm)
theorem feas_ex : (∃ d1, Feas (begD n rows) false d1 ∧ ¬ ∃ y, FeasX n rows y) ∨ ∃ d1, Feas (begD n rows) true d1 ∧ End1 n rows d1 ∧ (dg d1).Non 0 := by
  have wf := beg_wf hs
  have hrl : (begD n rows).ins.length = rows.length := by simp [begD, insOf]
  rcases wor_spec (begD n rows).rows (begD n rows).ins.length with ⟨h, hall⟩ | ⟨i, h, hi, hn, hall⟩
  · have o : (dg (begD n rows)).Ok := fun r hr => by
      have := hall r hr
      have : ¬ (dg (begD n rows)).a r 0 < 0 := this
      grind
    have e1 : End1 n rows (begD n rows) := ⟨beg_onway hs o, DEqv.refl beg_inj⟩
    have hg : ¬ (dg (begD n rows)).a (dg (begD n rows)).m 0 < 0 := by rw [beg_m, (beg_g (j := 0)).2.1]; grind
    obtain ⟨d2, h2, h3, h4⟩ := feas2_ex hs e1 hg
    exact .inr ⟨d2, .yes _ _ (.good h) h2, h3, h4⟩
  · have hir : i < rows.length := by omega
    have hone : gR ((begD n rows).rows.getD i []) (0 + 1) = 1 := (beg_a hs (j := 0) hir).2.2
    have ho0 : 0 < (begD n rows).outs.length := by simp [begD, outsOf]
    have hne : gR ((begD n rows).rows.getD i []) (0 + 1) ≠ 0 := by rw [hone]; grind
    have p := pivD_is wf.fit hi ho0 hne
    have q := p.eqv beg_inj
    have f2 := f1_piv _ _ _ _ (beg_f1 hs) beg_inj p
    have hp1 : (dg (begD n rows)).a i (0 + 1) = 1 := hone
    have o2 : (dg (pivD (begD n rows) i 0)).Ok := by
      intro r hr
      rw [p.m] at hr
      have hn2 : (dg (begD n rows)).a i 0 < 0 := hn
      by_cases hri : r = i
      · rw [hri, p.ij 0 (by omega) (by omega), hp1]; grind
      · have h1 : (dg (begD n rows)).a r (0 + 1) = 1 := (beg_a hs (j := 0) (by rw [beg_m] at hr; exact hr)).2.2
        have hle : (dg (begD n rows)).a i 0 ≤ (dg (begD n rows)).a r 0 := hall r hr
        rw [p.rj r (by omega) hri 0 (by omega) (by omega), hp1, h1]; grind
    have hw : OnWay (F1 n rows) (n + 1 + rows.length) (pivD (begD n rows) i 0) := ⟨wf.piv hi ho0, q.j, o2, f2, fun v hv => by have := f2.2.2.1 v hv; omega, fun v hv => by have := f2.2.2.2 v hv; omega⟩
    obtain ⟨D, hD⟩ := f1_rep hs _ (beg_f1 hs) beg_inj
    obtain ⟨E, hE⟩ := f1_rep hs _ f2 q.j
    have pf := piv_fit wf.fit hD hi ho0 hne (wf.piv hi ho0).fit hE
    obtain ⟨m, b, d1, hc, he, hw1, hopt, hunb⟩ := climb_ex f1_piv (f1_rep hs) hw
    have e1 : End1 n rows d1 := ⟨hw1, q.trans he⟩
    have lr := lastR_eq hw1.w.fit
    have hb : b = true := by
      cases b with
      | true => rfl
      | false =>
        exfalso
        obtain ⟨k, hk, hpos, hrow⟩ := hunb rfl
        obtain ⟨g1, _⟩ := end1_goal hs e1
        -- far out along the column the goal is above 0
        let t : Rat := 1 + (-(dg d1).a (dg d1).m 0) / (dg d1).a (dg d1).m (k + 1)
        have ht0 : 0 ≤ t := by
          have h1 : 0 ≤ (-(dg d1).a (dg d1).m 0) * ((dg d1).a (dg d1).m (k + 1))⁻¹ := Rat.mul_nonneg (by grind) (Rat.le_of_lt (Rat.inv_pos.2 hpos))
          show 0 ≤ 1 + (-(dg d1).a (dg d1).m 0) / (dg d1).a (dg d1).m (k + 1)
          rw [Rat.div_def]; grind
        obtain ⟨x, hsx, hxk, hxn, hxb⟩ := hw1.I.sol1 hk t
        have hz := ((beg_sat hs x _).1 ((e1.e.s x _).1 hsx)).2
        have hx0 : 0 ≤ x 0 := by
          rcases (e1.e.v 0).2 (.inr ⟨0, by rw [beg_n]; omega, by rw [beg_N (by omega)]⟩) with ⟨j, hj, hB⟩ | ⟨c, hc2, hN⟩
          · have := hxb j hj
            rw [hB] at this
            rw [this]
            have h1 := hw1.ok j hj
            have h2 : 0 ≤ (dg d1).a j (k + 1) * t := Rat.mul_nonneg (by have h3 : ¬ (dg d1).a j (k + 1) < 0 := hrow j hj; grind) ht0
            grind
          · by_cases hck : c = k
            · rw [← hN, hck, hxk]; exact ht0
            · rw [← hN, hxn c hc2 hck]; exact Rat.le_refl
        have e : (dg d1).a (dg d1).m (k + 1) * t = (dg d1).a (dg d1).m (k + 1) - (dg d1).a (dg d1).m 0 := by
          show (dg d1).a (dg d1).m (k + 1) * (1 + (-(dg d1).a (dg d1).m 0) / (dg d1).a (dg d1).m (k + 1)) = _
          grind
        rw [e] at hz
        grind
    subst hb
    by_cases hneg : (dg d1).a (dg d1).m 0 < 0
    · refine .inl ⟨d1, .no d1 (.neg i m true d1 h hi pf hc (by rw [lr]; exact num_neg_iff.2 hneg)), ?_⟩
      rintro ⟨y, hy⟩
      obtain ⟨x, hsx, _, _, hxn⟩ := feas_sat hs hy
      have e := ((e1.e.s x 0).2 hsx).2
      unfold Dg.val at e
      have : sm (fun k => (dg d1).a (dg d1).m (k + 1) * x ((dg d1).N k)) (dg d1).n ≤ sm (fun _ => 0) (dg d1).n := sm_le fun k hk => by
        have h1 : 0 ≤ -(dg d1).a (dg d1).m (k + 1) * x ((dg d1).N k) := Rat.mul_nonneg (by have := hopt rfl k hk; grind) (hxn _)
        grind
      rw [sm_zero (f := fun _ => 0) (fun _ _ => rfl)] at this
      grind
    · obtain ⟨d2, h2, h3, h4⟩ := feas2_ex hs e1 hneg
      exact .inr ⟨d2, .yes d1 d2 (.pos i m true d1 h hi pf hc (by rw [lr]; exact fun e => hneg (num_neg_iff.1 e))) h2, h3, h4⟩
end
end Go.Proofs.Ytdegpgonphgbcaa
namespace Go.Proofs.Ytdegpgonphgbcaa
open Go.RowKit

/-- Where the last column is the last unit column, the last row does not matter. -/
theorem det_last : ∀ (m : Nat) (c : Nat → Nat → Rat), (∀ r, r < m + 1 → c m r = if r = m then 1 else 0) → det (m + 1) c = det m c
  | 0, c, h => by
    show sm (fun r => sgn r * c 0 r * 1) 1 = 1
    unfold sm sm
    rw [h 0 (by omega), if_pos rfl]
    unfold sgn; simp; grind
  | m + 1, c, h => by
    unfold det
    show sm _ (m + 1) + sgn (m + 1) * c 0 (m + 1) * det (m + 1) (fun j i => c (j + 1) (skip (m + 1) i)) = _
    have z : det (m + 1) (fun j i => c (j + 1) (skip (m + 1) i)) = 0 := det_zero (j := m) (by omega) fun i hi => by
      have e : skip (m + 1) i = i := by unfold skip; rw [if_pos (by omega)]
      show c (m + 1) (skip (m + 1) i) = 0
      rw [e, h i (by omega), if_neg (by omega)]
    rw [z, sm_congr (g := fun r => sgn r * c 0 r * det m (fun j i => c (j + 1) (skip r i))) (fun r hr => by
      rw [det_last m (fun j i => c (j + 1) (skip r i)) (fun i hi => by
        show c (m + 1) (skip r i) = _
        rw [h _ (skip_lt hi)]
        unfold skip
        by_cases hir : i < r
        · rw [if_pos hir, if_neg (by omega), if_neg (by omega)]
        · rw [if_neg hir]
          by_cases him : i = m
          · rw [if_pos (by omega), if_pos him]
          · rw [if_neg (by omega), if_neg him])])]
    grind
theorem sm_skip (f : Nat → Rat) {k : Nat} : ∀ {n : Nat}, k < n + 1 → sm f (n + 1) = f k + sm (fun c => f (skip k c)) n
  | 0, h => by
    have : k = 0 := by omega
    subst this
    show sm f 0 + f 0 = f 0 + 0; unfold sm; grind
  | n + 1, h => by
    by_cases e : k = n + 1
    · subst e
      show sm f (n + 1) + f (n + 1) = _
      rw [sm_congr (f := fun c => f (skip (n + 1) c)) (g := f) (fun c hc => by unfold skip; rw [if_pos hc])]; grind
    · have ih := sm_skip f (k := k) (n := n) (by omega)
      show sm f (n + 1) + f (n + 1) = f k + (sm (fun c => f (skip k c)) n + f (skip k n))
      rw [ih, show skip k n = n + 1 by unfold skip; rw [if_neg (by omega)]]; grind
theorem skip_ne (k c : Nat) : skip k c ≠ k := by unfold skip; split <;> omega
theorem skip_inj {k c c' : Nat} (h : skip k c = skip k c') : c = c' := by unfold skip at h; (repeat' split at h) <;> omega
theorem skip_onto {k v : Nat} (h : v ≠ k) : ∃ c, skip k c = v ∧ (v < k → c = v) ∧ (k < v → c + 1 = v) := by
  by_cases hv : v < k
  · exact ⟨v, by unfold skip; rw [if_pos hv], fun _ => rfl, fun h => by omega⟩
  · exact ⟨v - 1, by unfold skip; rw [if_neg (by omega)]; omega, fun h => by omega, fun _ => by omega⟩
theorem erase_get {α : Type} {l : List α} {k c : Nat} : (l.eraseIdx k)[c]? = l[skip k c]? := by
  rw [List.getElem?_eraseIdx]
  unfold skip
  split <;> rfl
theorem iAt_erase {l : List Int} {k c : Nat} : iAt (l.eraseIdx k) (c : Int) = iAt l (skip k c : Nat) := by
  unfold iAt
  rw [Int.toNat_natCast, Int.toNat_natCast, List.getD_eq_getElem?_getD, List.getD_eq_getElem?_getD, erase_get]
theorem gR_erase {l : List Rat} {k c : Nat} : gR (l.eraseIdx k) c = gR l (skip k c) := by
  unfold gR
  rw [List.getD_eq_getElem?_getD, List.getD_eq_getElem?_getD, erase_get]
theorem skip_succ (k c : Nat) : skip (k + 1) (c + 1) = skip k c + 1 := by unfold skip; split <;> split <;> omega
theorem skip_zero (k : Nat) : skip (k + 1) 0 = 0 := by unfold skip; rw [if_pos (by omega)]
section
variable {d : Dc} {k0 : Nat} (hidx : idxP d.outs 0 = (k0 : Int)) (w : DcFit d) (hk0 : k0 < d.outs.length)
include hidx
theorem drop_row {r : Nat} (hr : r < d.rows.length) : (dropD d).rows.getD r [] = (d.rows.getD r []).eraseIdx (k0 + 1) := by
  rw [dropD_some hidx]
  dsimp only
  rw [List.getD_eq_getElem?_getD, List.getElem?_map, getD_row hr]; rfl
theorem drop_N (c : Nat) : (dg (dropD d)).N c = (dg d).N (skip k0 c) := by
  show (iAt (dropD d).outs (c : Int)).toNat = (iAt d.outs ((skip k0 c : Nat) : Int)).toNat
  rw [dropD_some hidx]
  dsimp only
  rw [iAt_erase]
theorem drop_B (i : Nat) : (dg (dropD d)).B i = (dg d).B i := by
  show (iAt (dropD d).ins (i : Int)).toNat = (iAt d.ins (i : Int)).toNat
  rw [dropD_some hidx]
theorem drop_m : (dg (dropD d)).m = (dg d).m := by
  show (dropD d).ins.length = d.ins.length
  rw [dropD_some hidx]
theorem drop_a {r : Nat} (hr : r < d.rows.length) (c : Nat) : (dg (dropD d)).a r (c + 1) = (dg d).a r (skip k0 c + 1) ∧ (dg (dropD d)).a r 0 = (dg d).a r 0 := by
  show gR ((dropD d).rows.getD r []) (c + 1) = gR (d.rows.getD r []) (skip k0 c + 1) ∧ gR ((dropD d).rows.getD r []) 0 = gR (d.rows.getD r []) 0
  rw [drop_row hidx hr, gR_erase, gR_erase, skip_succ, skip_zero]
  exact ⟨rfl, rfl⟩
include hk0
theorem drop_n : (dg (dropD d)).n + 1 = (dg d).n := by
  show (dropD d).outs.length + 1 = d.outs.length
  rw [dropD_some hidx]
  dsimp only
  rw [List.length_eraseIdx_of_lt hk0]; omega
end
end Go.Proofs.Ytdegpgonphgbcaa
namespace Go.Proofs.Ytdegpgonphgbcaa
open Go.RowKit

/-- The dictionary without the variable 0, its last row not said. -/
structure Mid (n : Nat) (rows : List MRow) (e : Dc) (D : Rat) : Prop where
  fit : DcFit e
  m : e.ins.length = rows.length
  I : (dg e).Inj
  i0 : ∀ z ∈ e.ins, 0 ≤ z
  o0 : ∀ z ∈ e.outs, 0 ≤ z
  var : ∀ v, ((dg e).Bas v ∨ (dg e).Non v) ↔ 1 ≤ v ∧ v ≤ n + rows.length
  wD : Whole D
  nD : D ≠ 0
  bD : Ab D 382637520
  row : ∀ j x, j < rows.length → x < e.outs.length → Big ((dg e).a j (x + 1)) D 382637520
  con : ∀ j, j < rows.length → Big ((dg e).a j 0) D 2125764000
  c0 : ∀ r, r < rows.length → sm (fun j => (dg e).a j 0 * mcol n rows.length rows [] (fun _ => 0) ((dg e).B j) r) rows.length = ((rowD rows r).2 : Rat)
  ck : ∀ c, c < e.outs.length → ∀ r, r < rows.length → sm (fun j => (dg e).a j (c + 1) * mcol n rows.length rows [] (fun _ => 0) ((dg e).B j) r) rows.length = - mcol n rows.length rows [] (fun _ => 0) ((dg e).N c) r
  dt : det rows.length (fun j => mcol n rows.length rows [] (fun _ => 0) ((dg e).B j)) ≠ 0
  ok : ∀ i, i < rows.length → 0 ≤ (dg e).a i 0
  sat : ∀ x : Nat → Rat, (∀ i, i < rows.length → x ((dg e).B i) = (dg e).val i x) ↔ ∀ i, i < rows.length → x (n + 1 + i) = ((rowD rows i).2 : Rat) - dotA rows i (fun j => x (j + 1))
theorem mcol_same {n m : Nat} {rows : List MRow} {g g' : List (Int × Int)} {c c' : Nat → Rat} {v r : Nat} (hv : 1 ≤ v) (hr : r < m) : mcol n m rows g c v r = mcol n m rows g' c' v r := by
  have h0 : ¬ v = 0 := by omega
  unfold mcol
  rw [if_neg h0, if_neg h0]
  by_cases h : v ≤ n
  · rw [if_pos h, if_pos h, if_pos hr, if_pos hr]
  · rw [if_neg h, if_neg h]
section
variable {n : Nat} {rows : List MRow} {goal : List (Int × Int)} {c0 : Int} (hs : SmallP n rows goal c0)
include hs
theorem mid_of {d : Dc} (h : End1 n rows d) (hN : (dg d).Non 0) : ∃ D, Mid n rows (dropD d) D := by
  have hm : (dg d).m = rows.length := h.w.f.1
  have hml : d.ins.length = rows.length := hm
  obtain ⟨k0, hidx, hk0, hN0⟩ : ∃ k0 : Nat, idxP d.outs 0 = (k0 : Int) ∧ k0 < d.outs.length ∧ (dg d).N k0 = 0 := by
    rcases idx_spec d.outs 0 with ⟨_, hall⟩ | ⟨k, hk, hkl, hz⟩
    · obtain ⟨k, hk, e⟩ := hN
      have h0 := h.w.w.o0 _ (iAt_mem hk)
      have e : (iAt d.outs (k : Int)).toNat = 0 := e
      exact absurd (by omega) (hall k hk)
    · exact ⟨k, hk, hkl, by show (iAt d.outs (k : Int)).toNat = 0; rw [hz]; rfl⟩
  have hrl := h.w.w.fit.rows
  have dn := drop_n hidx hk0
  have dB := drop_B hidx
  have dN := drop_N hidx
  have da := fun r (hr : r < rows.length) c => drop_a hidx (r := r) (by omega) c
  have hn1 : (dg d).n = d.outs.length := rfl
  have hn2 : (dg (dropD d)).n = (dropD d).outs.length := rfl
  have sk : ∀ c, c < (dropD d).outs.length → skip k0 c < d.outs.length := fun c hc => by
    have := skip_lt (r := k0) hc; omega
  have hI : (dg (dropD d)).Inj := by
    refine ⟨fun i j hi hj e => ?_, fun i j hi hj e => ?_, fun i k hi hk e => ?_⟩
    · rw [drop_m hidx] at hi hj
      rw [dB, dB] at e
      exact h.w.I.b i j hi hj e
    · rw [dN, dN] at e
      exact skip_inj (h.w.I.n _ _ (sk i hi) (sk j hj) e)
    · rw [drop_m hidx] at hi
      rw [dB, dN] at e
      exact h.w.I.bn i _ hi (sk k hk) e
  have hvar0 : ∀ v, ((dg d).Bas v ∨ (dg d).Non v) ↔ v ≤ n + rows.length := fun v => by
    rw [h.e.v]
    constructor
    · rintro (⟨i, hi, e⟩ | ⟨k, hk, e⟩)
      · rw [beg_m] at hi
        rw [beg_B hi] at e; omega
      · rw [beg_n] at hk
        rw [beg_N hk] at e; omega
    · intro hv
      by_cases hvn : v < n + 1
      · exact .inr ⟨v, by rw [beg_n]; exact hvn, beg_N hvn⟩
      · exact .inl ⟨v - n - 1, by rw [beg_m]; omega, by rw [beg_B (by omega)]; omega⟩
  have hbn0 : ∀ i, i < rows.length → (dg d).B i ≠ 0 := fun i hi e => h.w.I.bn i k0 (by omega) hk0 (by rw [e, hN0])
  have hvar : ∀ v, ((dg (dropD d)).Bas v ∨ (dg (dropD d)).Non v) ↔ 1 ≤ v ∧ v ≤ n + rows.length := fun v => by
    constructor
    · rintro (⟨i, hi, e⟩ | ⟨k, hk, e⟩)
      · rw [drop_m hidx, hm] at hi
        rw [dB] at e
        have := (hvar0 v).1 (.inl ⟨i, by omega, e⟩)
        have := hbn0 i hi
        omega
      · rw [dN] at e
        have := (hvar0 v).1 (.inr ⟨_, sk k hk, e⟩)
        have h2 : (dg d).N (skip k0 k) ≠ 0 := fun q => skip_ne k0 k (h.w.I.n _ _ (sk k hk) hk0 (by rw [q, hN0]))
        omega
    · rintro ⟨h1, h2⟩
      rcases (hvar0 v).2 h2 with ⟨i, hi, e⟩ | ⟨k, hk, e⟩
      · exact .inl ⟨i, by rw [drop_m hidx]; exact hi, by rw [dB]; exact e⟩
      · have hkk : k ≠ k0 := fun q => by rw [q, hN0] at e; omega
        obtain ⟨c, hc, h3, h4⟩ := skip_onto hkk
        refine .inr ⟨c, ?_, by rw [dN, hc]; exact e⟩
        have hk : k < d.outs.length := hk
        show c < (dropD d).outs.length
        by_cases hlt : k < k0
        · have := h3 hlt; omega
        · have := h4 (by omega); omega
  obtain ⟨hfm, hcr, _, _⟩ := h.w.f
  obtain ⟨D, hD⟩ := f1_rep hs _ h.w.f h.w.I
  have colz : ∀ j, j < rows.length → (dg d).Bz (n + 1 + rows.length) j = (dg d).B j := fun j hj => by unfold Dg.Bz; rw [if_pos (by omega)]
  have colsame : ∀ j r, j < rows.length → r < rows.length → mcol n rows.length rows [] (col0 rows.length) ((dg d).B j) r = mcol n rows.length rows [] (fun _ => 0) ((dg d).B j) r := fun j r hj hr => mcol_same (by have := hbn0 j hj; omega) hr
  have hz0 : ∀ r, r < rows.length → mcol n rows.length rows [] (col0 rows.length) ((dg d).Bz (n + 1 + rows.length) rows.length) r = 0 := fun r hr => by
    rw [← hm, bz_last, hm, mcol_unit, if_neg (by omega)]
  have hsum : ∀ (y : Nat → Rat) r, r < rows.length → sm (fun j => y j * mcol n rows.length rows [] (col0 rows.length) ((dg d).Bz (n + 1 + rows.length) j) r) (rows.length + 1) = sm (fun j => y j * mcol n rows.length rows [] (fun _ => 0) ((dg d).B j) r) rows.length := fun y r hr => by
    show sm _ rows.length + y rows.length * mcol n rows.length rows [] (col0 rows.length) ((dg d).Bz (n + 1 + rows.length) rows.length) r = _
    rw [hz0 r hr, sm_congr (g := fun j => y j * mcol n rows.length rows [] (fun _ => 0) ((dg d).B j) r) (fun j hj => by rw [colz j hj, colsame j r hj hr])]
    grind
  have hfd := dropD_fit (onway_ok h.w)
  refine ⟨D, hfd, by rw [← hml]; exact drop_m hidx, hI, ?_, ?_, hvar, hD.w, hD.ne, hD.bd, ?_, ?_, ?_, ?_, ?_, ?_, ?_⟩
  · rw [dropD_some hidx]; exact h.w.w.i0
  · rw [dropD_some hidx]; exact fun z hz => h.w.w.o0 z (List.mem_of_mem_eraseIdx hz)
  · intro j x hj hx
    rw [(da j hj x).1]
    exact hD.row j _ (by omega) (sk x hx)
  · intro j hj
    rw [(da j hj 0).2]
    exact hD.con j (by omega)
  · intro r hr
    have e := hcr.c0 r (by omega)
    rw [hm] at e
    rw [hsum (fun j => (dg d).a j 0) r hr] at e
    rw [sm_congr (g := fun j => (dg d).a j 0 * mcol n rows.length rows [] (fun _ => 0) ((dg d).B j) r) (fun j hj => by rw [dB, (da j hj 0).2]), e]
    unfold mrhs
    rw [if_pos (by omega)]; rfl
  · intro c hc r hr
    have e := hcr.ck (skip k0 c) (sk c hc) r (by omega)
    rw [hm] at e
    rw [hsum (fun j => (dg d).a j (skip k0 c + 1)) r hr] at e
    rw [sm_congr (g := fun j => (dg d).a j (skip k0 c + 1) * mcol n rows.length rows [] (fun _ => 0) ((dg d).B j) r) (fun j hj => by rw [dB, (da j hj c).1]), e, dN]
    have : (dg d).N (skip k0 c) ≠ 0 := fun q => skip_ne k0 c (h.w.I.n _ _ (sk c hc) hk0 (by rw [q, hN0]))
    rw [mcol_same (g := []) (g' := []) (c := col0 rows.length) (c' := fun _ => 0) (by omega) hr]
  · have e := hcr.dt
    rw [hm, det_last rows.length _ (fun r hr => by
      show mcol n rows.length rows [] (col0 rows.length) ((dg d).Bz (n + 1 + rows.length) rows.length) r = _
      rw [← hm, bz_last, hm, mcol_unit])] at e
    rw [det_congr (e := fun j => mcol n rows.length rows [] (col0 rows.length) ((dg d).Bz (n + 1 + rows.length) j)) (fun j hj i hi => by
      show mcol n rows.length rows [] (fun _ => 0) ((dg (dropD d)).B j) i = mcol n rows.length rows [] (col0 rows.length) ((dg d).Bz (n + 1 + rows.length) j) i
      rw [dB, colz j hj, colsame j i hj hi])]
    exact e
  · intro i hi
    rw [(da i hi 0).2]
    exact h.w.ok i (by omega)
  · intro x
    -- the same values, the variable 0 set to 0
    let y : Nat → Rat := fun v => if v = 0 then 0 else x v
    have y0 : y 0 = 0 := rfl
    have yv : ∀ v, v ≠ 0 → y v = x v := fun v hv => if_neg hv
    have hval : ∀ i, i < rows.length → (dg (dropD d)).val i x = (dg d).val i y := fun i hi => by
      unfold Dg.val
      rw [hn1, show d.outs.length = (dropD d).outs.length + 1 by omega, sm_skip (fun k => (dg d).a i (k + 1) * y ((dg d).N k)) (k := k0) (by omega), hN0, y0, (da i hi 0).2, hn2,
        sm_congr (f := fun k => (dg (dropD d)).a i (k + 1) * x ((dg (dropD d)).N k)) (g := fun c => (dg d).a i (skip k0 c + 1) * y ((dg d).N (skip k0 c))) (fun c hc => by
          rw [(da i hi c).1, dN, yv _ (fun q => skip_ne k0 c (h.w.I.n _ _ (sk c hc) hk0 (by rw [q, hN0])))])]
      grind
    have hlow : (∀ i, i < rows.length → x ((dg (dropD d)).B i) = (dg (dropD d)).val i x) ↔ ∀ i, i < rows.length → y ((dg d).B i) = (dg d).val i y := by
      constructor
      · intro q i hi
        rw [yv _ (hbn0 i hi), ← dB, q i hi, hval i hi]
      · intro q i hi
        rw [dB, ← yv _ (hbn0 i hi), q i hi, hval i hi]
    have hd : ∀ i, dotA rows i (fun j => y (j + 1)) = dotA rows i (fun j => x (j + 1)) := fun i => by
      have : (fun j => y (j + 1)) = fun j => x (j + 1) := by funext j; exact yv _ (by omega)
      rw [this]
    rw [hlow]
    constructor
    · intro q i hi
      have hsat : (dg d).Sat y ((dg d).val (dg d).m y) := ⟨fun i hi => q i (by omega), rfl⟩
      have := ((beg_sat hs y _).1 ((h.e.s y _).1 hsat)).1 i hi
      rw [yv _ (by omega), y0, hd] at this
      rw [this]; grind
    · intro q i hi
      have hsat : (dg (begD n rows)).Sat y (- y 0) := (beg_sat hs y _).2 ⟨fun i hi => by rw [yv _ (by omega), y0, hd, q i hi]; grind, rfl⟩
      exact ((h.e.s y _).2 hsat).1 i (by omega)
end
end Go.Proofs.Ytdegpgonphgbcaa
namespace Go.Proofs.Ytdegpgonphgbcaa
open Go.RowKit

theorem Big.add {x y D X Y : Rat} (h : Big x D X) (k : Big y D Y) : Big (x + y) D (X + Y) := by
  have e : (x + y) * D = x * D + y * D := by grind
  exact ⟨by rw [e]; exact h.1.add k.1, by rw [e]; exact h.2.add k.2⟩
theorem Big.int {D B : Rat} {z : Int} (hD : Whole D) (bD : Ab D B) (h0 : -9 ≤ z) (h1 : z ≤ 9) : Big (z : Rat) D (9 * B) := ⟨(whole_int z).mul hD, (ab9 h0 h1).mul bD⟩
theorem Big.times {x D X : Rat} {z : Int} (h : Big x D X) (h0 : -9 ≤ z) (h1 : z ≤ 9) : Big ((z : Rat) * x) D (9 * X) := by
  have e : (z : Rat) * x * D = (z : Rat) * (x * D) := by grind
  exact ⟨by rw [e]; exact (whole_int z).mul h.1, by rw [e]; exact (ab9 h0 h1).mul h.2⟩
/-- What a variable counts in the first k terms of the goal. -/
def cst (n : Nat) (goal : List (Int × Int)) (k v : Nat) : Rat := if v = 0 then 0 else if v ≤ n then (coefF (goal.take k) ((v - 1 : Nat) : Int) : Rat) else 0
theorem cst_succ {n : Nat} {goal : List (Int × Int)} {m : Int} (h : TermsOk goal n m goal.length) {k i : Nat} {co : Int} (ht : goal[k]? = some ((i : Int), co)) (hi : i < n) (v : Nat) : cst n goal (k + 1) v = cst n goal k v + if v = i + 1 then (co : Rat) else 0 := by
  unfold cst
  by_cases h0 : v = 0
  · rw [if_pos h0, if_pos h0, if_neg (by omega)]; grind
  · rw [if_neg h0, if_neg h0]
    by_cases hn : v ≤ n
    · rw [if_pos hn, if_pos hn, coefF_take h ht]
      dsimp only
      by_cases e : v = i + 1
      · have z := coefF_take0 h ht
        dsimp only at z
        rw [if_pos (by omega), if_pos e, show v - 1 = i by omega, z]; simp only [Rat.intCast_zero]; grind
      · rw [if_neg (by omega), if_neg e]; grind
    · rw [if_neg hn, if_neg hn, if_neg (by omega)]; grind
section
variable {n : Nat} {rows : List MRow} {goal : List (Int × Int)} {c0 : Int} (hs : SmallP n rows goal c0) {e : Dc} {D : Rat} (M : Mid n rows e D)
include M
theorem mid_bas0 {i : Nat} (hi : i < rows.length) : 1 ≤ (dg e).B i := ((M.var _).1 (.inl ⟨i, by show i < e.ins.length; rw [M.m]; exact hi, rfl⟩)).1
theorem mid_at {j : Nat} (hj : j < n) : (∃ k : Nat, idxP e.outs ((j : Int) + 1) = (k : Int) ∧ k < e.outs.length ∧ (dg e).N k = j + 1) ∨ (idxP e.outs ((j : Int) + 1) = -1 ∧ ∃ i : Nat, idxP e.ins ((j : Int) + 1) = (i : Int) ∧ i < rows.length ∧ (dg e).B i = j + 1) := by
  rcases idx_spec e.outs ((j : Int) + 1) with ⟨h, hall⟩ | ⟨k, h, hk, hz⟩
  · refine .inr ⟨h, ?_⟩
    rcases (M.var (j + 1)).2 ⟨by omega, by omega⟩ with ⟨i, hi, hB⟩ | ⟨k, hk, hN⟩
    · have hi' : i < e.ins.length := hi
      rcases idx_spec e.ins ((j : Int) + 1) with ⟨_, hall2⟩ | ⟨i2, h2, hi2, hz2⟩
      · have h0 := M.i0 _ (iAt_mem hi')
        have hB : (iAt e.ins (i : Int)).toNat = j + 1 := hB
        exact absurd (by omega) (hall2 i hi')
      · exact ⟨i2, h2, by rw [← M.m]; exact hi2, by show (iAt e.ins (i2 : Int)).toNat = j + 1; rw [hz2]; omega⟩
    · have h0 := M.o0 _ (iAt_mem hk)
      have hN : (iAt e.outs (k : Int)).toNat = j + 1 := hN
      exact absurd (by omega) (hall k hk)
  · exact .inl ⟨k, h, hk, by show (iAt e.outs (k : Int)).toNat = j + 1; rw [hz]; omega⟩
/-- The goal's row with the first k terms. -/
structure GoalAt (n : Nat) (goal : List (Int × Int)) (c0 : Int) (e : Dc) (D : Rat) (g : List Rat) (k : Nat) : Prop where
  len : g.length = e.outs.length + 1
  big : ∀ j, j < e.outs.length + 1 → Big (gR g j) D (4000000000 + k * 20000000000)
  val : ∀ x : Nat → Rat, (∀ i, i < e.ins.length → x ((dg e).B i) = (dg e).val i x) → gR g 0 + sm (fun c => gR g (c + 1) * x ((dg e).N c)) e.outs.length = (c0 : Rat) + dotY goal (fun j => x (j + 1)) k
  c0 : gR g 0 = (c0 : Rat) + sm (fun j => (dg e).a j 0 * cst n goal k ((dg e).B j)) e.ins.length
  ck : ∀ c, c < e.outs.length → gR g (c + 1) = cst n goal k ((dg e).N c) + sm (fun j => (dg e).a j (c + 1) * cst n goal k ((dg e).B j)) e.ins.length
include hs
omit M in
theorem small_term {k : Nat} {t : Int × Int} (ht : goal[k]? = some t) : ∃ i : Nat, t.1 = (i : Int) ∧ i < n ∧ -9 ≤ t.2 ∧ t.2 ≤ 9 := by
  obtain ⟨h0, h1, _, _, h2, h3⟩ := hs.2.2.2.1 k t (List.getElem?_eq_some_iff.1 ht).1 ht
  exact ⟨t.1.toNat, by omega, by omega, h2, h3⟩
theorem goalAt_all : ∀ k : Nat, k ≤ goal.length → GoalAt n goal c0 e D (goalAt e (goal0 e c0) goal k) k
  | 0, _ => by
    have hg0 : gR (goal0 e c0) 0 = (c0 : Rat) := by
      unfold goal0
      rw [gR_put (by simp), if_pos rfl]
    have hgs : ∀ j, j < e.outs.length → gR (goal0 e c0) (j + 1) = 0 := fun j hj => by
      unfold goal0
      rw [gR_put (by simpa using hj), if_neg (by omega)]
      unfold gR
      rw [List.getD_eq_getElem?_getD, List.getElem?_replicate, if_pos (by omega)]; rfl
    have hcst : ∀ v, cst n goal 0 v = 0 := fun v => by
      unfold cst
      (repeat' split) <;> first | rfl | (show ((0 : Int) : Rat) = 0; simp)
    rw [goalAt_zero]
    refine ⟨by unfold goal0; simp, fun j hj => ?_, fun x _ => ?_, ?_, fun c hc => ?_⟩
    · have hk := hs.2.2.2.2
      cases j with
      | zero => rw [hg0]; exact (Big.int M.wD M.bD hk.1 hk.2.1).le (by simp; grind)
      | succ j =>
        rw [hgs j (by omega)]
        exact ⟨⟨0, by rw [Rat.zero_mul]; simp⟩, by rw [Rat.zero_mul]; exact ab_zero (by simp; grind)⟩
    · rw [hg0, sm_zero (fun c hc => by rw [hgs c hc]; grind)]
      unfold dotY; simp
    · rw [hg0, sm_zero (fun j _ => by rw [hcst]; grind)]; grind
    · rw [hgs c hc, hcst, sm_zero (fun j _ => by rw [hcst]; grind)]; grind
  | k + 1, hk => by
    have ih := goalAt_all k (by omega)
    obtain ⟨⟨tof, co⟩, ht⟩ : ∃ t, goal[k]? = some t := ⟨_, List.getElem?_eq_getElem (by omega)⟩
    obtain ⟨i, hi0, hin, hc0, hc1⟩ := small_term hs ht
    dsimp only at hi0 hc0 hc1
    subst hi0
    rw [goalAt_succ ht]
    have hbound : (4000000000 : Rat) + (k : Nat) * 20000000000 + 20000000000 = 4000000000 + ((k + 1 : Nat) : Rat) * 20000000000 := by rw [Rat.natCast_add]; grind
    have cs := cst_succ hs.2.2.2.1 ht hin
    rcases mid_at M hin with ⟨c, hc, hcl, hN⟩ | ⟨hno, r, hr, hrl, hB⟩
    · have e1 : goalStep e (goalAt e (goal0 e c0) goal k) ((i : Int), co) = (goalAt e (goal0 e c0) goal k).set (c + 1) (gR (goalAt e (goal0 e c0) goal k) (c + 1) + (co : Rat)) := by
        unfold goalStep
        dsimp only
        rw [hc, if_pos (by omega), Int.toNat_natCast]
      rw [e1]
      have ge : ∀ j, j < e.outs.length + 1 → gR ((goalAt e (goal0 e c0) goal k).set (c + 1) (gR (goalAt e (goal0 e c0) goal k) (c + 1) + (co : Rat))) j = if j = c + 1 then gR (goalAt e (goal0 e c0) goal k) (c + 1) + (co : Rat) else gR (goalAt e (goal0 e c0) goal k) j := fun j hj => gR_put (by rw [ih.len]; exact hj) _ _
      have nb : ∀ j, j < e.ins.length → (dg e).B j ≠ i + 1 := fun j hj q => M.I.bn j c hj hcl (by rw [q, hN])
      refine ⟨by rw [List.length_set]; exact ih.len, fun j hj => ?_, fun x hx => ?_, ?_, fun c' hc' => ?_⟩
      · rw [ge j hj]
        split
        · exact ((ih.big (c + 1) (by omega)).add (Big.int M.wD M.bD hc0 hc1)).le (by rw [← hbound]; grind)
        · exact (ih.big j hj).le (by rw [← hbound]; grind)
      · rw [ge 0 (by omega), if_neg (by omega)]
        rw [sm_one (f := fun c' => gR ((goalAt e (goal0 e c0) goal k).set (c + 1) (gR (goalAt e (goal0 e c0) goal k) (c + 1) + (co : Rat))) (c' + 1) * x ((dg e).N c')) (g := fun c' => gR (goalAt e (goal0 e c0) goal k) (c' + 1) * x ((dg e).N c')) (k := c) hcl (fun j hj hne => by rw [ge (j + 1) (by omega), if_neg (by omega)])]
        rw [ge (c + 1) (by omega), if_pos rfl, dotY_succ ht, hN]
        have := ih.val x hx
        dsimp only
        rw [Int.toNat_natCast]
        grind
      · rw [ge 0 (by omega), if_neg (by omega), ih.c0, sm_congr (f := fun j => (dg e).a j 0 * cst n goal (k + 1) ((dg e).B j)) (g := fun j => (dg e).a j 0 * cst n goal k ((dg e).B j)) (fun j hj => by rw [cs, if_neg (nb j hj)]; grind)]
      · rw [sm_congr (f := fun j => (dg e).a j (c' + 1) * cst n goal (k + 1) ((dg e).B j)) (g := fun j => (dg e).a j (c' + 1) * cst n goal k ((dg e).B j)) (fun j hj => by rw [cs, if_neg (nb j hj)]; grind), ge (c' + 1) (by omega), cs]
        by_cases hcc : c' = c
        · rw [hcc, if_pos rfl, hN, if_pos rfl, ih.ck c hcl, hN]; grind
        · rw [if_neg (by omega), if_neg (fun q => hcc (M.I.n c' c hc' hcl (by rw [q, hN]))), ih.ck c' hc']; grind
    · have hrin : r < e.ins.length := by rw [M.m]; exact hrl
      have hrr : r < e.rows.length := by have := M.fit.rows; omega
      have e1 : goalStep e (goalAt e (goal0 e c0) goal k) ((i : Int), co) = goalAdd (goalAt e (goal0 e c0) goal k) (e.rows.getD r []) co := by
        unfold goalStep
        dsimp only
        rw [hno, if_neg (by omega), hr, Int.toNat_natCast]
      rw [e1]
      have rl := M.fit.row hrr
      have ge : ∀ j, j < e.outs.length + 1 → gR (goalAdd (goalAt e (goal0 e c0) goal k) (e.rows.getD r []) co) j = gR (goalAt e (goal0 e c0) goal k) j + (co : Rat) * (dg e).a r j := fun j hj => by
        have h1 : (goalAt e (goal0 e c0) goal k)[j]? = some (gR (goalAt e (goal0 e c0) goal k) j) := by
          unfold gR; rw [List.getD_eq_getElem?_getD, List.getElem?_eq_getElem (by rw [ih.len]; exact hj)]; rfl
        have h2 : (e.rows.getD r [])[j]? = some ((dg e).a r j) := by
          show _ = some (gR (e.rows.getD r []) j)
          unfold gR; rw [List.getD_eq_getElem?_getD, List.getD_eq_getElem?_getD, List.getElem?_eq_getElem (by rw [List.getD_eq_getElem?_getD] at rl; rw [rl]; exact hj)]; rfl
        exact gR_of (goalAdd_get h1 h2)
      have nn : ∀ c, c < e.outs.length → (dg e).N c ≠ i + 1 := fun c hc q => M.I.bn r c hrin hc (by rw [q, hB])
      have bs : ∀ y : Nat → Rat, sm (fun j => y j * cst n goal (k + 1) ((dg e).B j)) e.ins.length = sm (fun j => y j * cst n goal k ((dg e).B j)) e.ins.length + (co : Rat) * y r := fun y => by
        rw [sm_one (f := fun j => y j * cst n goal (k + 1) ((dg e).B j)) (g := fun j => y j * cst n goal k ((dg e).B j)) (k := r) hrin (fun j hj hne => by rw [cs, if_neg (fun q => hne (M.I.b j r hj hrin (by rw [q, hB])))]; grind), cs, if_pos hB]
        grind
      refine ⟨by rw [goalAdd_length]; exact ih.len, fun j hj => ?_, fun x hx => ?_, ?_, fun c hc => ?_⟩
      · rw [ge j hj]
        have hrow : Big ((dg e).a r j) D 2125764000 := by
          cases j with
          | zero => exact M.con r hrl
          | succ j => exact (M.row r j hrl (by omega)).le (by grind)
        exact ((ih.big j hj).add (hrow.times hc0 hc1)).le (by rw [← hbound]; grind)
      · rw [ge 0 (by omega), sm_congr (f := fun c => gR (goalAdd (goalAt e (goal0 e c0) goal k) (e.rows.getD r []) co) (c + 1) * x ((dg e).N c)) (g := fun c => gR (goalAt e (goal0 e c0) goal k) (c + 1) * x ((dg e).N c) + (co : Rat) * ((dg e).a r (c + 1) * x ((dg e).N c))) (fun c hc => by rw [ge (c + 1) (by omega)]; grind), sm_add, sm_mul, dotY_succ ht]
        have h1 := ih.val x hx
        have h2 := hx r hrin
        rw [hB] at h2
        unfold Dg.val at h2
        dsimp only
        rw [Int.toNat_natCast, h2]
        show _ = (c0 : Rat) + (dotY goal (fun j => x (j + 1)) k + (co : Rat) * ((dg e).a r 0 + sm (fun k => (dg e).a r (k + 1) * x ((dg e).N k)) e.outs.length))
        grind
      · rw [ge 0 (by omega), ih.c0, bs (fun j => (dg e).a j 0)]; grind
      · rw [ge (c + 1) (by omega), ih.ck c hc, bs (fun j => (dg e).a j (c + 1)), cs, if_neg (nn c hc)]; grind
end
end Go.Proofs.Ytdegpgonphgbcaa
namespace Go.Proofs.Ytdegpgonphgbcaa
open Go.RowKit

/-- What holds in the second phase. -/
def F2 (n : Nat) (rows : List MRow) (goal : List (Int × Int)) (c0 : Int) (d : Dg) : Prop := d.m = rows.length ∧ Crd (mcol n rows.length rows goal (fun _ => 0)) (fun r => mrhs rows.length rows c0 r) (n + 1 + rows.length) d ∧ ∀ v, (d.Bas v ∨ d.Non v) → 1 ≤ v ∧ v ≤ n + rows.length
section
variable {n : Nat} {rows : List MRow} {goal : List (Int × Int)} {c0 : Int} (hs : SmallP n rows goal c0)
theorem f2_piv (d e : Dg) (i k : Nat) (f : F2 n rows goal c0 d) (I : d.Inj) (h : IsPiv d i k e) : F2 n rows goal c0 e := by
  obtain ⟨hm, hc, hb⟩ := f
  have q := h.eqv I
  exact ⟨h.m.trans hm, hc.piv h, fun v hv => hb v ((q.v v).1 hv)⟩
include hs
theorem bas2 : Bas (rows.length + 1) (fun v => 1 ≤ v ∧ v ≤ n) (mcol n rows.length rows goal (fun _ => 0)) (fun r => mrhs rows.length rows c0 r) (n + 1 + rows.length) :=
  bas_of hs (fun v => coef_nine (by decide) hs.2.2.2.1 v) (fun r => ⟨⟨0, by simp⟩, by grind, by grind⟩) ⟨hs.2.2.2.2.1, hs.2.2.2.2.2.1⟩ (fun v hv => by
    by_cases h : v = 0
    · exact .inr ⟨h, fun _ => rfl⟩
    · exact .inl (by omega))
theorem f2_rep (d : Dg) (f : F2 n rows goal c0 d) (I : d.Inj) : ∃ D, Rep d D := by
  obtain ⟨hm, hc, hb⟩ := f
  have h6 : d.m ≤ 6 := by have := hs.2.2.1; omega
  have hn6 : n ≤ 6 := by have := hs.2.1; omega
  have b : Bas (d.m + 1) (fun v => 1 ≤ v ∧ v ≤ n) (mcol n rows.length rows goal (fun _ => 0)) (fun r => mrhs rows.length rows c0 r) (n + 1 + rows.length) := by rw [hm]; exact bas2 hs
  obtain ⟨wD, bD⟩ := rep_D b h6
  refine ⟨_, wD, hc.dt, bD, fun j x hj hx => ?_, fun j hj => rep_row0 b hc h6 hj, rep_goal0 b hc h6⟩
  by_cases hjm : j < d.m
  · exact rep_row b hc h6 hjm hx
  · have hj2 : j = d.m := by omega
    rw [hj2]
    exact rep_goal b hc h6 hx (fun v hv => ⟨hv.1, by omega⟩) I
variable {e : Dc} {D : Rat} (M : Mid n rows e D)
/-- The dictionary with the goal's row. -/
def aimE (e : Dc) (c0 : Int) (goal : List (Int × Int)) : Dc := ⟨e.ins, e.outs, e.rows.set e.ins.length (goalP e c0 goal)⟩
include M
theorem aim_fit : AimFit e c0 goal := by
  intro i t ht
  have hil := (List.getElem?_eq_some_iff.1 ht).1
  obtain ⟨j, hj, hjn, hc0, hc1⟩ := small_term hs ht
  have G := goalAt_all hs M i (by omega)
  have hl6 : goal.length ≤ 6 := by have := terms_len hs.2.2.2.1 hs.1; have := hs.2.1; omega
  have hi6 : (i : Rat) ≤ 6 := by
    have : ((i : Nat) : Rat) ≤ ((6 : Nat) : Rat) := Rat.natCast_le_natCast.2 (by omega)
    exact this
  have hb : (4000000000 : Rat) + (i : Nat) * 20000000000 ≤ 124000000000 := by grind
  have fitb : ∀ {x C : Rat}, Big x D C → C ≤ 1152921504606846976 → Fit x := fun h hC => quo_fit' M.wD M.nD M.bD h (by grind) hC
  have hn6 := hs.2.1
  refine ⟨⟨by omega, by omega⟩, fit_int (by omega) (by omega), fun x hx => ?_, fun k hk => ?_, fun hno => ?_⟩
  · obtain ⟨p, hp⟩ := List.getElem?_of_mem hx
    have hpl := (List.getElem?_eq_some_iff.1 hp).1
    rw [G.len] at hpl
    have := (G.big p hpl).le hb
    rw [gR_of hp] at this
    exact fitb this (by grind)
  · rw [hj] at hk
    rcases mid_at M hjn with ⟨k', hk', hkl, _⟩ | ⟨hno, _⟩
    · have : k = k' := by omega
      subst this
      exact fitb (((G.big (k + 1) (by omega)).le hb).add (Big.int M.wD M.bD hc0 hc1)) (by grind)
    · omega
  · rw [hj] at hno ⊢
    rcases mid_at M hjn with ⟨k', hk', hkl, _⟩ | ⟨_, r, hr, hrl, _⟩
    · omega
    · refine ⟨r, hr, fun row hrow => ?_⟩
      have hg : e.rows.getD r [] = row := by rw [List.getD_eq_getElem?_getD, hrow]; rfl
      have hbig : ∀ p y, row[p]? = some y → Big y D 2125764000 := fun p y hy => by
        have hpl := (List.getElem?_eq_some_iff.1 hy).1
        have hrw := M.fit.cols row (List.mem_of_getElem? hrow)
        have ey : y = (dg e).a r p := by show y = gR (e.rows.getD r []) p; rw [hg, gR_of hy]
        rw [ey]
        cases p with
        | zero => exact M.con r hrl
        | succ p => exact (M.row r p hrl (by omega)).le (by grind)
      refine ⟨fun y hy => ?_, fun p x y hy hx => ?_⟩
      · obtain ⟨p, hp⟩ := List.getElem?_of_mem hy
        exact fitb (hbig p y hp) (by grind)
      · have h1 := (hbig p y hy).times hc0 hc1
        have hpl := (List.getElem?_eq_some_iff.1 hx).1
        rw [G.len] at hpl
        have h2 := (G.big p hpl).le hb
        rw [gR_of hx] at h2
        exact ⟨fitb h1 (by grind), fitb (h2.add h1) (by grind)⟩
omit hs in
theorem aimE_row {r : Nat} (hr : r < rows.length) (j : Nat) : (dg (aimE e c0 goal)).a r j = (dg e).a r j := by
  show gR ((e.rows.set e.ins.length (goalP e c0 goal)).getD r []) j = gR (e.rows.getD r []) j
  rw [List.getD_eq_getElem?_getD, List.getElem?_set, if_neg (by rw [M.m]; omega), List.getD_eq_getElem?_getD]
omit hs in
theorem aimE_goal (j : Nat) : (dg (aimE e c0 goal)).a rows.length j = gR (goalP e c0 goal) j := by
  show gR ((e.rows.set e.ins.length (goalP e c0 goal)).getD rows.length []) j = _
  have := M.fit.rows
  rw [List.getD_eq_getElem?_getD, List.getElem?_set, if_pos M.m, if_pos (by omega)]; rfl
theorem goal_end : GoalAt n goal c0 e D (goalP e c0 goal) goal.length := goalAt_all hs M goal.length (Nat.le_refl _)
theorem aimE_fit : DcFit (aimE e c0 goal) := by
  refine ⟨by show (e.rows.set _ _).length = _; rw [List.length_set]; exact M.fit.rows, fun r hr => ?_, M.fit.i8, M.fit.o8⟩
  rcases List.mem_or_eq_of_mem_set hr with h | h
  · exact M.fit.cols r h
  · rw [h]; exact (goal_end hs M).len
theorem aimE_f2 : F2 n rows goal c0 (dg (aimE e c0 goal)) := by
  have hm : (dg (aimE e c0 goal)).m = rows.length := M.m
  have G := goal_end hs M
  have bz : ∀ j, j < rows.length → (dg (aimE e c0 goal)).Bz (n + 1 + rows.length) j = (dg e).B j := fun j hj => by
    unfold Dg.Bz
    rw [if_pos (by rw [hm]; exact hj)]; rfl
  have bl : (dg (aimE e c0 goal)).Bz (n + 1 + rows.length) rows.length = n + 1 + rows.length := by rw [← hm, bz_last, hm]
  have lastc : ∀ v, 1 ≤ v → v ≤ n + rows.length → mcol n rows.length rows goal (fun _ => 0) v rows.length = - cst n goal goal.length v := fun v h1 h2 => by
    unfold mcol cst
    rw [if_neg (show ¬ v = 0 by omega), if_neg (show ¬ v = 0 by omega)]
    by_cases h : v ≤ n
    · rw [if_pos h, if_pos h, if_neg (by omega), List.take_length]
    · rw [if_neg h, if_neg h, if_neg (by omega)]; grind
  have hsum : ∀ (y : Nat → Rat) r, r < rows.length → sm (fun j => y j * mcol n rows.length rows goal (fun _ => 0) ((dg (aimE e c0 goal)).Bz (n + 1 + rows.length) j) r) (rows.length + 1) = sm (fun j => y j * mcol n rows.length rows [] (fun _ => 0) ((dg e).B j) r) rows.length := fun y r hr => by
    show sm _ rows.length + y rows.length * mcol n rows.length rows goal (fun _ => 0) ((dg (aimE e c0 goal)).Bz (n + 1 + rows.length) rows.length) r = _
    rw [bl, mcol_unit, if_neg (by omega), sm_congr (g := fun j => y j * mcol n rows.length rows [] (fun _ => 0) ((dg e).B j) r) (fun j hj => by rw [bz j hj, mcol_same (mid_bas0 M hj) hr])]
    grind
  have hlast : ∀ y : Nat → Rat, sm (fun j => y j * mcol n rows.length rows goal (fun _ => 0) ((dg (aimE e c0 goal)).Bz (n + 1 + rows.length) j) rows.length) (rows.length + 1) = y rows.length - sm (fun j => y j * cst n goal goal.length ((dg e).B j)) rows.length := fun y => by
    show sm _ rows.length + y rows.length * mcol n rows.length rows goal (fun _ => 0) ((dg (aimE e c0 goal)).Bz (n + 1 + rows.length) rows.length) rows.length = _
    rw [bl, mcol_unit, if_pos rfl, sm_congr (g := fun j => (-1) * (y j * cst n goal goal.length ((dg e).B j))) (fun j hj => by
      have hv := (M.var _).1 (.inl ⟨j, by show j < e.ins.length; rw [M.m]; exact hj, rfl⟩)
      rw [bz j hj, lastc _ hv.1 hv.2]; grind), sm_mul]
    grind
  refine ⟨hm, ⟨fun r hr => ?_, fun c hc r hr => ?_, ?_⟩, fun v hv => (M.var v).1 hv⟩
  · rw [hm] at hr ⊢
    by_cases h : r < rows.length
    · rw [hsum (fun j => (dg (aimE e c0 goal)).a j 0) r h, sm_congr (g := fun j => (dg e).a j 0 * mcol n rows.length rows [] (fun _ => 0) ((dg e).B j) r) (fun j hj => by rw [aimE_row M hj]), M.c0 r h]
      unfold mrhs
      rw [if_pos (by omega)]; rfl
    · have : r = rows.length := by omega
      subst this
      have g := G.c0
      rw [M.m] at g
      rw [hlast (fun j => (dg (aimE e c0 goal)).a j 0), aimE_goal M, sm_congr (g := fun j => (dg e).a j 0 * cst n goal goal.length ((dg e).B j)) (fun j hj => by rw [aimE_row M hj]), g]
      unfold mrhs
      rw [if_neg (by omega)]; grind
  · rw [hm] at hr ⊢
    have hv := (M.var _).1 (.inr ⟨c, hc, rfl⟩)
    show sm _ _ = - mcol n rows.length rows goal (fun _ => 0) ((dg e).N c) r
    by_cases h : r < rows.length
    · rw [hsum (fun j => (dg (aimE e c0 goal)).a j (c + 1)) r h, sm_congr (g := fun j => (dg e).a j (c + 1) * mcol n rows.length rows [] (fun _ => 0) ((dg e).B j) r) (fun j hj => by rw [aimE_row M hj]), M.ck c hc r h, mcol_same (g := []) (g' := goal) (c := fun _ => 0) (c' := fun _ => 0) hv.1 h]
    · have : r = rows.length := by omega
      subst this
      have g := G.ck c hc
      rw [M.m] at g
      rw [hlast (fun j => (dg (aimE e c0 goal)).a j (c + 1)), aimE_goal M, sm_congr (g := fun j => (dg e).a j (c + 1) * cst n goal goal.length ((dg e).B j)) (fun j hj => by rw [aimE_row M hj]), g, lastc _ hv.1 hv.2]
      grind
  · rw [hm, det_last rows.length _ (fun r hr => by
      show mcol n rows.length rows goal (fun _ => 0) ((dg (aimE e c0 goal)).Bz (n + 1 + rows.length) rows.length) r = _
      rw [bl, mcol_unit])]
    rw [det_congr (e := fun j => mcol n rows.length rows [] (fun _ => 0) ((dg e).B j)) (fun j hj i hi => by rw [bz j hj, mcol_same (mid_bas0 M hj) hi])]
    exact M.dt
/-- What the dictionary says of the variables. -/
theorem aimE_sat (x : Nat → Rat) (z : Rat) : (dg (aimE e c0 goal)).Sat x z ↔ (∀ i, i < rows.length → x (n + 1 + i) = ((rowD rows i).2 : Rat) - dotA rows i (fun j => x (j + 1))) ∧ z = objX goal c0 (fun j => x (j + 1)) := by
  have hm : (dg (aimE e c0 goal)).m = rows.length := M.m
  have hv : ∀ i, i < rows.length → (dg (aimE e c0 goal)).val i x = (dg e).val i x := fun i hi => by
    unfold Dg.val
    rw [aimE_row M hi]
    congr 1
    exact sm_congr fun k _ => by rw [aimE_row M hi]; rfl
  have hrows : (∀ i, i < rows.length → x ((dg (aimE e c0 goal)).B i) = (dg (aimE e c0 goal)).val i x) ↔ ∀ i, i < rows.length → x ((dg e).B i) = (dg e).val i x :=
    ⟨fun q i hi => by rw [← hv i hi]; exact q i hi, fun q i hi => by rw [hv i hi]; exact q i hi⟩
  have hg : (∀ i, i < rows.length → x ((dg e).B i) = (dg e).val i x) → (dg (aimE e c0 goal)).val rows.length x = objX goal c0 (fun j => x (j + 1)) := fun q => by
    have := (goal_end hs M).val x (fun i hi => q i (by rw [← M.m]; exact hi))
    unfold Dg.val objX
    rw [aimE_goal M, ← this]
    congr 1
    exact sm_congr fun k _ => by rw [aimE_goal M]; rfl
  unfold Dg.Sat
  rw [hm, hrows, M.sat x]
  constructor
  · rintro ⟨h1, h2⟩
    exact ⟨h1, by rw [h2, hg ((M.sat x).2 h1)]⟩
  · rintro ⟨h1, h2⟩
    exact ⟨h1, by rw [h2, hg ((M.sat x).2 h1)]⟩
end
end Go.Proofs.Ytdegpgonphgbcaa
namespace Go.Proofs.Ytdegpgonphgbcaa
open Go.RowKit

/-- The last dictionary, where there is a greatest value. -/
structure End2 (n : Nat) (rows : List MRow) (goal : List (Int × Int)) (c0 : Int) (d : Dc) : Prop where
  fit : DcFit d
  m : d.ins.length = rows.length
  I : (dg d).Inj
  i0 : ∀ z ∈ d.ins, 0 ≤ z
  o0 : ∀ z ∈ d.outs, 0 ≤ z
  f : F2 n rows goal c0 (dg d)
  var : ∀ v, ((dg d).Bas v ∨ (dg d).Non v) ↔ 1 ≤ v ∧ v ≤ n + rows.length
  ok : ∀ i, i < rows.length → 0 ≤ (dg d).a i 0
  opt : ∀ k, k < d.outs.length → (dg d).a rows.length (k + 1) ≤ 0
  sat : ∀ (x : Nat → Rat) (z : Rat), (dg d).Sat x z ↔ (∀ i, i < rows.length → x (n + 1 + i) = ((rowD rows i).2 : Rat) - dotA rows i (fun j => x (j + 1))) ∧ z = objX goal c0 (fun j => x (j + 1))
inductive Meant (n : Nat) (rows : List MRow) (goal : List (Int × Int)) (c0 : Int) : Int → Option Dc → Prop
  | empty (h : ¬ ∃ y, FeasX n rows y) : Meant n rows goal c0 34 none
  | opn (h : ∀ B : Rat, ∃ y, FeasX n rows y ∧ B ≤ objX goal c0 y) : Meant n rows goal c0 35 none
  | ok (d : Dc) (h : End2 n rows goal c0 d) : Meant n rows goal c0 0 (some d)
section
variable {n : Nat} {rows : List MRow} {goal : List (Int × Int)} {c0 : Int}
theorem dotA_ext (hs : SmallP n rows goal c0) {y y' : Nat → Rat} (h : ∀ j, j < n → y j = y' j) (i : Nat) : dotA rows i y = dotA rows i y' := by
  unfold dotA
  rw [dotY_all (small_rowD hs i).1, dotY_all (small_rowD hs i).1]
  exact sm_congr fun j hj => by rw [h j hj]
theorem objX_ext (hs : SmallP n rows goal c0) {y y' : Nat → Rat} (h : ∀ j, j < n → y j = y' j) : objX goal c0 y = objX goal c0 y' := by
  unfold objX
  rw [dotY_all hs.2.2.2.1, dotY_all hs.2.2.2.1]
  congr 1
  exact sm_congr fun j hj => by rw [h j hj]
/-- The variables' values of a solution of the model's equations that are not below 0 obey the model. -/
theorem feas_of {x : Nat → Rat} (h0 : ∀ v, 1 ≤ v → v ≤ n + rows.length → 0 ≤ x v) (h : ∀ i, i < rows.length → x (n + 1 + i) = ((rowD rows i).2 : Rat) - dotA rows i (fun j => x (j + 1))) : FeasX n rows (fun j => x (j + 1)) := by
  rw [feasX_iff]
  refine ⟨fun j hj => h0 _ (by omega) (by omega), fun i hi => ?_⟩
  have h1 := h i hi
  have h2 := h0 (n + 1 + i) (by omega) (by omega)
  grind
theorem End2.best (hs : SmallP n rows goal c0) {d : Dc} (h : End2 n rows goal c0 d) : (∃ y, FeasX n rows y ∧ objX goal c0 y = (dg d).a rows.length 0) ∧ ∀ y, FeasX n rows y → objX goal c0 y ≤ (dg d).a rows.length 0 := by
  have hm : (dg d).m = rows.length := h.m
  constructor
  · obtain ⟨x, hsx, hn, hb⟩ := h.I.sol0
    obtain ⟨h1, h2⟩ := (h.sat x _).1 hsx
    refine ⟨_, feas_of (fun v v1 v2 => ?_) h1, by rw [← h2, hm]⟩
    rcases (h.var v).2 ⟨v1, v2⟩ with ⟨i, hi, rfl⟩ | ⟨k, hk, rfl⟩
    · rw [hb i hi]; exact h.ok i (by rw [← hm]; exact hi)
    · rw [hn k hk]; exact Rat.le_refl
  · intro y hy
    obtain ⟨x, hsx, x0, xj, hxn⟩ := feas_sat hs hy
    have h1 := ((beg_sat hs x 0).1 hsx).1
    have hd : ∀ i, dotA rows i (fun j => x (j + 1)) = dotA rows i (fun j => x (j + 1)) := fun _ => rfl
    have hz : (dg d).Sat x (objX goal c0 (fun j => x (j + 1))) := (h.sat x _).2 ⟨fun i hi => by rw [h1 i hi, x0]; grind, rfl⟩
    have e := hz.2
    rw [objX_ext hs (y := y) (y' := fun j => x (j + 1)) (fun j hj => (xj j hj).symm), e]
    unfold Dg.val
    have : sm (fun k => (dg d).a (dg d).m (k + 1) * x ((dg d).N k)) (dg d).n ≤ sm (fun _ => 0) (dg d).n := sm_le fun k hk => by
      have h1 : 0 ≤ -(dg d).a (dg d).m (k + 1) * x ((dg d).N k) := Rat.mul_nonneg (by have := h.opt k hk; rw [hm]; grind) (hxn _)
      grind
    rw [sm_zero (f := fun _ => 0) (fun _ _ => rfl)] at this
    rw [hm] at this ⊢
    grind
theorem solve_ex (hs : SmallP n rows goal c0) : ∃ code od, SolveP n rows c0 goal code od ∧ Meant n rows goal c0 code od := by
  have hn6 : n ≤ 6 := by have := hs.2.1; omega
  rcases feas_ex hs with ⟨d1, hf, hno⟩ | ⟨d1, hf, h1, hN⟩
  · exact ⟨34, none, .empty n rfl hs d1 hf, .empty hno⟩
  obtain ⟨D, M⟩ := mid_of hs h1 hN
  have ok1 := onway_ok h1.w
  have hout : (dropD d1).outs.length = n := by
    have h3 := h1.e.n
    rw [beg_n] at h3
    have h3 : d1.outs.length = n + 1 := h3
    rcases idx_spec d1.outs 0 with ⟨_, hall⟩ | ⟨k, hk, hkl, _⟩
    · obtain ⟨k, hk, e⟩ := hN
      have h0 := h1.w.w.o0 _ (iAt_mem hk)
      have e : (iAt d1.outs (k : Int)).toNat = 0 := e
      exact absurd (by omega) (hall k hk)
    · have h4 : (dropD d1).outs.length + 1 = d1.outs.length := drop_n hk hkl
      omega
  have af := aim_fit hs M
  have e2 : aimD d1 c0 goal = aimE (dropD d1) c0 goal := rfl
  have hf2 := aimE_f2 hs M
  have hfit := aimE_fit hs M
  have hI : (dg (aimE (dropD d1) c0 goal)).Inj := ⟨fun i j hi hj q => M.I.b i j hi hj q, fun i j hi hj q => M.I.n i j hi hj q, fun i k hi hk q => M.I.bn i k hi hk q⟩
  have hOk : (dg (aimE (dropD d1) c0 goal)).Ok := fun i hi => by
    have hi : i < rows.length := by rw [← M.m]; exact hi
    rw [aimE_row M hi]; exact M.ok i hi
  -- climbing
  have hclimb : ∃ m b d2, Climb m (aimE (dropD d1) c0 goal) b d2 ∧ DEqv (dg (aimE (dropD d1) c0 goal)) (dg d2) ∧ DcFit d2 ∧ (dg d2).Ok ∧ F2 n rows goal c0 (dg d2) ∧ (∀ z ∈ d2.ins, 0 ≤ z) ∧ (∀ z ∈ d2.outs, 0 ≤ z) ∧ (b = true → ∀ k, k < d2.outs.length → ¬ 0 < (dg d2).a (dg d2).m (k + 1)) ∧ (b = false → ∃ k, k < d2.outs.length ∧ 0 < (dg d2).a (dg d2).m (k + 1) ∧ ∀ r, r < d2.ins.length → ¬ (dg d2).a r (k + 1) < 0) := by
    by_cases ho : (aimE (dropD d1) c0 goal).outs = []
    · refine ⟨0, true, _, .stop (by unfold entP; rw [ho]; rfl), DEqv.refl hI, hfit, hOk, hf2, M.i0, M.o0, fun _ k hk => ?_, fun h => by cases h⟩
      rw [ho] at hk; simp at hk
    · have hw : OnWay (F2 n rows goal c0) (n + 1 + rows.length) (aimE (dropD d1) c0 goal) := ⟨⟨hfit, ho, M.i0, M.o0⟩, hI, hOk, hf2, fun v hv => by have := hf2.2.2 v (.inl hv); omega, fun v hv => by have := hf2.2.2 v (.inr hv); omega⟩
      obtain ⟨m, b, d2, hc, he, hw2, g1, g2⟩ := climb_ex f2_piv (f2_rep hs) hw
      exact ⟨m, b, d2, hc, he, hw2.w.fit, hw2.ok, hw2.f, hw2.w.i0, hw2.w.o0, g1, g2⟩
  obtain ⟨m, b, d2, hc, he, hfit2, hok2, hff, hi0, ho0, hopt, hunb⟩ := hclimb
  have hm2 : (dg d2).m = rows.length := hff.1
  have hm2' : d2.ins.length = rows.length := hm2
  have hvar : ∀ v, ((dg d2).Bas v ∨ (dg d2).Non v) ↔ 1 ≤ v ∧ v ≤ n + rows.length := fun v => (he.v v).trans (M.var v)
  have hsat : ∀ (x : Nat → Rat) (z : Rat), (dg d2).Sat x z ↔ (∀ i, i < rows.length → x (n + 1 + i) = ((rowD rows i).2 : Rat) - dotA rows i (fun j => x (j + 1))) ∧ z = objX goal c0 (fun j => x (j + 1)) := fun x z => (he.s x z).trans (aimE_sat hs M x z)
  have o7 : (dropD d1).outs.length ≤ 7 := by omega
  cases b with
  | false =>
    refine ⟨35, none, .opn n rfl hs d1 d2 m hf ok1 o7 af (by rw [e2]; exact hc), .opn fun B => ?_⟩
    obtain ⟨k, hk, hpos, hrow⟩ := hunb rfl
    let t : Rat := if B ≤ (dg d2).a (dg d2).m 0 then 0 else (B - (dg d2).a (dg d2).m 0) / (dg d2).a (dg d2).m (k + 1)
    have hp : (dg d2).a (dg d2).m (k + 1) * ((B - (dg d2).a (dg d2).m 0) / (dg d2).a (dg d2).m (k + 1)) = B - (dg d2).a (dg d2).m 0 := by grind
    have ht : 0 ≤ t ∧ B ≤ (dg d2).a (dg d2).m 0 + (dg d2).a (dg d2).m (k + 1) * t := by
      show 0 ≤ (if B ≤ (dg d2).a (dg d2).m 0 then 0 else (B - (dg d2).a (dg d2).m 0) / (dg d2).a (dg d2).m (k + 1)) ∧ B ≤ (dg d2).a (dg d2).m 0 + (dg d2).a (dg d2).m (k + 1) * (if B ≤ (dg d2).a (dg d2).m 0 then 0 else (B - (dg d2).a (dg d2).m 0) / (dg d2).a (dg d2).m (k + 1))
      by_cases hB : B ≤ (dg d2).a (dg d2).m 0
      · rw [if_pos hB]; exact ⟨Rat.le_refl, by grind⟩
      · rw [if_neg hB]
        refine ⟨?_, by rw [hp]; grind⟩
        rw [Rat.div_def]
        exact Rat.mul_nonneg (by grind) (Rat.le_of_lt (Rat.inv_pos.2 hpos))
    obtain ⟨x, hsx, hxk, hxn, hxb⟩ := he.j.sol1 hk t
    obtain ⟨q1, q2⟩ := (hsat x _).1 hsx
    refine ⟨_, feas_of (fun v v1 v2 => ?_) q1, by rw [← q2]; exact ht.2⟩
    rcases (hvar v).2 ⟨v1, v2⟩ with ⟨i, hi, rfl⟩ | ⟨c, hc2, rfl⟩
    · rw [hxb i hi]
      have g1 := hok2 i hi
      have g2 : 0 ≤ (dg d2).a i (k + 1) * t := Rat.mul_nonneg (by have h3 : ¬ (dg d2).a i (k + 1) < 0 := hrow i hi; grind) ht.1
      grind
    · by_cases hck : c = k
      · rw [hck, hxk]; exact ht.1
      · rw [hxn c hc2 hck]; exact Rat.le_refl
  | true =>
    obtain ⟨E, hE⟩ := f2_rep hs _ hff he.j
    refine ⟨0, some d2, .ok n rfl hs d1 d2 m hf ok1 o7 af (by rw [e2]; exact hc) hfit2 (rep_all hfit2 hE) (fun v hv => ?_), .ok d2 ⟨hfit2, hm2', he.j, hi0, ho0, hff, hvar, fun i hi => hok2 i (by rw [hm2]; exact hi), fun k hk => ?_, hsat⟩⟩
    · obtain ⟨k, hk⟩ := List.getElem?_of_mem hv
      have hkl := (List.getElem?_eq_some_iff.1 hk).1
      have := (hvar ((dg d2).N k)).1 (.inr ⟨k, hkl, rfl⟩)
      have e3 : (dg d2).N k = v.toNat := by show (iAt d2.outs (k : Int)).toNat = _; rw [iAt_of hk]
      have := ho0 v hv
      omega
    · have := hopt rfl k hk
      rw [hm2] at this
      grind
end
end Go.Proofs.Ytdegpgonphgbcaa
namespace Go.Proofs.Ytdegpgonphgbcaa
open Go.RowKit

/-- What Solve hands back: the error's number, and the value where there is none. -/
def SolvedAt (n : Nat) (rows : List MRow) (goal : List (Int × Int)) (c0 : Int) (B : Nat) (w' : World) (v : Value) (code : Int) : Prop :=
  (code = 34 ∧ v = optNone ∧ ¬ ∃ y, FeasX n rows y) ∨ (code = 35 ∧ v = optNone ∧ ∀ b : Rat, ∃ y, FeasX n rows y ∧ b ≤ objX goal c0 y) ∨
  (code = 0 ∧ ∃ d, End2 n rows goal c0 d ∧ OptAt B w' ((dg d).a rows.length 0) (colsAt d n d.ins.length) (rowsAt d n rows.length d.outs.length) v)
def SolvedRet (n : Nat) (rows : List MRow) (goal : List (Int × Int)) (c0 : Int) (w : World) (e : Ending) (w' : World) : Prop :=
  ∃ v code, e = .returned (.tuple #[v, .int .i64 code]) ∧ Below w.heap.size w w' ∧ SolvedAt n rows goal c0 w.heap.size w' v code
theorem solved_any (K : Nat → Prop) (n : Nat) (rows : List MRow) (goal : List (Int × Int)) (c0 : Int) (hs : SmallP n rows goal c0) (ra : Option Addr) (rn rc : Nat) (ga : Option Addr) (gn gc : Nat) (w : World) (R : Row RRw 2 K w ra rn rc rows) (G : Row RTm 2 K w ga gn gc goal) (hK : ∀ x, K x → x < w.heap.size) :
    Calls Try.prog 11 #[MdV n (.slice ra rn rc) ga gn gc c0] w (SolvedRet n rows goal c0 w) := by
  obtain ⟨code, od, hp, hm⟩ := solve_ex hs
  refine (solve_any K n rows goal c0 code od hp ra rn rc ga gn gc w R G hK).mono ?_
  rintro e w' ⟨hb, v, rfl, hn, hv⟩
  refine ⟨v, code, rfl, hb, ?_⟩
  cases hm with
  | empty h => exact .inl ⟨rfl, hn rfl, h⟩
  | opn h => exact .inr (.inl ⟨rfl, hn rfl, h⟩)
  | ok d h =>
    refine .inr (.inr ⟨rfl, d, h, ?_⟩)
    have := hv d rfl
    rw [Int.toNat_natCast, lastR_eq h.fit, h.m] at this
    rw [h.m]
    exact this
/-- The value's numbers are small. -/
theorem End2.value {n : Nat} {rows : List MRow} {goal : List (Int × Int)} {c0 : Int} (hs : SmallP n rows goal c0) {d : Dc} (h : End2 n rows goal c0 d) : Fit ((dg d).a rows.length 0) := by
  obtain ⟨D, hD⟩ := f2_rep hs _ h.f h.I
  have := hD.goal
  rw [show (dg d).m = rows.length from h.m] at this
  exact quo_fit' hD.w hD.ne hD.bd this (by grind) (by grind)
/-- What Obeys reports, as columns that obey the model. -/
theorem obey_feas {n : Nat} {rows : List MRow} {l : List (Int × Int)} (hg : GoodP l) (ho : ObeyP rows (l.map toR)) : FeasX n rows (gR (l.map toR)) := by
  refine ⟨fun j _ => ?_, fun r hr => ho r hr⟩
  by_cases hj : j < l.length
  · have ht : l[j]? = some l[j] := List.getElem?_eq_getElem hj
    rw [gR_map ht]
    obtain ⟨h0, h1⟩ := hg _ (List.getElem_mem hj)
    exact Rat.num_nonneg.1 (by rw [(toR_val h1).1]; exact h0)
  · unfold gR
    rw [List.getD_eq_getElem?_getD, List.getElem?_eq_none (by simp; omega)]
    exact Rat.le_refl
end Go.Proofs.Ytdegpgonphgbcaa
namespace Go.Proofs.Ytdegpgonphgbcaa
open Go.RowKit

/-- The rows of a model of one column. -/
def oneRows (l : List (Int × Int)) : List MRow := l.map fun p => ([((0 : Int), p.1)], p.2)
def oneGoal (g : Int) : List (Int × Int) := if g = 0 then [] else [((0 : Int), g)]
theorem dotY_one (a : Int) (y : Nat → Rat) : dotY [((0 : Int), a)] y 1 = (a : Rat) * y 0 := by
  unfold dotY
  show 0 + (a : Rat) * y (0 : Int).toNat = _
  rw [show (0 : Int).toNat = 0 from rfl]; grind
theorem one_feas {l : List (Int × Int)} {y : Nat → Rat} : FeasX 1 (oneRows l) y ↔ 0 ≤ y 0 ∧ ∀ p ∈ l, (p.1 : Rat) * y 0 ≤ (p.2 : Rat) := by
  unfold FeasX oneRows
  constructor
  · rintro ⟨h1, h2⟩
    refine ⟨h1 0 (by omega), fun p hp => ?_⟩
    have := h2 _ (List.mem_map.2 ⟨p, hp, rfl⟩)
    dsimp only at this
    rw [show ([((0 : Int), p.1)] : List (Int × Int)).length = 1 from rfl, dotY_one] at this
    exact this
  · rintro ⟨h1, h2⟩
    refine ⟨fun j hj => by rw [show j = 0 by omega]; exact h1, fun r hr => ?_⟩
    obtain ⟨p, hp, rfl⟩ := List.mem_map.1 hr
    dsimp only
    rw [show ([((0 : Int), p.1)] : List (Int × Int)).length = 1 from rfl, dotY_one]
    exact h2 p hp
theorem one_obj (g : Int) (y : Nat → Rat) : objX (oneGoal g) 0 y = (g : Rat) * y 0 := by
  unfold objX oneGoal
  by_cases h : g = 0
  · rw [if_pos h, h]
    unfold dotY
    simp only [List.take_nil, List.foldl_nil, Rat.intCast_zero, Rat.zero_mul]
    grind
  · rw [if_neg h, show ([((0 : Int), g)] : List (Int × Int)).length = 1 from rfl, dotY_one]
    simp only [Rat.intCast_zero]; grind
theorem one_terms {a m : Int} (h0 : a ≠ 0) (h1 : -m ≤ a) (h2 : a ≤ m) : TermsOk [((0 : Int), a)] 1 m 1 := by
  intro i t hi ht
  rw [show i = 0 by omega] at ht
  cases ht
  exact ⟨Int.le_refl 0, show (0 : Int) < 1 by decide, fun p s e => by omega, h0, h1, h2⟩
theorem one_small {l : List (Int × Int)} {g : Int} (hl : l.length ≤ 6) (h : ∀ p ∈ l, 1 ≤ p.1 ∧ p.1 ≤ 9 ∧ 0 ≤ p.2 ∧ p.2 ≤ 50) (hg : -9 ≤ g ∧ g ≤ 9) : SmallP (1 : Nat) (oneRows l) (oneGoal g) 0 := by
  refine ⟨by decide, by decide, by unfold oneRows; simp; omega, ?_, by decide, by decide, fun x hx => ?_⟩
  · unfold oneGoal
    split
    · exact fun i t hi => absurd hi (Nat.not_lt_zero _)
    · rename_i hne; exact one_terms hne hg.1 hg.2
  · obtain ⟨p, hp, rfl⟩ := List.mem_map.1 hx
    obtain ⟨h1, h2, h3, h4⟩ := h p hp
    exact ⟨one_terms (by omega) (by omega) (by omega), by dsimp only; omega, by dsimp only; omega⟩
/-- The least quotient. -/
def IsLeast (l : List (Int × Int)) (best : Rat) : Prop := (∃ p ∈ l, best = (p.2 : Rat) / (p.1 : Rat)) ∧ ∀ p ∈ l, best ≤ (p.2 : Rat) / (p.1 : Rat)
theorem mul_le_iff {a y b : Rat} (ha : 0 < a) : a * y ≤ b ↔ y ≤ b / a := by
  have e : a * (b / a) = b := by grind
  constructor
  · intro h
    refine Classical.byContradiction fun hn => ?_
    have := Rat.mul_pos ha (show 0 < y - b / a by grind)
    grind
  · intro h
    have := Rat.mul_nonneg (Rat.le_of_lt ha) (show 0 ≤ b / a - y by grind)
    grind
section
variable {l : List (Int × Int)} {g : Int} (h : ∀ p ∈ l, 1 ≤ p.1 ∧ p.1 ≤ 9 ∧ 0 ≤ p.2 ∧ p.2 ≤ 50)
include h
theorem one_zero : FeasX 1 (oneRows l) (fun _ => 0) := one_feas.2 ⟨Rat.le_refl, fun p hp => by
  have := (h p hp).2.2.1
  rw [Rat.mul_zero]
  have : ((0 : Int) : Rat) ≤ (p.2 : Rat) := Rat.intCast_le_intCast.2 this
  simpa using this⟩
theorem one_pos {p : Int × Int} (hp : p ∈ l) : (0 : Rat) < (p.1 : Rat) := by
  have : ((0 : Int) : Rat) < (p.1 : Rat) := Rat.intCast_lt_intCast.2 (by have := (h p hp).1; omega)
  simpa using this
theorem one_le {best : Rat} (hb : IsLeast l best) {y : Nat → Rat} : FeasX 1 (oneRows l) y ↔ 0 ≤ y 0 ∧ y 0 ≤ best := by
  rw [one_feas]
  constructor
  · rintro ⟨h0, h1⟩
    obtain ⟨p, hp, e⟩ := hb.1
    exact ⟨h0, by rw [e]; exact (mul_le_iff (one_pos h hp)).1 (h1 p hp)⟩
  · rintro ⟨h0, h1⟩
    exact ⟨h0, fun p hp => (mul_le_iff (one_pos h hp)).2 (Rat.le_trans h1 (hb.2 p hp))⟩
theorem least_nonneg {best : Rat} (hb : IsLeast l best) : 0 ≤ best := by
  have := ((one_le h hb).1 (one_zero h)).2
  simpa using this
end
end Go.Proofs.Ytdegpgonphgbcaa
namespace Go.Proofs.Ytdegpgonphgbcaa
open Go.RowKit

/-- What the error's number and the value's numbers say. -/
def PartsOk (n : Nat) (rows : List MRow) (goal : List (Int × Int)) (c0 : Int) (code x y : Int) : Prop :=
  (code = 34 ∧ x = 0 ∧ y = 0 ∧ ¬ ∃ y, FeasX n rows y) ∨ (code = 35 ∧ x = 0 ∧ y = 0 ∧ ∀ b : Rat, ∃ y, FeasX n rows y ∧ b ≤ objX goal c0 y) ∨ (code = 0 ∧ ∃ V : Rat, x = V.num ∧ y = (V.den : Int) ∧ Fit V ∧ (∃ y, FeasX n rows y ∧ objX goal c0 y = V) ∧ ∀ y, FeasX n rows y → objX goal c0 y ≤ V)
theorem solved_parts {n : Nat} {rows : List MRow} {goal : List (Int × Int)} {c0 : Int} (hs : SmallP n rows goal c0) {B : Nat} {w' : World} {v : Value} {code : Int} (h : SolvedAt n rows goal c0 B w' v code) :
    ∃ (x y : Int) (sa : Option Addr) (sn sc : Nat) (ta : Option Addr) (tn tc : Nat), v = .agg #[.int .i64 x, .int .i64 y, .slice sa sn sc, .slice ta tn tc] ∧ PartsOk n rows goal c0 code x y := by
  rcases h with ⟨hc, rfl, h⟩ | ⟨hc, rfl, h⟩ | ⟨hc, d, hd, g5, g9, rfl, _⟩
  · exact ⟨0, 0, _, _, _, _, _, _, rfl, .inl ⟨hc, rfl, rfl, h⟩⟩
  · exact ⟨0, 0, _, _, _, _, _, _, rfl, .inr (.inl ⟨hc, rfl, rfl, h⟩)⟩
  · exact ⟨_, _, _, _, _, _, _, _, rfl, .inr (.inr ⟨hc, _, rfl, rfl, hd.value hs, hd.best hs⟩)⟩
section
variable {n : Nat} {rows rows' : List MRow} {goal : List (Int × Int)} {c0 code code' x x' y y' : Int}
theorem parts_more (h : ∀ z, FeasX n rows' z → FeasX n rows z) (p : PartsOk n rows goal c0 code x y) (p' : PartsOk n rows' goal c0 code' x' y') : (code = 34 → code' = 34) ∧ (code' = 35 → code = 35) := by
  constructor
  · intro e
    rcases p with ⟨_, _, _, no⟩ | ⟨e2, _⟩ | ⟨e2, _⟩
    · rcases p' with ⟨e', _⟩ | ⟨_, _, _, q⟩ | ⟨_, V, _, _, _, ⟨z, hz, _⟩, _⟩
      · exact e'
      · obtain ⟨z, hz, _⟩ := q 0; exact absurd ⟨z, h z hz⟩ no
      · exact absurd ⟨z, h z hz⟩ no
    · omega
    · omega
  · intro e
    rcases p' with ⟨e', _⟩ | ⟨_, _, _, q⟩ | ⟨e', _⟩
    · omega
    · rcases p with ⟨_, _, _, no⟩ | ⟨e2, _⟩ | ⟨_, V, _, _, _, _, best⟩
      · obtain ⟨z, hz, _⟩ := q 0; exact absurd ⟨z, h z hz⟩ no
      · exact e2
      · obtain ⟨z, hz, hb⟩ := q (V + 1)
        have := best z (h z hz)
        grind
    · omega
theorem parts_same (h : ∀ z, FeasX n rows' z ↔ FeasX n rows z) (p : PartsOk n rows goal c0 code x y) (p' : PartsOk n rows' goal c0 code' x' y') : code' = code ∧ x' = x ∧ y' = y := by
  obtain ⟨a1, a2⟩ := parts_more (fun z hz => (h z).1 hz) p p'
  obtain ⟨b1, b2⟩ := parts_more (fun z hz => (h z).2 hz) p' p
  rcases p with ⟨e, rfl, rfl, no⟩ | ⟨e, rfl, rfl, q⟩ | ⟨e, V, rfl, rfl, _, ⟨z, hz, hV⟩, best⟩
  · rcases p' with ⟨e', rfl, rfl, _⟩ | ⟨e', _⟩ | ⟨e', _⟩
    · exact ⟨by omega, rfl, rfl⟩
    · have := a1 e; omega
    · have := a1 e; omega
  · rcases p' with ⟨e', _⟩ | ⟨e', rfl, rfl, _⟩ | ⟨e', _⟩
    · have := b1 e'; omega
    · exact ⟨by omega, rfl, rfl⟩
    · have := b2 e; omega
  · rcases p' with ⟨e', _⟩ | ⟨e', _⟩ | ⟨e', V', rfl, rfl, _, ⟨z', hz', hV'⟩, best'⟩
    · have := b1 e'; omega
    · have := a2 e'; omega
    · have h1 := best z' ((h z').1 hz')
      have h2 := best' z ((h z).2 hz)
      have : V' = V := by rw [hV'] at h1; rw [hV] at h2; exact Rat.le_antisymm h1 h2
      rw [this]
      exact ⟨by omega, rfl, rfl⟩
theorem feas_snoc {r : MRow} {z : Nat → Rat} : FeasX n (rows ++ [r]) z ↔ FeasX n rows z ∧ dotY r.1 z r.1.length ≤ (r.2 : Rat) := by
  unfold FeasX
  constructor
  · rintro ⟨h1, h2⟩
    exact ⟨⟨h1, fun q hq => h2 q (List.mem_append_left _ hq)⟩, h2 r (List.mem_append_right _ (List.mem_singleton.2 rfl))⟩
  · rintro ⟨⟨h1, h2⟩, h3⟩
    refine ⟨h1, fun q hq => ?_⟩
    rcases List.mem_append.1 hq with h | h
    · exact h2 q h
    · rw [List.mem_singleton.1 h]; exact h3
/-- A row that says nothing new. -/
theorem feas_again {t : List (Int × Int)} {a b : Int} (h : (t, a) ∈ rows) (hab : a ≤ b) {z : Nat → Rat} : FeasX n (rows ++ [(t, b)]) z ↔ FeasX n rows z := by
  rw [feas_snoc]
  refine ⟨fun h => h.1, fun hz => ⟨hz, ?_⟩⟩
  have := hz.2 _ h
  have h2 : (a : Rat) ≤ (b : Rat) := Rat.intCast_le_intCast.2 hab
  exact Rat.le_trans this h2
theorem small_snoc (hs : SmallP n rows goal c0) {r : MRow} (h5 : rows.length ≤ 5) (ht : TermsOk r.1 n 9 r.1.length) (h0 : -50 ≤ r.2) (h1 : r.2 ≤ 50) : SmallP n (rows ++ [r]) goal c0 := by
  obtain ⟨a, b, c, d, e, f, g⟩ := hs
  refine ⟨a, b, by rw [List.length_append]; simp; omega, d, e, f, fun x hx => ?_⟩
  rcases List.mem_append.1 hx with h | h
  · exact g x h
  · rw [List.mem_singleton.1 h]; exact ⟨ht, h0, h1⟩
end
end Go.Proofs.Ytdegpgonphgbcaa
