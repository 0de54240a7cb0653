/-
  The program's climbing ends.
  The sums of simplex.
  The equations of a small model.
-/
import Derived.Test.YtdegpgonphgbcaaZSoA
import Derived.Test.YtdegpgonphgbcaaZSyF
import Derived.Test.YtdegpgonphgbcaaZSxH
namespace Go.Proofs.Ytdegpgonphgbcaa
open Go.RowKit
theorem whole_ne {D : Rat} (h : Whole D) (hne : D ≠ 0) : ∃ z : Int, D = (z : Rat) ∧ z ≠ 0 := by
  obtain ⟨z, hz⟩ := h
  exact ⟨z, hz, fun e => hne (by rw [hz, e]; simp)⟩
theorem ab_int {z B : Int} (h : Ab (z : Rat) (B : Rat)) : -B ≤ z ∧ z ≤ B := by
  obtain ⟨h1, h2⟩ := h
  rw [← Rat.intCast_neg] at h1
  exact ⟨Rat.intCast_le_intCast.1 h1, Rat.intCast_le_intCast.1 h2⟩
theorem quo_fit {x D : Rat} (hD : Whole D) (hne : D ≠ 0) (bD : Ab D (1152921504606846976 : Int)) (hx : Big x D (1152921504606846976 : Int)) : Fit x := by
  obtain ⟨q, hq, hq0⟩ := whole_ne hD hne
  obtain ⟨⟨p, hp⟩, bp⟩ := hx
  rw [hp] at bp
  rw [hq] at bD
  obtain ⟨p0, p1⟩ := ab_int bp
  obtain ⟨q0, q1⟩ := ab_int bD
  have e : Rat.divInt p q = x := by rw [Rat.divInt_eq_div, ← hp, ← hq]; grind
  obtain ⟨e1, e2⟩ := fND_rat (a := p) (b := q) hq0
  rw [e] at e1 e2
  have l1 := fN_le (a := p) (b := q) hq0
  have l2 := fD_le (a := p) (b := q) hq0
  rw [e1] at l1
  rw [e2] at l2
  exact ⟨by omega, by omega, by omega⟩
theorem Ab.mulle {x y X Y C : Rat} (h : Ab x X) (k : Ab y Y) (hC : X * Y ≤ C) : Ab (x * y) C := (h.mul k).le hC
theorem Big.prod {x y D E X Y C : Rat} (h : Big x D X) (k : Big y E Y) (hC : X * Y ≤ C) : Big (x * y) (D * E) C := by
  have e : x * y * (D * E) = x * D * (y * E) := by grind
  exact ⟨by rw [e]; exact h.1.mul k.1, by rw [e]; exact h.2.mulle k.2 hC⟩
theorem cast60 : ((1152921504606846976 : Int) : Rat) = 1152921504606846976 := by simp
theorem quo_fit' {x D B C : Rat} (hD : Whole D) (hne : D ≠ 0) (bD : Ab D B) (hx : Big x D C) (hB : B ≤ 1152921504606846976) (hC : C ≤ 1152921504606846976) : Fit x :=
  quo_fit hD hne (bD.le (by rw [cast60]; exact hB)) (hx.le (by rw [cast60]; exact hC))
section
variable {d : Dc} {D : Rat}
theorem rep_all (w : DcFit d) (r : Rep (dg d) D) : ∀ row ∈ d.rows, FitL row := by
  intro row hrow x hx
  obtain ⟨j, hj⟩ := List.getElem?_of_mem hrow
  obtain ⟨i, hi⟩ := List.getElem?_of_mem hx
  have hjl := (List.getElem?_eq_some_iff.1 hj).1
  have hil := (List.getElem?_eq_some_iff.1 hi).1
  have hl := w.cols row hrow
  have hrl := w.rows
  have hx2 : x = (dg d).a j i := by
    show x = gR (d.rows.getD j []) i
    rw [List.getD_eq_getElem?_getD, hj]
    exact (gR_of hi).symm
  rw [hx2]
  cases i with
  | zero =>
    by_cases hjm : j < d.ins.length
    · exact quo_fit' r.w r.ne r.bd (r.con j hjm) (by grind) (by grind)
    · have : j = d.ins.length := by omega
      rw [this]
      exact quo_fit' r.w r.ne r.bd r.goal (by grind) (by grind)
  | succ i => exact quo_fit' r.w r.ne r.bd (r.row j i (by show j ≤ d.ins.length; omega) (by show i < d.outs.length; omega)) (by grind) (by grind)
theorem big_div {x y D X : Rat} (h : Big x D X) (hy : y ≠ 0) (_hD : D ≠ 0) : Big (x / y) (y * D) X := by
  have e : x / y * (y * D) = x * D := by grind
  exact ⟨by rw [e]; exact h.1, by rw [e]; exact h.2⟩
theorem lev_fit (w : DcFit d) (r : Rep (dg d) D) {k : Nat} (hk : k < d.outs.length) : LevFit d.ins d.rows k := by
  refine ⟨rep_all w r, fun i row hi hr hn => ?_⟩
  have hg : d.rows.getD i [] = row := by rw [List.getD_eq_getElem?_getD, hr]; rfl
  have hne : gR row (k + 1) ≠ 0 := fun e => by rw [e] at hn; simp at hn
  have h0 := r.con i hi
  have h1 := r.row i k (by show i ≤ d.ins.length; omega) hk
  rw [show (dg d).a i 0 = gR row 0 by show gR (d.rows.getD i []) 0 = _; rw [hg]] at h0
  rw [show (dg d).a i (k + 1) = gR row (k + 1) by show gR (d.rows.getD i []) (k + 1) = _; rw [hg]] at h1
  exact quo_fit' h1.1 (fun e => by rcases Rat.mul_eq_zero.1 e with e | e; exact hne e; exact r.ne e) h1.2 (big_div h0 hne r.ne) (by grind) (by grind)
theorem piv_fit (w : DcFit d) (r : Rep (dg d) D) {i k : Nat} (hi : i < d.ins.length) (hk : k < d.outs.length) (ne : gR (d.rows.getD i []) (k + 1) ≠ 0) {E : Rat} (w2 : DcFit (pivD d i k)) (r2 : Rep (dg (pivD d i k)) E) : PivFit d.rows i k := by
  have hrl := w.rows
  have all2 := rep_all w2 r2
  have hp := r.row i k (by show i ≤ d.ins.length; omega) hk
  have prow : (pivD d i k).rows.getD i [] = pivRow (d.rows.getD i []) k := by rw [pivD_row (by omega), if_pos rfl]
  have hmem : ∀ t, t < d.rows.length → (pivD d i k).rows.getD t [] ∈ (pivD d i k).rows := fun t ht => by
    have : t < (pivD d i k).rows.length := by simp [pivD, pivRows_length]; exact ht
    exact List.mem_of_getElem? (getD_row this)
  refine ⟨rep_all w r, ne, ?_, ?_, ?_, ?_⟩
  · have h1 : Big 1 D 382637520 := ⟨by rw [Rat.one_mul]; exact r.w, by rw [Rat.one_mul]; exact r.bd⟩
    exact quo_fit' hp.1 (fun e => by rcases Rat.mul_eq_zero.1 e with e | e; exact ne e; exact r.ne e) hp.2 (big_div h1 ne r.ne) (by grind) (by grind)
  · rw [← prow]; exact all2 _ (hmem i (by omega))
  · intro t o ho hne j hj
    have ht := (List.getElem?_eq_some_iff.1 ho).1
    have hol := w.cols o (List.mem_of_getElem? ho)
    have hg : d.rows.getD t [] = o := by rw [List.getD_eq_getElem?_getD, ho]; rfl
    have h1 := r.row t k (by show t ≤ d.ins.length; omega) hk
    rw [show (dg d).a t (k + 1) = gR o (k + 1) by show gR (d.rows.getD t []) (k + 1) = _; rw [hg]] at h1
    have h2 : Big (gR (pivRow (d.rows.getD i []) k) j) E 2125764000 := by
      rw [← prow]
      have hl2 : (dg (pivD d i k)).m = d.ins.length := by simp [dg, pivD]
      have hn2 : (dg (pivD d i k)).n = d.outs.length := by simp [dg, pivD]
      cases j with
      | zero => exact r2.con i (by rw [hl2]; exact hi)
      | succ j => exact (r2.row i j (by rw [hl2]; omega) (by rw [hn2]; omega)).le (by grind)
    exact quo_fit' (r.w.mul r2.w) (fun e => by rcases Rat.mul_eq_zero.1 e with e | e; exact r.ne e; exact r2.ne e) (r.bd.mul r2.bd) (h1.prod h2 (C := 1000000000000000000) (by grind)) (by grind) (by grind)
  · intro t o ho hne
    have ht := (List.getElem?_eq_some_iff.1 ho).1
    have e := pivD_row (d := d) (i := i) (k := k) ht
    rw [if_neg hne] at e
    have hg : d.rows.getD t [] = o := by rw [List.getD_eq_getElem?_getD, ho]; rfl
    rw [hg] at e
    rw [← e]; exact all2 _ (hmem t ht)
end
structure Wf (d : Dc) : Prop where
  fit : DcFit d
  ne : d.outs ≠ []
  i0 : ∀ z ∈ d.ins, 0 ≤ z
  o0 : ∀ z ∈ d.outs, 0 ≤ z
theorem Wf.piv {d : Dc} (w : Wf d) {i k : Nat} (hi : i < d.ins.length) (hk : k < d.outs.length) : Wf (pivD d i k) := by
  have ok : DcOk d := ⟨w.fit.rows, w.fit.cols, w.fit.i8, w.fit.o8, w.ne⟩
  have ok2 := pivD_ok ok i k
  refine ⟨ok2.fit, ok2.ne, fun z hz => ?_, fun z hz => ?_⟩
  · rcases List.mem_or_eq_of_mem_set hz with h | h
    · exact w.i0 z h
    · rw [h, List.getD_eq_getElem?_getD, List.getElem?_eq_getElem hk]; exact w.o0 _ (List.getElem_mem hk)
  · rcases List.mem_or_eq_of_mem_set hz with h | h
    · exact w.o0 z h
    · rw [h, List.getD_eq_getElem?_getD, List.getElem?_eq_getElem hi]; exact w.i0 _ (List.getElem_mem hi)
theorem iAt_mem {l : List Int} {j : Nat} (hj : j < l.length) : iAt l (j : Int) ∈ l := by
  unfold iAt
  rw [Int.toNat_natCast, List.getD_eq_getElem?_getD, List.getElem?_eq_getElem hj]
  exact List.getElem_mem hj
def StepAt (d : Dc) (i k : Nat) : Prop := entP d.outs d.rows = (k : Int) ∧ k < d.outs.length ∧ levP d.ins d.rows k = (i : Int) ∧ i < d.ins.length
theorem lastR_eq {d : Dc} (w : DcFit d) : lastR d.rows = d.rows.getD d.ins.length [] := by unfold lastR; rw [w.rows]; rfl
theorem step_bland {d : Dc} (w : Wf d) {i k : Nat} (h : StepAt d i k) : Bland (dg d) i k (dg (pivD d i k)) := by
  obtain ⟨he, hk, hl, hi⟩ := h
  rcases ent_spec d.outs (lastR d.rows) d.outs.length with ⟨h1, _⟩ | ⟨t, h1, ht, hp, hall⟩
  · unfold entP at he; omega
  have htk : t = k := by unfold entP at he; omega
  subst htk
  rw [lastR_eq w.fit] at hp hall
  rcases lev_spec d.ins d.rows t d.ins.length with ⟨h2, _⟩ | ⟨u, h2, _, hu, hn, hlim⟩
  · unfold levP at hl; omega
  have hui : u = i := by unfold levP at hl; omega
  subst hui
  refine ⟨pivD_is w.fit hi hk (by intro e; rw [e] at hn; grind), hp, fun c hc hcp => ?_, hn, fun r hr hrn => ?_⟩
  · have := hall c hc hcp
    have h0 := w.o0 _ (iAt_mem hk)
    show (iAt d.outs (t : Int)).toNat ≤ (iAt d.outs (c : Int)).toNat
    omega
  · obtain ⟨g1, g2⟩ := hlim r hr hrn
    refine ⟨g1, fun q => ?_⟩
    have := g2 q
    show (iAt d.ins (u : Int)).toNat ≤ (iAt d.ins (r : Int)).toNat
    omega
structure OnWay (F : Dg → Prop) (V : Nat) (d : Dc) : Prop where
  w : Wf d
  I : (dg d).Inj
  ok : (dg d).Ok
  f : F (dg d)
  vb : ∀ v, (dg d).Bas v → v < V
  vn : ∀ v, (dg d).Non v → v < V
section
variable {F : Dg → Prop} {V : Nat} (hF : ∀ (d e : Dg) (i k : Nat), F d → d.Inj → IsPiv d i k e → F e) (hR : ∀ d : Dg, F d → d.Inj → ∃ D, Rep d D)
include hF
theorem OnWay.step {d : Dc} (h : OnWay F V d) {i k : Nat} (s : StepAt d i k) : OnWay F V (pivD d i k) ∧ DEqv (dg d) (dg (pivD d i k)) := by
  have b := step_bland h.w s
  have e := b.p.eqv h.I
  exact ⟨⟨h.w.piv s.2.2.2 s.2.1, e.j, b.ok h.ok, hF _ _ _ _ h.f h.I b.p, fun v hv => (e.v v).1 (.inl hv) |>.elim (h.vb v) (h.vn v), fun v hv => (e.v v).1 (.inr hv) |>.elim (h.vb v) (h.vn v)⟩, e⟩
def Stops : Nat → Dc → Prop
  | 0, d => ¬ ∃ i k, StepAt d i k
  | t + 1, d => ∃ i k, StepAt d i k ∧ Stops t (pivD d i k)
theorem stops_some {d : Dc} (h : OnWay F V d) : ∃ t, Stops t d := by
  classical
  refine Classical.byContradiction fun no => ?_
  have no : ∀ t, ¬ Stops t d := fun t ht => no ⟨t, ht⟩
  let nx : Dc → Dc := fun d => if e : ∃ i k, StepAt d i k then pivD d (Classical.choose e) (Classical.choose (Classical.choose_spec e)) else d
  have hnx : ∀ d, (∀ t, ¬ Stops t d) → OnWay F V d → (∃ i k, StepAt d i k ∧ nx d = pivD d i k) ∧ (∀ t, ¬ Stops t (nx d)) ∧ OnWay F V (nx d) := by
    intro d hno ho
    have e : ∃ i k, StepAt d i k := Classical.byContradiction fun h => hno 0 h
    have hs := Classical.choose_spec (Classical.choose_spec e)
    have hd : nx d = pivD d (Classical.choose e) (Classical.choose (Classical.choose_spec e)) := dif_pos e
    rw [hd]
    exact ⟨⟨_, _, hs, rfl⟩, fun t ht => hno (t + 1) ⟨_, _, hs, ht⟩, (ho.step hF hs).1⟩
  let seq : Nat → Dc := fun t => Nat.rec d (fun _ x => nx x) t
  have hseq : ∀ t, (∀ u, ¬ Stops u (seq t)) ∧ OnWay F V (seq t) := by
    intro t
    induction t with
    | zero => exact ⟨no, h⟩
    | succ t ih => exact (hnx _ ih.1 ih.2).2
  refine no_run (s := fun t => dg (seq t)) h.I h.ok V h.vn h.vb fun t => ?_
  obtain ⟨i, k, hs, hd⟩ := (hnx _ (hseq t).1 (hseq t).2).1
  refine ⟨i, k, ?_⟩
  show Bland (dg (seq t)) i k (dg (nx (seq t)))
  rw [hd]
  exact step_bland (hseq t).2.w hs
include hR
theorem climb_of : ∀ (t : Nat) (d : Dc), OnWay F V d → Stops t d → ∃ n b d', Climb n d b d' ∧ DEqv (dg d) (dg d') ∧ OnWay F V d' ∧ (b = true → ∀ k, k < d'.outs.length → ¬ 0 < (dg d').a (dg d').m (k + 1)) ∧ (b = false → ∃ k, k < d'.outs.length ∧ 0 < (dg d').a (dg d').m (k + 1) ∧ ∀ r, r < d'.ins.length → ¬ (dg d').a r (k + 1) < 0)
  | 0, d, h, hs => by
    obtain ⟨D, hD⟩ := hR _ h.f h.I
    rcases ent_spec d.outs (lastR d.rows) d.outs.length with ⟨h1, hall⟩ | ⟨t, h1, ht, hp, _⟩
    · rw [lastR_eq h.w.fit] at hall
      exact ⟨0, true, d, .stop h1, DEqv.refl h.I, h, fun _ k hk => hall k hk, fun e => by cases e⟩
    · rw [lastR_eq h.w.fit] at hp
      rcases lev_spec d.ins d.rows t d.ins.length with ⟨h2, hall⟩ | ⟨u, h2, _, hu, _⟩
      · exact ⟨0, false, d, .opn t h1 ht (lev_fit h.w.fit hD ht) h2, DEqv.refl h.I, h, (fun e => by cases e), fun _ => ⟨t, ht, hp, fun r hr => hall r hr⟩⟩
      · exact absurd ⟨u, t, h1, ht, h2, hu⟩ hs
  | t + 1, d, h, hs => by
    obtain ⟨i, k, s, hs2⟩ := hs
    obtain ⟨h2, e2⟩ := h.step hF s
    obtain ⟨n, b, d', hc, e3, g1, g2, g3⟩ := climb_of t _ h2 hs2
    obtain ⟨D, hD⟩ := hR _ h.f h.I
    obtain ⟨E, hE⟩ := hR _ h2.f h2.I
    have bl := step_bland h.w s
    exact ⟨n + 1, b, d', .step k i s.1 s.2.1 (lev_fit h.w.fit hD s.2.1) s.2.2.1 s.2.2.2 (piv_fit h.w.fit hD s.2.2.2 s.2.1 bl.p.ne h2.w.fit hE) hc, e2.trans e3, g1, g2, g3⟩
theorem climb_ex {d : Dc} (h : OnWay F V d) : ∃ n b d', Climb n d b d' ∧ DEqv (dg d) (dg d') ∧ OnWay F V d' ∧ (b = true → ∀ k, k < d'.outs.length → ¬ 0 < (dg d').a (dg d').m (k + 1)) ∧ (b = false → ∃ k, k < d'.outs.length ∧ 0 < (dg d').a (dg d').m (k + 1) ∧ ∀ r, r < d'.ins.length → ¬ (dg d').a r (k + 1) < 0) := by
  obtain ⟨t, ht⟩ := stops_some hF h
  exact climb_of hF hR t d h ht
end
theorem coefF_none {l : List (Int × Int)} {c : Int} (h : ∀ t ∈ l, t.1 ≠ c) : coefF l c = 0 := by
  induction l with
  | nil => rfl
  | cons t l ih =>
    unfold coefF
    rw [if_neg (h t (List.mem_cons_self ..))]
    exact ih (fun s hs => h s (List.mem_cons_of_mem _ hs))
theorem coefF_snoc {l : List (Int × Int)} {t : Int × Int} (h : ∀ s ∈ l, s.1 < t.1) (c : Int) : coefF (l ++ [t]) c = if c = t.1 then t.2 else coefF l c := by
  induction l with
  | nil =>
    show coefF [t] c = _
    unfold coefF coefF
    by_cases e : t.1 = c
    · rw [if_pos e, if_pos e.symm]
    · rw [if_neg e, if_neg (fun h => e h.symm)]
  | cons s l ih =>
    have hs := h s (List.mem_cons_self ..)
    show coefF (s :: (l ++ [t])) c = _
    unfold coefF
    by_cases e : s.1 = c
    · rw [if_pos e, if_pos e, if_neg (by omega)]
    · rw [if_neg e, if_neg e]
      exact ih (fun u hu => h u (List.mem_cons_of_mem _ hu))
theorem terms_less {l : List (Int × Int)} {n m : Int} (h : TermsOk l n m l.length) {k : Nat} {t : Int × Int} (ht : l[k]? = some t) : ∀ s ∈ l.take k, s.1 < t.1 := by
  have key : ∀ j : Nat, ∀ p q : Nat, q = p + j → ∀ s u, l[p]? = some s → l[q + 1]? = some u → s.1 < u.1 := by
    intro j
    induction j with
    | zero =>
      intro p q e s u hs hu
      have hu : l[p + 1]? = some u := by rw [show p + 1 = q + 1 by omega]; exact hu
      exact (h (p + 1) u (List.getElem?_eq_some_iff.1 hu).1 hu).2.2.1 p s rfl hs
    | succ j ih =>
      intro p q e s u hs hu
      subst e
      have hlen := (List.getElem?_eq_some_iff.1 hu).1
      obtain ⟨v, hv⟩ : ∃ v, l[p + j + 1]? = some v := ⟨_, List.getElem?_eq_getElem (by omega)⟩
      have h1 := ih p (p + j) rfl s v hs hv
      have h2 := (h (p + (j + 1) + 1) u hlen hu).2.2.1 (p + j + 1) v (by omega) hv
      omega
  intro s hs
  obtain ⟨p, hp⟩ := List.getElem?_of_mem hs
  have hpk : p < k := by have := (List.getElem?_eq_some_iff.1 hp).1; rw [List.length_take] at this; omega
  rw [List.getElem?_take, if_pos hpk] at hp
  exact key (k - 1 - p) p (k - 1) (by omega) s t hp (by rw [show k - 1 + 1 = k by omega]; exact ht)
theorem coefF_take {l : List (Int × Int)} {n m : Int} (h : TermsOk l n m l.length) {k : Nat} {t : Int × Int} (ht : l[k]? = some t) (c : Int) : coefF (l.take (k + 1)) c = if c = t.1 then t.2 else coefF (l.take k) c := by
  rw [List.take_add_one, ht]
  exact coefF_snoc (terms_less h ht) c
theorem coefF_take0 {l : List (Int × Int)} {n m : Int} (h : TermsOk l n m l.length) {k : Nat} {t : Int × Int} (ht : l[k]? = some t) : coefF (l.take k) t.1 = 0 := coefF_none (fun s hs => by have := terms_less h ht s hs; omega)
theorem gR_set {l : List Rat} {i : Nat} (hi : i < l.length) (x : Rat) (c : Nat) : gR (l.set i x) c = if c = i then x else gR l c := by
  unfold gR
  rw [List.getD_eq_getElem?_getD, List.getElem?_set]
  by_cases e : i = c
  · subst e
    rw [if_pos rfl, if_pos hi, if_pos rfl]; rfl
  · rw [if_neg e, if_neg (fun h => e h.symm), List.getD_eq_getElem?_getD]
structure SumJ (C : Nat) (ss : List Rat) (base : Nat → Rat) (l : List (Int × Int)) (k : Nat) (y : Rat) : Prop where
  len : ss.length = C
  val : ∀ c : Nat, c < C → gR ss c = base c + (coefF (l.take k) c : Rat) * y
theorem SumJ.step {C : Nat} {ss : List Rat} {base : Nat → Rat} {l : List (Int × Int)} {k : Nat} {y : Rat} (h : SumJ C ss base l k y) {n m : Int} (ok : TermsOk l n m l.length) {i : Nat} {co : Int} (ht : l[k]? = some ((i : Int), co)) (hi : i < C) : SumJ C (ss.set i (gR ss i + (co : Rat) * y)) base l (k + 1) y := by
  refine ⟨by rw [List.length_set]; exact h.len, fun c hc => ?_⟩
  rw [gR_set (by rw [h.len]; exact hi), coefF_take ok ht]
  dsimp only
  by_cases e : c = i
  · subst e
    have z := coefF_take0 ok ht
    dsimp only at z
    rw [if_pos rfl, if_pos rfl, h.val c hc, z]
    simp only [Rat.intCast_zero]
    grind
  · rw [if_neg e, if_neg (by omega), h.val c hc]
theorem sm_front (f : Nat → Rat) : ∀ n : Nat, sm f (n + 1) = f 0 + sm (fun k => f (k + 1)) n
  | 0 => by show sm f 0 + f 0 = f 0 + 0; unfold sm; grind
  | n + 1 => by
    show sm f (n + 1) + f (n + 1) = f 0 + (sm (fun k => f (k + 1)) n + f (n + 1))
    rw [sm_front f n]; grind
def dotY (tm : List (Int × Int)) (y : Nat → Rat) (k : Nat) : Rat := (tm.take k).foldl (fun s t => s + (t.2 : Rat) * y t.1.toNat) 0
theorem dotY_succ {tm : List (Int × Int)} {y : Nat → Rat} {k : Nat} {t : Int × Int} (h : tm[k]? = some t) : dotY tm y (k + 1) = dotY tm y k + (t.2 : Rat) * y t.1.toNat := by
  unfold dotY; rw [List.take_add_one, h, List.foldl_append]; rfl
theorem dotY_sm {tm : List (Int × Int)} {n : Nat} {m : Int} (h : TermsOk tm n m tm.length) (y : Nat → Rat) : ∀ k : Nat, k ≤ tm.length → dotY tm y k = sm (fun j => (coefF (tm.take k) j : Rat) * y j) n
  | 0, _ => by
    rw [sm_zero (fun j _ => by show ((0 : Int) : Rat) * y j = 0; simp)]
    unfold dotY; simp
  | k + 1, hk => by
    obtain ⟨t, ht⟩ : ∃ t, tm[k]? = some t := ⟨_, List.getElem?_eq_getElem (by omega)⟩
    obtain ⟨h0, h1, _⟩ := h k t (by omega) ht
    rw [dotY_succ ht, dotY_sm h y k (by omega)]
    have z := coefF_take0 h ht
    rw [sm_one (f := fun j => (coefF (tm.take (k + 1)) j : Rat) * y j) (g := fun j => (coefF (tm.take k) j : Rat) * y j) (k := t.1.toNat) (by omega) (fun j hj hne => by rw [coefF_take h ht, if_neg (by omega)])]
    have e : ((t.1.toNat : Nat) : Int) = t.1 := by omega
    rw [e, z, coefF_take h ht, if_pos rfl]
    simp only [Rat.intCast_zero]
    grind
theorem dotY_all {tm : List (Int × Int)} {n : Nat} {m : Int} (h : TermsOk tm n m tm.length) (y : Nat → Rat) : dotY tm y tm.length = sm (fun j => (coefF tm j : Rat) * y j) n := by
  have := dotY_sm h y tm.length (Nat.le_refl _)
  rwa [List.take_length] at this
def mcol (n m : Nat) (rows : List MRow) (g : List (Int × Int)) (c0 : Nat → Rat) (v r : Nat) : Rat :=
  if v = 0 then c0 r else if v ≤ n then (if r < m then (coefF (rowD rows r).1 ((v - 1 : Nat) : Int) : Rat) else -(coefF g ((v - 1 : Nat) : Int) : Rat)) else if r = v - n - 1 then 1 else 0
def mrhs (m : Nat) (rows : List MRow) (k r : Int) : Rat := if r < m then ((rowD rows r.toNat).2 : Rat) else (k : Rat)
theorem gR_app0 (a b : Rat) (n j : Nat) : gR ([a, b] ++ List.replicate n 0) (j + 2) = 0 := by
  unfold gR
  rw [List.getD_eq_getElem?_getD]
  by_cases h : j < n
  · rw [List.getElem?_append_right (by simp), List.getElem?_replicate, if_pos (by simpa using h)]; rfl
  · rw [List.getElem?_eq_none (by simp; omega)]; rfl
theorem rowTo_get {n : Nat} {x : MRow} {m : Int} (h : TermsOk x.1 n m x.1.length) (j : Nat) : ∀ k : Nat, k ≤ x.1.length → gR (rowTo x.1 ([(x.2 : Rat), 1] ++ List.replicate n 0) k) (j + 2) = -(coefF (x.1.take k) j : Rat) ∧ gR (rowTo x.1 ([(x.2 : Rat), 1] ++ List.replicate n 0) k) 0 = (x.2 : Rat) ∧ gR (rowTo x.1 ([(x.2 : Rat), 1] ++ List.replicate n 0) k) 1 = 1
  | 0, _ => by
    refine ⟨?_, rfl, rfl⟩
    show gR ([(x.2 : Rat), 1] ++ List.replicate n 0) (j + 2) = -((0 : Int) : Rat)
    rw [gR_app0]; simp
  | k + 1, hk => by
    obtain ⟨t, ht⟩ : ∃ t, x.1[k]? = some t := ⟨_, List.getElem?_eq_getElem (by omega)⟩
    obtain ⟨h0, h1, _⟩ := h k t (by omega) ht
    obtain ⟨i1, i2, i3⟩ := rowTo_get h j k (by omega)
    have e : rowTo x.1 ([(x.2 : Rat), 1] ++ List.replicate n 0) (k + 1) = rowSet (rowTo x.1 ([(x.2 : Rat), 1] ++ List.replicate n 0) k) t := by
      unfold rowTo; rw [List.take_add_one, ht, List.foldl_append]; rfl
    have hl : (rowTo x.1 ([(x.2 : Rat), 1] ++ List.replicate n 0) k).length = n + 2 := by rw [rowTo_length]; simp
    rw [e]
    unfold rowSet
    refine ⟨?_, ?_, ?_⟩
    · by_cases hj : j + 2 < n + 2
      · rw [gR_put (by rw [hl]; exact hj), coefF_take h ht, i1]
        by_cases hjt : (j : Int) = t.1
        · rw [if_pos (by omega), if_pos hjt, Rat.intCast_neg]
        · rw [if_neg (by omega), if_neg hjt]
      · unfold gR
        rw [List.getD_eq_getElem?_getD, List.getElem?_eq_none (by rw [List.length_set, hl]; omega)]
        have := coefF_none (l := x.1.take (k + 1)) (c := (j : Int)) (fun s hs => by
          obtain ⟨i, hi⟩ := List.getElem?_of_mem (List.mem_of_mem_take hs)
          have := (h i s (List.getElem?_eq_some_iff.1 hi).1 hi).2.1
          omega)
        rw [this]; simp
    · rw [gR_put (by rw [hl]; omega), if_neg (by omega), i2]
    · rw [gR_put (by rw [hl]; omega), if_neg (by omega), i3]
theorem rowOf_get {n : Nat} {x : MRow} {m : Int} (h : TermsOk x.1 n m x.1.length) (j : Nat) : gR (rowOf n x) (j + 2) = -(coefF x.1 j : Rat) ∧ gR (rowOf n x) 0 = (x.2 : Rat) ∧ gR (rowOf n x) 1 = 1 := by
  have := rowTo_get h j x.1.length (Nat.le_refl _)
  unfold rowTo at this
  rw [List.take_length] at this
  exact this
section
variable {n : Nat} {rows : List MRow} {goal : List (Int × Int)} {c0 : Int} (hs : SmallP n rows goal c0)
theorem insOf_at {n m i : Nat} (h : i < m) : iAt (insOf n m) (i : Int) = ((n + 1 + i : Nat) : Int) := iAt_of (by unfold insOf; rw [List.getElem?_map, List.getElem?_range h]; rfl)
theorem outsOf_at {n k : Nat} (h : k < n + 1) : iAt (outsOf n) (k : Int) = (k : Int) := iAt_of (by unfold outsOf; rw [List.getElem?_map, List.getElem?_range h]; rfl)
theorem begD_row {r : Nat} (h : r < rows.length) : (begD n rows).rows.getD r [] = rowOf n (rowD rows r) := by
  unfold begD
  dsimp only
  rw [List.getD_eq_getElem?_getD, List.getElem?_append_left (by simpa using h), List.getElem?_map, List.getElem?_eq_getElem h]
  unfold rowD
  rw [List.getD_eq_getElem?_getD, List.getElem?_eq_getElem h]; rfl
theorem begD_last : (begD n rows).rows.getD rows.length [] = [0, -1] ++ List.replicate n 0 := by
  unfold begD
  dsimp only
  rw [List.getD_eq_getElem?_getD, List.getElem?_append_right (by simp)]
  simp
theorem beg_m : (dg (begD n rows)).m = rows.length := by simp [dg, begD, insOf]
theorem beg_n : (dg (begD n rows)).n = n + 1 := by simp [dg, begD, outsOf]
theorem beg_B {i : Nat} (h : i < rows.length) : (dg (begD n rows)).B i = n + 1 + i := by
  show (iAt (insOf n rows.length) (i : Int)).toNat = _
  rw [insOf_at h]; omega
theorem beg_N {k : Nat} (h : k < n + 1) : (dg (begD n rows)).N k = k := by
  show (iAt (outsOf n) (k : Int)).toNat = _
  rw [outsOf_at h]; omega
include hs
theorem beg_a {r j : Nat} (h : r < rows.length) : (dg (begD n rows)).a r (j + 2) = -(coefF (rowD rows r).1 j : Rat) ∧ (dg (begD n rows)).a r 0 = ((rowD rows r).2 : Rat) ∧ (dg (begD n rows)).a r 1 = 1 := by
  show gR ((begD n rows).rows.getD r []) (j + 2) = _ ∧ gR ((begD n rows).rows.getD r []) 0 = _ ∧ gR ((begD n rows).rows.getD r []) 1 = _
  rw [begD_row h]
  exact rowOf_get (small_rowD hs r).1 j
omit hs in
theorem beg_g {j : Nat} : (dg (begD n rows)).a rows.length (j + 2) = 0 ∧ (dg (begD n rows)).a rows.length 0 = 0 ∧ (dg (begD n rows)).a rows.length 1 = -1 := by
  show gR ((begD n rows).rows.getD rows.length []) (j + 2) = _ ∧ gR ((begD n rows).rows.getD rows.length []) 0 = _ ∧ gR ((begD n rows).rows.getD rows.length []) 1 = _
  rw [begD_last]
  exact ⟨gR_app0 _ _ _ _, rfl, rfl⟩
omit hs in
theorem beg_inj : (dg (begD n rows)).Inj := by
  refine ⟨fun i j hi hj e => ?_, fun i j hi hj e => ?_, fun i k hi hk e => ?_⟩
  · rw [beg_m] at hi hj
    rw [beg_B hi, beg_B hj] at e; omega
  · rw [beg_n] at hi hj
    rw [beg_N hi, beg_N hj] at e; exact e
  · rw [beg_m] at hi
    rw [beg_n] at hk
    rw [beg_B hi, beg_N hk] at e; omega
def col0 (m r : Nat) : Rat := if r < m then -1 else 1
omit hs in
theorem beg_bz {j : Nat} (h : j < rows.length + 1) : (dg (begD n rows)).Bz (n + 1 + rows.length) j = n + 1 + j := by
  unfold Dg.Bz
  rw [beg_m]
  split
  · rename_i hl; exact beg_B hl
  · have : j = rows.length := by omega
    rw [this]
omit hs in
theorem mcol_unit {m : Nat} {g : List (Int × Int)} {c : Nat → Rat} {j r : Nat} : mcol n m rows g c (n + 1 + j) r = if r = j then 1 else 0 := by
  unfold mcol
  rw [if_neg (by omega), if_neg (by omega), show n + 1 + j - n - 1 = j by omega]
omit hs in
theorem det_id : ∀ m : Nat, det m (fun j i => if i = j then 1 else 0) = 1
  | 0 => rfl
  | m + 1 => by
    unfold det
    rw [sm_only (k := 0) (fun r _ hne => by
      show sgn r * (if r = 0 then 1 else 0) * _ = 0
      rw [if_neg hne]; grind), if_pos (by omega)]
    show sgn 0 * (if 0 = 0 then 1 else 0) * det m (fun j i => if skip 0 i = j + 1 then 1 else 0) = 1
    rw [if_pos rfl]
    have : det m (fun j i => if skip 0 i = j + 1 then 1 else 0) = det m (fun j i => if i = j then 1 else 0) := det_congr fun j _ i _ => by
      have e : skip 0 i = i + 1 := by unfold skip; rw [if_neg (by omega)]
      rw [e]
      by_cases h : i = j
      · rw [if_pos (by omega), if_pos h]
      · rw [if_neg (by omega), if_neg h]
    rw [this, det_id m]
    show sgn 0 * 1 * 1 = 1
    unfold sgn; simp
omit hs in
theorem sm_unit (f : Nat → Rat) {M r : Nat} (h : r < M) : sm (fun j => f j * (if r = j then 1 else 0)) M = f r := by
  rw [sm_only (k := r) (fun j _ hne => by rw [if_neg (fun e => hne e.symm)]; grind), if_pos h, if_pos rfl]; grind
theorem beg_cr : Crd (mcol n rows.length rows [] (col0 rows.length)) (fun r => mrhs rows.length rows 0 r) (n + 1 + rows.length) (dg (begD n rows)) := by
  have hsum : ∀ (x : Nat → Rat) (r : Nat), r < rows.length + 1 → sm (fun j => x j * mcol n rows.length rows [] (col0 rows.length) ((dg (begD n rows)).Bz (n + 1 + rows.length) j) r) (rows.length + 1) = x r := fun x r hr => by
    rw [sm_congr (g := fun j => x j * (if r = j then 1 else 0)) (fun j hj => by rw [beg_bz hj, mcol_unit]), sm_unit x hr]
  refine ⟨fun r hr => ?_, fun c hc r hr => ?_, ?_⟩
  · rw [beg_m] at hr ⊢
    rw [hsum (fun j => (dg (begD n rows)).a j 0) r hr]
    unfold mrhs
    by_cases h : r < rows.length
    · rw [(beg_a hs (j := 0) h).2.1, if_pos (by omega)]; rfl
    · rw [show r = rows.length by omega, (beg_g (j := 0)).2.1, if_neg (by omega)]; simp
  · rw [beg_m] at hr ⊢
    rw [beg_n] at hc
    rw [hsum (fun j => (dg (begD n rows)).a j (c + 1)) r hr, beg_N hc]
    unfold mcol col0
    cases c with
    | zero =>
      rw [if_pos rfl]
      by_cases h : r < rows.length
      · rw [(beg_a hs (j := 0) h).2.2, if_pos h]; grind
      · rw [show r = rows.length by omega, (beg_g (j := 0)).2.2, if_neg (by omega)]
    | succ c =>
      rw [if_neg (by omega), if_pos (by omega)]
      by_cases h : r < rows.length
      · rw [(beg_a hs (j := c) h).1, if_pos h]; rfl
      · rw [show r = rows.length by omega, (beg_g (j := c)).1, if_neg (by omega)]
        show 0 = - -((0 : Int) : Rat); simp
  · rw [beg_m]
    have : det (rows.length + 1) (fun j => mcol n rows.length rows [] (col0 rows.length) ((dg (begD n rows)).Bz (n + 1 + rows.length) j)) = det (rows.length + 1) (fun j i => if i = j then 1 else 0) := det_congr fun j hj i _ => by rw [beg_bz hj, mcol_unit]
    rw [this, det_id]; grind
end
end Go.Proofs.Ytdegpgonphgbcaa
