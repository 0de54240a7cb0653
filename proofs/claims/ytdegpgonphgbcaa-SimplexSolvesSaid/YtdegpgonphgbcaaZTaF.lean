/-
  The document's run ends.
  Theory.
  The first phase.
-/
import Derived.Test.YtdegpgonphgbcaaZSoD
namespace Go.Proofs.Ytdegpgonphgbcaa
open Go.RowKit
structure OnT (F : Dg → Prop) (V : Nat) (T : Tab) (d : Dg) : Prop where
  t : TabOf T V d
  I : d.Inj
  ok : d.Ok
  f : F d
def StepT (n V : Nat) (T : Tab) (i c : Nat) : Prop := entAtT T.goal n = (c : Int) ∧ c < n ∧ (levAtT T c V T.rows.length).1 = (i : Int) ∧ i < T.rows.length
def StopsT (n V : Nat) : Nat → Tab → Prop
  | 0, T => ¬ ∃ i c, StepT n V T i c
  | t + 1, T => ∃ i c, StepT n V T i c ∧ StopsT n V t (pivT T i c)
section
variable {F : Dg → Prop} {V n : Nat} {T : Tab} {d : Dg}
theorem non_of_goal (t : TabOf T V d) {c : Nat} (hc : c < V) (h : gR T.goal c ≠ 0) : ∃ k, k < d.n ∧ d.N k = c := by
  rcases t.tot c hc with ⟨b, hb, rfl⟩ | h'
  · exact absurd (t.gb b hb) h
  · exact h'
theorem stepT_bland (h : OnT F V T d) (hn : n ≤ V) {i c : Nat} (s : StepT n V T i c) : ∃ k, k < d.n ∧ d.N k = c ∧ i < d.m ∧ Bland d i k (pivG d i k) := by
  obtain ⟨he, hc, hl, hi⟩ := s
  have t := h.t
  rcases ent_specT T.goal n with ⟨h1, _⟩ | ⟨c', h1, _, hp, hall⟩
  · omega
  have : c' = c := by omega
  subst this
  obtain ⟨k, hk, rfl⟩ := non_of_goal t (show c' < V by omega) (by intro e; rw [e] at hp; grind)
  rcases lev_specT T (d.N k) V T.rows.length with ⟨h2, _⟩ | ⟨u, h2, _, hu, hq, hlim⟩
  · omega
  have : u = i := by omega
  subst this
  rw [t.m] at hu
  have ha := t.an u k hu hk
  have hg := t.gn k hk
  have lim : ∀ r, r < d.m → quoT T (d.N k) V r = d.lim k r := fun r hr => by
    unfold quoT Dg.lim
    rw [t.an r k hr hk, t.a0 r hr]; grind
  have neg : d.a u (k + 1) < 0 := by rw [ha] at hq; grind
  refine ⟨k, hk, rfl, hu, pivG_is hu hk (by intro e; rw [e] at neg; grind), by rw [hg] at hp; grind, fun x hx hxp => ?_, neg, fun r hr hrn => ?_⟩
  · refine Classical.byContradiction fun hlt => ?_
    have := hall (d.N x) (by omega)
    rw [t.gn x hx] at this; grind
  · obtain ⟨g1, g2⟩ := hlim r (by rw [t.m]; exact hr) (by rw [t.an r k hr hk]; grind)
    rw [lim u hu, lim r hr] at g1 g2
    refine ⟨g1, fun q => ?_⟩
    have := g2 q
    unfold bsAt at this
    rw [Int.toNat_natCast, Int.toNat_natCast, t.B u hu, t.B r hr] at this
    exact this
variable (hF : ∀ (d e : Dg) (i k : Nat), F d → d.Inj → IsPiv d i k e → d.N k < n → F e) (hn : n ≤ V)
include hF hn
theorem OnT.step (h : OnT F V T d) {i c : Nat} (s : StepT n V T i c) : ∃ k, k < d.n ∧ d.N k = c ∧ i < d.m ∧ Bland d i k (pivG d i k) ∧ OnT F V (pivT T i c) (pivG d i k) ∧ DEqv d (pivG d i k) := by
  obtain ⟨k, hk, rfl, hi, b⟩ := stepT_bland h hn s
  have e := b.p.eqv h.I
  exact ⟨k, hk, rfl, hi, b, ⟨tabOf_piv h.t h.I hi hk b.p.ne, e.j, b.ok h.ok, hF _ _ _ _ h.f h.I b.p s.2.1⟩, e⟩
theorem stopsT_some (h : OnT F V T d) : ∃ t, StopsT n V t T := by
  classical
  refine Classical.byContradiction fun no => ?_
  have no : ∀ t, ¬ StopsT n V t T := fun t ht => no ⟨t, ht⟩
  let Q : Tab × Dg → Tab × Dg → Prop := fun p p' => ∃ i k, Bland p.2 i k p'.2
  have hnx : ∀ p : Tab × Dg, ∃ p' : Tab × Dg, ((∀ t, ¬ StopsT n V t p.1) ∧ OnT F V p.1 p.2) → Q p p' ∧ (∀ t, ¬ StopsT n V t p'.1) ∧ OnT F V p'.1 p'.2 := by
    intro p
    by_cases hp : (∀ t, ¬ StopsT n V t p.1) ∧ OnT F V p.1 p.2
    · obtain ⟨hno, ho⟩ := hp
      have e : ∃ i c, StepT n V p.1 i c := Classical.byContradiction fun h => hno 0 h
      obtain ⟨i, c, s⟩ := e
      obtain ⟨k, _, _, _, b, ho2, _⟩ := ho.step hF hn s
      exact ⟨(pivT p.1 i c, pivG p.2 i k), fun _ => ⟨⟨i, k, b⟩, fun t ht => hno (t + 1) ⟨i, c, s, ht⟩, ho2⟩⟩
    · exact ⟨p, fun h => absurd h hp⟩
  let nx : Tab × Dg → Tab × Dg := fun p => Classical.choose (hnx p)
  have hs : ∀ p, ((∀ t, ¬ StopsT n V t p.1) ∧ OnT F V p.1 p.2) → Q p (nx p) ∧ (∀ t, ¬ StopsT n V t (nx p).1) ∧ OnT F V (nx p).1 (nx p).2 := fun p => Classical.choose_spec (hnx p)
  let seq : Nat → Tab × Dg := fun t => Nat.rec (T, d) (fun _ x => nx x) t
  have hseq : ∀ t, (∀ u, ¬ StopsT n V u (seq t).1) ∧ OnT F V (seq t).1 (seq t).2 := by
    intro t
    induction t with
    | zero => exact ⟨no, h⟩
    | succ t ih => exact (hs _ ih).2
  refine no_run (s := fun t => (seq t).2) h.I h.ok V (fun v ⟨k, hk, e⟩ => by rw [← e]; exact h.t.vn k hk) (fun v ⟨k, hk, e⟩ => by rw [← e]; exact h.t.vb k hk) fun t => ?_
  exact (hs _ (hseq t)).1
variable (hR : ∀ d : Dg, F d → d.Inj → ∃ D, BdT d D)
include hR
theorem runT_of : ∀ (t : Nat) (T : Tab) (d : Dg), OnT F V T d → StopsT n V t T → ∃ k b T' d', RunT n V k T b T' ∧ DEqv d d' ∧ OnT F V T' d' ∧ (b = true → ∀ k, k < d'.n → d'.N k < n → ¬ 0 < d'.a d'.m (k + 1)) ∧ (b = false → ∃ k, k < d'.n ∧ d'.N k < n ∧ 0 < d'.a d'.m (k + 1) ∧ ∀ r, r < d'.m → ¬ d'.a r (k + 1) < 0)
  | 0, T, d, h, hs => by
    obtain ⟨D, hD⟩ := hR _ h.f h.I
    rcases ent_specT T.goal n with ⟨h1, hall⟩ | ⟨c, h1, hcn, hp, _⟩
    · exact ⟨0, true, T, d, .stop h1, DEqv.refl h.I, h, fun _ k hk hkn hpos => hall (d.N k) hkn (by rw [h.t.gn k hk]; grind), fun e => by cases e⟩
    · obtain ⟨k, hk, rfl⟩ := non_of_goal h.t (show c < V by omega) (by intro e; rw [e] at hp; grind)
      rcases lev_specT T (d.N k) V T.rows.length with ⟨h2, hall⟩ | ⟨u, h2, _, hu, _⟩
      · exact ⟨0, false, T, d, .opn (d.N k) h1 hcn (tab_lev_fit h.t hD (h.t.vn k hk)) h2, DEqv.refl h.I, h, (fun e => by cases e), fun _ => ⟨k, hk, hcn, by rw [h.t.gn k hk] at hp; grind, fun r hr hrn => hall r (by rw [h.t.m]; exact hr) (by rw [h.t.an r k hr hk]; grind)⟩⟩
      · exact absurd ⟨u, d.N k, h1, hcn, h2, hu⟩ hs
  | t + 1, T, d, h, hs => by
    obtain ⟨i, c, s, hs2⟩ := hs
    obtain ⟨k, hk, rfl, hi, b, h2, e2⟩ := h.step hF hn s
    obtain ⟨nst, b', T', d', hc, e3, g1, g2, g3⟩ := runT_of t _ _ h2 hs2
    obtain ⟨D, hD⟩ := hR _ h.f h.I
    obtain ⟨E, hE⟩ := hR _ h2.f h2.I
    exact ⟨nst + 1, b', T', d', .step (d.N k) i s.1 s.2.1 (tab_lev_fit h.t hD (h.t.vn k hk)) s.2.2.1 s.2.2.2 (tab_fit h.t h.I hD hi hk b.p.ne hE) hc, e2.trans e3, g1, g2, g3⟩
theorem runT_ex (h : OnT F V T d) : ∃ k b T' d', RunT n V k T b T' ∧ DEqv d d' ∧ OnT F V T' d' ∧ (b = true → ∀ k, k < d'.n → d'.N k < n → ¬ 0 < d'.a d'.m (k + 1)) ∧ (b = false → ∃ k, k < d'.n ∧ d'.N k < n ∧ 0 < d'.a d'.m (k + 1) ∧ ∀ r, r < d'.m → ¬ d'.a r (k + 1) < 0) := by
  obtain ⟨t, ht⟩ := stopsT_some hF hn h
  exact runT_of hF hn hR t T d h ht
end
def Dg.wg (d : Dg) (g : Nat → Rat) : Dg := ⟨d.m, d.n, d.B, d.N, fun r j => if r = d.m then g j else d.a r j⟩
theorem wg_row (d : Dg) (g : Nat → Rat) {r : Nat} (h : r < d.m) (j : Nat) : (d.wg g).a r j = d.a r j := if_neg (by omega)
theorem wg_goal (d : Dg) (g : Nat → Rat) (j : Nat) : (d.wg g).a d.m j = g j := if_pos rfl
theorem wg_inj {d : Dg} {g : Nat → Rat} : (d.wg g).Inj ↔ d.Inj := ⟨fun h => ⟨h.b, h.n, h.bn⟩, fun h => ⟨h.b, h.n, h.bn⟩⟩
theorem wg_piv {d e : Dg} {i k : Nat} (h : IsPiv d i k e) (g : Nat → Rat) : ∃ g', IsPiv (d.wg g) i k (e.wg g') := by
  refine ⟨fun j => if j = k + 1 then g (k + 1) * (1 / d.a i (k + 1)) else g j + g (k + 1) * (d.a i j * -(1 / d.a i (k + 1))), ?_⟩
  have hi := h.hi
  have r1 : ∀ r j, r < d.m → (d.wg g).a r j = d.a r j := fun r j hr => wg_row d g hr j
  have r2 : ∀ (g' : Nat → Rat) r j, r < d.m → (e.wg g').a r j = e.a r j := fun g' r j hr => wg_row e g' (by rw [h.m]; exact hr) j
  have m1 : ∀ j, (d.wg g).a d.m j = g j := fun j => wg_goal d g j
  have m2 : ∀ (g' : Nat → Rat) j, (e.wg g').a d.m j = g' j := fun g' j => by rw [← h.m]; exact wg_goal e g' j
  refine ⟨h.m, h.n, h.hi, h.hk, by rw [r1 _ _ hi]; exact h.ne, h.Bi, h.Br, h.Nk, h.Nc, by rw [r2 _ _ _ hi, r1 _ _ hi]; exact h.ik, fun j hj hne => by rw [r2 _ _ _ hi, r1 _ _ hi, r1 _ _ hi]; exact h.ij j hj hne, fun r hr hne => ?_, fun r hr hne j hj hjk => ?_⟩
  · have hr : r ≤ d.m := hr
    by_cases hm : r = d.m
    · subst hm
      rw [m2, m1, r1 _ _ hi, if_pos rfl]
    · rw [r2 _ _ _ (by omega), r1 _ _ (by omega), r1 _ _ hi]; exact h.rk r hr hne
  · have hr : r ≤ d.m := hr
    by_cases hm : r = d.m
    · subst hm
      rw [m2, m1, m1, r1 _ _ hi, r1 _ _ hi, if_neg hjk]
    · rw [r2 _ _ _ (by omega), r1 _ _ (by omega), r1 _ _ (by omega), r1 _ _ hi, r1 _ _ hi]; exact h.rj r hr hne j hj hjk
theorem sm_swap (f : Nat → Nat → Rat) (m : Nat) : ∀ n : Nat, sm (fun k => sm (fun j => f j k) m) n = sm (fun j => sm (fun k => f j k) n) m
  | 0 => by
    rw [show sm (fun k => sm (fun j => f j k) m) 0 = 0 from rfl]
    exact (sm_zero fun _ _ => rfl).symm
  | n + 1 => by
    have h := sm_swap f m n
    show sm _ n + sm (fun j => f j n) m = sm (fun j => sm (fun k => f j k) n + f j n) m
    rw [h, sm_add]
structure Frm (g : Nat → Rat) (d : Dg) : Prop where
  c0 : d.a d.m 0 = - sm (fun j => d.a j 0 * g (d.B j)) d.m
  ck : ∀ c, c < d.n → d.a d.m (c + 1) = - g (d.N c) - sm (fun j => d.a j (c + 1) * g (d.B j)) d.m
theorem Frm.piv {g : Nat → Rat} {d e : Dg} {i k : Nat} (f : Frm g d) (h : IsPiv d i k e) : Frm g e := by
  have hi := h.hi
  have hne := h.ne
  have main : ∀ x, x ≤ d.n → x ≠ k + 1 → sm (fun j => e.a j x * g (e.B j)) d.m = sm (fun j => d.a j x * g (d.B j)) d.m + d.a i x * -(1 / d.a i (k + 1)) * (sm (fun j => d.a j (k + 1) * g (d.B j)) d.m + g (d.N k)) := by
    intro x hx hxk
    rw [sm_one (f := fun j => e.a j x * g (e.B j)) (g := fun j => d.a j x * g (d.B j) + d.a i x * -(1 / d.a i (k + 1)) * (d.a j (k + 1) * g (d.B j))) (k := i) hi (fun j hj hji => by rw [h.Br j hj hji, h.rj j (by omega) hji x hx hxk]; grind), sm_add, sm_mul, h.Bi, h.ij x hx hxk]
    grind
  refine ⟨?_, fun c hc => ?_⟩
  · rw [h.m, main 0 (by omega) (by omega), h.rj d.m (by omega) (by omega) 0 (by omega) (by omega), f.c0, f.ck k h.hk]; grind
  · rw [h.n] at hc
    rw [h.m]
    by_cases hck : c = k
    · subst hck
      rw [h.Nk, sm_one (f := fun j => e.a j (c + 1) * g (e.B j)) (g := fun j => 1 / d.a i (c + 1) * (d.a j (c + 1) * g (d.B j))) (k := i) hi (fun j hj hji => by rw [h.Br j hj hji, h.rk j (by omega) hji]; grind), sm_mul, h.Bi, h.ik, h.rk d.m (by omega) (by omega), f.ck c hc]
      grind
    · rw [h.Nc c hc hck, main (c + 1) (by omega) (by omega), h.rj d.m (by omega) (by omega) (c + 1) (by omega) (by omega), f.ck c hc, f.ck k h.hk]; grind
theorem Frm.val {g : Nat → Rat} {d : Dg} (f : Frm g d) {x : Nat → Rat} (hx : ∀ i, i < d.m → x (d.B i) = d.val i x) : d.val d.m x = - sm (fun j => g (d.B j) * x (d.B j)) d.m - sm (fun c => g (d.N c) * x (d.N c)) d.n := by
  have e1 : sm (fun j => g (d.B j) * x (d.B j)) d.m = sm (fun j => d.a j 0 * g (d.B j)) d.m + sm (fun c => sm (fun j => d.a j (c + 1) * x (d.N c) * g (d.B j)) d.m) d.n := by
    rw [sm_swap (fun j c => d.a j (c + 1) * x (d.N c) * g (d.B j)) d.m d.n, ← sm_add]
    refine sm_congr fun j hj => ?_
    rw [hx j hj]
    unfold Dg.val
    have : sm (fun c => d.a j (c + 1) * x (d.N c) * g (d.B j)) d.n = g (d.B j) * sm (fun c => d.a j (c + 1) * x (d.N c)) d.n := by rw [← sm_mul]; exact sm_congr fun c _ => by grind
    rw [this]; grind
  have e2 : sm (fun c => d.a d.m (c + 1) * x (d.N c)) d.n = sm (fun c => (-1) * (g (d.N c) * x (d.N c)) + (-1) * sm (fun j => d.a j (c + 1) * x (d.N c) * g (d.B j)) d.m) d.n := sm_congr fun c hc => by
    rw [f.ck c hc]
    have : sm (fun j => d.a j (c + 1) * x (d.N c) * g (d.B j)) d.m = x (d.N c) * sm (fun j => d.a j (c + 1) * g (d.B j)) d.m := by rw [← sm_mul]; exact sm_congr fun j _ => by grind
    rw [this]; grind
  rw [sm_add, sm_mul, sm_mul] at e2
  have e3 : d.val d.m x = d.a d.m 0 + sm (fun k => d.a d.m (k + 1) * x (d.N k)) d.n := rfl
  rw [e3, e2, f.c0, e1]; grind
theorem fctpw5 {k : Nat} (hk : k ≤ 5) : fct k * pw 9 k ≤ 7085880 := by
  have : k = 0 ∨ k = 1 ∨ k = 2 ∨ k = 3 ∨ k = 4 ∨ k = 5 := by omega
  rcases this with rfl | rfl | rfl | rfl | rfl | rfl <;> (simp only [fct, pw]; grind)
theorem det_five {n : Nat} {c : Nat → Nat → Rat} (p : Nat → Bool) (hu : ∀ j, j < n → p j = false → UC n (c j)) (hg : ∀ j, j < n → p j = true → ∀ r, r < n → Ab (c j r) 9) (hk : cn p n ≤ 5) : Ab (det n c) 7085880 :=
  (det_bound 9 (by grind) n c p hu hg).le (fctpw5 hk)
section
variable {st : Nat → Prop} {col : Nat → Nat → Rat} {rhs : Nat → Rat} {Z : Nat} {d : Dg} (b : Bas (d.m + 1) st col rhs Z) (c : Crd col rhs Z d) (h6 : d.m ≤ 6)
theorem cn_two {m j : Nat} (hj : j < m) : cn (fun i => decide (i < m) && decide (i ≠ j)) (m + 1) = m - 1 := by
  have h1 : cn (fun i => decide (i < m) && decide (i ≠ j)) (m + 1) = cn (fun i => decide (i ≠ j)) m := by
    show cn _ m + _ = _
    rw [cn_congr (q := fun i => decide (i ≠ j)) (fun k hk => by simp [hk])]
    simp
  rw [h1, cn_but hj]
include b h6
theorem rep_D5 {j' : Nat} (hj' : j' < d.m) (hn : ¬ st (d.B j')) : Ab (d.D col Z) 7085880 := by
  refine det_five (fun j => decide (j < d.m) && decide (j ≠ j')) (fun j hj hp => ?_) (fun j _ _ r hr => b.b9 _ r hr) (by rw [cn_two hj']; omega)
  by_cases h : j < d.m
  · have : j = j' := by simpa [h] using hp
    subst this
    have e : d.Bz Z j = d.B j := if_pos h
    rw [e]; exact b.un _ hn
  · have : j = d.m := by omega
    rw [this, bz_last]; exact b.uz
include c
theorem rep_row5 {j x j' : Nat} (hj : j < d.m) (hx : x < d.n) (hj' : j' < d.m) (hne : j' ≠ j) (hn : ¬ st (d.B j')) : Big (d.a j (x + 1)) (d.D col Z) 7085880 := by
  have e := Cr.atk c (show j < d.m + 1 by omega) hx
  have e2 : d.a j (x + 1) * d.D col Z = - det (d.m + 1) (upd (fun j => col (d.Bz Z j)) j (col (d.N x))) := by rw [e]; unfold Dg.D; grind
  refine ⟨(rep_row b c h6 hj hx).1, ?_⟩
  rw [e2]
  refine (det_five (fun i => decide (i < d.m) && decide (i ≠ j')) (fun i hi hp => ?_) (fun i _ _ r hr => ?_) (by rw [cn_two hj']; omega)).neg
  · by_cases h : i < d.m
    · have : i = j' := by simpa [h] using hp
      subst this
      have e : d.Bz Z i = d.B i := if_pos h
      rw [upd_ne _ _ hne]
      show UC (d.m + 1) (col (d.Bz Z i))
      rw [e]; exact b.un _ hn
    · have : i = d.m := by omega
      rw [upd_ne _ _ (by omega), this, bz_last]; exact b.uz
  · unfold upd; split <;> exact b.b9 _ r hr
theorem rep_goal6 {x : Nat} (hx : x < d.n) (hst : ∀ v, st v → v < 6) (I : d.Inj) : Big (d.a d.m (x + 1)) (d.D col Z) 382637520 := by
  classical
  have e := Cr.atk c (show d.m < d.m + 1 by omega) hx
  have e2 : d.a d.m (x + 1) * d.D col Z = - det (d.m + 1) (upd (fun j => col (d.Bz Z j)) d.m (col (d.N x))) := by rw [e]; unfold Dg.D; grind
  have hw : Whole (det (d.m + 1) (upd (fun j => col (d.Bz Z j)) d.m (col (d.N x)))) := whole_det fun i _ r _ => by unfold upd; split <;> exact b.wc _ _
  have h9 : ∀ i, i < d.m + 1 → ∀ r, r < d.m + 1 → Ab (upd (fun j => col (d.Bz Z j)) d.m (col (d.N x)) i r) 9 := fun i _ r hr => by unfold upd; split <;> exact b.b9 _ r hr
  refine ⟨by rw [e2]; exact hw.neg, ?_⟩
  rw [e2]
  refine Ab.neg ?_
  by_cases h5 : d.m ≤ 5
  · exact det_six (fun _ => true) (fun _ _ h => by cases h) (fun i hi _ r hr => h9 i hi r hr) (by rw [cn_all (fun _ _ => rfl)]; omega)
  · have hm : d.m = 6 := by omega
    let f : Nat → Nat := fun t => if t < d.m then d.B t else d.N x
    have finj : ∀ p q, p < q → q ≤ d.m → f p ≠ f q := by
      intro p q hpq hq he
      have hp : f p = d.B p := if_pos (by omega)
      by_cases hqm : q < d.m
      · have hq2 : f q = d.B q := if_pos hqm
        rw [hp, hq2] at he
        have := I.b p q (by omega) hqm he; omega
      · have hq2 : f q = d.N x := if_neg hqm
        rw [hp, hq2] at he
        exact I.bn p x (by omega) hx he
    have hex : ∃ t, t ≤ d.m ∧ ¬ st (f t) := by
      refine Classical.byContradiction fun no => ?_
      have all : ∀ t, t ≤ d.m → st (f t) := fun t ht => Classical.byContradiction fun h => no ⟨t, ht, h⟩
      obtain ⟨p, q, h1, h2, h3⟩ := pigeon 6 f (fun t ht => hst _ (all t (by omega)))
      exact finj p q h1 (by omega) h3
    obtain ⟨t, ht, hn⟩ := hex
    refine det_six (fun i => decide (i ≠ t)) (fun i _ hp => ?_) (fun i hi _ r hr => h9 i hi r hr) (by rw [cn_but (by omega)]; omega)
    have hit : i = t := by simpa using hp
    subst hit
    have hcol : upd (fun j => col (d.Bz Z j)) d.m (col (d.N x)) i = col (f i) := by
      unfold upd
      by_cases him : i = d.m
      · have : f i = d.N x := if_neg (by omega)
        rw [if_pos him, this]
      · have : f i = d.B i := if_pos (by omega)
        rw [if_neg him, this]
        show col (d.Bz Z i) = _
        unfold Dg.Bz; rw [if_pos (by omega)]
    rw [hcol]
    exact b.un _ hn
end
theorem wor_spec (rows : List (List Rat)) (j : Nat) : (worAt rows j = -1 ∧ ∀ r, r < j → ¬ gR (rows.getD r []) 0 < 0) ∨
    ∃ t : Nat, worAt rows j = (t : Int) ∧ t < j ∧ gR (rows.getD t []) 0 < 0 ∧ ∀ r : Nat, r < j → gR (rows.getD t []) 0 ≤ gR (rows.getD r []) 0 := by
  induction j with
  | zero => exact .inl ⟨rfl, fun k hk => by omega⟩
  | succ j ih =>
    unfold worAt worStep
    rcases ih with ⟨h, hall⟩ | ⟨t, h, ht, hn, hall⟩
    · rw [h]
      by_cases e : gR (rows.getD j []) 0 < 0
      · rw [if_pos ⟨num_neg_iff.2 e, .inl (by omega)⟩]
        refine .inr ⟨j, rfl, by omega, e, fun r hr => ?_⟩
        by_cases hrj : r = j
        · rw [hrj]; exact Rat.le_refl
        · have := hall r (by omega); grind
      · rw [if_neg (fun h => e (num_neg_iff.1 h.1))]
        refine .inl ⟨rfl, fun r hr => ?_⟩
        by_cases hrj : r = j
        · rw [hrj]; exact e
        · exact hall r (by omega)
    · rw [h, Int.toNat_natCast]
      by_cases e : (gR (rows.getD j []) 0).num < 0 ∧ ((t : Int) < 0 ∨ cmpR (gR (rows.getD j []) 0) (gR (rows.getD t []) 0) < 0)
      · rw [if_pos e]
        have hc := e.2.resolve_left (by omega)
        rw [cmpR_lt] at hc
        refine .inr ⟨j, rfl, by omega, num_neg_iff.1 e.1, fun r hr => ?_⟩
        by_cases hrj : r = j
        · rw [hrj]; exact Rat.le_refl
        · have := hall r (by omega); grind
      · rw [if_neg e]
        refine .inr ⟨t, rfl, by omega, hn, fun r hr => ?_⟩
        by_cases hrj : r = j
        · rw [hrj]
          refine Classical.byContradiction fun hc => e ⟨num_neg_iff.2 (by grind), .inr ?_⟩
          rw [cmpR_lt]; exact hc
        · exact hall r (by omega)
theorem idx_spec (l : List Int) (z : Int) : (idxP l z = -1 ∧ ∀ j : Nat, j < l.length → iAt l j ≠ z) ∨ ∃ k : Nat, idxP l z = (k : Int) ∧ k < l.length ∧ iAt l k = z := by
  unfold idxP
  cases h : l.findIdx? (· == z) with
  | none =>
    refine .inl ⟨rfl, fun j hj e => ?_⟩
    have := List.findIdx?_eq_none_iff.1 h l[j] (List.getElem_mem hj)
    rw [iAt_of (List.getElem?_eq_getElem hj)] at e
    rw [e] at this; simp at this
  | some k =>
    obtain ⟨h1, h2, _⟩ := List.findIdx?_eq_some_iff_getElem.1 h
    exact .inr ⟨k, rfl, h1, by rw [iAt_of (List.getElem?_eq_getElem h1)]; simpa using h2⟩
theorem first_of {P : Nat → Prop} (dec : ∀ t, P t ∨ ¬ P t) : ∀ n : Nat, (∀ t, t < n → ¬ P t) ∨ ∃ k, k < n ∧ P k ∧ ∀ t, t < k → ¬ P t
  | 0 => .inl fun t ht => by omega
  | n + 1 => by
    rcases first_of dec n with h | ⟨k, hk, hp, hall⟩
    · rcases dec n with hp | hp
      · exact .inr ⟨n, by omega, hp, h⟩
      · refine .inl fun t ht => ?_
        by_cases e : t = n
        · rw [e]; exact hp
        · exact h t (by omega)
    · exact .inr ⟨k, by omega, hp, hall⟩
theorem onway_ok {F : Dg → Prop} {V : Nat} {d : Dc} (h : OnWay F V d) : DcOk d := ⟨h.w.fit.rows, h.w.fit.cols, h.w.fit.i8, h.w.fit.o8, h.w.ne⟩
section
variable {n : Nat} {rows : List MRow} {goal : List (Int × Int)} {c0 : Int} (hs : SmallP n rows goal c0)
structure End1 (n : Nat) (rows : List MRow) (d : Dc) : Prop where
  w : OnWay (F1 n rows) (n + 1 + rows.length) d
  e : DEqv (dg (begD n rows)) (dg d)
include hs
theorem beg_wf : Wf (begD n rows) := by
  have h6 : n ≤ 6 := by have := hs.2.1; omega
  have hr6 : rows.length ≤ 6 := by have := hs.2.2.1; omega
  have ok := begD_ok h6 hr6
  refine ⟨ok.fit, ok.ne, fun z hz => ?_, fun z hz => ?_⟩
  · unfold begD insOf at hz
    simp at hz
    obtain ⟨a, _, rfl⟩ := hz; omega
  · unfold begD outsOf at hz
    simp at hz
    obtain ⟨a, _, rfl⟩ := hz; omega
theorem beg_f1 : F1 n rows (dg (begD n rows)) := ⟨beg_m, beg_cr hs, fun v ⟨i, hi, e⟩ => by
    rw [beg_m] at hi
    rw [beg_B hi] at e; omega, fun v ⟨k, hk, e⟩ => by
    rw [beg_n] at hk
    rw [beg_N hk] at e; omega⟩
theorem beg_onway (o : (dg (begD n rows)).Ok) : OnWay (F1 n rows) (n + 1 + rows.length) (begD n rows) :=
  ⟨beg_wf hs, beg_inj, o, beg_f1 hs, fun v h => by have := (beg_f1 hs).2.2.1 v h; omega, fun v h => by have := (beg_f1 hs).2.2.2 v h; omega⟩
theorem end1_goal {d : Dc} (h : End1 n rows d) : (dg d).a (dg d).m 0 ≤ 0 ∧ (¬ (dg d).a (dg d).m 0 < 0 → ∀ i, i < (dg d).m → (dg d).B i = 0 → (dg d).a i 0 = 0) := by
  obtain ⟨x, hs1, hn, hb⟩ := h.w.I.sol0
  have hz := ((beg_sat hs x _).1 ((h.e.s x _).1 hs1)).2
  have h0 : (dg d).Bas 0 ∨ (dg d).Non 0 := (h.e.v 0).2 (.inr ⟨0, by rw [beg_n]; omega, by rw [beg_N (by omega)]⟩)
  rcases h0 with ⟨i, hi, hB⟩ | ⟨k, hk, hN⟩
  · have hx := hb i hi
    rw [hB] at hx
    have ho := h.w.ok i hi
    refine ⟨by rw [hz, hx]; grind, fun hnn j hj hBj => ?_⟩
    have : j = i := h.w.I.b j i hj hi (by rw [hBj, hB])
    rw [this, ← hx]
    rw [hz, hx] at hnn
    rw [hx]; grind
  · have hx := hn k hk
    rw [hN] at hx
    exact ⟨by rw [hz, hx]; grind, fun _ j hj hBj => absurd (by rw [hBj, hN]) (h.w.I.bn j k hj hk)⟩
theorem feas_sat {y : Nat → Rat} (hy : FeasX n rows y) : ∃ x, (dg (begD n rows)).Sat x 0 ∧ x 0 = 0 ∧ (∀ j, j < n → x (j + 1) = y j) ∧ ∀ v, 0 ≤ x v := by
  rw [feasX_iff] at hy
  let x : Nat → Rat := fun v => if v = 0 then 0 else if v ≤ n then y (v - 1) else if v - n - 1 < rows.length then ((rowD rows (v - n - 1)).2 : Rat) - dotA rows (v - n - 1) y else 0
  have x0 : x 0 = 0 := rfl
  have xj : ∀ j, j < n → x (j + 1) = y j := fun j hj => by
    show (if j + 1 = 0 then _ else if j + 1 ≤ n then y (j + 1 - 1) else _) = _
    rw [if_neg (by omega), if_pos (by omega), Nat.add_sub_cancel]
  have hd : ∀ i, dotA rows i (fun j => x (j + 1)) = dotA rows i y := fun i => by
    unfold dotA
    rw [dotY_all (small_rowD hs i).1, dotY_all (small_rowD hs i).1]
    exact sm_congr fun j hj => by rw [xj j hj]
  have xs : ∀ i, i < rows.length → x (n + 1 + i) = ((rowD rows i).2 : Rat) - dotA rows i y := fun i hi => by
    show (if n + 1 + i = 0 then _ else if n + 1 + i ≤ n then _ else if n + 1 + i - n - 1 < rows.length then _ else _) = _
    rw [if_neg (by omega), if_neg (by omega), show n + 1 + i - n - 1 = i by omega, if_pos hi]
  refine ⟨x, (beg_sat hs x 0).2 ⟨fun i hi => by rw [xs i hi, hd, x0]; grind, by rw [x0]; grind⟩, x0, xj, fun v => ?_⟩
  show 0 ≤ (if v = 0 then 0 else if v ≤ n then y (v - 1) else if v - n - 1 < rows.length then ((rowD rows (v - n - 1)).2 : Rat) - dotA rows (v - n - 1) y else 0)
  split
  · exact Rat.le_refl
  · split
    · exact hy.1 _ (by omega)
    · split
      · rename_i h; have := hy.2 _ h; grind
      · exact Rat.le_refl
omit hs in
theorem non0 {d : Dc} (h : End1 n rows d) (hi : idxP d.ins 0 = -1) : (dg d).Non 0 := by
  rcases (h.e.v 0).2 (.inr ⟨0, by rw [beg_n]; omega, by rw [beg_N (by omega)]⟩) with ⟨i, hi2, e⟩ | h2
  · rcases idx_spec d.ins 0 with ⟨_, hall⟩ | ⟨k, hk, _⟩
    · have h0 := h.w.w.i0 _ (iAt_mem hi2)
      have e : (iAt d.ins (i : Int)).toNat = 0 := e
      exact absurd (by omega) (hall i hi2)
    · omega
  · exact h2
theorem fit_of_end {d : Dc} (h : End1 n rows d) {i k : Nat} (hi : i < d.ins.length) (hk : k < d.outs.length) (ne : gR (d.rows.getD i []) (k + 1) ≠ 0) : PivFit d.rows i k := by
  have p := pivD_is h.w.w.fit hi hk ne
  have f2 := f1_piv _ _ _ _ h.w.f h.w.I p
  obtain ⟨D, hD⟩ := f1_rep hs _ h.w.f h.w.I
  obtain ⟨E, hE⟩ := f1_rep hs _ f2 (p.eqv h.w.I).j
  exact piv_fit h.w.w.fit hD hi hk ne (h.w.w.piv hi hk).fit hE
theorem feas2_ex {d : Dc} (h : End1 n rows d) (hnn : ¬ (dg d).a (dg d).m 0 < 0) : ∃ d2, Feas2 d d2 ∧ End1 n rows d2 ∧ (dg d2).Non 0 := by
  rcases idx_spec d.ins 0 with ⟨hi, _⟩ | ⟨j, hj, hjl, hz⟩
  · exact ⟨d, .out hi, h, non0 h hi⟩
  · have hB : (dg d).B j = 0 := by show (iAt d.ins (j : Int)).toNat = 0; rw [hz]; rfl
    have hc := (end1_goal hs h).2 hnn j hjl hB
    rcases first_of (P := fun t => (gR (d.rows.getD j []) (t + 1)).num ≠ 0) (fun t => by rcases Classical.em ((gR (d.rows.getD j []) (t + 1)).num ≠ 0) with h | h; exact .inl h; exact .inr h) d.outs.length with hall | ⟨k, hk, hne, hall⟩
    · exfalso
      obtain ⟨x, z, hsx, _, _⟩ := (beg_inj (n := n) (rows := rows)).sol (fun k => if k = 0 then 1 else 0)
      have hx0 : x 0 = 1 := by
        rename_i hN _
        have := hN 0 (by rw [beg_n]; omega)
        rw [beg_N (by omega)] at this
        simpa using this
      have e := ((h.e.s x z).2 hsx).1 j hjl
      rw [hB, hx0] at e
      unfold Dg.val at e
      rw [hc, sm_zero (fun t ht => by
        have : (dg d).a j (t + 1) = 0 := Rat.num_eq_zero.1 (Classical.not_not.1 (hall t ht))
        rw [this]; grind)] at e
      grind
    · have hne2 : gR (d.rows.getD j []) (k + 1) ≠ 0 := fun e => hne (by rw [e]; rfl)
      have p := pivD_is h.w.w.fit hjl hk hne2
      have q := p.eqv h.w.I
      have hok : (dg (pivD d j k)).Ok := by
        intro r hr
        rw [p.m] at hr
        by_cases hrj : r = j
        · rw [hrj, p.ij 0 (by omega) (by omega), hc]; grind
        · rw [p.rj r (by omega) hrj 0 (by omega) (by omega), hc]
          have := h.w.ok r hr
          grind
      refine ⟨pivD d j k, .piv j k hjl hj hk (fun t ht => Classical.not_not.1 (hall t ht)) hne (fit_of_end hs h hjl hk hne2), ⟨⟨h.w.w.piv hjl hk, q.j, hok, f1_piv _ _ _ _ h.w.f h.w.I p, fun v hv => ?_, fun v hv => ?_⟩, h.e.trans q⟩, ?_⟩
      · exact (q.v v).1 (.inl hv) |>.elim (h.w.vb v) (h.w.vn v)
      · exact (q.v v).1 (.inr hv) |>.elim (h.w.vb v) (h.w.vn v)
      · exact (p.non h.w.I 0).2 (.inl hB.symm)
theorem feas_ex : (∃ d1, Feas (begD n rows) false d1 ∧ ¬ ∃ y, FeasX n rows y) ∨ ∃ d1, Feas (begD n rows) true d1 ∧ End1 n rows d1 ∧ (dg d1).Non 0 := by
  have wf := beg_wf hs
  have hrl : (begD n rows).ins.length = rows.length := by simp [begD, insOf]
  rcases wor_spec (begD n rows).rows (begD n rows).ins.length with ⟨h, hall⟩ | ⟨i, h, hi, hn, hall⟩
  · have o : (dg (begD n rows)).Ok := fun r hr => by
      have := hall r hr
      have : ¬ (dg (begD n rows)).a r 0 < 0 := this
      grind
    have e1 : End1 n rows (begD n rows) := ⟨beg_onway hs o, DEqv.refl beg_inj⟩
    have hg : ¬ (dg (begD n rows)).a (dg (begD n rows)).m 0 < 0 := by rw [beg_m, (beg_g (j := 0)).2.1]; grind
    obtain ⟨d2, h2, h3, h4⟩ := feas2_ex hs e1 hg
    exact .inr ⟨d2, .yes _ _ (.good h) h2, h3, h4⟩
  · have hir : i < rows.length := by omega
    have hone : gR ((begD n rows).rows.getD i []) (0 + 1) = 1 := (beg_a hs (j := 0) hir).2.2
    have ho0 : 0 < (begD n rows).outs.length := by simp [begD, outsOf]
    have hne : gR ((begD n rows).rows.getD i []) (0 + 1) ≠ 0 := by rw [hone]; grind
    have p := pivD_is wf.fit hi ho0 hne
    have q := p.eqv beg_inj
    have f2 := f1_piv _ _ _ _ (beg_f1 hs) beg_inj p
    have hp1 : (dg (begD n rows)).a i (0 + 1) = 1 := hone
    have o2 : (dg (pivD (begD n rows) i 0)).Ok := by
      intro r hr
      rw [p.m] at hr
      have hn2 : (dg (begD n rows)).a i 0 < 0 := hn
      by_cases hri : r = i
      · rw [hri, p.ij 0 (by omega) (by omega), hp1]; grind
      · have h1 : (dg (begD n rows)).a r (0 + 1) = 1 := (beg_a hs (j := 0) (by rw [beg_m] at hr; exact hr)).2.2
        have hle : (dg (begD n rows)).a i 0 ≤ (dg (begD n rows)).a r 0 := hall r hr
        rw [p.rj r (by omega) hri 0 (by omega) (by omega), hp1, h1]; grind
    have hw : OnWay (F1 n rows) (n + 1 + rows.length) (pivD (begD n rows) i 0) := ⟨wf.piv hi ho0, q.j, o2, f2, fun v hv => by have := f2.2.2.1 v hv; omega, fun v hv => by have := f2.2.2.2 v hv; omega⟩
    obtain ⟨D, hD⟩ := f1_rep hs _ (beg_f1 hs) beg_inj
    obtain ⟨E, hE⟩ := f1_rep hs _ f2 q.j
    have pf := piv_fit wf.fit hD hi ho0 hne (wf.piv hi ho0).fit hE
    obtain ⟨m, b, d1, hc, he, hw1, hopt, hunb⟩ := climb_ex f1_piv (f1_rep hs) hw
    have e1 : End1 n rows d1 := ⟨hw1, q.trans he⟩
    have lr := lastR_eq hw1.w.fit
    have hb : b = true := by
      cases b with
      | true => rfl
      | false =>
        exfalso
        obtain ⟨k, hk, hpos, hrow⟩ := hunb rfl
        obtain ⟨g1, _⟩ := end1_goal hs e1
        -- far out along the column the goal is above 0
        let t : Rat := 1 + (-(dg d1).a (dg d1).m 0) / (dg d1).a (dg d1).m (k + 1)
        have ht0 : 0 ≤ t := by
          have h1 : 0 ≤ (-(dg d1).a (dg d1).m 0) * ((dg d1).a (dg d1).m (k + 1))⁻¹ := Rat.mul_nonneg (by grind) (Rat.le_of_lt (Rat.inv_pos.2 hpos))
          show 0 ≤ 1 + (-(dg d1).a (dg d1).m 0) / (dg d1).a (dg d1).m (k + 1)
          rw [Rat.div_def]; grind
        obtain ⟨x, hsx, hxk, hxn, hxb⟩ := hw1.I.sol1 hk t
        have hz := ((beg_sat hs x _).1 ((e1.e.s x _).1 hsx)).2
        have hx0 : 0 ≤ x 0 := by
          rcases (e1.e.v 0).2 (.inr ⟨0, by rw [beg_n]; omega, by rw [beg_N (by omega)]⟩) with ⟨j, hj, hB⟩ | ⟨c, hc2, hN⟩
          · have := hxb j hj
            rw [hB] at this
            rw [this]
            have h1 := hw1.ok j hj
            have h2 : 0 ≤ (dg d1).a j (k + 1) * t := Rat.mul_nonneg (by have h3 : ¬ (dg d1).a j (k + 1) < 0 := hrow j hj; grind) ht0
            grind
          · by_cases hck : c = k
            · rw [← hN, hck, hxk]; exact ht0
            · rw [← hN, hxn c hc2 hck]; exact Rat.le_refl
        have e : (dg d1).a (dg d1).m (k + 1) * t = (dg d1).a (dg d1).m (k + 1) - (dg d1).a (dg d1).m 0 := by
          show (dg d1).a (dg d1).m (k + 1) * (1 + (-(dg d1).a (dg d1).m 0) / (dg d1).a (dg d1).m (k + 1)) = _
          grind
        rw [e] at hz
        grind
    subst hb
    by_cases hneg : (dg d1).a (dg d1).m 0 < 0
    · refine .inl ⟨d1, .no d1 (.neg i m true d1 h hi pf hc (by rw [lr]; exact num_neg_iff.2 hneg)), ?_⟩
      rintro ⟨y, hy⟩
      obtain ⟨x, hsx, _, _, hxn⟩ := feas_sat hs hy
      have e := ((e1.e.s x 0).2 hsx).2
      unfold Dg.val at e
      have : sm (fun k => (dg d1).a (dg d1).m (k + 1) * x ((dg d1).N k)) (dg d1).n ≤ sm (fun _ => 0) (dg d1).n := sm_le fun k hk => by
        have h1 : 0 ≤ -(dg d1).a (dg d1).m (k + 1) * x ((dg d1).N k) := Rat.mul_nonneg (by have := hopt rfl k hk; grind) (hxn _)
        grind
      rw [sm_zero (f := fun _ => 0) (fun _ _ => rfl)] at this
      grind
    · obtain ⟨d2, h2, h3, h4⟩ := feas2_ex hs e1 hneg
      exact .inr ⟨d2, .yes d1 d2 (.pos i m true d1 h hi pf hc (by rw [lr]; exact fun e => hneg (num_neg_iff.1 e))) h2, h3, h4⟩
end
end Go.Proofs.Ytdegpgonphgbcaa
