/-
  Solve.
  The first dictionary of the document's Best.
-/
import Derived.Test.YtdegpgonphgbcaaZSoI
namespace Go.Proofs.Ytdegpgonphgbcaa
open Go.RowKit
structure End2 (n : Nat) (rows : List MRow) (goal : List (Int × Int)) (c0 : Int) (d : Dc) : Prop where
  fit : DcFit d
  m : d.ins.length = rows.length
  I : (dg d).Inj
  i0 : ∀ z ∈ d.ins, 0 ≤ z
  o0 : ∀ z ∈ d.outs, 0 ≤ z
  f : F2 n rows goal c0 (dg d)
  var : ∀ v, ((dg d).Bas v ∨ (dg d).Non v) ↔ 1 ≤ v ∧ v ≤ n + rows.length
  ok : ∀ i, i < rows.length → 0 ≤ (dg d).a i 0
  opt : ∀ k, k < d.outs.length → (dg d).a rows.length (k + 1) ≤ 0
  sat : ∀ (x : Nat → Rat) (z : Rat), (dg d).Sat x z ↔ (∀ i, i < rows.length → x (n + 1 + i) = ((rowD rows i).2 : Rat) - dotA rows i (fun j => x (j + 1))) ∧ z = objX goal c0 (fun j => x (j + 1))
inductive Meant (n : Nat) (rows : List MRow) (goal : List (Int × Int)) (c0 : Int) : Int → Option Dc → Prop
  | empty (h : ¬ ∃ y, FeasX n rows y) : Meant n rows goal c0 34 none
  | opn (h : ∀ B : Rat, ∃ y, FeasX n rows y ∧ B ≤ objX goal c0 y) : Meant n rows goal c0 35 none
  | ok (d : Dc) (h : End2 n rows goal c0 d) : Meant n rows goal c0 0 (some d)
section
variable {n : Nat} {rows : List MRow} {goal : List (Int × Int)} {c0 : Int}
theorem dotA_ext (hs : SmallP n rows goal c0) {y y' : Nat → Rat} (h : ∀ j, j < n → y j = y' j) (i : Nat) : dotA rows i y = dotA rows i y' := by
  unfold dotA
  rw [dotY_all (small_rowD hs i).1, dotY_all (small_rowD hs i).1]
  exact sm_congr fun j hj => by rw [h j hj]
theorem objX_ext (hs : SmallP n rows goal c0) {y y' : Nat → Rat} (h : ∀ j, j < n → y j = y' j) : objX goal c0 y = objX goal c0 y' := by
  unfold objX
  rw [dotY_all hs.2.2.2.1, dotY_all hs.2.2.2.1]
  congr 1
  exact sm_congr fun j hj => by rw [h j hj]
theorem feas_of {x : Nat → Rat} (h0 : ∀ v, 1 ≤ v → v ≤ n + rows.length → 0 ≤ x v) (h : ∀ i, i < rows.length → x (n + 1 + i) = ((rowD rows i).2 : Rat) - dotA rows i (fun j => x (j + 1))) : FeasX n rows (fun j => x (j + 1)) := by
  rw [feasX_iff]
  refine ⟨fun j hj => h0 _ (by omega) (by omega), fun i hi => ?_⟩
  have h1 := h i hi
  have h2 := h0 (n + 1 + i) (by omega) (by omega)
  grind
theorem End2.best (hs : SmallP n rows goal c0) {d : Dc} (h : End2 n rows goal c0 d) : (∃ y, FeasX n rows y ∧ objX goal c0 y = (dg d).a rows.length 0) ∧ ∀ y, FeasX n rows y → objX goal c0 y ≤ (dg d).a rows.length 0 := by
  have hm : (dg d).m = rows.length := h.m
  constructor
  · obtain ⟨x, hsx, hn, hb⟩ := h.I.sol0
    obtain ⟨h1, h2⟩ := (h.sat x _).1 hsx
    refine ⟨_, feas_of (fun v v1 v2 => ?_) h1, by rw [← h2, hm]⟩
    rcases (h.var v).2 ⟨v1, v2⟩ with ⟨i, hi, rfl⟩ | ⟨k, hk, rfl⟩
    · rw [hb i hi]; exact h.ok i (by rw [← hm]; exact hi)
    · rw [hn k hk]; exact Rat.le_refl
  · intro y hy
    obtain ⟨x, hsx, x0, xj, hxn⟩ := feas_sat hs hy
    have h1 := ((beg_sat hs x 0).1 hsx).1
    have hd : ∀ i, dotA rows i (fun j => x (j + 1)) = dotA rows i (fun j => x (j + 1)) := fun _ => rfl
    have hz : (dg d).Sat x (objX goal c0 (fun j => x (j + 1))) := (h.sat x _).2 ⟨fun i hi => by rw [h1 i hi, x0]; grind, rfl⟩
    have e := hz.2
    rw [objX_ext hs (y := y) (y' := fun j => x (j + 1)) (fun j hj => (xj j hj).symm), e]
    unfold Dg.val
    have : sm (fun k => (dg d).a (dg d).m (k + 1) * x ((dg d).N k)) (dg d).n ≤ sm (fun _ => 0) (dg d).n := sm_le fun k hk => by
      have h1 : 0 ≤ -(dg d).a (dg d).m (k + 1) * x ((dg d).N k) := Rat.mul_nonneg (by have := h.opt k hk; rw [hm]; grind) (hxn _)
      grind
    rw [sm_zero (f := fun _ => 0) (fun _ _ => rfl)] at this
    rw [hm] at this ⊢
    grind
theorem solve_ex (hs : SmallP n rows goal c0) : ∃ code od, SolveP n rows c0 goal code od ∧ Meant n rows goal c0 code od := by
  have hn6 : n ≤ 6 := by have := hs.2.1; omega
  rcases feas_ex hs with ⟨d1, hf, hno⟩ | ⟨d1, hf, h1, hN⟩
  · exact ⟨34, none, .empty n rfl hs d1 hf, .empty hno⟩
  obtain ⟨D, M⟩ := mid_of hs h1 hN
  have ok1 := onway_ok h1.w
  have hout : (dropD d1).outs.length = n := by
    have h3 := h1.e.n
    rw [beg_n] at h3
    have h3 : d1.outs.length = n + 1 := h3
    rcases idx_spec d1.outs 0 with ⟨_, hall⟩ | ⟨k, hk, hkl, _⟩
    · obtain ⟨k, hk, e⟩ := hN
      have h0 := h1.w.w.o0 _ (iAt_mem hk)
      have e : (iAt d1.outs (k : Int)).toNat = 0 := e
      exact absurd (by omega) (hall k hk)
    · have h4 : (dropD d1).outs.length + 1 = d1.outs.length := drop_n hk hkl
      omega
  have af := aim_fit hs M
  have e2 : aimD d1 c0 goal = aimE (dropD d1) c0 goal := rfl
  have hf2 := aimE_f2 hs M
  have hfit := aimE_fit hs M
  have hI : (dg (aimE (dropD d1) c0 goal)).Inj := ⟨fun i j hi hj q => M.I.b i j hi hj q, fun i j hi hj q => M.I.n i j hi hj q, fun i k hi hk q => M.I.bn i k hi hk q⟩
  have hOk : (dg (aimE (dropD d1) c0 goal)).Ok := fun i hi => by
    have hi : i < rows.length := by rw [← M.m]; exact hi
    rw [aimE_row M hi]; exact M.ok i hi
  -- climbing
  have hclimb : ∃ m b d2, Climb m (aimE (dropD d1) c0 goal) b d2 ∧ DEqv (dg (aimE (dropD d1) c0 goal)) (dg d2) ∧ DcFit d2 ∧ (dg d2).Ok ∧ F2 n rows goal c0 (dg d2) ∧ (∀ z ∈ d2.ins, 0 ≤ z) ∧ (∀ z ∈ d2.outs, 0 ≤ z) ∧ (b = true → ∀ k, k < d2.outs.length → ¬ 0 < (dg d2).a (dg d2).m (k + 1)) ∧ (b = false → ∃ k, k < d2.outs.length ∧ 0 < (dg d2).a (dg d2).m (k + 1) ∧ ∀ r, r < d2.ins.length → ¬ (dg d2).a r (k + 1) < 0) := by
    by_cases ho : (aimE (dropD d1) c0 goal).outs = []
    · refine ⟨0, true, _, .stop (by unfold entP; rw [ho]; rfl), DEqv.refl hI, hfit, hOk, hf2, M.i0, M.o0, fun _ k hk => ?_, fun h => by cases h⟩
      rw [ho] at hk; simp at hk
    · have hw : OnWay (F2 n rows goal c0) (n + 1 + rows.length) (aimE (dropD d1) c0 goal) := ⟨⟨hfit, ho, M.i0, M.o0⟩, hI, hOk, hf2, fun v hv => by have := hf2.2.2 v (.inl hv); omega, fun v hv => by have := hf2.2.2 v (.inr hv); omega⟩
      obtain ⟨m, b, d2, hc, he, hw2, g1, g2⟩ := climb_ex f2_piv (f2_rep hs) hw
      exact ⟨m, b, d2, hc, he, hw2.w.fit, hw2.ok, hw2.f, hw2.w.i0, hw2.w.o0, g1, g2⟩
  obtain ⟨m, b, d2, hc, he, hfit2, hok2, hff, hi0, ho0, hopt, hunb⟩ := hclimb
  have hm2 : (dg d2).m = rows.length := hff.1
  have hm2' : d2.ins.length = rows.length := hm2
  have hvar : ∀ v, ((dg d2).Bas v ∨ (dg d2).Non v) ↔ 1 ≤ v ∧ v ≤ n + rows.length := fun v => (he.v v).trans (M.var v)
  have hsat : ∀ (x : Nat → Rat) (z : Rat), (dg d2).Sat x z ↔ (∀ i, i < rows.length → x (n + 1 + i) = ((rowD rows i).2 : Rat) - dotA rows i (fun j => x (j + 1))) ∧ z = objX goal c0 (fun j => x (j + 1)) := fun x z => (he.s x z).trans (aimE_sat hs M x z)
  have o7 : (dropD d1).outs.length ≤ 7 := by omega
  cases b with
  | false =>
    refine ⟨35, none, .opn n rfl hs d1 d2 m hf ok1 o7 af (by rw [e2]; exact hc), .opn fun B => ?_⟩
    obtain ⟨k, hk, hpos, hrow⟩ := hunb rfl
    let t : Rat := if B ≤ (dg d2).a (dg d2).m 0 then 0 else (B - (dg d2).a (dg d2).m 0) / (dg d2).a (dg d2).m (k + 1)
    have hp : (dg d2).a (dg d2).m (k + 1) * ((B - (dg d2).a (dg d2).m 0) / (dg d2).a (dg d2).m (k + 1)) = B - (dg d2).a (dg d2).m 0 := by grind
    have ht : 0 ≤ t ∧ B ≤ (dg d2).a (dg d2).m 0 + (dg d2).a (dg d2).m (k + 1) * t := by
      show 0 ≤ (if B ≤ (dg d2).a (dg d2).m 0 then 0 else (B - (dg d2).a (dg d2).m 0) / (dg d2).a (dg d2).m (k + 1)) ∧ B ≤ (dg d2).a (dg d2).m 0 + (dg d2).a (dg d2).m (k + 1) * (if B ≤ (dg d2).a (dg d2).m 0 then 0 else (B - (dg d2).a (dg d2).m 0) / (dg d2).a (dg d2).m (k + 1))
      by_cases hB : B ≤ (dg d2).a (dg d2).m 0
      · rw [if_pos hB]; exact ⟨Rat.le_refl, by grind⟩
      · rw [if_neg hB]
        refine ⟨?_, by rw [hp]; grind⟩
        rw [Rat.div_def]
        exact Rat.mul_nonneg (by grind) (Rat.le_of_lt (Rat.inv_pos.2 hpos))
    obtain ⟨x, hsx, hxk, hxn, hxb⟩ := he.j.sol1 hk t
    obtain ⟨q1, q2⟩ := (hsat x _).1 hsx
    refine ⟨_, feas_of (fun v v1 v2 => ?_) q1, by rw [← q2]; exact ht.2⟩
    rcases (hvar v).2 ⟨v1, v2⟩ with ⟨i, hi, rfl⟩ | ⟨c, hc2, rfl⟩
    · rw [hxb i hi]
      have g1 := hok2 i hi
      have g2 : 0 ≤ (dg d2).a i (k + 1) * t := Rat.mul_nonneg (by have h3 : ¬ (dg d2).a i (k + 1) < 0 := hrow i hi; grind) ht.1
      grind
    · by_cases hck : c = k
      · rw [hck, hxk]; exact ht.1
      · rw [hxn c hc2 hck]; exact Rat.le_refl
  | true =>
    obtain ⟨E, hE⟩ := f2_rep hs _ hff he.j
    refine ⟨0, some d2, .ok n rfl hs d1 d2 m hf ok1 o7 af (by rw [e2]; exact hc) hfit2 (rep_all hfit2 hE) (fun v hv => ?_), .ok d2 ⟨hfit2, hm2', he.j, hi0, ho0, hff, hvar, fun i hi => hok2 i (by rw [hm2]; exact hi), fun k hk => ?_, hsat⟩⟩
    · obtain ⟨k, hk⟩ := List.getElem?_of_mem hv
      have hkl := (List.getElem?_eq_some_iff.1 hk).1
      have := (hvar ((dg d2).N k)).1 (.inr ⟨k, hkl, rfl⟩)
      have e3 : (dg d2).N k = v.toNat := by show (iAt d2.outs (k : Int)).toNat = _; rw [iAt_of hk]
      have := ho0 v hv
      omega
    · have := hopt rfl k hk
      rw [hm2] at this
      grind
end
theorem sm_split (f : Nat → Rat) (n : Nat) : ∀ m : Nat, sm f (n + m) = sm f n + sm (fun k => f (n + k)) m
  | 0 => by rw [show sm (fun k => f (n + k)) 0 = 0 from rfl, Nat.add_zero]; grind
  | m + 1 => by
    have h := sm_split f n m
    show sm f (n + m) + f (n + m) = sm f n + (sm (fun k => f (n + k)) m + f (n + m))
    rw [h]; grind
theorem det_diag_ne : ∀ (n : Nat) (s : Nat → Rat), (∀ j, j < n → s j ≠ 0) → det n (fun j i => if i = j then s j else 0) ≠ 0
  | 0, s, _ => by show (1 : Rat) ≠ 0; decide
  | n + 1, s, h => by
    have ih := det_diag_ne n (fun j => s (j + 1)) (fun j hj => h (j + 1) (by omega))
    have e : det (n + 1) (fun j i => if i = j then s j else 0) = s 0 * det n (fun j i => if i = j then s (j + 1) else 0) := by
      have u : det (n + 1) (fun j i => if i = j then s j else 0) = sm (fun r => sgn r * (if r = 0 then s 0 else 0) * det n (fun j i => if skip r i = j + 1 then s (j + 1) else 0)) (n + 1) := rfl
      rw [u, sm_only (k := 0) (fun j hj hne => by rw [if_neg hne]; grind), if_pos (by omega), if_pos rfl]
      have e2 : det n (fun j i => if skip 0 i = j + 1 then s (j + 1) else 0) = det n (fun j i => if i = j then s (j + 1) else 0) := det_congr fun j hj i hi => by
        have hsk : skip 0 i = i + 1 := by unfold skip; rw [if_neg (by omega)]
        rw [hsk]
        by_cases hij : i = j
        · rw [if_pos hij, if_pos (by omega)]
        · rw [if_neg hij, if_neg (by omega)]
      rw [e2, show sgn 0 = 1 from rfl]; grind
    rw [e]
    intro z
    rcases Rat.mul_eq_zero.1 z with z | z
    · exact h 0 (by omega) z
    · exact ih z
section
variable {n : Nat} {rows : List MRow} {goal : List (Int × Int)} {c0 : Int} (hs : SmallP n rows goal c0)
theorem cfR_9 (hs : SmallP n rows goal c0) (r v : Nat) : Whole (cfR rows r v) ∧ Ab (cfR rows r v) 9 := by
  have := coef_nine (by decide) (small_rowD hs r).1 (v : Int)
  exact ⟨whole_int _, ab9 this.1 this.2⟩
theorem gcf_9 (hs : SmallP n rows goal c0) (v : Nat) : Whole (coefF goal (v : Int) : Rat) ∧ Ab (coefF goal (v : Int) : Rat) 9 := by
  have := coef_nine (by decide) hs.2.2.2.1 (v : Int)
  exact ⟨whole_int _, ab9 this.1 this.2⟩
theorem abas (hs : SmallP n rows goal c0) : Bas (rows.length + 1) (fun v => v < n) (acol n rows goal) (arhs rows) (n + rows.length + rows.length) := by
  have w0 : Whole 0 ∧ Ab 0 9 := ⟨whole_int 0, ab_zero (by grind)⟩
  have w1 : Whole 1 ∧ Ab 1 9 := ⟨whole_int 1, by grind, by grind⟩
  have wm : Whole (-1) ∧ Ab (-1) 9 := ⟨by have := whole_int (-1); rwa [Rat.intCast_neg] at this, by grind, by grind⟩
  have u0 : Ab 0 1 := ab_zero (by grind)
  have u1 : Ab 1 1 := ⟨by grind, by grind⟩
  have um : Ab (-1) 1 := ⟨by grind, by grind⟩
  have hc : ∀ v r, Whole (acol n rows goal v r) ∧ Ab (acol n rows goal v r) 9 := fun v r => by
    unfold acol
    split
    · split
      · exact cfR_9 hs r v
      · exact ⟨(gcf_9 hs v).1.neg, (gcf_9 hs v).2.neg⟩
    · split
      · split
        · exact w1
        · exact w0
      · split
        · split
          · exact wm
          · exact w0
        · split
          · exact w1
          · exact w0
  have hr : ∀ r, Whole (arhs rows r) ∧ Ab (arhs rows r) 50 := fun r => by
    unfold arhs
    split
    · have := (small_rowD hs r).2
      exact ⟨whole_int _, ab50 this.1 this.2⟩
    · exact ⟨whole_int 0, ab_zero (by grind)⟩
  refine ⟨fun v r => (hc v r).1, fun r => (hr r).1, fun v r _ => (hc v r).2, fun r _ => (hr r).2, fun v hv => ?_, ?_⟩
  · by_cases c2 : v < n + rows.length
    · refine ⟨v - n, fun r _ => ⟨fun h => ?_, ?_⟩⟩
      · unfold acol; rw [if_neg hv, if_pos c2, if_neg h]
      · unfold acol; rw [if_neg hv, if_pos c2]; split; exact u1; exact u0
    · by_cases c3 : v < n + rows.length + rows.length
      · refine ⟨v - n - rows.length, fun r _ => ⟨fun h => ?_, ?_⟩⟩
        · unfold acol; rw [if_neg hv, if_neg c2, if_pos c3, if_neg (fun e => h e.1)]
        · unfold acol; rw [if_neg hv, if_neg c2, if_pos c3]; split; exact um; exact u0
      · refine ⟨rows.length, fun r _ => ⟨fun h => ?_, ?_⟩⟩
        · unfold acol; rw [if_neg hv, if_neg c2, if_neg c3, if_neg h]
        · unfold acol; rw [if_neg hv, if_neg c2, if_neg c3]; split; exact u1; exact u0
  · refine ⟨rows.length, fun r _ => ⟨fun h => ?_, ?_⟩⟩
    · unfold acol; rw [if_neg (by omega), if_neg (by omega), if_neg (by omega), if_neg h]
    · unfold acol; rw [if_neg (by omega), if_neg (by omega), if_neg (by omega)]; split; exact u1; exact u0
def sgZ (rows : List MRow) (j : Nat) : Rat := if j < rows.length then sgR rows j else 1
theorem sgZ_sq (j : Nat) : sgZ rows j * sgZ rows j = 1 := by
  unfold sgZ
  split
  · rcases sgR_cases (rows := rows) j with ⟨_, h⟩ | ⟨_, h⟩ <;> rw [h] <;> grind
  · grind
theorem acol_B (j r : Nat) (hj : j < rows.length + 1) (hr : r < rows.length + 1) : acol n rows goal (((d0 n rows).wg (o0 n rows goal)).Bz (n + rows.length + rows.length) j) r = if r = j then sgZ rows j else 0 := by
  unfold Dg.Bz sgZ
  show acol n rows goal (if j < rows.length then B0 n rows j else _) r = _
  by_cases h : j < rows.length
  · rw [if_pos h, if_pos h]
    unfold acol B0
    rcases sgR_cases (rows := rows) j with ⟨hn, hg⟩ | ⟨hn, hg⟩
    · rw [if_pos hn, if_neg (by omega), if_neg (by omega), if_pos (by omega), hg, show n + rows.length + j - n - rows.length = j by omega]
      by_cases e : r = j
      · subst e; rw [if_pos ⟨rfl, hn⟩, if_pos rfl]
      · rw [if_neg (fun k => e k.1), if_neg e]
    · rw [if_neg hn, if_neg (by omega), if_pos (by omega), hg, show n + j - n = j by omega]
  · have : j = rows.length := by omega
    subst this
    rw [if_neg h, if_neg h]
    unfold acol
    rw [if_neg (by omega), if_neg (by omega), if_neg (by omega)]
theorem acrd (_hs : SmallP n rows goal c0) : Crd (acol n rows goal) (arhs rows) (n + rows.length + rows.length) ((d0 n rows).wg (o0 n rows goal)) := by
  have hsum : ∀ (f : Nat → Rat) r, r < rows.length + 1 → sm (fun j => f j * acol n rows goal (((d0 n rows).wg (o0 n rows goal)).Bz (n + rows.length + rows.length) j) r) (rows.length + 1) = f r * sgZ rows r := fun f r hr => by
    rw [sm_congr (g := fun j => (f j * sgZ rows j) * (if r = j then 1 else 0)) (fun j hj => by
      rw [acol_B j r hj hr]; split <;> grind)]
    exact sm_unit (fun j => f j * sgZ rows j) hr
  have rowa : ∀ r j, r < rows.length → ((d0 n rows).wg (o0 n rows goal)).a r j = (d0 n rows).a r j := fun r j hr => wg_row _ _ hr j
  have goala : ∀ j, ((d0 n rows).wg (o0 n rows goal)).a rows.length j = o0 n rows goal j := fun j => wg_goal (d0 n rows) _ j
  refine ⟨fun r hr => ?_, fun c hc r hr => ?_, ?_⟩
  · have hr : r < rows.length + 1 := hr
    refine (hsum (fun j => ((d0 n rows).wg (o0 n rows goal)).a j 0) r hr).trans ?_
    by_cases h : r < rows.length
    · rw [rowa r 0 h, (d0_a (j := 0) h).2]
      unfold tv sgZ arhs
      rw [if_neg (by omega), if_neg (by omega), if_neg (by omega), if_pos h, if_pos h]
      rcases sgR_cases (rows := rows) r with ⟨_, h⟩ | ⟨_, h⟩ <;> rw [h] <;> grind
    · have : r = rows.length := by omega
      subst this
      rw [goala]
      unfold o0 arhs
      rw [if_pos rfl, if_neg h]; grind
  · have hr : r < rows.length + 1 := hr
    have hc : c < n + rows.length := hc
    refine (hsum (fun j => ((d0 n rows).wg (o0 n rows goal)).a j (c + 1)) r hr).trans ?_
    show _ = - acol n rows goal (N0 n rows c) r
    by_cases h : r < rows.length
    · rw [rowa r _ h, (d0_a h).1]
      have hN := N0_lt (rows := rows) (n := n) hc
      unfold sgZ
      rw [if_pos h]
      generalize hv : N0 n rows c = v at *
      unfold tv acol
      by_cases c1 : v < n
      · rw [if_pos c1, if_pos c1, if_pos h]
        rcases sgR_cases (rows := rows) r with ⟨_, h⟩ | ⟨_, h⟩ <;> rw [h] <;> grind
      · rw [if_neg c1, if_neg c1]
        by_cases c2 : v < n + rows.length
        · rw [if_pos c2, if_pos c2]
          by_cases e : v = n + r
          · rw [if_pos e, if_pos (by omega)]
            rcases sgR_cases (rows := rows) r with ⟨_, h⟩ | ⟨_, h⟩ <;> rw [h] <;> grind
          · rw [if_neg e, if_neg (by omega)]; grind
        · rw [if_neg c2, if_neg c2, if_pos hN, if_pos hN]
          by_cases e : v = n + rows.length + r ∧ ngR rows r
          · rw [if_pos e, if_pos ⟨by omega, e.2⟩]
            unfold sgR; rw [if_pos e.2]; grind
          · rw [if_neg e, if_neg (fun k => e ⟨by omega, k.2⟩)]; grind
    · have : r = rows.length := by omega
      subst this
      have hN := N0_lt (rows := rows) (n := n) hc
      rw [goala]
      unfold o0 sgZ bet
      rw [if_neg (by omega), if_neg h, Nat.add_sub_cancel]
      generalize N0 n rows c = v at *
      unfold acol
      by_cases c1 : v < n
      · rw [if_pos c1, if_pos c1, if_neg h]; grind
      · rw [if_neg c1, if_neg c1]
        by_cases c2 : v < n + rows.length
        · rw [if_pos c2, if_neg (by omega)]; grind
        · rw [if_neg c2, if_pos hN, if_neg (fun k => by omega)]; grind
  · have e : det (rows.length + 1) (fun j => acol n rows goal (((d0 n rows).wg (o0 n rows goal)).Bz (n + rows.length + rows.length) j)) = det (rows.length + 1) (fun j i => if i = j then sgZ rows j else 0) := det_congr fun j hj r hr => acol_B j r hj hr
    show det (rows.length + 1) (fun j => acol n rows goal (((d0 n rows).wg (o0 n rows goal)).Bz (n + rows.length + rows.length) j)) ≠ 0
    rw [e]
    refine det_diag_ne _ _ fun j _ z => ?_
    have := sgZ_sq (rows := rows) j
    rw [z] at this; grind
def EqsX (n : Nat) (rows : List MRow) (x : Nat → Rat) : Prop := ∀ i, i < rows.length → dotA rows i x + x (n + i) - (if ngR rows i then x (n + rows.length + i) else 0) = msR rows i
theorem N0_sl (k : Nat) : N0 n rows (n + k) = if ngR rows k then n + k else n + k + rows.length := by
  unfold N0
  rw [if_neg (by omega), show n + k - n = k by omega]
theorem d0_sat (hs : SmallP n rows goal c0) (x : Nat → Rat) (z : Rat) : ((d0 n rows).wg (o0 n rows goal)).Sat x z ↔ EqsX n rows x ∧ z = dotY goal x goal.length := by
  have rowa : ∀ r j, r < rows.length → ((d0 n rows).wg (o0 n rows goal)).a r j = (d0 n rows).a r j := fun r j hr => wg_row _ _ hr j
  have goala : ∀ j, ((d0 n rows).wg (o0 n rows goal)).a rows.length j = o0 n rows goal j := fun j => wg_goal (d0 n rows) _ j
  have hg : ((d0 n rows).wg (o0 n rows goal)).val rows.length x = dotY goal x goal.length := by
    unfold Dg.val
    show ((d0 n rows).wg (o0 n rows goal)).a rows.length 0 + sm (fun k => ((d0 n rows).wg (o0 n rows goal)).a rows.length (k + 1) * x (N0 n rows k)) (n + rows.length) = _
    rw [goala, sm_split, dotY_all hs.2.2.2.1]
    rw [sm_congr (n := n) (g := fun j => (coefF goal (j : Int) : Rat) * x j) (fun k hk => by
      rw [goala]
      unfold o0 N0 bet
      rw [if_neg (by omega), Nat.add_sub_cancel, if_pos hk, if_pos hk])]
    rw [sm_zero (n := rows.length) (fun k hk => by
      rw [goala]
      have : ¬ N0 n rows (n + k) < n := by unfold N0; (repeat' split) <;> omega
      unfold o0 bet
      rw [if_neg (by omega), Nat.add_sub_cancel, if_neg this]; grind)]
    unfold o0
    rw [if_pos rfl]; grind
  have hv : ∀ i, i < rows.length → ((d0 n rows).wg (o0 n rows goal)).val i x = sgR rows i * msR rows i - sgR rows i * dotA rows i x + (if ngR rows i then x (n + i) else 0) := fun i hi => by
    unfold Dg.val
    show ((d0 n rows).wg (o0 n rows goal)).a i 0 + sm (fun k => ((d0 n rows).wg (o0 n rows goal)).a i (k + 1) * x (N0 n rows k)) (n + rows.length) = _
    rw [rowa i 0 hi, (d0_a (j := 0) hi).2, sm_split]
    have e1 : sm (fun k => ((d0 n rows).wg (o0 n rows goal)).a i (k + 1) * x (N0 n rows k)) n = - (sgR rows i) * dotA rows i x := by
      unfold dotA
      rw [dotY_all (small_rowD hs i).1, ← sm_mul]
      refine sm_congr fun k hk => ?_
      rw [rowa i _ hi, (d0_a hi).1]
      unfold N0 tv cfR
      rw [if_pos hk, if_pos hk]; grind
    have e2 : sm (fun k => ((d0 n rows).wg (o0 n rows goal)).a i (n + k + 1) * x (N0 n rows (n + k))) rows.length = if ngR rows i then x (n + i) else 0 := by
      rw [sm_only (k := i) (fun k hk hne => ?_), if_pos hi]
      · rw [rowa i _ hi, (d0_a hi).1, N0_sl]
        unfold tv
        rcases sgR_cases (rows := rows) i with ⟨hn, hg⟩ | ⟨hn, hg⟩
        · rw [if_pos hn, if_neg (by omega), if_pos (by omega), if_pos rfl, hg, if_pos hn]; grind
        · rw [if_neg hn, if_neg (by omega), if_neg (by omega), if_pos (by omega), if_neg (fun k : n + i + rows.length = n + rows.length + i ∧ ngR rows i => hn k.2), if_neg hn]; grind
      · rw [rowa i _ hi, (d0_a hi).1, N0_sl]
        unfold tv
        by_cases hn : ngR rows k
        · rw [if_pos hn, if_neg (by omega), if_pos (by omega), if_neg (by omega)]; grind
        · rw [if_neg hn, if_neg (by omega), if_neg (by omega), if_pos (by omega), if_neg (fun h : n + k + rows.length = n + rows.length + i ∧ ngR rows i => by omega)]; grind
    rw [e1, e2]
    unfold tv
    rw [if_neg (by omega), if_neg (by omega), if_neg (by omega)]; grind
  unfold Dg.Sat EqsX
  show (∀ i, i < rows.length → x (B0 n rows i) = ((d0 n rows).wg (o0 n rows goal)).val i x) ∧ z = ((d0 n rows).wg (o0 n rows goal)).val rows.length x ↔ _
  rw [hg]
  have one : ∀ i, i < rows.length → (x (B0 n rows i) = ((d0 n rows).wg (o0 n rows goal)).val i x ↔ dotA rows i x + x (n + i) - (if ngR rows i then x (n + rows.length + i) else 0) = msR rows i) := fun i hi => by
    rw [hv i hi]
    unfold B0
    rcases sgR_cases (rows := rows) i with ⟨hn, hg⟩ | ⟨hn, hg⟩
    · rw [if_pos hn, if_pos hn, if_pos hn, hg]
      constructor <;> intro h <;> grind
    · rw [if_neg hn, if_neg hn, if_neg hn, hg]
      constructor <;> intro h <;> grind
  constructor
  · rintro ⟨h1, h2⟩; exact ⟨fun i hi => (one i hi).1 (h1 i hi), h2⟩
  · rintro ⟨h1, h2⟩; exact ⟨fun i hi => (one i hi).2 (h1 i hi), h2⟩
end
end Go.Proofs.Ytdegpgonphgbcaa
