/-
  The second phase.
  The table that the document's Best builds.
-/
import Derived.Test.YtdegpgonphgbcaaZSoF
import Derived.Test.YtdegpgonphgbcaaSxU
import Derived.Test.YtdegpgonphgbcaaZTaF
import Derived.Test.YtdegpgonphgbcaaZSyF
namespace Go.Proofs.Ytdegpgonphgbcaa
open Go.RowKit
def F2 (n : Nat) (rows : List MRow) (goal : List (Int × Int)) (c0 : Int) (d : Dg) : Prop := d.m = rows.length ∧ Crd (mcol n rows.length rows goal (fun _ => 0)) (fun r => mrhs rows.length rows c0 r) (n + 1 + rows.length) d ∧ ∀ v, (d.Bas v ∨ d.Non v) → 1 ≤ v ∧ v ≤ n + rows.length
section
variable {n : Nat} {rows : List MRow} {goal : List (Int × Int)} {c0 : Int} (hs : SmallP n rows goal c0)
theorem f2_piv (d e : Dg) (i k : Nat) (f : F2 n rows goal c0 d) (I : d.Inj) (h : IsPiv d i k e) : F2 n rows goal c0 e := by
  obtain ⟨hm, hc, hb⟩ := f
  have q := h.eqv I
  exact ⟨h.m.trans hm, hc.piv h, fun v hv => hb v ((q.v v).1 hv)⟩
include hs
theorem bas2 : Bas (rows.length + 1) (fun v => 1 ≤ v ∧ v ≤ n) (mcol n rows.length rows goal (fun _ => 0)) (fun r => mrhs rows.length rows c0 r) (n + 1 + rows.length) :=
  bas_of hs (fun v => coef_nine (by decide) hs.2.2.2.1 v) (fun r => ⟨⟨0, by simp⟩, by grind, by grind⟩) ⟨hs.2.2.2.2.1, hs.2.2.2.2.2.1⟩ (fun v hv => by
    by_cases h : v = 0
    · exact .inr ⟨h, fun _ => rfl⟩
    · exact .inl (by omega))
theorem f2_rep (d : Dg) (f : F2 n rows goal c0 d) (I : d.Inj) : ∃ D, Rep d D := by
  obtain ⟨hm, hc, hb⟩ := f
  have h6 : d.m ≤ 6 := by have := hs.2.2.1; omega
  have hn6 : n ≤ 6 := by have := hs.2.1; omega
  have b : Bas (d.m + 1) (fun v => 1 ≤ v ∧ v ≤ n) (mcol n rows.length rows goal (fun _ => 0)) (fun r => mrhs rows.length rows c0 r) (n + 1 + rows.length) := by rw [hm]; exact bas2 hs
  obtain ⟨wD, bD⟩ := rep_D b h6
  refine ⟨_, wD, hc.dt, bD, fun j x hj hx => ?_, fun j hj => rep_row0 b hc h6 hj, rep_goal0 b hc h6⟩
  by_cases hjm : j < d.m
  · exact rep_row b hc h6 hjm hx
  · have hj2 : j = d.m := by omega
    rw [hj2]
    exact rep_goal b hc h6 hx (fun v hv => ⟨hv.1, by omega⟩) I
variable {e : Dc} {D : Rat} (M : Mid n rows e D)
def aimE (e : Dc) (c0 : Int) (goal : List (Int × Int)) : Dc := ⟨e.ins, e.outs, e.rows.set e.ins.length (goalP e c0 goal)⟩
include M
theorem aim_fit : AimFit e c0 goal := by
  intro i t ht
  have hil := (List.getElem?_eq_some_iff.1 ht).1
  obtain ⟨j, hj, hjn, hc0, hc1⟩ := small_term hs ht
  have G := goalAt_all hs M i (by omega)
  have hl6 : goal.length ≤ 6 := by have := terms_len hs.2.2.2.1 hs.1; have := hs.2.1; omega
  have hi6 : (i : Rat) ≤ 6 := by
    have : ((i : Nat) : Rat) ≤ ((6 : Nat) : Rat) := Rat.natCast_le_natCast.2 (by omega)
    exact this
  have hb : (4000000000 : Rat) + (i : Nat) * 20000000000 ≤ 124000000000 := by grind
  have fitb : ∀ {x C : Rat}, Big x D C → C ≤ 1152921504606846976 → Fit x := fun h hC => quo_fit' M.wD M.nD M.bD h (by grind) hC
  have hn6 := hs.2.1
  refine ⟨⟨by omega, by omega⟩, fit_int (by omega) (by omega), fun x hx => ?_, fun k hk => ?_, fun hno => ?_⟩
  · obtain ⟨p, hp⟩ := List.getElem?_of_mem hx
    have hpl := (List.getElem?_eq_some_iff.1 hp).1
    rw [G.len] at hpl
    have := (G.big p hpl).le hb
    rw [gR_of hp] at this
    exact fitb this (by grind)
  · rw [hj] at hk
    rcases mid_at M hjn with ⟨k', hk', hkl, _⟩ | ⟨hno, _⟩
    · have : k = k' := by omega
      subst this
      exact fitb (((G.big (k + 1) (by omega)).le hb).add (Big.int M.wD M.bD hc0 hc1)) (by grind)
    · omega
  · rw [hj] at hno ⊢
    rcases mid_at M hjn with ⟨k', hk', hkl, _⟩ | ⟨_, r, hr, hrl, _⟩
    · omega
    · refine ⟨r, hr, fun row hrow => ?_⟩
      have hg : e.rows.getD r [] = row := by rw [List.getD_eq_getElem?_getD, hrow]; rfl
      have hbig : ∀ p y, row[p]? = some y → Big y D 2125764000 := fun p y hy => by
        have hpl := (List.getElem?_eq_some_iff.1 hy).1
        have hrw := M.fit.cols row (List.mem_of_getElem? hrow)
        have ey : y = (dg e).a r p := by show y = gR (e.rows.getD r []) p; rw [hg, gR_of hy]
        rw [ey]
        cases p with
        | zero => exact M.con r hrl
        | succ p => exact (M.row r p hrl (by omega)).le (by grind)
      refine ⟨fun y hy => ?_, fun p x y hy hx => ?_⟩
      · obtain ⟨p, hp⟩ := List.getElem?_of_mem hy
        exact fitb (hbig p y hp) (by grind)
      · have h1 := (hbig p y hy).times hc0 hc1
        have hpl := (List.getElem?_eq_some_iff.1 hx).1
        rw [G.len] at hpl
        have h2 := (G.big p hpl).le hb
        rw [gR_of hx] at h2
        exact ⟨fitb h1 (by grind), fitb (h2.add h1) (by grind)⟩
omit hs in
theorem aimE_row {r : Nat} (hr : r < rows.length) (j : Nat) : (dg (aimE e c0 goal)).a r j = (dg e).a r j := by
  show gR ((e.rows.set e.ins.length (goalP e c0 goal)).getD r []) j = gR (e.rows.getD r []) j
  rw [List.getD_eq_getElem?_getD, List.getElem?_set, if_neg (by rw [M.m]; omega), List.getD_eq_getElem?_getD]
omit hs in
theorem aimE_goal (j : Nat) : (dg (aimE e c0 goal)).a rows.length j = gR (goalP e c0 goal) j := by
  show gR ((e.rows.set e.ins.length (goalP e c0 goal)).getD rows.length []) j = _
  have := M.fit.rows
  rw [List.getD_eq_getElem?_getD, List.getElem?_set, if_pos M.m, if_pos (by omega)]; rfl
theorem goal_end : GoalAt n goal c0 e D (goalP e c0 goal) goal.length := goalAt_all hs M goal.length (Nat.le_refl _)
theorem aimE_fit : DcFit (aimE e c0 goal) := by
  refine ⟨by show (e.rows.set _ _).length = _; rw [List.length_set]; exact M.fit.rows, fun r hr => ?_, M.fit.i8, M.fit.o8⟩
  rcases List.mem_or_eq_of_mem_set hr with h | h
  · exact M.fit.cols r h
  · rw [h]; exact (goal_end hs M).len
theorem aimE_f2 : F2 n rows goal c0 (dg (aimE e c0 goal)) := by
  have hm : (dg (aimE e c0 goal)).m = rows.length := M.m
  have G := goal_end hs M
  have bz : ∀ j, j < rows.length → (dg (aimE e c0 goal)).Bz (n + 1 + rows.length) j = (dg e).B j := fun j hj => by
    unfold Dg.Bz
    rw [if_pos (by rw [hm]; exact hj)]; rfl
  have bl : (dg (aimE e c0 goal)).Bz (n + 1 + rows.length) rows.length = n + 1 + rows.length := by rw [← hm, bz_last, hm]
  have lastc : ∀ v, 1 ≤ v → v ≤ n + rows.length → mcol n rows.length rows goal (fun _ => 0) v rows.length = - cst n goal goal.length v := fun v h1 h2 => by
    unfold mcol cst
    rw [if_neg (show ¬ v = 0 by omega), if_neg (show ¬ v = 0 by omega)]
    by_cases h : v ≤ n
    · rw [if_pos h, if_pos h, if_neg (by omega), List.take_length]
    · rw [if_neg h, if_neg h, if_neg (by omega)]; grind
  have hsum : ∀ (y : Nat → Rat) r, r < rows.length → sm (fun j => y j * mcol n rows.length rows goal (fun _ => 0) ((dg (aimE e c0 goal)).Bz (n + 1 + rows.length) j) r) (rows.length + 1) = sm (fun j => y j * mcol n rows.length rows [] (fun _ => 0) ((dg e).B j) r) rows.length := fun y r hr => by
    show sm _ rows.length + y rows.length * mcol n rows.length rows goal (fun _ => 0) ((dg (aimE e c0 goal)).Bz (n + 1 + rows.length) rows.length) r = _
    rw [bl, mcol_unit, if_neg (by omega), sm_congr (g := fun j => y j * mcol n rows.length rows [] (fun _ => 0) ((dg e).B j) r) (fun j hj => by rw [bz j hj, mcol_same (mid_bas0 M hj) hr])]
    grind
  have hlast : ∀ y : Nat → Rat, sm (fun j => y j * mcol n rows.length rows goal (fun _ => 0) ((dg (aimE e c0 goal)).Bz (n + 1 + rows.length) j) rows.length) (rows.length + 1) = y rows.length - sm (fun j => y j * cst n goal goal.length ((dg e).B j)) rows.length := fun y => by
    show sm _ rows.length + y rows.length * mcol n rows.length rows goal (fun _ => 0) ((dg (aimE e c0 goal)).Bz (n + 1 + rows.length) rows.length) rows.length = _
    rw [bl, mcol_unit, if_pos rfl, sm_congr (g := fun j => (-1) * (y j * cst n goal goal.length ((dg e).B j))) (fun j hj => by
      have hv := (M.var _).1 (.inl ⟨j, by show j < e.ins.length; rw [M.m]; exact hj, rfl⟩)
      rw [bz j hj, lastc _ hv.1 hv.2]; grind), sm_mul]
    grind
  refine ⟨hm, ⟨fun r hr => ?_, fun c hc r hr => ?_, ?_⟩, fun v hv => (M.var v).1 hv⟩
  · rw [hm] at hr ⊢
    by_cases h : r < rows.length
    · rw [hsum (fun j => (dg (aimE e c0 goal)).a j 0) r h, sm_congr (g := fun j => (dg e).a j 0 * mcol n rows.length rows [] (fun _ => 0) ((dg e).B j) r) (fun j hj => by rw [aimE_row M hj]), M.c0 r h]
      unfold mrhs
      rw [if_pos (by omega)]; rfl
    · have : r = rows.length := by omega
      subst this
      have g := G.c0
      rw [M.m] at g
      rw [hlast (fun j => (dg (aimE e c0 goal)).a j 0), aimE_goal M, sm_congr (g := fun j => (dg e).a j 0 * cst n goal goal.length ((dg e).B j)) (fun j hj => by rw [aimE_row M hj]), g]
      unfold mrhs
      rw [if_neg (by omega)]; grind
  · rw [hm] at hr ⊢
    have hv := (M.var _).1 (.inr ⟨c, hc, rfl⟩)
    show sm _ _ = - mcol n rows.length rows goal (fun _ => 0) ((dg e).N c) r
    by_cases h : r < rows.length
    · rw [hsum (fun j => (dg (aimE e c0 goal)).a j (c + 1)) r h, sm_congr (g := fun j => (dg e).a j (c + 1) * mcol n rows.length rows [] (fun _ => 0) ((dg e).B j) r) (fun j hj => by rw [aimE_row M hj]), M.ck c hc r h, mcol_same (g := []) (g' := goal) (c := fun _ => 0) (c' := fun _ => 0) hv.1 h]
    · have : r = rows.length := by omega
      subst this
      have g := G.ck c hc
      rw [M.m] at g
      rw [hlast (fun j => (dg (aimE e c0 goal)).a j (c + 1)), aimE_goal M, sm_congr (g := fun j => (dg e).a j (c + 1) * cst n goal goal.length ((dg e).B j)) (fun j hj => by rw [aimE_row M hj]), g, lastc _ hv.1 hv.2]
      grind
  · rw [hm, det_last rows.length _ (fun r hr => by
      show mcol n rows.length rows goal (fun _ => 0) ((dg (aimE e c0 goal)).Bz (n + 1 + rows.length) rows.length) r = _
      rw [bl, mcol_unit])]
    rw [det_congr (e := fun j => mcol n rows.length rows [] (fun _ => 0) ((dg e).B j)) (fun j hj i hi => by rw [bz j hj, mcol_same (mid_bas0 M hj) hi])]
    exact M.dt
theorem aimE_sat (x : Nat → Rat) (z : Rat) : (dg (aimE e c0 goal)).Sat x z ↔ (∀ i, i < rows.length → x (n + 1 + i) = ((rowD rows i).2 : Rat) - dotA rows i (fun j => x (j + 1))) ∧ z = objX goal c0 (fun j => x (j + 1)) := by
  have hm : (dg (aimE e c0 goal)).m = rows.length := M.m
  have hv : ∀ i, i < rows.length → (dg (aimE e c0 goal)).val i x = (dg e).val i x := fun i hi => by
    unfold Dg.val
    rw [aimE_row M hi]
    congr 1
    exact sm_congr fun k _ => by rw [aimE_row M hi]; rfl
  have hrows : (∀ i, i < rows.length → x ((dg (aimE e c0 goal)).B i) = (dg (aimE e c0 goal)).val i x) ↔ ∀ i, i < rows.length → x ((dg e).B i) = (dg e).val i x :=
    ⟨fun q i hi => by rw [← hv i hi]; exact q i hi, fun q i hi => by rw [hv i hi]; exact q i hi⟩
  have hg : (∀ i, i < rows.length → x ((dg e).B i) = (dg e).val i x) → (dg (aimE e c0 goal)).val rows.length x = objX goal c0 (fun j => x (j + 1)) := fun q => by
    have := (goal_end hs M).val x (fun i hi => q i (by rw [← M.m]; exact hi))
    unfold Dg.val objX
    rw [aimE_goal M, ← this]
    congr 1
    exact sm_congr fun k _ => by rw [aimE_goal M]; rfl
  unfold Dg.Sat
  rw [hm, hrows, M.sat x]
  constructor
  · rintro ⟨h1, h2⟩
    exact ⟨h1, by rw [h2, hg ((M.sat x).2 h1)]⟩
  · rintro ⟨h1, h2⟩
    exact ⟨h1, by rw [h2, hg ((M.sat x).2 h1)]⟩
end
section
variable (n : Nat) (rows : List MRow) (goal : List (Int × Int))
def ngR (i : Nat) : Prop := (rowD rows i).2 < 0
instance (i : Nat) : Decidable (ngR rows i) := inferInstanceAs (Decidable ((rowD rows i).2 < 0))
def sgR (i : Nat) : Rat := if ngR rows i then -1 else 1
def cfR (i j : Nat) : Rat := (coefF (rowD rows i).1 (j : Int) : Rat)
def msR (i : Nat) : Rat := ((rowD rows i).2 : Rat)
def tv (i j : Nat) : Rat := if j < n then sgR rows i * cfR rows i j else if j < n + rows.length then (if j = n + i then sgR rows i else 0) else if j < n + rows.length + rows.length then (if j = n + rows.length + i ∧ ngR rows i then 1 else 0) else sgR rows i * msR rows i
def gv (i c : Nat) : Rat := if c < n + rows.length ∨ c = n + rows.length + rows.length then - sm (fun r => if ngR rows r then tv n rows r c else 0) i else 0
def N0 (k : Nat) : Nat := if k < n then k else if ngR rows (k - n) then k else k + rows.length
def B0 (i : Nat) : Nat := if ngR rows i then n + rows.length + i else n + i
def d0 : Dg := ⟨rows.length, n + rows.length, B0 n rows, N0 n rows, fun r j => if r < rows.length then (if j = 0 then tv n rows r (n + rows.length + rows.length) else - tv n rows r (N0 n rows (j - 1))) else (if j = 0 then gv n rows rows.length (n + rows.length + rows.length) else - gv n rows rows.length (N0 n rows (j - 1)))⟩
def alp (v : Nat) : Rat := if n + rows.length ≤ v ∧ v < n + rows.length + rows.length ∧ ngR rows (v - n - rows.length) then 1 else 0
def bet (v : Nat) : Rat := if v < n then (coefF goal (v : Int) : Rat) else 0
def o0 (j : Nat) : Rat := if j = 0 then 0 else bet n goal (N0 n rows (j - 1))
def acol (v r : Nat) : Rat := if v < n then (if r < rows.length then cfR rows r v else -(coefF goal (v : Int) : Rat)) else if v < n + rows.length then (if r = v - n then 1 else 0) else if v < n + rows.length + rows.length then (if r = v - n - rows.length ∧ ngR rows r then -1 else 0) else (if r = rows.length then 1 else 0)
def arhs (r : Nat) : Rat := if r < rows.length then msR rows r else 0
end
theorem sgI_cast (x : MRow) : ((sgI x : Int) : Rat) = if x.2 < 0 then -1 else 1 := by
  unfold sgI; split
  · rw [Rat.intCast_neg]; simp
  · simp
section
variable {n : Nat} {rows : List MRow} {goal : List (Int × Int)} {c0 : Int} (hs : SmallP n rows goal c0)
theorem sgR_cases (i : Nat) : (ngR rows i ∧ sgR rows i = -1) ∨ (¬ ngR rows i ∧ sgR rows i = 1) := by
  unfold sgR; by_cases h : ngR rows i
  · exact .inl ⟨h, if_pos h⟩
  · exact .inr ⟨h, if_neg h⟩
include hs
theorem trow1_at (i L : Nat) (hL : n ≤ L) (j : Nat) (hj : j < L) : ∀ k : Nat, k ≤ (rowD rows i).1.length → gR (trow1 L (rowD rows i) k) j = sgR rows i * (coefF ((rowD rows i).1.take k) (j : Int) : Rat)
  | 0, _ => by
    show gR (List.replicate L 0) j = sgR rows i * ((0 : Int) : Rat)
    rw [gR_of (show (List.replicate L (0 : Rat))[j]? = some 0 by rw [List.getElem?_replicate, if_pos hj])]
    simp
  | k + 1, hk => by
    have h := (small_rowD hs i).1
    obtain ⟨t, ht⟩ : ∃ t, (rowD rows i).1[k]? = some t := ⟨_, List.getElem?_eq_getElem (by omega)⟩
    obtain ⟨h0, h1, _⟩ := h k t (by omega) ht
    rw [trow1_succ ht, gR_put (by rw [trow1_length]; exact hj), coefF_take h ht, trow1_at i L hL j hj k (by omega)]
    by_cases hjt : (j : Int) = t.1
    · rw [if_pos (by omega), if_pos hjt, Rat.intCast_mul, sgI_cast]; rfl
    · rw [if_neg (by omega), if_neg hjt]
theorem trow_at {i j : Nat} (hi : i < rows.length) (hj : j < n + rows.length + rows.length + 1) : gR (trow n rows.length (n + rows.length + rows.length + 1) (rowD rows i) i) j = tv n rows i j := by
  have h1 := trow1_at hs i (n + rows.length + rows.length + 1) (by omega) j hj _ (Nat.le_refl _)
  rw [List.take_length] at h1
  have h2 : gR (trow2 n rows.length (n + rows.length + rows.length + 1) (rowD rows i) i) j = if j = n + rows.length + rows.length then sgR rows i * msR rows i else if j = n + i then sgR rows i else sgR rows i * cfR rows i j := by
    unfold trow2
    rw [gR_put (by rw [List.length_set, trow1_length]; exact hj), gR_put (by rw [trow1_length]; exact hj), h1, Rat.intCast_mul, sgI_cast]; rfl
  have hz : n ≤ j → cfR rows i j = 0 := fun hn => by
    unfold cfR
    have h := (small_rowD hs i).1
    rw [coefF_none (l := (rowD rows i).1) (c := (j : Int)) (fun s hs' => by
      obtain ⟨a, ha⟩ := List.getElem?_of_mem hs'
      have := (h a s (List.getElem?_eq_some_iff.1 ha).1 ha).2.1
      omega)]
    simp
  have h3 : gR (trow n rows.length (n + rows.length + rows.length + 1) (rowD rows i) i) j = if ngR rows i ∧ j = n + rows.length + i then 1 else gR (trow2 n rows.length (n + rows.length + rows.length + 1) (rowD rows i) i) j := by
    unfold trow
    by_cases hn : ngR rows i
    · rw [if_pos (show (rowD rows i).2 < 0 from hn), gR_put (by rw [trow2_length]; exact hj)]
      by_cases e : j = n + rows.length + i
      · rw [if_pos e, if_pos ⟨hn, e⟩]
      · rw [if_neg e, if_neg (fun h => e h.2)]
    · rw [if_neg (show ¬ (rowD rows i).2 < 0 from hn), if_neg (fun h => hn h.1)]
  rw [h3, h2]
  unfold tv
  by_cases c1 : j < n
  · rw [if_neg (by omega), if_neg (by omega), if_neg (by omega), if_pos c1]
  · rw [if_neg c1]
    by_cases c2 : j < n + rows.length
    · rw [if_neg (by omega), if_neg (by omega), if_pos c2, hz (by omega)]
      split <;> grind
    · rw [if_neg c2]
      by_cases c3 : j < n + rows.length + rows.length
      · rw [if_pos c3]
        by_cases c4 : j = n + rows.length + i
        · by_cases c5 : ngR rows i
          · rw [if_pos ⟨c5, c4⟩, if_pos ⟨c4, c5⟩]
          · rw [if_neg (fun h => c5 h.1), if_neg (show ¬ j = n + rows.length + rows.length by omega), if_neg (show ¬ j = n + i by omega), hz (by omega), if_neg (fun h : j = n + rows.length + i ∧ ngR rows i => c5 h.2)]; grind
        · rw [if_neg (fun h => c4 h.2), if_neg (show ¬ j = n + rows.length + rows.length by omega), if_neg (show ¬ j = n + i by omega), hz (by omega), if_neg (fun h : j = n + rows.length + i ∧ ngR rows i => c4 h.1)]; grind
      · rw [if_neg c3, if_neg (by omega), if_pos (by omega)]
theorem tab_goal_at : ∀ i : Nat, i ≤ rows.length → ∀ c, c < n + rows.length + rows.length + 1 → gR (tabAt n rows.length (n + rows.length + rows.length + 1) rows i).goal c = gv n rows i c
  | 0, _, c, hc => by
    show gR (List.replicate _ 0) c = _
    rw [gR_of (show (List.replicate (n + rows.length + rows.length + 1) (0 : Rat))[c]? = some 0 by rw [List.getElem?_replicate, if_pos hc])]
    unfold gv
    split
    · rw [show sm (fun r => if ngR rows r then tv n rows r c else 0) 0 = 0 from rfl]; grind
    · rfl
  | i + 1, hi, c, hc => by
    have ih := tab_goal_at i (by omega) c hc
    have hlen := (tabAt_len n rows.length (n + rows.length + rows.length + 1) rows i).2.2
    have hrow := trow_at hs (i := i) (j := c) (by omega) hc
    show gR (if (rowD rows i).2 < 0 then _ else _) c = _
    by_cases hn : ngR rows i
    · rw [if_pos (show (rowD rows i).2 < 0 from hn)]
      have hx : (tabAt n rows.length (n + rows.length + rows.length + 1) rows i).goal[c]? = some (gv n rows i c) := by
        rw [← ih]
        have := List.getElem?_eq_getElem (l := (tabAt n rows.length (n + rows.length + rows.length + 1) rows i).goal) (i := c) (by omega)
        rw [gR_of this]; exact this
      rw [gR_of (tgoal_get hx), hrow]
      unfold gv
      by_cases hc2 : c < n + rows.length ∨ c = n + rows.length + rows.length
      · rw [if_pos hc2, if_pos hc2, if_pos hc2]
        show _ = - (sm _ i + (if ngR rows i then _ else _))
        rw [if_pos hn]; grind
      · rw [if_neg hc2, if_neg hc2, if_neg hc2]
    · rw [if_neg (show ¬ (rowD rows i).2 < 0 from hn), ih]
      unfold gv
      by_cases hc2 : c < n + rows.length ∨ c = n + rows.length + rows.length
      · rw [if_pos hc2, if_pos hc2]
        show _ = - (sm _ i + (if ngR rows i then _ else _))
        rw [if_neg hn]; grind
      · rw [if_neg hc2, if_neg hc2]
omit hs in
theorem tab_row_at : ∀ i : Nat, ∀ r, r < i → (tabAt n rows.length (n + rows.length + rows.length + 1) rows i).row r = trow n rows.length (n + rows.length + rows.length + 1) (rowD rows r) r ∧ (tabAt n rows.length (n + rows.length + rows.length + 1) rows i).basis.getD r 0 = B0 n rows r
  | 0, r, h => by omega
  | i + 1, r, h => by
    have ih := tab_row_at i
    obtain ⟨h1, h2, _⟩ := tabAt_len n rows.length (n + rows.length + rows.length + 1) rows i
    by_cases hri : r < i
    · obtain ⟨k1, k2⟩ := ih r hri
      refine ⟨?_, ?_⟩
      · rw [← k1]
        refine Tab.row_of ?_
        show ((tabAt n rows.length _ rows i).rows ++ [_])[r]? = _
        rw [List.getElem?_append_left (by omega)]
        exact Tab.row_some (by omega)
      · rw [← k2]
        show ((tabAt n rows.length _ rows i).basis ++ [_]).getD r 0 = _
        rw [List.getD_eq_getElem?_getD, List.getElem?_append_left (by omega), ← List.getD_eq_getElem?_getD]
    · have : r = i := by omega
      subst this
      refine ⟨Tab.row_of ?_, ?_⟩
      · show ((tabAt n rows.length _ rows r).rows ++ [_])[r]? = _
        rw [List.getElem?_append_right (by omega), h1, Nat.sub_self]; rfl
      · show ((tabAt n rows.length _ rows r).basis ++ [_]).getD r 0 = _
        rw [List.getD_eq_getElem?_getD, List.getElem?_append_right (by omega), h2, Nat.sub_self]; rfl
omit hs in
theorem N0_lt {k : Nat} (hk : k < n + rows.length) : N0 n rows k < n + rows.length + rows.length := by unfold N0; (repeat' split) <;> omega
omit hs in
theorem B0_lt {i : Nat} (hi : i < rows.length) : B0 n rows i < n + rows.length + rows.length := by unfold B0; (repeat' split) <;> omega
omit hs in
theorem d0_a {i j : Nat} (hi : i < rows.length) : (d0 n rows).a i (j + 1) = - tv n rows i (N0 n rows j) ∧ (d0 n rows).a i 0 = tv n rows i (n + rows.length + rows.length) := by
  constructor
  · show (if i < rows.length then (if j + 1 = 0 then _ else _) else _) = _
    rw [if_pos hi, if_neg (by omega), Nat.add_sub_cancel]
  · show (if i < rows.length then (if 0 = 0 then _ else _) else _) = _
    rw [if_pos hi, if_pos rfl]
omit hs in
theorem d0_g {j : Nat} : (d0 n rows).a rows.length (j + 1) = - gv n rows rows.length (N0 n rows j) ∧ (d0 n rows).a rows.length 0 = gv n rows rows.length (n + rows.length + rows.length) := by
  constructor
  · show (if rows.length < rows.length then _ else (if j + 1 = 0 then _ else _)) = _
    rw [if_neg (by omega), if_neg (by omega), Nat.add_sub_cancel]
  · show (if rows.length < rows.length then _ else (if 0 = 0 then _ else _)) = _
    rw [if_neg (by omega), if_pos rfl]
omit hs in
theorem tv_B {i j : Nat} (hi : i < rows.length) (hj : j < rows.length) : tv n rows i (B0 n rows j) = if i = j then 1 else 0 := by
  unfold tv B0
  rcases sgR_cases (rows := rows) j with ⟨hn, hg⟩ | ⟨hn, hg⟩
  · rw [if_pos hn, if_neg (by omega), if_neg (by omega), if_pos (by omega)]
    by_cases e : i = j
    · subst e; rw [if_pos ⟨rfl, hn⟩, if_pos rfl]
    · rw [if_neg (fun h => e (by omega)), if_neg e]
  · rw [if_neg hn, if_neg (by omega), if_pos (by omega)]
    by_cases e : i = j
    · subst e; rw [if_pos rfl, if_pos rfl, hg]
    · rw [if_neg (by omega), if_neg e]
omit hs in
theorem gv_B {j : Nat} (hj : j < rows.length) : gv n rows rows.length (B0 n rows j) = 0 := by
  unfold gv
  split
  · rename_i h
    rw [sm_zero (fun r hr => ?_)]
    · grind
    · split
      · rename_i hr2
        rw [tv_B hr hj]
        rw [if_neg]
        intro e
        subst e
        unfold B0 at h
        rw [if_pos hr2] at h
        omega
      · rfl
  · rfl
omit hs in
theorem d0_inj : (d0 n rows).Inj := by
  refine ⟨fun i j hi hj e => ?_, fun i j hi hj e => ?_, fun i k hi hk e => ?_⟩
  · have hi : i < rows.length := hi; have hj : j < rows.length := hj
    have e : B0 n rows i = B0 n rows j := e
    unfold B0 at e
    split at e <;> split at e <;> omega
  · have hi : i < n + rows.length := hi; have hj : j < n + rows.length := hj
    have e : N0 n rows i = N0 n rows j := e
    unfold N0 at e
    (repeat' split at e) <;> omega
  · have hi : i < rows.length := hi; have hk : k < n + rows.length := hk
    have e : B0 n rows i = N0 n rows k := e
    unfold B0 N0 at e
    by_cases h1 : ngR rows i
    · rw [if_pos h1] at e
      by_cases h2 : k < n
      · rw [if_pos h2] at e; omega
      · rw [if_neg h2] at e
        by_cases h3 : ngR rows (k - n)
        · rw [if_pos h3] at e; omega
        · rw [if_neg h3] at e
          have : k - n = i := by omega
          rw [this] at h3; exact h3 h1
    · rw [if_neg h1] at e
      by_cases h2 : k < n
      · rw [if_pos h2] at e; omega
      · rw [if_neg h2] at e
        by_cases h3 : ngR rows (k - n)
        · rw [if_pos h3] at e
          have : k - n = i := by omega
          rw [this] at h3; exact h1 h3
        · rw [if_neg h3] at e; omega
theorem d0_tab : TabOf (tabAt n rows.length (n + rows.length + rows.length + 1) rows rows.length) (n + rows.length + rows.length) (d0 n rows) := by
  have L := tabAt_tlen n rows.length (n + rows.length + rows.length + 1) rows rows.length
  have rw1 : ∀ r j, r < rows.length → j < n + rows.length + rows.length + 1 → gR ((tabAt n rows.length (n + rows.length + rows.length + 1) rows rows.length).row r) j = tv n rows r j := fun r j hr hj => by
    rw [(tab_row_at rows.length r hr).1, trow_at hs hr hj]
  refine ⟨L.rows, L.basis, L.len, L.goal, fun i hi => (tab_row_at rows.length i hi).2, fun i k hi hk => ?_, fun i j hi hj => ?_, fun i hi => ?_, fun k hk => ?_, fun j hj => ?_, ?_, fun i hi => B0_lt hi, fun k hk => N0_lt hk, fun v hv => ?_⟩
  · have h1 := N0_lt (rows := rows) (n := n) hk
    rw [(d0_a hi).1]
    show gR _ (N0 n rows k) = _
    rw [rw1 i _ hi (by omega)]; grind
  · have h1 := B0_lt (rows := rows) (n := n) hj
    show gR _ (B0 n rows j) = _
    rw [rw1 i _ hi (by omega), tv_B hi hj]
  · rw [(d0_a (j := 0) hi).2, rw1 i _ hi (by omega)]
  · have h1 := N0_lt (rows := rows) (n := n) hk
    show gR _ (N0 n rows k) = - (d0 n rows).a rows.length (k + 1)
    rw [d0_g.1, tab_goal_at hs _ (Nat.le_refl _) _ (by omega)]; grind
  · have h1 := B0_lt (rows := rows) (n := n) hj
    show gR _ (B0 n rows j) = _
    rw [tab_goal_at hs _ (Nat.le_refl _) _ (by omega), gv_B hj]
  · show _ = (d0 n rows).a rows.length 0
    rw [(d0_g (j := 0)).2, tab_goal_at hs _ (Nat.le_refl _) _ (by omega)]
  · by_cases c1 : v < n
    · exact .inr ⟨v, by show v < n + rows.length; omega, by show N0 n rows v = v; unfold N0; rw [if_pos c1]⟩
    · by_cases c2 : v < n + rows.length
      · by_cases c3 : ngR rows (v - n)
        · exact .inr ⟨v, c2, by show N0 n rows v = v; unfold N0; rw [if_neg c1, if_pos c3]⟩
        · exact .inl ⟨v - n, by show v - n < rows.length; omega, by show B0 n rows (v - n) = v; unfold B0; rw [if_neg c3]; omega⟩
      · by_cases c3 : ngR rows (v - n - rows.length)
        · exact .inl ⟨v - n - rows.length, by show v - n - rows.length < rows.length; omega, by show B0 n rows _ = v; unfold B0; rw [if_pos c3]; omega⟩
        · exact .inr ⟨v - rows.length, by show v - rows.length < n + rows.length; omega, by
            show N0 n rows _ = v
            unfold N0
            rw [if_neg (by omega), show v - rows.length - n = v - n - rows.length by omega, if_neg c3]; omega⟩
omit hs in
theorem d0_ok : (d0 n rows).Ok := fun i hi => by
  rw [(d0_a (j := 0) hi).2]
  unfold tv
  rw [if_neg (by omega), if_neg (by omega), if_neg (by omega)]
  unfold msR
  rcases sgR_cases (rows := rows) i with ⟨hn, hg⟩ | ⟨hn, hg⟩
  · rw [hg]
    have h : (rowD rows i).2 ≤ 0 := Int.le_of_lt hn
    have := Rat.intCast_le_intCast.2 h
    simp at this
    grind
  · rw [hg]
    have h : 0 ≤ (rowD rows i).2 := Int.not_lt.1 hn
    have := Rat.intCast_le_intCast.2 h
    simp at this
    grind
omit hs in
theorem alp_B {j : Nat} (hj : j < rows.length) : alp n rows (B0 n rows j) = if ngR rows j then 1 else 0 := by
  unfold alp B0
  by_cases h : ngR rows j
  · rw [if_pos h, if_pos h, if_pos ⟨by omega, by omega, by rw [show n + rows.length + j - n - rows.length = j by omega]; exact h⟩]
  · rw [if_neg h, if_neg h, if_neg (fun e => by omega)]
omit hs in
theorem alp_N {k : Nat} (hk : k < n + rows.length) : alp n rows (N0 n rows k) = 0 := by
  unfold alp N0
  by_cases c1 : k < n
  · rw [if_pos c1, if_neg (fun e => by omega)]
  · rw [if_neg c1]
    by_cases c2 : ngR rows (k - n)
    · rw [if_pos c2, if_neg (fun e => by omega)]
    · rw [if_neg c2, if_neg (fun e => c2 (by rw [show k - n = k + rows.length - n - rows.length by omega]; exact e.2.2))]
omit hs in
theorem d0_frm : Frm (alp n rows) (d0 n rows) := by
  have key : ∀ c, sm (fun j => tv n rows j c * alp n rows (B0 n rows j)) rows.length = sm (fun r => if ngR rows r then tv n rows r c else 0) rows.length := fun c => sm_congr fun r hr => by
    rw [alp_B hr]; split <;> grind
  refine ⟨?_, fun c hc => ?_⟩
  · show (d0 n rows).a rows.length 0 = - sm (fun j => (d0 n rows).a j 0 * alp n rows (B0 n rows j)) rows.length
    rw [(d0_g (j := 0)).2, sm_congr (g := fun j => tv n rows j (n + rows.length + rows.length) * alp n rows (B0 n rows j)) (fun j hj => by rw [(d0_a (j := 0) hj).2]), key]
    unfold gv
    rw [if_pos (.inr rfl)]
  · have hc : c < n + rows.length := hc
    show (d0 n rows).a rows.length (c + 1) = - alp n rows (N0 n rows c) - sm (fun j => (d0 n rows).a j (c + 1) * alp n rows (B0 n rows j)) rows.length
    rw [d0_g.1, alp_N hc, sm_congr (g := fun j => (-1) * (tv n rows j (N0 n rows c) * alp n rows (B0 n rows j))) (fun j hj => by rw [(d0_a hj).1]; grind), sm_mul, key]
    unfold gv
    by_cases h : N0 n rows c < n + rows.length
    · rw [if_pos (.inl h)]; grind
    · have h1 := N0_lt (rows := rows) (n := n) hc
      rw [if_neg (by omega), sm_zero (fun r hr => ?_)]
      · grind
      · split
        · rename_i hr2
          unfold tv
          rw [if_neg (by omega), if_neg h, if_pos h1, if_neg]
          intro e
          unfold N0 at e h
          by_cases c1 : c < n
          · rw [if_pos c1] at h; omega
          · rw [if_neg c1] at e h
            by_cases c2 : ngR rows (c - n)
            · rw [if_pos c2] at h; omega
            · rw [if_neg c2] at e
              have : c - n = r := by omega
              rw [this] at c2; exact c2 e.2
        · rfl
end
end Go.Proofs.Ytdegpgonphgbcaa
