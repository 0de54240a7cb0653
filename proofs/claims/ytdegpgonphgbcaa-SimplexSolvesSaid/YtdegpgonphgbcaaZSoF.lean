/-
  The second phase.
  Between the phases.
  The goal is put in.
-/
import Derived.Test.YtdegpgonphgbcaaZTaF
namespace Go.Proofs.Ytdegpgonphgbcaa
open Go.RowKit
theorem det_last : ∀ (m : Nat) (c : Nat → Nat → Rat), (∀ r, r < m + 1 → c m r = if r = m then 1 else 0) → det (m + 1) c = det m c
  | 0, c, h => by
    show sm (fun r => sgn r * c 0 r * 1) 1 = 1
    unfold sm sm
    rw [h 0 (by omega), if_pos rfl]
    unfold sgn; simp; grind
  | m + 1, c, h => by
    unfold det
    show sm _ (m + 1) + sgn (m + 1) * c 0 (m + 1) * det (m + 1) (fun j i => c (j + 1) (skip (m + 1) i)) = _
    have z : det (m + 1) (fun j i => c (j + 1) (skip (m + 1) i)) = 0 := det_zero (j := m) (by omega) fun i hi => by
      have e : skip (m + 1) i = i := by unfold skip; rw [if_pos (by omega)]
      show c (m + 1) (skip (m + 1) i) = 0
      rw [e, h i (by omega), if_neg (by omega)]
    rw [z, sm_congr (g := fun r => sgn r * c 0 r * det m (fun j i => c (j + 1) (skip r i))) (fun r hr => by
      rw [det_last m (fun j i => c (j + 1) (skip r i)) (fun i hi => by
        show c (m + 1) (skip r i) = _
        rw [h _ (skip_lt hi)]
        unfold skip
        by_cases hir : i < r
        · rw [if_pos hir, if_neg (by omega), if_neg (by omega)]
        · rw [if_neg hir]
          by_cases him : i = m
          · rw [if_pos (by omega), if_pos him]
          · rw [if_neg (by omega), if_neg him])])]
    grind
theorem sm_skip (f : Nat → Rat) {k : Nat} : ∀ {n : Nat}, k < n + 1 → sm f (n + 1) = f k + sm (fun c => f (skip k c)) n
  | 0, h => by
    have : k = 0 := by omega
    subst this
    show sm f 0 + f 0 = f 0 + 0; unfold sm; grind
  | n + 1, h => by
    by_cases e : k = n + 1
    · subst e
      show sm f (n + 1) + f (n + 1) = _
      rw [sm_congr (f := fun c => f (skip (n + 1) c)) (g := f) (fun c hc => by unfold skip; rw [if_pos hc])]; grind
    · have ih := sm_skip f (k := k) (n := n) (by omega)
      show sm f (n + 1) + f (n + 1) = f k + (sm (fun c => f (skip k c)) n + f (skip k n))
      rw [ih, show skip k n = n + 1 by unfold skip; rw [if_neg (by omega)]]; grind
theorem skip_ne (k c : Nat) : skip k c ≠ k := by unfold skip; split <;> omega
theorem skip_inj {k c c' : Nat} (h : skip k c = skip k c') : c = c' := by unfold skip at h; (repeat' split at h) <;> omega
theorem skip_onto {k v : Nat} (h : v ≠ k) : ∃ c, skip k c = v ∧ (v < k → c = v) ∧ (k < v → c + 1 = v) := by
  by_cases hv : v < k
  · exact ⟨v, by unfold skip; rw [if_pos hv], fun _ => rfl, fun h => by omega⟩
  · exact ⟨v - 1, by unfold skip; rw [if_neg (by omega)]; omega, fun h => by omega, fun _ => by omega⟩
theorem erase_get {α : Type} {l : List α} {k c : Nat} : (l.eraseIdx k)[c]? = l[skip k c]? := by
  rw [List.getElem?_eraseIdx]
  unfold skip
  split <;> rfl
theorem iAt_erase {l : List Int} {k c : Nat} : iAt (l.eraseIdx k) (c : Int) = iAt l (skip k c : Nat) := by
  unfold iAt
  rw [Int.toNat_natCast, Int.toNat_natCast, List.getD_eq_getElem?_getD, List.getD_eq_getElem?_getD, erase_get]
theorem gR_erase {l : List Rat} {k c : Nat} : gR (l.eraseIdx k) c = gR l (skip k c) := by
  unfold gR
  rw [List.getD_eq_getElem?_getD, List.getD_eq_getElem?_getD, erase_get]
theorem skip_succ (k c : Nat) : skip (k + 1) (c + 1) = skip k c + 1 := by unfold skip; split <;> split <;> omega
theorem skip_zero (k : Nat) : skip (k + 1) 0 = 0 := by unfold skip; rw [if_pos (by omega)]
section
variable {d : Dc} {k0 : Nat} (hidx : idxP d.outs 0 = (k0 : Int)) (w : DcFit d) (hk0 : k0 < d.outs.length)
include hidx
theorem drop_row {r : Nat} (hr : r < d.rows.length) : (dropD d).rows.getD r [] = (d.rows.getD r []).eraseIdx (k0 + 1) := by
  rw [dropD_some hidx]
  dsimp only
  rw [List.getD_eq_getElem?_getD, List.getElem?_map, getD_row hr]; rfl
theorem drop_N (c : Nat) : (dg (dropD d)).N c = (dg d).N (skip k0 c) := by
  show (iAt (dropD d).outs (c : Int)).toNat = (iAt d.outs ((skip k0 c : Nat) : Int)).toNat
  rw [dropD_some hidx]
  dsimp only
  rw [iAt_erase]
theorem drop_B (i : Nat) : (dg (dropD d)).B i = (dg d).B i := by
  show (iAt (dropD d).ins (i : Int)).toNat = (iAt d.ins (i : Int)).toNat
  rw [dropD_some hidx]
theorem drop_m : (dg (dropD d)).m = (dg d).m := by
  show (dropD d).ins.length = d.ins.length
  rw [dropD_some hidx]
theorem drop_a {r : Nat} (hr : r < d.rows.length) (c : Nat) : (dg (dropD d)).a r (c + 1) = (dg d).a r (skip k0 c + 1) ∧ (dg (dropD d)).a r 0 = (dg d).a r 0 := by
  show gR ((dropD d).rows.getD r []) (c + 1) = gR (d.rows.getD r []) (skip k0 c + 1) ∧ gR ((dropD d).rows.getD r []) 0 = gR (d.rows.getD r []) 0
  rw [drop_row hidx hr, gR_erase, gR_erase, skip_succ, skip_zero]
  exact ⟨rfl, rfl⟩
include hk0
theorem drop_n : (dg (dropD d)).n + 1 = (dg d).n := by
  show (dropD d).outs.length + 1 = d.outs.length
  rw [dropD_some hidx]
  dsimp only
  rw [List.length_eraseIdx_of_lt hk0]; omega
end
structure Mid (n : Nat) (rows : List MRow) (e : Dc) (D : Rat) : Prop where
  fit : DcFit e
  m : e.ins.length = rows.length
  I : (dg e).Inj
  i0 : ∀ z ∈ e.ins, 0 ≤ z
  o0 : ∀ z ∈ e.outs, 0 ≤ z
  var : ∀ v, ((dg e).Bas v ∨ (dg e).Non v) ↔ 1 ≤ v ∧ v ≤ n + rows.length
  wD : Whole D
  nD : D ≠ 0
  bD : Ab D 382637520
  row : ∀ j x, j < rows.length → x < e.outs.length → Big ((dg e).a j (x + 1)) D 382637520
  con : ∀ j, j < rows.length → Big ((dg e).a j 0) D 2125764000
  c0 : ∀ r, r < rows.length → sm (fun j => (dg e).a j 0 * mcol n rows.length rows [] (fun _ => 0) ((dg e).B j) r) rows.length = ((rowD rows r).2 : Rat)
  ck : ∀ c, c < e.outs.length → ∀ r, r < rows.length → sm (fun j => (dg e).a j (c + 1) * mcol n rows.length rows [] (fun _ => 0) ((dg e).B j) r) rows.length = - mcol n rows.length rows [] (fun _ => 0) ((dg e).N c) r
  dt : det rows.length (fun j => mcol n rows.length rows [] (fun _ => 0) ((dg e).B j)) ≠ 0
  ok : ∀ i, i < rows.length → 0 ≤ (dg e).a i 0
  sat : ∀ x : Nat → Rat, (∀ i, i < rows.length → x ((dg e).B i) = (dg e).val i x) ↔ ∀ i, i < rows.length → x (n + 1 + i) = ((rowD rows i).2 : Rat) - dotA rows i (fun j => x (j + 1))
theorem mcol_same {n m : Nat} {rows : List MRow} {g g' : List (Int × Int)} {c c' : Nat → Rat} {v r : Nat} (hv : 1 ≤ v) (hr : r < m) : mcol n m rows g c v r = mcol n m rows g' c' v r := by
  have h0 : ¬ v = 0 := by omega
  unfold mcol
  rw [if_neg h0, if_neg h0]
  by_cases h : v ≤ n
  · rw [if_pos h, if_pos h, if_pos hr, if_pos hr]
  · rw [if_neg h, if_neg h]
section
variable {n : Nat} {rows : List MRow} {goal : List (Int × Int)} {c0 : Int} (hs : SmallP n rows goal c0)
include hs
theorem mid_of {d : Dc} (h : End1 n rows d) (hN : (dg d).Non 0) : ∃ D, Mid n rows (dropD d) D := by
  have hm : (dg d).m = rows.length := h.w.f.1
  have hml : d.ins.length = rows.length := hm
  obtain ⟨k0, hidx, hk0, hN0⟩ : ∃ k0 : Nat, idxP d.outs 0 = (k0 : Int) ∧ k0 < d.outs.length ∧ (dg d).N k0 = 0 := by
    rcases idx_spec d.outs 0 with ⟨_, hall⟩ | ⟨k, hk, hkl, hz⟩
    · obtain ⟨k, hk, e⟩ := hN
      have h0 := h.w.w.o0 _ (iAt_mem hk)
      have e : (iAt d.outs (k : Int)).toNat = 0 := e
      exact absurd (by omega) (hall k hk)
    · exact ⟨k, hk, hkl, by show (iAt d.outs (k : Int)).toNat = 0; rw [hz]; rfl⟩
  have hrl := h.w.w.fit.rows
  have dn := drop_n hidx hk0
  have dB := drop_B hidx
  have dN := drop_N hidx
  have da := fun r (hr : r < rows.length) c => drop_a hidx (r := r) (by omega) c
  have hn1 : (dg d).n = d.outs.length := rfl
  have hn2 : (dg (dropD d)).n = (dropD d).outs.length := rfl
  have sk : ∀ c, c < (dropD d).outs.length → skip k0 c < d.outs.length := fun c hc => by
    have := skip_lt (r := k0) hc; omega
  have hI : (dg (dropD d)).Inj := by
    refine ⟨fun i j hi hj e => ?_, fun i j hi hj e => ?_, fun i k hi hk e => ?_⟩
    · rw [drop_m hidx] at hi hj
      rw [dB, dB] at e
      exact h.w.I.b i j hi hj e
    · rw [dN, dN] at e
      exact skip_inj (h.w.I.n _ _ (sk i hi) (sk j hj) e)
    · rw [drop_m hidx] at hi
      rw [dB, dN] at e
      exact h.w.I.bn i _ hi (sk k hk) e
  have hvar0 : ∀ v, ((dg d).Bas v ∨ (dg d).Non v) ↔ v ≤ n + rows.length := fun v => by
    rw [h.e.v]
    constructor
    · rintro (⟨i, hi, e⟩ | ⟨k, hk, e⟩)
      · rw [beg_m] at hi
        rw [beg_B hi] at e; omega
      · rw [beg_n] at hk
        rw [beg_N hk] at e; omega
    · intro hv
      by_cases hvn : v < n + 1
      · exact .inr ⟨v, by rw [beg_n]; exact hvn, beg_N hvn⟩
      · exact .inl ⟨v - n - 1, by rw [beg_m]; omega, by rw [beg_B (by omega)]; omega⟩
  have hbn0 : ∀ i, i < rows.length → (dg d).B i ≠ 0 := fun i hi e => h.w.I.bn i k0 (by omega) hk0 (by rw [e, hN0])
  have hvar : ∀ v, ((dg (dropD d)).Bas v ∨ (dg (dropD d)).Non v) ↔ 1 ≤ v ∧ v ≤ n + rows.length := fun v => by
    constructor
    · rintro (⟨i, hi, e⟩ | ⟨k, hk, e⟩)
      · rw [drop_m hidx, hm] at hi
        rw [dB] at e
        have := (hvar0 v).1 (.inl ⟨i, by omega, e⟩)
        have := hbn0 i hi
        omega
      · rw [dN] at e
        have := (hvar0 v).1 (.inr ⟨_, sk k hk, e⟩)
        have h2 : (dg d).N (skip k0 k) ≠ 0 := fun q => skip_ne k0 k (h.w.I.n _ _ (sk k hk) hk0 (by rw [q, hN0]))
        omega
    · rintro ⟨h1, h2⟩
      rcases (hvar0 v).2 h2 with ⟨i, hi, e⟩ | ⟨k, hk, e⟩
      · exact .inl ⟨i, by rw [drop_m hidx]; exact hi, by rw [dB]; exact e⟩
      · have hkk : k ≠ k0 := fun q => by rw [q, hN0] at e; omega
        obtain ⟨c, hc, h3, h4⟩ := skip_onto hkk
        refine .inr ⟨c, ?_, by rw [dN, hc]; exact e⟩
        have hk : k < d.outs.length := hk
        show c < (dropD d).outs.length
        by_cases hlt : k < k0
        · have := h3 hlt; omega
        · have := h4 (by omega); omega
  obtain ⟨hfm, hcr, _, _⟩ := h.w.f
  obtain ⟨D, hD⟩ := f1_rep hs _ h.w.f h.w.I
  have colz : ∀ j, j < rows.length → (dg d).Bz (n + 1 + rows.length) j = (dg d).B j := fun j hj => by unfold Dg.Bz; rw [if_pos (by omega)]
  have colsame : ∀ j r, j < rows.length → r < rows.length → mcol n rows.length rows [] (col0 rows.length) ((dg d).B j) r = mcol n rows.length rows [] (fun _ => 0) ((dg d).B j) r := fun j r hj hr => mcol_same (by have := hbn0 j hj; omega) hr
  have hz0 : ∀ r, r < rows.length → mcol n rows.length rows [] (col0 rows.length) ((dg d).Bz (n + 1 + rows.length) rows.length) r = 0 := fun r hr => by
    rw [← hm, bz_last, hm, mcol_unit, if_neg (by omega)]
  have hsum : ∀ (y : Nat → Rat) r, r < rows.length → sm (fun j => y j * mcol n rows.length rows [] (col0 rows.length) ((dg d).Bz (n + 1 + rows.length) j) r) (rows.length + 1) = sm (fun j => y j * mcol n rows.length rows [] (fun _ => 0) ((dg d).B j) r) rows.length := fun y r hr => by
    show sm _ rows.length + y rows.length * mcol n rows.length rows [] (col0 rows.length) ((dg d).Bz (n + 1 + rows.length) rows.length) r = _
    rw [hz0 r hr, sm_congr (g := fun j => y j * mcol n rows.length rows [] (fun _ => 0) ((dg d).B j) r) (fun j hj => by rw [colz j hj, colsame j r hj hr])]
    grind
  have hfd := dropD_fit (onway_ok h.w)
  refine ⟨D, hfd, by rw [← hml]; exact drop_m hidx, hI, ?_, ?_, hvar, hD.w, hD.ne, hD.bd, ?_, ?_, ?_, ?_, ?_, ?_, ?_⟩
  · rw [dropD_some hidx]; exact h.w.w.i0
  · rw [dropD_some hidx]; exact fun z hz => h.w.w.o0 z (List.mem_of_mem_eraseIdx hz)
  · intro j x hj hx
    rw [(da j hj x).1]
    exact hD.row j _ (by omega) (sk x hx)
  · intro j hj
    rw [(da j hj 0).2]
    exact hD.con j (by omega)
  · intro r hr
    have e := hcr.c0 r (by omega)
    rw [hm] at e
    rw [hsum (fun j => (dg d).a j 0) r hr] at e
    rw [sm_congr (g := fun j => (dg d).a j 0 * mcol n rows.length rows [] (fun _ => 0) ((dg d).B j) r) (fun j hj => by rw [dB, (da j hj 0).2]), e]
    unfold mrhs
    rw [if_pos (by omega)]; rfl
  · intro c hc r hr
    have e := hcr.ck (skip k0 c) (sk c hc) r (by omega)
    rw [hm] at e
    rw [hsum (fun j => (dg d).a j (skip k0 c + 1)) r hr] at e
    rw [sm_congr (g := fun j => (dg d).a j (skip k0 c + 1) * mcol n rows.length rows [] (fun _ => 0) ((dg d).B j) r) (fun j hj => by rw [dB, (da j hj c).1]), e, dN]
    have : (dg d).N (skip k0 c) ≠ 0 := fun q => skip_ne k0 c (h.w.I.n _ _ (sk c hc) hk0 (by rw [q, hN0]))
    rw [mcol_same (g := []) (g' := []) (c := col0 rows.length) (c' := fun _ => 0) (by omega) hr]
  · have e := hcr.dt
    rw [hm, det_last rows.length _ (fun r hr => by
      show mcol n rows.length rows [] (col0 rows.length) ((dg d).Bz (n + 1 + rows.length) rows.length) r = _
      rw [← hm, bz_last, hm, mcol_unit])] at e
    rw [det_congr (e := fun j => mcol n rows.length rows [] (col0 rows.length) ((dg d).Bz (n + 1 + rows.length) j)) (fun j hj i hi => by
      show mcol n rows.length rows [] (fun _ => 0) ((dg (dropD d)).B j) i = mcol n rows.length rows [] (col0 rows.length) ((dg d).Bz (n + 1 + rows.length) j) i
      rw [dB, colz j hj, colsame j i hj hi])]
    exact e
  · intro i hi
    rw [(da i hi 0).2]
    exact h.w.ok i (by omega)
  · intro x
    -- the same values, the variable 0 set to 0
    let y : Nat → Rat := fun v => if v = 0 then 0 else x v
    have y0 : y 0 = 0 := rfl
    have yv : ∀ v, v ≠ 0 → y v = x v := fun v hv => if_neg hv
    have hval : ∀ i, i < rows.length → (dg (dropD d)).val i x = (dg d).val i y := fun i hi => by
      unfold Dg.val
      rw [hn1, show d.outs.length = (dropD d).outs.length + 1 by omega, sm_skip (fun k => (dg d).a i (k + 1) * y ((dg d).N k)) (k := k0) (by omega), hN0, y0, (da i hi 0).2, hn2,
        sm_congr (f := fun k => (dg (dropD d)).a i (k + 1) * x ((dg (dropD d)).N k)) (g := fun c => (dg d).a i (skip k0 c + 1) * y ((dg d).N (skip k0 c))) (fun c hc => by
          rw [(da i hi c).1, dN, yv _ (fun q => skip_ne k0 c (h.w.I.n _ _ (sk c hc) hk0 (by rw [q, hN0])))])]
      grind
    have hlow : (∀ i, i < rows.length → x ((dg (dropD d)).B i) = (dg (dropD d)).val i x) ↔ ∀ i, i < rows.length → y ((dg d).B i) = (dg d).val i y := by
      constructor
      · intro q i hi
        rw [yv _ (hbn0 i hi), ← dB, q i hi, hval i hi]
      · intro q i hi
        rw [dB, ← yv _ (hbn0 i hi), q i hi, hval i hi]
    have hd : ∀ i, dotA rows i (fun j => y (j + 1)) = dotA rows i (fun j => x (j + 1)) := fun i => by
      have : (fun j => y (j + 1)) = fun j => x (j + 1) := by funext j; exact yv _ (by omega)
      rw [this]
    rw [hlow]
    constructor
    · intro q i hi
      have hsat : (dg d).Sat y ((dg d).val (dg d).m y) := ⟨fun i hi => q i (by omega), rfl⟩
      have := ((beg_sat hs y _).1 ((h.e.s y _).1 hsat)).1 i hi
      rw [yv _ (by omega), y0, hd] at this
      rw [this]; grind
    · intro q i hi
      have hsat : (dg (begD n rows)).Sat y (- y 0) := (beg_sat hs y _).2 ⟨fun i hi => by rw [yv _ (by omega), y0, hd, q i hi]; grind, rfl⟩
      exact ((h.e.s y _).2 hsat).1 i (by omega)
end
theorem Big.add {x y D X Y : Rat} (h : Big x D X) (k : Big y D Y) : Big (x + y) D (X + Y) := by
  have e : (x + y) * D = x * D + y * D := by grind
  exact ⟨by rw [e]; exact h.1.add k.1, by rw [e]; exact h.2.add k.2⟩
theorem Big.int {D B : Rat} {z : Int} (hD : Whole D) (bD : Ab D B) (h0 : -9 ≤ z) (h1 : z ≤ 9) : Big (z : Rat) D (9 * B) := ⟨(whole_int z).mul hD, (ab9 h0 h1).mul bD⟩
theorem Big.times {x D X : Rat} {z : Int} (h : Big x D X) (h0 : -9 ≤ z) (h1 : z ≤ 9) : Big ((z : Rat) * x) D (9 * X) := by
  have e : (z : Rat) * x * D = (z : Rat) * (x * D) := by grind
  exact ⟨by rw [e]; exact (whole_int z).mul h.1, by rw [e]; exact (ab9 h0 h1).mul h.2⟩
def cst (n : Nat) (goal : List (Int × Int)) (k v : Nat) : Rat := if v = 0 then 0 else if v ≤ n then (coefF (goal.take k) ((v - 1 : Nat) : Int) : Rat) else 0
theorem cst_succ {n : Nat} {goal : List (Int × Int)} {m : Int} (h : TermsOk goal n m goal.length) {k i : Nat} {co : Int} (ht : goal[k]? = some ((i : Int), co)) (hi : i < n) (v : Nat) : cst n goal (k + 1) v = cst n goal k v + if v = i + 1 then (co : Rat) else 0 := by
  unfold cst
  by_cases h0 : v = 0
  · rw [if_pos h0, if_pos h0, if_neg (by omega)]; grind
  · rw [if_neg h0, if_neg h0]
    by_cases hn : v ≤ n
    · rw [if_pos hn, if_pos hn, coefF_take h ht]
      dsimp only
      by_cases e : v = i + 1
      · have z := coefF_take0 h ht
        dsimp only at z
        rw [if_pos (by omega), if_pos e, show v - 1 = i by omega, z]; simp only [Rat.intCast_zero]; grind
      · rw [if_neg (by omega), if_neg e]; grind
    · rw [if_neg hn, if_neg hn, if_neg (by omega)]; grind
section
variable {n : Nat} {rows : List MRow} {goal : List (Int × Int)} {c0 : Int} (hs : SmallP n rows goal c0) {e : Dc} {D : Rat} (M : Mid n rows e D)
include M
theorem mid_bas0 {i : Nat} (hi : i < rows.length) : 1 ≤ (dg e).B i := ((M.var _).1 (.inl ⟨i, by show i < e.ins.length; rw [M.m]; exact hi, rfl⟩)).1
theorem mid_at {j : Nat} (hj : j < n) : (∃ k : Nat, idxP e.outs ((j : Int) + 1) = (k : Int) ∧ k < e.outs.length ∧ (dg e).N k = j + 1) ∨ (idxP e.outs ((j : Int) + 1) = -1 ∧ ∃ i : Nat, idxP e.ins ((j : Int) + 1) = (i : Int) ∧ i < rows.length ∧ (dg e).B i = j + 1) := by
  rcases idx_spec e.outs ((j : Int) + 1) with ⟨h, hall⟩ | ⟨k, h, hk, hz⟩
  · refine .inr ⟨h, ?_⟩
    rcases (M.var (j + 1)).2 ⟨by omega, by omega⟩ with ⟨i, hi, hB⟩ | ⟨k, hk, hN⟩
    · have hi' : i < e.ins.length := hi
      rcases idx_spec e.ins ((j : Int) + 1) with ⟨_, hall2⟩ | ⟨i2, h2, hi2, hz2⟩
      · have h0 := M.i0 _ (iAt_mem hi')
        have hB : (iAt e.ins (i : Int)).toNat = j + 1 := hB
        exact absurd (by omega) (hall2 i hi')
      · exact ⟨i2, h2, by rw [← M.m]; exact hi2, by show (iAt e.ins (i2 : Int)).toNat = j + 1; rw [hz2]; omega⟩
    · have h0 := M.o0 _ (iAt_mem hk)
      have hN : (iAt e.outs (k : Int)).toNat = j + 1 := hN
      exact absurd (by omega) (hall k hk)
  · exact .inl ⟨k, h, hk, by show (iAt e.outs (k : Int)).toNat = j + 1; rw [hz]; omega⟩
structure GoalAt (n : Nat) (goal : List (Int × Int)) (c0 : Int) (e : Dc) (D : Rat) (g : List Rat) (k : Nat) : Prop where
  len : g.length = e.outs.length + 1
  big : ∀ j, j < e.outs.length + 1 → Big (gR g j) D (4000000000 + k * 20000000000)
  val : ∀ x : Nat → Rat, (∀ i, i < e.ins.length → x ((dg e).B i) = (dg e).val i x) → gR g 0 + sm (fun c => gR g (c + 1) * x ((dg e).N c)) e.outs.length = (c0 : Rat) + dotY goal (fun j => x (j + 1)) k
  c0 : gR g 0 = (c0 : Rat) + sm (fun j => (dg e).a j 0 * cst n goal k ((dg e).B j)) e.ins.length
  ck : ∀ c, c < e.outs.length → gR g (c + 1) = cst n goal k ((dg e).N c) + sm (fun j => (dg e).a j (c + 1) * cst n goal k ((dg e).B j)) e.ins.length
include hs
omit M in
theorem small_term {k : Nat} {t : Int × Int} (ht : goal[k]? = some t) : ∃ i : Nat, t.1 = (i : Int) ∧ i < n ∧ -9 ≤ t.2 ∧ t.2 ≤ 9 := by
  obtain ⟨h0, h1, _, _, h2, h3⟩ := hs.2.2.2.1 k t (List.getElem?_eq_some_iff.1 ht).1 ht
  exact ⟨t.1.toNat, by omega, by omega, h2, h3⟩
theorem goalAt_all : ∀ k : Nat, k ≤ goal.length → GoalAt n goal c0 e D (goalAt e (goal0 e c0) goal k) k
  | 0, _ => by
    have hg0 : gR (goal0 e c0) 0 = (c0 : Rat) := by
      unfold goal0
      rw [gR_put (by simp), if_pos rfl]
    have hgs : ∀ j, j < e.outs.length → gR (goal0 e c0) (j + 1) = 0 := fun j hj => by
      unfold goal0
      rw [gR_put (by simpa using hj), if_neg (by omega)]
      unfold gR
      rw [List.getD_eq_getElem?_getD, List.getElem?_replicate, if_pos (by omega)]; rfl
    have hcst : ∀ v, cst n goal 0 v = 0 := fun v => by
      unfold cst
      (repeat' split) <;> first | rfl | (show ((0 : Int) : Rat) = 0; simp)
    rw [goalAt_zero]
    refine ⟨by unfold goal0; simp, fun j hj => ?_, fun x _ => ?_, ?_, fun c hc => ?_⟩
    · have hk := hs.2.2.2.2
      cases j with
      | zero => rw [hg0]; exact (Big.int M.wD M.bD hk.1 hk.2.1).le (by simp; grind)
      | succ j =>
        rw [hgs j (by omega)]
        exact ⟨⟨0, by rw [Rat.zero_mul]; simp⟩, by rw [Rat.zero_mul]; exact ab_zero (by simp; grind)⟩
    · rw [hg0, sm_zero (fun c hc => by rw [hgs c hc]; grind)]
      unfold dotY; simp
    · rw [hg0, sm_zero (fun j _ => by rw [hcst]; grind)]; grind
    · rw [hgs c hc, hcst, sm_zero (fun j _ => by rw [hcst]; grind)]; grind
  | k + 1, hk => by
    have ih := goalAt_all k (by omega)
    obtain ⟨⟨tof, co⟩, ht⟩ : ∃ t, goal[k]? = some t := ⟨_, List.getElem?_eq_getElem (by omega)⟩
    obtain ⟨i, hi0, hin, hc0, hc1⟩ := small_term hs ht
    dsimp only at hi0 hc0 hc1
    subst hi0
    rw [goalAt_succ ht]
    have hbound : (4000000000 : Rat) + (k : Nat) * 20000000000 + 20000000000 = 4000000000 + ((k + 1 : Nat) : Rat) * 20000000000 := by rw [Rat.natCast_add]; grind
    have cs := cst_succ hs.2.2.2.1 ht hin
    rcases mid_at M hin with ⟨c, hc, hcl, hN⟩ | ⟨hno, r, hr, hrl, hB⟩
    · have e1 : goalStep e (goalAt e (goal0 e c0) goal k) ((i : Int), co) = (goalAt e (goal0 e c0) goal k).set (c + 1) (gR (goalAt e (goal0 e c0) goal k) (c + 1) + (co : Rat)) := by
        unfold goalStep
        dsimp only
        rw [hc, if_pos (by omega), Int.toNat_natCast]
      rw [e1]
      have ge : ∀ j, j < e.outs.length + 1 → gR ((goalAt e (goal0 e c0) goal k).set (c + 1) (gR (goalAt e (goal0 e c0) goal k) (c + 1) + (co : Rat))) j = if j = c + 1 then gR (goalAt e (goal0 e c0) goal k) (c + 1) + (co : Rat) else gR (goalAt e (goal0 e c0) goal k) j := fun j hj => gR_put (by rw [ih.len]; exact hj) _ _
      have nb : ∀ j, j < e.ins.length → (dg e).B j ≠ i + 1 := fun j hj q => M.I.bn j c hj hcl (by rw [q, hN])
      refine ⟨by rw [List.length_set]; exact ih.len, fun j hj => ?_, fun x hx => ?_, ?_, fun c' hc' => ?_⟩
      · rw [ge j hj]
        split
        · exact ((ih.big (c + 1) (by omega)).add (Big.int M.wD M.bD hc0 hc1)).le (by rw [← hbound]; grind)
        · exact (ih.big j hj).le (by rw [← hbound]; grind)
      · rw [ge 0 (by omega), if_neg (by omega)]
        rw [sm_one (f := fun c' => gR ((goalAt e (goal0 e c0) goal k).set (c + 1) (gR (goalAt e (goal0 e c0) goal k) (c + 1) + (co : Rat))) (c' + 1) * x ((dg e).N c')) (g := fun c' => gR (goalAt e (goal0 e c0) goal k) (c' + 1) * x ((dg e).N c')) (k := c) hcl (fun j hj hne => by rw [ge (j + 1) (by omega), if_neg (by omega)])]
        rw [ge (c + 1) (by omega), if_pos rfl, dotY_succ ht, hN]
        have := ih.val x hx
        dsimp only
        rw [Int.toNat_natCast]
        grind
      · rw [ge 0 (by omega), if_neg (by omega), ih.c0, sm_congr (f := fun j => (dg e).a j 0 * cst n goal (k + 1) ((dg e).B j)) (g := fun j => (dg e).a j 0 * cst n goal k ((dg e).B j)) (fun j hj => by rw [cs, if_neg (nb j hj)]; grind)]
      · rw [sm_congr (f := fun j => (dg e).a j (c' + 1) * cst n goal (k + 1) ((dg e).B j)) (g := fun j => (dg e).a j (c' + 1) * cst n goal k ((dg e).B j)) (fun j hj => by rw [cs, if_neg (nb j hj)]; grind), ge (c' + 1) (by omega), cs]
        by_cases hcc : c' = c
        · rw [hcc, if_pos rfl, hN, if_pos rfl, ih.ck c hcl, hN]; grind
        · rw [if_neg (by omega), if_neg (fun q => hcc (M.I.n c' c hc' hcl (by rw [q, hN]))), ih.ck c' hc']; grind
    · have hrin : r < e.ins.length := by rw [M.m]; exact hrl
      have hrr : r < e.rows.length := by have := M.fit.rows; omega
      have e1 : goalStep e (goalAt e (goal0 e c0) goal k) ((i : Int), co) = goalAdd (goalAt e (goal0 e c0) goal k) (e.rows.getD r []) co := by
        unfold goalStep
        dsimp only
        rw [hno, if_neg (by omega), hr, Int.toNat_natCast]
      rw [e1]
      have rl := M.fit.row hrr
      have ge : ∀ j, j < e.outs.length + 1 → gR (goalAdd (goalAt e (goal0 e c0) goal k) (e.rows.getD r []) co) j = gR (goalAt e (goal0 e c0) goal k) j + (co : Rat) * (dg e).a r j := fun j hj => by
        have h1 : (goalAt e (goal0 e c0) goal k)[j]? = some (gR (goalAt e (goal0 e c0) goal k) j) := by
          unfold gR; rw [List.getD_eq_getElem?_getD, List.getElem?_eq_getElem (by rw [ih.len]; exact hj)]; rfl
        have h2 : (e.rows.getD r [])[j]? = some ((dg e).a r j) := by
          show _ = some (gR (e.rows.getD r []) j)
          unfold gR; rw [List.getD_eq_getElem?_getD, List.getD_eq_getElem?_getD, List.getElem?_eq_getElem (by rw [List.getD_eq_getElem?_getD] at rl; rw [rl]; exact hj)]; rfl
        exact gR_of (goalAdd_get h1 h2)
      have nn : ∀ c, c < e.outs.length → (dg e).N c ≠ i + 1 := fun c hc q => M.I.bn r c hrin hc (by rw [q, hB])
      have bs : ∀ y : Nat → Rat, sm (fun j => y j * cst n goal (k + 1) ((dg e).B j)) e.ins.length = sm (fun j => y j * cst n goal k ((dg e).B j)) e.ins.length + (co : Rat) * y r := fun y => by
        rw [sm_one (f := fun j => y j * cst n goal (k + 1) ((dg e).B j)) (g := fun j => y j * cst n goal k ((dg e).B j)) (k := r) hrin (fun j hj hne => by rw [cs, if_neg (fun q => hne (M.I.b j r hj hrin (by rw [q, hB])))]; grind), cs, if_pos hB]
        grind
      refine ⟨by rw [goalAdd_length]; exact ih.len, fun j hj => ?_, fun x hx => ?_, ?_, fun c hc => ?_⟩
      · rw [ge j hj]
        have hrow : Big ((dg e).a r j) D 2125764000 := by
          cases j with
          | zero => exact M.con r hrl
          | succ j => exact (M.row r j hrl (by omega)).le (by grind)
        exact ((ih.big j hj).add (hrow.times hc0 hc1)).le (by rw [← hbound]; grind)
      · rw [ge 0 (by omega), sm_congr (f := fun c => gR (goalAdd (goalAt e (goal0 e c0) goal k) (e.rows.getD r []) co) (c + 1) * x ((dg e).N c)) (g := fun c => gR (goalAt e (goal0 e c0) goal k) (c + 1) * x ((dg e).N c) + (co : Rat) * ((dg e).a r (c + 1) * x ((dg e).N c))) (fun c hc => by rw [ge (c + 1) (by omega)]; grind), sm_add, sm_mul, dotY_succ ht]
        have h1 := ih.val x hx
        have h2 := hx r hrin
        rw [hB] at h2
        unfold Dg.val at h2
        dsimp only
        rw [Int.toNat_natCast, h2]
        show _ = (c0 : Rat) + (dotY goal (fun j => x (j + 1)) k + (co : Rat) * ((dg e).a r 0 + sm (fun k => (dg e).a r (k + 1) * x ((dg e).N k)) e.outs.length))
        grind
      · rw [ge 0 (by omega), ih.c0, bs (fun j => (dg e).a j 0)]; grind
      · rw [ge (c + 1) (by omega), ih.ck c hc, bs (fun j => (dg e).a j (c + 1)), cs, if_neg (nn c hc)]; grind
end
end Go.Proofs.Ytdegpgonphgbcaa
