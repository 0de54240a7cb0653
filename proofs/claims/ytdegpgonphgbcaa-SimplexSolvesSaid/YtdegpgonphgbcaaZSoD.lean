/-
  The first phase.
  The document's table as a dictionary of the theory.
-/
import Derived.Test.YtdegpgonphgbcaaZSoB
import Derived.Test.YtdegpgonphgbcaaZSoA
namespace Go.Proofs.Ytdegpgonphgbcaa
open Go.RowKit
theorem whole_int (z : Int) : Whole (z : Rat) := ⟨z, rfl⟩
theorem ab_of_int {z B : Int} (h0 : -B ≤ z) (h1 : z ≤ B) : Ab (z : Rat) (B : Rat) := ⟨by rw [← Rat.intCast_neg]; exact Rat.intCast_le_intCast.2 h0, Rat.intCast_le_intCast.2 h1⟩
theorem ab9 {z : Int} (h0 : -9 ≤ z) (h1 : z ≤ 9) : Ab (z : Rat) 9 := ab_of_int (B := 9) h0 h1
theorem ab50 {z : Int} (h0 : -50 ≤ z) (h1 : z ≤ 50) : Ab (z : Rat) 50 := ab_of_int (B := 50) h0 h1
section
variable {n : Nat} {rows : List MRow} {goal : List (Int × Int)} {c0 : Int} (hs : SmallP n rows goal c0)
include hs
theorem bas_of {g : List (Int × Int)} (hg : ∀ v, -9 ≤ coefF g v ∧ coefF g v ≤ 9) {cf : Nat → Rat} (hcf : ∀ r, Whole (cf r) ∧ Ab (cf r) 9) {k : Int} (hk : -9 ≤ k ∧ k ≤ 9) {st : Nat → Prop} (hst : ∀ v, ¬ st v → n < v ∨ (v = 0 ∧ ∀ r, cf r = 0)) :
    Bas (rows.length + 1) st (mcol n rows.length rows g cf) (fun r => mrhs rows.length rows k r) (n + 1 + rows.length) := by
  have co : ∀ r v : Nat, -9 ≤ coefF (rowD rows r).1 v ∧ coefF (rowD rows r).1 v ≤ 9 := fun r v => coef_nine (by decide) (small_rowD hs r).1 v
  have uz : ∀ v, n < v → UC (rows.length + 1) (mcol n rows.length rows g cf v) := fun v hv => ⟨v - n - 1, fun r _ => by
    unfold mcol
    rw [if_neg (by omega), if_neg (by omega)]
    refine ⟨fun hne => if_neg hne, ?_⟩
    split
    · exact ⟨by grind, by grind⟩
    · exact ⟨by grind, by grind⟩⟩
  refine ⟨fun v r => ?_, fun r => ?_, fun v r _ => ?_, fun r _ => ?_, fun v hv => ?_, uz _ (by omega)⟩
  · unfold mcol
    split
    · exact (hcf r).1
    · split
      · split
        · exact whole_int _
        · exact (whole_int _).neg
      · split
        · exact ⟨1, by simp⟩
        · exact ⟨0, by simp⟩
  · unfold mrhs; split <;> exact whole_int _
  · unfold mcol
    split
    · exact (hcf r).2
    · split
      · split
        · exact ab9 (co _ _).1 (co _ _).2
        · exact (ab9 (hg _).1 (hg _).2).neg
      · split <;> exact ⟨by grind, by grind⟩
  · unfold mrhs; split
    · have := (small_rowD hs ((r : Int).toNat)).2; exact ab50 this.1 this.2
    · exact ab50 (by omega) (by omega)
  · rcases hst v hv with h | ⟨rfl, h⟩
    · exact uz v h
    · exact ⟨0, fun r _ => by
        unfold mcol
        rw [if_pos rfl, h r]
        exact ⟨fun _ => rfl, by grind, by grind⟩⟩
theorem bas1 : Bas (rows.length + 1) (fun v => v ≤ n) (mcol n rows.length rows [] (col0 rows.length)) (fun r => mrhs rows.length rows 0 r) (n + 1 + rows.length) :=
  bas_of hs (fun v => ⟨by show -9 ≤ (0 : Int); decide, by show (0 : Int) ≤ 9; decide⟩) (fun r => by unfold col0; split; exact ⟨⟨-1, by simp⟩, by grind, by grind⟩; exact ⟨⟨1, by simp⟩, by grind, by grind⟩) ⟨by decide, by decide⟩ (fun v hv => .inl (by omega))
def F1 (n : Nat) (rows : List MRow) (d : Dg) : Prop := d.m = rows.length ∧ Crd (mcol n rows.length rows [] (col0 rows.length)) (fun r => mrhs rows.length rows 0 r) (n + 1 + rows.length) d ∧ (∀ v, d.Bas v → v ≤ n + rows.length) ∧ ∀ v, d.Non v → v ≤ n + rows.length
omit hs in
theorem f1_piv (d e : Dg) (i k : Nat) (f : F1 n rows d) (I : d.Inj) (h : IsPiv d i k e) : F1 n rows e := by
  obtain ⟨hm, hc, hb, hn⟩ := f
  have q := h.eqv I
  exact ⟨h.m.trans hm, hc.piv h, fun v hv => (q.v v).1 (.inl hv) |>.elim (hb v) (hn v), fun v hv => (q.v v).1 (.inr hv) |>.elim (hb v) (hn v)⟩
theorem f1_rep (d : Dg) (f : F1 n rows d) (I : d.Inj) : ∃ D, Rep d D := by
  obtain ⟨hm, hc, hb, hn⟩ := f
  have h6 : d.m ≤ 6 := by have := hs.2.2.1; omega
  have b : Bas (d.m + 1) (fun v => v ≤ n) (mcol n rows.length rows [] (col0 rows.length)) (fun r => mrhs rows.length rows 0 r) (n + 1 + rows.length) := by rw [hm]; exact bas1 hs
  obtain ⟨wD, bD⟩ := rep_D b h6
  refine ⟨_, wD, hc.dt, bD, fun j x hj hx => ?_, fun j hj => rep_row0 b hc h6 hj, rep_goal0 b hc h6⟩
  by_cases hjm : j < d.m
  · exact rep_row b hc h6 hjm hx
  · have hj2 : j = d.m := by omega
    rw [hj2]
    have e := hc.ck x hx d.m (by omega)
    have lastc : ∀ v, v ≤ n + rows.length → mcol n rows.length rows [] (col0 rows.length) v d.m = if v = 0 then 1 else 0 := fun v hv => by
      unfold mcol col0
      rw [hm, if_neg (Nat.lt_irrefl _)]
      split
      · rfl
      · split
        · rw [if_neg (Nat.lt_irrefl _)]; show -((0 : Int) : Rat) = 0; simp
        · rw [if_neg (by omega)]
    have hz : mcol n rows.length rows [] (col0 rows.length) (n + 1 + rows.length) d.m = 1 := by rw [mcol_unit, hm, if_pos rfl]
    have e2 : sm (fun j => d.a j (x + 1) * mcol n rows.length rows [] (col0 rows.length) (d.Bz (n + 1 + rows.length) j) d.m) (d.m + 1) = sm (fun j => d.a j (x + 1) * (if d.B j = 0 then 1 else 0)) d.m + d.a d.m (x + 1) := by
      show sm _ d.m + d.a d.m (x + 1) * mcol n rows.length rows [] (col0 rows.length) (d.Bz (n + 1 + rows.length) d.m) d.m = _
      rw [bz_last, hz, sm_congr (g := fun j => d.a j (x + 1) * (if d.B j = 0 then 1 else 0)) (fun j hj => by
        have : d.Bz (n + 1 + rows.length) j = d.B j := by unfold Dg.Bz; rw [if_pos hj]
        rw [this, lastc _ (hb _ ⟨j, hj, rfl⟩)])]
      grind
    rw [e2, lastc _ (hn _ ⟨x, hx, rfl⟩)] at e
    by_cases hN : d.N x = 0
    · rw [if_pos hN, sm_zero (fun j hj => by rw [if_neg (fun h => I.bn j x hj hx (by rw [h, hN]))]; grind)] at e
      have e3 : d.a d.m (x + 1) = -1 := by grind
      rw [e3]
      exact ⟨by rw [show -1 * d.D (mcol n rows.length rows [] (col0 rows.length)) (n + 1 + rows.length) = -(d.D (mcol n rows.length rows [] (col0 rows.length)) (n + 1 + rows.length)) by grind]; exact wD.neg, by rw [show -1 * d.D (mcol n rows.length rows [] (col0 rows.length)) (n + 1 + rows.length) = -(d.D (mcol n rows.length rows [] (col0 rows.length)) (n + 1 + rows.length)) by grind]; exact bD.neg⟩
    · rw [if_neg hN] at e
      by_cases hB : ∃ j, j < d.m ∧ d.B j = 0
      · obtain ⟨j0, hj0, hB0⟩ := hB
        rw [sm_only (k := j0) (fun j hj hne => by rw [if_neg (fun h => hne (I.b j j0 hj hj0 (by rw [h, hB0])))]; grind), if_pos hj0, if_pos hB0] at e
        have e3 : d.a d.m (x + 1) = -d.a j0 (x + 1) := by grind
        rw [e3]; exact (rep_row b hc h6 hj0 hx).neg
      · rw [sm_zero (fun j hj => by rw [if_neg (fun h => hB ⟨j, hj, h⟩)]; grind)] at e
        have e3 : d.a d.m (x + 1) = 0 := by grind
        rw [e3]
        exact ⟨⟨0, by rw [Rat.zero_mul]; simp⟩, by rw [Rat.zero_mul]; exact ab_zero (by grind)⟩
def FeasX (n : Nat) (rows : List MRow) (y : Nat → Rat) : Prop := (∀ j, j < n → 0 ≤ y j) ∧ ∀ r ∈ rows, dotY r.1 y r.1.length ≤ (r.2 : Rat)
def objX (goal : List (Int × Int)) (c0 : Int) (y : Nat → Rat) : Rat := (c0 : Rat) + dotY goal y goal.length
def dotA (rows : List MRow) (i : Nat) (y : Nat → Rat) : Rat := dotY (rowD rows i).1 y (rowD rows i).1.length
omit hs in
theorem feasX_iff {y : Nat → Rat} : FeasX n rows y ↔ (∀ j, j < n → 0 ≤ y j) ∧ ∀ i, i < rows.length → dotA rows i y ≤ ((rowD rows i).2 : Rat) := by
  unfold FeasX dotA
  constructor
  · rintro ⟨h1, h2⟩
    exact ⟨h1, fun i hi => by rw [rowD_of (List.getElem?_eq_getElem hi)]; exact h2 _ (List.getElem_mem hi)⟩
  · rintro ⟨h1, h2⟩
    refine ⟨h1, fun r hr => ?_⟩
    obtain ⟨i, hi⟩ := List.getElem?_of_mem hr
    have := h2 i (List.getElem?_eq_some_iff.1 hi).1
    rw [rowD_of hi] at this; exact this
theorem beg_sat (x : Nat → Rat) (z : Rat) : (dg (begD n rows)).Sat x z ↔ (∀ i, i < rows.length → x (n + 1 + i) = ((rowD rows i).2 : Rat) + x 0 - dotA rows i (fun j => x (j + 1))) ∧ z = - x 0 := by
  have hv : ∀ i, i < rows.length → (dg (begD n rows)).val i x = ((rowD rows i).2 : Rat) + x 0 - dotA rows i (fun j => x (j + 1)) := fun i hi => by
    unfold Dg.val dotA
    rw [beg_n, sm_front, (beg_a hs (j := 0) hi).2.1, (beg_a hs (j := 0) hi).2.2, beg_N (by omega), dotY_all (small_rowD hs i).1,
      sm_congr (g := fun k => (-1) * ((coefF (rowD rows i).1 k : Rat) * x (k + 1))) (fun k hk => by rw [(beg_a hs (j := k) hi).1, beg_N (by omega)]; grind), sm_mul]
    grind
  have hg : (dg (begD n rows)).val rows.length x = - x 0 := by
    unfold Dg.val
    rw [beg_n, sm_front, (beg_g (j := 0)).2.1, (beg_g (j := 0)).2.2, beg_N (by omega), sm_zero (fun k hk => by rw [(beg_g (j := k)).1]; grind)]
    grind
  unfold Dg.Sat
  rw [beg_m, hg]
  constructor
  · rintro ⟨h1, h2⟩
    exact ⟨fun i hi => by rw [← beg_B hi, h1 i hi, hv i hi], h2⟩
  · rintro ⟨h1, h2⟩
    exact ⟨fun i hi => by rw [beg_B hi, h1 i hi, hv i hi], h2⟩
end
def pivG (d : Dg) (i k : Nat) : Dg :=
  ⟨d.m, d.n, fun r => if r = i then d.N k else d.B r, fun c => if c = k then d.B i else d.N c,
   fun r j => if r = i then (if j = k + 1 then 1 / d.a i (k + 1) else d.a i j * -(1 / d.a i (k + 1))) else (if j = k + 1 then d.a r (k + 1) * (1 / d.a i (k + 1)) else d.a r j + d.a r (k + 1) * (d.a i j * -(1 / d.a i (k + 1))))⟩
theorem pivG_is {d : Dg} {i k : Nat} (hi : i < d.m) (hk : k < d.n) (ne : d.a i (k + 1) ≠ 0) : IsPiv d i k (pivG d i k) := by
  refine ⟨rfl, rfl, hi, hk, ne, if_pos rfl, fun r _ h => if_neg h, if_pos rfl, fun c _ h => if_neg h, ?_, ?_, ?_, ?_⟩
  · show (if i = i then _ else _) = _; rw [if_pos rfl, if_pos rfl]
  · intro j _ h; show (if i = i then _ else _) = _; rw [if_pos rfl, if_neg h]
  · intro r _ h; show (if r = i then _ else _) = _; rw [if_neg h, if_pos rfl]
  · intro r _ h j _ hj; show (if r = i then _ else _) = _; rw [if_neg h, if_neg hj]
structure TabOf (T : Tab) (V : Nat) (d : Dg) : Prop where
  m : T.rows.length = d.m
  bl : T.basis.length = d.m
  len : ∀ i, i < d.m → (T.row i).length = V + 1
  glen : T.goal.length = V + 1
  B : ∀ i, i < d.m → T.basis.getD i 0 = d.B i
  an : ∀ i k, i < d.m → k < d.n → gR (T.row i) (d.N k) = - d.a i (k + 1)
  ab : ∀ i j, i < d.m → j < d.m → gR (T.row i) (d.B j) = if i = j then 1 else 0
  a0 : ∀ i, i < d.m → gR (T.row i) V = d.a i 0
  gn : ∀ k, k < d.n → gR T.goal (d.N k) = - d.a d.m (k + 1)
  gb : ∀ j, j < d.m → gR T.goal (d.B j) = 0
  g0 : gR T.goal V = d.a d.m 0
  vb : ∀ i, i < d.m → d.B i < V
  vn : ∀ k, k < d.n → d.N k < V
  tot : ∀ v, v < V → d.Bas v ∨ d.Non v
section
variable {T : Tab} {V : Nat} {d : Dg}
theorem TabOf.tlen (t : TabOf T V d) : TabLen T d.m (V + 1) := ⟨t.m, t.bl, t.len, t.glen⟩
theorem newRow_at (t : TabOf T V d) {i c r j : Nat} (hi : i < d.m) (hr : r < d.m) (hj : j < V + 1) : gR (newRow T i c r) j = if r = i then gR (T.row i) j / gR (T.row i) c else gR (T.row r) j - gR (T.row r) c * (gR (T.row i) j / gR (T.row i) c) := by
  unfold newRow
  split
  · rw [gR_nrm (by rw [t.len i hi]; exact hj)]
  · rw [gR_clr (by rw [t.len r hr]; exact hj), gR_nrm (by rw [t.len i hi]; exact hj)]
theorem newGoal_at (t : TabOf T V d) {i c j : Nat} (hi : i < d.m) (hj : j < V + 1) : gR (clr T.goal (nrm (T.row i) c) c) j = gR T.goal j - gR T.goal c * (gR (T.row i) j / gR (T.row i) c) := by
  rw [gR_clr (by rw [t.glen]; exact hj), gR_nrm (by rw [t.len i hi]; exact hj)]
theorem tabOf_piv (t : TabOf T V d) (I : d.Inj) {i k : Nat} (hi : i < d.m) (hk : k < d.n) (ne : d.a i (k + 1) ≠ 0) : TabOf (pivT T i (d.N k)) V (pivG d i k) := by
  have h := pivG_is hi hk ne
  obtain ⟨e, he⟩ : ∃ e, e = pivG d i k := ⟨_, rfl⟩
  rw [← he] at h ⊢
  clear he
  obtain ⟨q, hq⟩ : ∃ q, q = d.a i (k + 1) := ⟨_, rfl⟩
  have hp : gR (T.row i) (d.N k) = -q := by rw [hq]; exact t.an i k hi hk
  have hq0 : q ≠ 0 := by rw [hq]; exact ne
  have L := t.tlen.piv i (d.N k) hi
  have row : ∀ r, r < d.m → (pivT T i (d.N k)).row r = newRow T i (d.N k) r := fun r hr => pivT_row (by rw [t.m]; exact hr)
  have vk := t.vn k hk
  have eb : ∀ r, r < d.m → e.B r = if r = i then d.N k else d.B r := fun r hr => by
    split
    · rename_i hri; rw [hri]; exact h.Bi
    · rename_i hri; exact h.Br r hr hri
  have en : ∀ c, c < d.n → e.N c = if c = k then d.B i else d.N c := fun c hc => by
    split
    · rename_i hri; rw [hri]; exact h.Nk
    · rename_i hri; exact h.Nc c hc hri
  have vb := t.vb i hi
  have d1 : ∀ x : Rat, x / -q = -(x * (1 / q)) := fun x => by grind
  refine ⟨by rw [h.m]; exact L.rows, by rw [h.m]; exact L.basis, fun r hr => L.len r (by rw [h.m] at hr; exact hr), L.goal, fun r hr => ?_, fun r c hr hc => ?_, fun r j hr hj => ?_, fun r hr => ?_, fun c hc => ?_, fun j hj => ?_, ?_, fun r hr => ?_, fun c hc => ?_, fun v hv => ?_⟩
  · rw [h.m] at hr
    rw [eb r hr]
    show (T.basis.set i (d.N k)).getD r 0 = _
    rw [List.getD_eq_getElem?_getD, List.getElem?_set]
    by_cases hri : i = r
    · rw [if_pos hri, if_pos (by rw [t.bl]; exact hi), if_pos hri.symm]; rfl
    · rw [if_neg hri, if_neg (fun e => hri e.symm), ← List.getD_eq_getElem?_getD]; exact t.B r hr
  · rw [h.m] at hr
    rw [h.n] at hc
    rw [row r hr, en c hc]
    by_cases hck : c = k
    · subst hck
      rw [if_pos rfl, newRow_at t hi hr (by omega), hp, t.ab i i hi hi, if_pos rfl, t.ab r i hr hi]
      by_cases hri : r = i
      · subst hri
        rw [if_pos rfl, h.ik, ← hq, d1]; grind
      · rw [if_neg hri, if_neg hri, h.rk r (by omega) hri, t.an r c hr hk, ← hq, d1]; grind
    · have vc := t.vn c hc
      rw [if_neg hck, newRow_at t hi hr (by omega), hp, t.an i c hi hc]
      by_cases hri : r = i
      · subst hri
        rw [if_pos rfl, h.ij (c + 1) (by omega) (by omega), ← hq, d1]; grind
      · rw [if_neg hri, h.rj r (by omega) hri (c + 1) (by omega) (by omega), t.an r c hr hc, t.an r k hr hk, ← hq, d1]; grind
  · rw [h.m] at hr hj
    rw [row r hr, eb j hj]
    have vj := t.vb j hj
    by_cases hji : j = i
    · subst hji
      rw [if_pos rfl, newRow_at t hi hr (by omega)]
      by_cases hri : r = j
      · subst hri
        rw [if_pos rfl, if_pos rfl, hp]; grind
      · rw [if_neg hri, if_neg hri, hp]; grind
    · rw [if_neg hji, newRow_at t hi hr (by omega)]
      have z := t.ab i j hi hj
      rw [if_neg (fun e => hji e.symm)] at z
      by_cases hri : r = i
      · subst hri
        rw [if_pos rfl, z, if_neg (fun e => hji e.symm)]; grind
      · rw [if_neg hri, z, t.ab r j hr hj]; grind
  · rw [h.m] at hr
    rw [row r hr, newRow_at t hi hr (by omega), hp, t.a0 i hi]
    by_cases hri : r = i
    · subst hri
      rw [if_pos rfl, h.ij 0 (by omega) (by omega), ← hq, d1]; grind
    · rw [if_neg hri, h.rj r (by omega) hri 0 (by omega) (by omega), t.a0 r hr, t.an r k hr hk, ← hq, d1]; grind
  · rw [h.n] at hc
    rw [h.m, en c hc]
    show gR (clr T.goal (nrm (T.row i) (d.N k)) (d.N k)) _ = _
    have hmi : d.m ≠ i := by omega
    by_cases hck : c = k
    · subst hck
      rw [if_pos rfl, newGoal_at t hi (by omega), hp, t.ab i i hi hi, if_pos rfl, t.gb i hi, t.gn c hk, h.rk d.m (by omega) hmi, ← hq, d1]; grind
    · have vc := t.vn c hc
      rw [if_neg hck, newGoal_at t hi (by omega), hp, t.an i c hi hc, t.gn c hc, t.gn k hk, h.rj d.m (by omega) hmi (c + 1) (by omega) (by omega), ← hq, d1]; grind
  · rw [h.m] at hj
    rw [eb j hj]
    show gR (clr T.goal (nrm (T.row i) (d.N k)) (d.N k)) _ = _
    have vj := t.vb j hj
    by_cases hji : j = i
    · subst hji
      rw [if_pos rfl, newGoal_at t hi (by omega), hp]; grind
    · rw [if_neg hji, newGoal_at t hi (by omega), t.ab i j hi hj, if_neg (fun e => hji e.symm), t.gb j hj]; grind
  · rw [h.m]
    show gR (clr T.goal (nrm (T.row i) (d.N k)) (d.N k)) _ = _
    rw [newGoal_at t hi (by omega), hp, t.a0 i hi, t.g0, t.gn k hk, h.rj d.m (by omega) (by omega) 0 (by omega) (by omega), ← hq, d1]; grind
  · rw [h.m] at hr
    rw [eb r hr]
    split
    · exact vk
    · exact t.vb r hr
  · rw [h.n] at hc
    rw [en c hc]
    split
    · exact vb
    · exact t.vn c hc
  · exact ((h.eqv I).v v).2 (t.tot v hv)
structure BdT (d : Dg) (D : Rat) : Prop where
  w : Whole D
  ne : D ≠ 0
  bd : Ab D 382637520
  row : ∀ j x, j < d.m → x < d.n → Big (d.a j (x + 1)) D 382637520
  con : ∀ j, j < d.m → Big (d.a j 0) D 2125764000
  gl : ∀ x, x < d.n → Big (d.a d.m (x + 1)) D 400000000
  g0 : Big (d.a d.m 0) D 4000000000000000
theorem big_zero {D B : Rat} (hB : 0 ≤ B) : Big 0 D B := ⟨by rw [Rat.zero_mul]; exact whole_int 0, by rw [Rat.zero_mul]; exact ab_zero hB⟩
theorem big_one {D B : Rat} (h : Whole D) (b : Ab D B) : Big 1 D B := ⟨by rw [Rat.one_mul]; exact h, by rw [Rat.one_mul]; exact b⟩
variable {D : Rat}
theorem tab_row_big (t : TabOf T V d) (r : BdT d D) {i j : Nat} (hi : i < d.m) (hj : j < V) : Big (gR (T.row i) j) D 382637520 := by
  rcases t.tot j hj with ⟨b, hb, rfl⟩ | ⟨c, hc, rfl⟩
  · rw [t.ab i b hi hb]
    split
    · exact big_one r.w r.bd
    · exact big_zero (by grind)
  · rw [t.an i c hi hc]; exact (r.row i c hi hc).neg
theorem tab_row_con (t : TabOf T V d) (r : BdT d D) {i j : Nat} (hi : i < d.m) (hj : j < V + 1) : Big (gR (T.row i) j) D 2125764000 := by
  by_cases h : j < V
  · exact (tab_row_big t r hi h).le (by grind)
  · have : j = V := by omega
    rw [this, t.a0 i hi]; exact r.con i hi
theorem tab_goal_big (t : TabOf T V d) (r : BdT d D) {j : Nat} (hj : j < V) : Big (gR T.goal j) D 400000000 := by
  rcases t.tot j hj with ⟨b, hb, rfl⟩ | ⟨c, hc, rfl⟩
  · rw [t.gb b hb]; exact big_zero (by grind)
  · rw [t.gn c hc]; exact (r.gl c hc).neg
theorem tab_goal_con (t : TabOf T V d) (r : BdT d D) {j : Nat} (hj : j < V + 1) : Big (gR T.goal j) D 4000000000000000 := by
  by_cases h : j < V
  · exact (tab_goal_big t r h).le (by grind)
  · have : j = V := by omega
    rw [this, t.g0]; exact r.g0
theorem fitl_of {l : List Rat} (h : ∀ j, j < l.length → Fit (gR l j)) : FitL l := fun x hx => by
  obtain ⟨i, hi⟩ := List.getElem?_of_mem hx
  have := h i (List.getElem?_eq_some_iff.1 hi).1
  rwa [gR_of hi] at this
theorem tab_row_fit (t : TabOf T V d) (r : BdT d D) {i : Nat} (hi : i < d.m) : FitL (T.row i) := fitl_of fun j hj => quo_fit' r.w r.ne r.bd (tab_row_con t r hi (by rw [t.len i hi] at hj; exact hj)) (by grind) (by grind)
theorem tab_goal_fit (t : TabOf T V d) (r : BdT d D) : FitL T.goal := fitl_of fun j hj => quo_fit' r.w r.ne r.bd (tab_goal_con t r (by rw [t.glen] at hj; exact hj)) (by grind) (by grind)
theorem tab_all (t : TabOf T V d) (r : BdT d D) : ∀ row ∈ T.rows, FitL row := fun row hrow => by
  obtain ⟨i, hi⟩ := List.getElem?_of_mem hrow
  have hl := (List.getElem?_eq_some_iff.1 hi).1
  have := tab_row_fit t r (i := i) (by rw [← t.m]; exact hl)
  rwa [T.row_of hi] at this
theorem tab_fit (t : TabOf T V d) (I : d.Inj) (r : BdT d D) {i k : Nat} (hi : i < d.m) (hk : k < d.n) (ne : d.a i (k + 1) ≠ 0) {E : Rat} (r2 : BdT (pivG d i k) E) : PivTFit T i (d.N k) := by
  have t2 := tabOf_piv t I hi hk ne
  have hp := t.an i k hi hk
  have vk := t.vn k hk
  have rowi : nrm (T.row i) (d.N k) = (pivT T i (d.N k)).row i := by rw [pivT_row (by rw [t.m]; exact hi)]; unfold newRow; rw [if_pos rfl]
  have prod : ∀ x, Big x D 400000000 → ∀ j, j < V + 1 → Fit (x * gR (nrm (T.row i) (d.N k)) j) := fun x hx j hj => by
    have h2 := tab_row_con t2 r2 (i := i) (j := j) hi hj
    rw [← rowi] at h2
    exact quo_fit' (r.w.mul r2.w) (fun e => by rcases Rat.mul_eq_zero.1 e with e | e; exact r.ne e; exact r2.ne e) (r.bd.mul r2.bd) (hx.prod h2 (C := 1000000000000000000) (by grind)) (by grind) (by grind)
  refine ⟨tab_all t r, tab_goal_fit t r, ?_, ?_, fun o ho hoi j hj => ?_, fun o ho hoi => ?_, fun j hj => ?_, ?_⟩
  · rw [hp]; grind
  · rw [rowi]; exact tab_row_fit t2 r2 hi
  · have ho : o < d.m := by rw [← t.m]; exact ho
    rw [t.len o ho] at hj
    exact prod _ ((tab_row_big t r ho vk).le (by grind)) j hj
  · have ho : o < d.m := by rw [← t.m]; exact ho
    have := tab_row_fit t2 r2 (i := o) ho
    rw [pivT_row (by rw [t.m]; exact ho)] at this
    unfold newRow at this
    rwa [if_neg hoi] at this
  · rw [t.glen] at hj
    exact prod _ (tab_goal_big t r vk) j hj
  · exact tab_goal_fit t2 r2
theorem tab_lev_fit (t : TabOf T V d) (r : BdT d D) {c : Nat} (hc : c < V) : LevTFit T c V := by
  refine ⟨tab_all t r, fun i hi hn => ?_⟩
  have hi : i < d.m := by rw [← t.m]; exact hi
  have hne : gR (T.row i) c ≠ 0 := fun e => by rw [e] at hn; simp at hn
  have h0 := tab_row_con t r (j := V) hi (by omega)
  have h1 := tab_row_big t r hi hc
  exact quo_fit' h1.1 (fun e => by rcases Rat.mul_eq_zero.1 e with e | e; exact hne e; exact r.ne e) h1.2 (big_div h0 hne r.ne) (by grind) (by grind)
end
end Go.Proofs.Ytdegpgonphgbcaa
