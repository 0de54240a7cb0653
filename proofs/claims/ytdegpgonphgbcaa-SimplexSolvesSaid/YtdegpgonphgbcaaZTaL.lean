/-
  The two phases of the document's Best.
  Solve.
  The optimum's parts.
  The document's Best.
-/
import Derived.Test.YtdegpgonphgbcaaZSoJ
import Derived.Test.YtdegpgonphgbcaaZSyF
namespace Go.Proofs.Ytdegpgonphgbcaa
open Go.RowKit
theorem big_sm {D B : Rat} (hB : 0 ≤ B) {f : Nat → Rat} : ∀ {m : Nat}, (∀ j, j < m → Big (f j) D B) → Big (sm f m) D (m * B)
  | 0, _ => by
    show Big 0 D _
    exact big_zero (by simp)
  | m + 1, h => by
    have h1 := big_sm hB (m := m) (fun j hj => h j (by omega))
    have h2 := h1.add (h m (by omega))
    have e : ((m + 1 : Nat) : Rat) * B = m * B + B := by rw [Rat.natCast_add]; grind
    rw [e]; exact h2
theorem big_six {D B : Rat} (hB : 0 ≤ B) {f : Nat → Rat} {m : Nat} (hm : m ≤ 6) (h : ∀ j, j < m → Big (f j) D B) : Big (sm f m) D (6 * B) := by
  refine (big_sm hB h).le ?_
  have : ((m : Int) : Rat) ≤ ((6 : Int) : Rat) := Rat.intCast_le_intCast.2 (by omega)
  rw [Rat.intCast_natCast] at this
  have h6 : ((6 : Int) : Rat) = 6 := by simp
  rw [h6] at this
  have := Rat.mul_le_mul_of_nonneg_right this hB
  exact this
section
variable {n : Nat} {rows : List MRow} {goal : List (Int × Int)} {c0 : Int}
structure F1t (n : Nat) (rows : List MRow) (goal : List (Int × Int)) (d : Dg) : Prop where
  mm : d.m = rows.length
  nn : d.n = n + rows.length
  frm : Frm (alp n rows) d
  go : ∃ go, Crd (acol n rows goal) (arhs rows) (n + rows.length + rows.length) (d.wg go) ∧ DEqv ((d0 n rows).wg (o0 n rows goal)) (d.wg go)
  bas : ∀ i, i < d.m → d.B i < n + rows.length ∨ alp n rows (d.B i) = 1
structure F2t (n : Nat) (rows : List MRow) (goal : List (Int × Int)) (d : Dg) : Prop where
  mm : d.m = rows.length
  nn : d.n = n + rows.length
  crd : Crd (acol n rows goal) (arhs rows) (n + rows.length + rows.length) d
  eqv : DEqv ((d0 n rows).wg (o0 n rows goal)) d
  bas : ∀ i, i < d.m → d.B i < n + rows.length
theorem bas_piv {P : Nat → Prop} {d e : Dg} {i k : Nat} (h : IsPiv d i k e) (hp : ∀ r, r < d.m → P (d.B r)) (hk : P (d.N k)) : ∀ r, r < e.m → P (e.B r) := fun r hr => by
  rw [h.m] at hr
  by_cases e1 : r = i
  · rw [e1, h.Bi]; exact hk
  · rw [h.Br r hr e1]; exact hp r hr
theorem f1t_piv (d e : Dg) (i k : Nat) (f : F1t n rows goal d) (I : d.Inj) (h : IsPiv d i k e) (hk : d.N k < n + rows.length) : F1t n rows goal e := by
  obtain ⟨go, h1, h2⟩ := f.go
  obtain ⟨g', hg⟩ := wg_piv h go
  exact ⟨h.m.trans f.mm, h.n.trans f.nn, f.frm.piv h, ⟨g', h1.piv hg, h2.trans (hg.eqv (wg_inj.2 I))⟩, bas_piv (P := fun v => v < n + rows.length ∨ alp n rows v = 1) h f.bas (.inl hk)⟩
theorem f2t_piv (d e : Dg) (i k : Nat) (f : F2t n rows goal d) (I : d.Inj) (h : IsPiv d i k e) (hk : d.N k < n + rows.length) : F2t n rows goal e :=
  ⟨h.m.trans f.mm, h.n.trans f.nn, f.crd.piv h, f.eqv.trans (h.eqv I), bas_piv (P := fun v => v < n + rows.length) h f.bas hk⟩
theorem alp_01 (v : Nat) : alp n rows v = 0 ∨ (alp n rows v = 1 ∧ n + rows.length ≤ v) := by
  unfold alp
  split
  · rename_i h; exact .inr ⟨rfl, h.1⟩
  · exact .inl rfl
theorem f1t_rep (hs : SmallP n rows goal c0) (d : Dg) (f : F1t n rows goal d) (_I : d.Inj) : ∃ D, BdT d D := by
  obtain ⟨go, hc, _⟩ := f.go
  have h6 : rows.length ≤ 6 := by have := hs.2.2.1; omega
  have hb : Bas ((d.wg go).m + 1) (fun v => v < n) (acol n rows goal) (arhs rows) (n + rows.length + rows.length) := by
    show Bas (d.m + 1) _ _ _ _; rw [f.mm]; exact abas hs
  have h6' : (d.wg go).m ≤ 6 := by show d.m ≤ 6; rw [f.mm]; exact h6
  obtain ⟨D, hD⟩ : ∃ D, D = (d.wg go).D (acol n rows goal) (n + rows.length + rows.length) := ⟨_, rfl⟩
  have hw := rep_D hb h6'
  have hne : (d.wg go).D (acol n rows goal) (n + rows.length + rows.length) ≠ 0 := hc.dt
  have row : ∀ j x, j < d.m → x < d.n → Big (d.a j (x + 1)) D 382637520 := fun j x hj hx => by
    have := rep_row hb hc h6' (j := j) (x := x) hj hx
    rw [wg_row d go hj] at this; rw [hD]; exact this
  have con : ∀ j, j < d.m → Big (d.a j 0) D 2125764000 := fun j hj => by
    have := rep_row0 hb hc h6' (j := j) hj
    rw [wg_row d go hj] at this; rw [hD]; exact this
  have row5 : ∀ j x j', j < d.m → x < d.n → j' < d.m → j' ≠ j → alp n rows (d.B j') = 1 → Big (d.a j (x + 1)) D 7085880 := fun j x j' hj hx hj' hne hn => by
    have hv : n + rows.length ≤ d.B j' := by
      rcases alp_01 (n := n) (rows := rows) (d.B j') with h | h
      · rw [h] at hn; exact absurd hn (by decide)
      · exact h.2
    have := rep_row5 hb hc h6' (j := j) (x := x) (j' := j') hj hx hj' hne (by show ¬ d.B j' < n; omega)
    rw [wg_row d go hj] at this; rw [hD]; exact this
  have D5 : ∀ j', j' < d.m → alp n rows (d.B j') = 1 → Ab D 7085880 := fun j' hj' hn => by
    have hv : n + rows.length ≤ d.B j' := by
      rcases alp_01 (n := n) (rows := rows) (d.B j') with h | h
      · rw [h] at hn; exact absurd hn (by decide)
      · exact h.2
    rw [hD]; exact rep_D5 hb h6' (j' := j') hj' (by show ¬ d.B j' < n; omega)
  rw [← hD] at hw hne
  have hm6 : d.m ≤ 6 := by rw [f.mm]; exact h6
  have al : ∀ v B, Ab D B → Big (alp n rows v) D B := fun v B hB => by
    rcases alp_01 (n := n) (rows := rows) v with h | h
    · rw [h]; exact big_zero hB.nonneg
    · rw [h.1]; exact big_one hw.1 hB
  refine ⟨D, hw.1, hne, hw.2, row, con, fun x hx => ?_, ?_⟩
  · rw [f.frm.ck x hx]
    have sub : ∀ {p q P Q : Rat}, Big p D P → Big q D Q → Big (-p - q) D (P + Q) := fun hp hq => by
      have := hp.neg.add hq.neg
      rw [Rat.sub_eq_add_neg]; exact this
    by_cases hA : ∃ j0, j0 < d.m ∧ alp n rows (d.B j0) = 1
    · obtain ⟨j0, hj0, ha0⟩ := hA
      have h5 := D5 j0 hj0 ha0
      by_cases hB : ∃ j1, j1 < d.m ∧ j1 ≠ j0 ∧ alp n rows (d.B j1) = 1
      · obtain ⟨j1, hj1, hne1, ha1⟩ := hB
        have hsum : Big (sm (fun j => d.a j (x + 1) * alp n rows (d.B j)) d.m) D (6 * 7085880) := big_six (by grind) hm6 fun j hj => by
          rcases alp_01 (n := n) (rows := rows) (d.B j) with h | h
          · rw [h, Rat.mul_zero]; exact big_zero (by grind)
          · rw [h.1, Rat.mul_one]
            by_cases e : j = j0
            · exact row5 j x j1 hj hx hj1 (by omega) ha1
            · exact row5 j x j0 hj hx hj0 (by omega) ha0
        exact (sub (al (d.N x) _ h5) hsum).le (by grind)
      · have hsum : sm (fun j => d.a j (x + 1) * alp n rows (d.B j)) d.m = d.a j0 (x + 1) := by
          rw [sm_only (k := j0) (fun j hj hne1 => by
            rcases alp_01 (n := n) (rows := rows) (d.B j) with h | h
            · rw [h]; grind
            · exact absurd ⟨j, hj, hne1, h.1⟩ hB), if_pos hj0, ha0]; grind
        rw [hsum]
        exact (sub (al (d.N x) _ h5) (row j0 x hj0 hx)).le (by grind)
    · have hsum : sm (fun j => d.a j (x + 1) * alp n rows (d.B j)) d.m = 0 := sm_zero fun j hj => by
        rcases alp_01 (n := n) (rows := rows) (d.B j) with h | h
        · rw [h]; grind
        · exact absurd ⟨j, hj, h.1⟩ hA
      rw [hsum]
      exact (sub (al (d.N x) _ hw.2) (big_zero (B := 0) (by grind))).le (by grind)
  · rw [f.frm.c0]
    have hsum : Big (sm (fun j => d.a j 0 * alp n rows (d.B j)) d.m) D (6 * 2125764000) := big_six (by grind) hm6 fun j hj => by
      rcases alp_01 (n := n) (rows := rows) (d.B j) with h | h
      · rw [h, Rat.mul_zero]; exact big_zero (by grind)
      · rw [h.1, Rat.mul_one]; exact con j hj
    exact hsum.neg.le (by grind)
theorem f2t_rep (hs : SmallP n rows goal c0) (d : Dg) (f : F2t n rows goal d) (I : d.Inj) : ∃ D, BdT d D := by
  have h6 : rows.length ≤ 6 := by have := hs.2.2.1; omega
  have hn6 : n ≤ 6 := by have := hs.2.1; omega
  have hb : Bas (d.m + 1) (fun v => v < n) (acol n rows goal) (arhs rows) (n + rows.length + rows.length) := by rw [f.mm]; exact abas hs
  have h6' : d.m ≤ 6 := by rw [f.mm]; exact h6
  have hw := rep_D hb h6'
  exact ⟨_, hw.1, f.crd.dt, hw.2, fun j x hj hx => rep_row hb f.crd h6' hj hx, fun j hj => rep_row0 hb f.crd h6' hj, fun x hx => (rep_goal6 hb f.crd h6' hx (fun v hv => by have hv : v < n := hv; omega) I).le (by grind), rep_goal0 hb f.crd h6'⟩
theorem f1t_0 (hs : SmallP n rows goal c0) : F1t n rows goal (d0 n rows) :=
  ⟨rfl, rfl, d0_frm, ⟨_, acrd hs, DEqv.refl (wg_inj.2 d0_inj)⟩, fun i hi => by
    show B0 n rows i < _ ∨ alp n rows (B0 n rows i) = 1
    have hi : i < rows.length := hi
    rw [alp_B hi]
    unfold B0
    split
    · exact .inr rfl
    · exact .inl (by omega)⟩
theorem build_fit (hs : SmallP n rows goal c0) : BuildFit n rows.length (n + rows.length + rows.length + 1) rows := by
  have w1 : Whole (1 : Rat) := whole_int 1
  have h6 : rows.length ≤ 6 := by have := hs.2.2.1; omega
  have sg : ∀ r x B, Big x 1 B → Big (sgR rows r * x) 1 B := fun r x B h => by
    rcases sgR_cases (rows := rows) r with ⟨_, e⟩ | ⟨_, e⟩
    · rw [e, show (-1 : Rat) * x = -x by grind]; exact h.neg
    · rw [e, Rat.one_mul]; exact h
  have b1 : ∀ {z B : Rat}, Whole z → Ab z B → Big z 1 B := fun hz hb => ⟨by rw [Rat.mul_one]; exact hz, by rw [Rat.mul_one]; exact hb⟩
  have btv : ∀ r c, Big (tv n rows r c) 1 50 := fun r c => by
    unfold tv
    split
    · exact sg r _ _ ((b1 (cfR_9 hs r c).1 (cfR_9 hs r c).2).le (by grind))
    · split
      · split
        · have := sg r 1 1 (b1 w1 ⟨by grind, by grind⟩)
          rw [Rat.mul_one] at this; exact this.le (by grind)
        · exact big_zero (by grind)
      · split
        · split
          · exact (b1 w1 ⟨by grind, by grind⟩ : Big 1 1 1).le (by grind)
          · exact big_zero (by grind)
        · have := (small_rowD hs r).2
          exact sg r _ _ (b1 (whole_int _) (ab50 this.1 this.2))
  have bgv : ∀ i c, i ≤ 6 → Big (gv n rows i c) 1 300 := fun i c hi => by
    unfold gv
    split
    · refine Big.neg ((big_six (B := 50) (by grind) hi fun j hj => ?_).le (by grind))
      split
      · exact btv j c
      · exact big_zero (by grind)
    · exact big_zero (by grind)
  have fit : ∀ {z B : Rat}, Big z 1 B → B ≤ 1000 → Fit z := fun h hB => quo_fit' w1 (by grind) (⟨by grind, by grind⟩ : Ab (1 : Rat) 1) h (by grind) (by grind)
  intro i hi hn c hc
  rw [tab_goal_at hs i (by omega) c hc, trow_at hs hi hc]
  have h1 := bgv i c (by omega)
  have h2 := btv i c
  refine ⟨fit h1 (by grind), fit h2 (by grind), ?_⟩
  rw [Rat.sub_eq_add_neg]
  exact fit (h1.add h2.neg) (by grind)
end
def SolvedAt (n : Nat) (rows : List MRow) (goal : List (Int × Int)) (c0 : Int) (B : Nat) (w' : World) (v : Value) (code : Int) : Prop :=
  (code = 34 ∧ v = optNone ∧ ¬ ∃ y, FeasX n rows y) ∨ (code = 35 ∧ v = optNone ∧ ∀ b : Rat, ∃ y, FeasX n rows y ∧ b ≤ objX goal c0 y) ∨
  (code = 0 ∧ ∃ d, End2 n rows goal c0 d ∧ OptAt B w' ((dg d).a rows.length 0) (colsAt d n d.ins.length) (rowsAt d n rows.length d.outs.length) v)
def SolvedRet (n : Nat) (rows : List MRow) (goal : List (Int × Int)) (c0 : Int) (w : World) (e : Ending) (w' : World) : Prop :=
  ∃ v code, e = .returned (.tuple #[v, .int .i64 code]) ∧ Below w.heap.size w w' ∧ SolvedAt n rows goal c0 w.heap.size w' v code
theorem solved_any (K : Nat → Prop) (n : Nat) (rows : List MRow) (goal : List (Int × Int)) (c0 : Int) (hs : SmallP n rows goal c0) (ra : Option Addr) (rn rc : Nat) (ga : Option Addr) (gn gc : Nat) (w : World) (R : Row RRw 2 K w ra rn rc rows) (G : Row RTm 2 K w ga gn gc goal) (hK : ∀ x, K x → x < w.heap.size) :
    Calls Try.prog 11 #[MdV n (.slice ra rn rc) ga gn gc c0] w (SolvedRet n rows goal c0 w) := by
  obtain ⟨code, od, hp, hm⟩ := solve_ex hs
  refine (solve_any K n rows goal c0 code od hp ra rn rc ga gn gc w R G hK).mono ?_
  rintro e w' ⟨hb, v, rfl, hn, hv⟩
  refine ⟨v, code, rfl, hb, ?_⟩
  cases hm with
  | empty h => exact .inl ⟨rfl, hn rfl, h⟩
  | opn h => exact .inr (.inl ⟨rfl, hn rfl, h⟩)
  | ok d h =>
    refine .inr (.inr ⟨rfl, d, h, ?_⟩)
    have := hv d rfl
    rw [Int.toNat_natCast, lastR_eq h.fit, h.m] at this
    rw [h.m]
    exact this
theorem End2.value {n : Nat} {rows : List MRow} {goal : List (Int × Int)} {c0 : Int} (hs : SmallP n rows goal c0) {d : Dc} (h : End2 n rows goal c0 d) : Fit ((dg d).a rows.length 0) := by
  obtain ⟨D, hD⟩ := f2_rep hs _ h.f h.I
  have := hD.goal
  rw [show (dg d).m = rows.length from h.m] at this
  exact quo_fit' hD.w hD.ne hD.bd this (by grind) (by grind)
def PartsOk (n : Nat) (rows : List MRow) (goal : List (Int × Int)) (c0 : Int) (code x y : Int) : Prop :=
  (code = 34 ∧ x = 0 ∧ y = 0 ∧ ¬ ∃ y, FeasX n rows y) ∨ (code = 35 ∧ x = 0 ∧ y = 0 ∧ ∀ b : Rat, ∃ y, FeasX n rows y ∧ b ≤ objX goal c0 y) ∨ (code = 0 ∧ ∃ V : Rat, x = V.num ∧ y = (V.den : Int) ∧ Fit V ∧ (∃ y, FeasX n rows y ∧ objX goal c0 y = V) ∧ ∀ y, FeasX n rows y → objX goal c0 y ≤ V)
section
variable {n : Nat} {rows rows' : List MRow} {goal : List (Int × Int)} {c0 code code' x x' y y' : Int}
theorem parts_more (h : ∀ z, FeasX n rows' z → FeasX n rows z) (p : PartsOk n rows goal c0 code x y) (p' : PartsOk n rows' goal c0 code' x' y') : (code = 34 → code' = 34) ∧ (code' = 35 → code = 35) := by
  constructor
  · intro e
    rcases p with ⟨_, _, _, no⟩ | ⟨e2, _⟩ | ⟨e2, _⟩
    · rcases p' with ⟨e', _⟩ | ⟨_, _, _, q⟩ | ⟨_, V, _, _, _, ⟨z, hz, _⟩, _⟩
      · exact e'
      · obtain ⟨z, hz, _⟩ := q 0; exact absurd ⟨z, h z hz⟩ no
      · exact absurd ⟨z, h z hz⟩ no
    · omega
    · omega
  · intro e
    rcases p' with ⟨e', _⟩ | ⟨_, _, _, q⟩ | ⟨e', _⟩
    · omega
    · rcases p with ⟨_, _, _, no⟩ | ⟨e2, _⟩ | ⟨_, V, _, _, _, _, best⟩
      · obtain ⟨z, hz, _⟩ := q 0; exact absurd ⟨z, h z hz⟩ no
      · exact e2
      · obtain ⟨z, hz, hb⟩ := q (V + 1)
        have := best z (h z hz)
        grind
    · omega
theorem parts_same (h : ∀ z, FeasX n rows' z ↔ FeasX n rows z) (p : PartsOk n rows goal c0 code x y) (p' : PartsOk n rows' goal c0 code' x' y') : code' = code ∧ x' = x ∧ y' = y := by
  obtain ⟨a1, a2⟩ := parts_more (fun z hz => (h z).1 hz) p p'
  obtain ⟨b1, b2⟩ := parts_more (fun z hz => (h z).2 hz) p' p
  rcases p with ⟨e, rfl, rfl, no⟩ | ⟨e, rfl, rfl, q⟩ | ⟨e, V, rfl, rfl, _, ⟨z, hz, hV⟩, best⟩
  · rcases p' with ⟨e', rfl, rfl, _⟩ | ⟨e', _⟩ | ⟨e', _⟩
    · exact ⟨by omega, rfl, rfl⟩
    · have := a1 e; omega
    · have := a1 e; omega
  · rcases p' with ⟨e', _⟩ | ⟨e', rfl, rfl, _⟩ | ⟨e', _⟩
    · have := b1 e'; omega
    · exact ⟨by omega, rfl, rfl⟩
    · have := b2 e; omega
  · rcases p' with ⟨e', _⟩ | ⟨e', _⟩ | ⟨e', V', rfl, rfl, _, ⟨z', hz', hV'⟩, best'⟩
    · have := b1 e'; omega
    · have := a2 e'; omega
    · have h1 := best z' ((h z').1 hz')
      have h2 := best' z ((h z).2 hz)
      have : V' = V := by rw [hV'] at h1; rw [hV] at h2; exact Rat.le_antisymm h1 h2
      rw [this]
      exact ⟨by omega, rfl, rfl⟩
end
theorem sm_each {f : Nat → Rat} : ∀ {n : Nat}, (∀ k, k < n → 0 ≤ f k) → sm f n = 0 → ∀ k, k < n → f k = 0
  | 0, _, _, k, hk => by omega
  | n + 1, h, hz, k, hk => by
    have h1 : 0 ≤ sm f n := sm_nonneg fun j hj => h j (by omega)
    have h2 := h n (by omega)
    have h3 : sm f n + f n = 0 := hz
    by_cases e : k = n
    · rw [e]; grind
    · exact sm_each (n := n) (fun j hj => h j (by omega)) (by grind) k (by omega)
section
variable {n : Nat} {rows : List MRow} {goal : List (Int × Int)} {c0 : Int} (hs : SmallP n rows goal c0)
def xOf (n : Nat) (rows : List MRow) (y : Nat → Rat) (v : Nat) : Rat := if v < n then y v else if v < n + rows.length then msR rows (v - n) - dotA rows (v - n) y else 0
include hs
theorem xOf_eqs (y : Nat → Rat) : EqsX n rows (xOf n rows y) := fun i hi => by
  have e1 : dotA rows i (xOf n rows y) = dotA rows i y := dotA_ext hs (fun j hj => by unfold xOf; rw [if_pos hj]) i
  have e2 : xOf n rows y (n + i) = msR rows i - dotA rows i y := by unfold xOf; rw [if_neg (by omega), if_pos (by omega), show n + i - n = i by omega]
  have e3 : xOf n rows y (n + rows.length + i) = 0 := by unfold xOf; rw [if_neg (by omega), if_neg (by omega)]
  rw [e1, e2, e3]
  split <;> grind
omit hs in
theorem xOf_nonneg {y : Nat → Rat} (hy : FeasX n rows y) (v : Nat) : 0 ≤ xOf n rows y v := by
  obtain ⟨h1, h2⟩ := feasX_iff.1 hy
  unfold xOf
  split
  · exact h1 v (by assumption)
  · split
    · have := h2 (v - n) (by omega)
      unfold msR; grind
    · exact Rat.le_refl
omit hs in
theorem xOf_art {y : Nat → Rat} {v : Nat} (hv : n + rows.length ≤ v) : xOf n rows y v = 0 := by unfold xOf; rw [if_neg (by omega), if_neg (by omega)]
omit hs in
theorem feas_eqs {x : Nat → Rat} (h0 : ∀ v, v < n + rows.length → 0 ≤ x v) (ha : ∀ v, n + rows.length ≤ v → v < n + rows.length + rows.length → x v = 0) (h : EqsX n rows x) : FeasX n rows x := by
  refine feasX_iff.2 ⟨fun j hj => h0 j (by omega), fun i hi => ?_⟩
  have h1 := h i hi
  have h2 := h0 (n + i) (by omega)
  have h3 := ha (n + rows.length + i) (by omega) (by omega)
  rw [h3] at h1
  have h4 : (if ngR rows i then (0 : Rat) else 0) = 0 := by split <;> rfl
  rw [h4] at h1
  show _ ≤ msR rows i
  grind
theorem zero_row {d : Dg} {T : Tab} (f : F1t n rows goal d) (I : d.Inj) (t : TabOf T (n + rows.length + rows.length) d) {i : Nat} (hi : i < d.m) (hB : ¬ d.B i < n + rows.length) (h0 : d.a i 0 = 0) (hz : ∀ c, c < n + rows.length → gR (T.row i) c = 0) : False := by
  have hart := (f.bas i hi).resolve_left hB
  obtain ⟨i0, hi0⟩ : ∃ i0, i0 = d.B i - n - rows.length := ⟨_, rfl⟩
  have hv := t.vb i hi
  have hi0m : i0 < rows.length := by omega
  have hBi : d.B i = n + rows.length + i0 := by omega
  have hng : ngR rows i0 := by
    unfold alp at hart
    by_cases h : n + rows.length ≤ d.B i ∧ d.B i < n + rows.length + rows.length ∧ ngR rows (d.B i - n - rows.length)
    · rw [hi0]; exact h.2.2
    · rw [if_neg h] at hart; exact absurd hart (by decide)
  obtain ⟨x, hx⟩ : ∃ x : Nat → Rat, x = fun v => if v < n then 0 else if v < n + rows.length then (if v - n = i0 then 1 else 0) + msR rows (v - n) else if v = n + rows.length + i0 then 1 else 0 := ⟨_, rfl⟩
  have xa : ∀ v, v < n → x v = 0 := fun v h => by rw [hx]; exact if_pos h
  have xb : ∀ r, r < rows.length → x (n + r) = (if r = i0 then 1 else 0) + msR rows r := fun r h => by rw [hx]; show (if n + r < n then _ else _) = _; rw [if_neg (by omega), if_pos (by omega), show n + r - n = r by omega]
  have xc : ∀ v, n + rows.length ≤ v → x v = if v = n + rows.length + i0 then 1 else 0 := fun v h => by rw [hx]; show (if v < n then _ else _) = _; rw [if_neg (by omega), if_neg (by omega)]
  have he : EqsX n rows x := fun r hr => by
    have e1 : dotA rows r x = 0 := by
      unfold dotA
      rw [dotY_all (small_rowD hs r).1]
      exact sm_zero fun j hj => by rw [xa j hj, Rat.mul_zero]
    rw [e1, xb r hr, xc (n + rows.length + r) (by omega)]
    by_cases e : r = i0
    · rw [if_pos e, if_pos (show n + rows.length + r = n + rows.length + i0 by omega), if_pos (by rw [e]; exact hng)]; grind
    · rw [if_neg e, if_neg (show ¬ n + rows.length + r = n + rows.length + i0 by omega)]
      have h4 : (if ngR rows r then (0 : Rat) else 0) = 0 := by split <;> rfl
      rw [h4]; grind
  obtain ⟨go, _, hE⟩ := f.go
  have hsat := (hE.s x _).2 ((d0_sat hs x _).2 ⟨he, rfl⟩)
  have h1 : x (d.B i) = (d.wg go).val i x := hsat.1 i hi
  have h2 : (d.wg go).val i x = 0 := by
    unfold Dg.val
    show (d.wg go).a i 0 + sm (fun k => (d.wg go).a i (k + 1) * x (d.N k)) d.n = 0
    rw [wg_row d go hi, h0, sm_zero (fun k hk => ?_)]
    · grind
    · rw [wg_row d go hi]
      by_cases hk2 : d.N k < n + rows.length
      · have := hz _ hk2
        rw [t.an i k hi hk] at this
        have : d.a i (k + 1) = 0 := by grind
        rw [this]; grind
      · rw [xc _ (by omega), if_neg]
        · grind
        · intro e
          exact I.bn i k hi hk (by rw [hBi, e])
  rw [h2, hBi, xc _ (by omega), if_pos rfl] at h1
  exact absurd h1 (by decide)
structure OnDr (n : Nat) (rows : List MRow) (goal : List (Int × Int)) (i : Nat) (T : Tab) (d : Dg) : Prop where
  t : TabOf T (n + rows.length + rows.length) d
  I : d.Inj
  ok : d.Ok
  f : F1t n rows goal d
  z : ∀ j, j < d.m → ¬ d.B j < n + rows.length → d.a j 0 = 0
  b : ∀ j, j < i → d.B j < n + rows.length
theorem drive_ex : ∀ (t i : Nat) (T : Tab) (d : Dg), i + t = rows.length → OnDr n rows goal i T d → ∃ T2 d2, DriveT (n + rows.length) rows.length i T T2 ∧ OnDr n rows goal rows.length T2 d2
  | 0, i, T, d, hi, h => by
    have : i = rows.length := by omega
    subst this
    exact ⟨T, d, .done, h⟩
  | t + 1, i, T, d, hit, h => by
    have hi : i < d.m := by rw [h.f.mm]; omega
    have hb := h.t.B i hi
    by_cases hB : d.B i < n + rows.length
    · obtain ⟨T2, d2, h1, h2⟩ := drive_ex t (i + 1) T d (by omega) ⟨h.t, h.I, h.ok, h.f, h.z, fun j hj => by
        by_cases e : j = i
        · rw [e]; exact hB
        · exact h.b j (by omega)⟩
      exact ⟨T2, d2, .skip (by omega) (by rw [hb]; exact hB) h1, h2⟩
    · have h0 := h.z i hi hB
      rcases first_of (P := fun c => gR (T.row i) c ≠ 0) (fun c => by by_cases e : gR (T.row i) c = 0; exact .inr (fun h => h e); exact .inl e) (n + rows.length) with hno | ⟨c, hc, hne, hfst⟩
      · exact (zero_row hs h.f h.I h.t hi hB h0 (fun c hc => Classical.byContradiction fun e => hno c hc e)).elim
      · obtain ⟨k, hk, hN⟩ : ∃ k, k < d.n ∧ d.N k = c := by
          rcases h.t.tot c (by omega) with ⟨b, hb', e⟩ | h'
          · exfalso
            have := h.t.ab i b hi hb'
            rw [e] at this
            by_cases e2 : i = b
            · subst e2; omega
            · rw [if_neg e2] at this; exact hne this
          · exact h'
        have ha := h.t.an i k hi hk
        rw [hN] at ha
        have ne : d.a i (k + 1) ≠ 0 := fun e => hne (by rw [ha, e]; grind)
        have P := pivG_is hi hk ne
        have E := P.eqv h.I
        have f2 := f1t_piv d _ i k h.f h.I P (by rw [hN]; exact hc)
        obtain ⟨D, hD⟩ := f1t_rep hs d h.f h.I
        obtain ⟨D2, hD2⟩ := f1t_rep hs _ f2 E.j
        have a0 : ∀ r, r < d.m → (pivG d i k).a r 0 = d.a r 0 := fun r hr => by
          by_cases e : r = i
          · rw [e, P.ij 0 (by omega) (by omega), h0]; grind
          · rw [P.rj r (by omega) e 0 (by omega) (by omega), h0]; grind
        have pf := tab_fit h.t h.I hD hi hk ne hD2
        have t2 := tabOf_piv h.t h.I hi hk ne
        rw [hN] at pf t2
        obtain ⟨T2, d2, h1, h2⟩ := drive_ex t (i + 1) (pivT T i c) (pivG d i k) (by omega) ⟨t2, E.j, fun r hr => by
            have hr : r < d.m := hr
            rw [a0 r hr]; exact h.ok r hr, f2, fun j hj hB' => by
            have hj : j < d.m := hj
            rw [a0 j hj]
            by_cases e : j = i
            · rw [e]; exact h0
            · exact h.z j hj (by rw [← P.Br j hj e]; exact hB'), fun j hj => by
            by_cases e : j = i
            · rw [e, P.Bi, hN]; exact hc
            · rw [P.Br j (by omega) e]; exact h.b j (by omega)⟩
        exact ⟨T2, d2, .piv c (by omega) (by rw [hb]; exact hB) hc (fun c' hc' => Classical.byContradiction fun e => hfst c' hc' e) pf h1, h2⟩
theorem ogoal_at (L : Nat) (j : Nat) (hj : j < L) : ∀ k : Nat, k ≤ goal.length → gR (ogoal L goal k) j = -(coefF (goal.take k) (j : Int) : Rat)
  | 0, _ => by
    show gR (List.replicate L 0) j = -((0 : Int) : Rat)
    rw [gR_of (show (List.replicate L (0 : Rat))[j]? = some 0 by rw [List.getElem?_replicate, if_pos hj])]
    simp
  | k + 1, hk => by
    have h := hs.2.2.2.1
    obtain ⟨t, ht⟩ : ∃ t, goal[k]? = some t := ⟨_, List.getElem?_eq_getElem (by omega)⟩
    obtain ⟨h0, h1, _⟩ := h k t (by omega) ht
    rw [ogoal_succ ht, gR_put (by rw [ogoal_length]; exact hj), coefF_take h ht, ogoal_at L j hj k (by omega)]
    by_cases hjt : (j : Int) = t.1
    · rw [if_pos (by omega), if_pos hjt, Rat.intCast_neg]
    · rw [if_neg (by omega), if_neg hjt]
theorem ogoal_bet (L : Nat) (j : Nat) (hj : j < L) : gR (ogoal L goal goal.length) j = - bet n goal j := by
  rw [ogoal_at hs L j hj _ (Nat.le_refl _), List.take_length]
  unfold bet
  split
  · rfl
  · have h := hs.2.2.2.1
    rw [coefF_none (l := goal) (c := (j : Int)) (fun s hs' => by
      obtain ⟨a, ha⟩ := List.getElem?_of_mem hs'
      have := (h a s (List.getElem?_eq_some_iff.1 ha).1 ha).2.1
      omega)]
    simp
omit hs in
theorem bet_int (v : Nat) : ∃ z : Int, bet n goal v = (z : Rat) ∧ (z = coefF goal (v : Int) ∨ z = 0) := by
  unfold bet
  split
  · exact ⟨_, rfl, .inl rfl⟩
  · exact ⟨0, by simp, .inr rfl⟩
theorem clrs_at {T : Tab} {d : Dg} (t : TabOf T (n + rows.length + rows.length) d) : ∀ j, j ≤ d.m → ∀ c, c < n + rows.length + rows.length + 1 → gR (clrs T (ogoal (n + rows.length + rows.length + 1) goal goal.length) j) c = - bet n goal c + sm (fun i => bet n goal (d.B i) * gR (T.row i) c) j
  | 0, _, c, hc => by
    show gR (ogoal _ goal goal.length) c = _ + 0
    rw [ogoal_bet hs _ c hc]; grind
  | j + 1, hj, c, hc => by
    have hvb := t.vb j (by omega)
    have ih1 := clrs_at t j (by omega) c hc
    have ih2 := clrs_at t j (by omega) (d.B j) (by omega)
    show gR (clr _ _ _) c = _
    rw [gR_clr (by rw [clrs_length, ogoal_length]; exact hc), t.B j (by omega), ih1, ih2]
    rw [sm_zero (f := fun i => bet n goal (d.B i) * gR (T.row i) (d.B j)) (fun i hi => by rw [t.ab i j (by omega) (by omega), if_neg (by omega)]; grind)]
    show _ = _ + (sm _ j + _)
    grind
omit hs in
theorem go_at {d : Dg} {go : Nat → Rat} (hm : d.m = rows.length) (hn : d.n = n + rows.length) (vb : ∀ i, i < d.m → d.B i < n + rows.length + rows.length) (vn : ∀ k, k < d.n → d.N k < n + rows.length + rows.length) (c : Crd (acol n rows goal) (arhs rows) (n + rows.length + rows.length) (d.wg go)) :
    go 0 = sm (fun j => bet n goal (d.B j) * d.a j 0) d.m ∧ ∀ k, k < d.n → go (k + 1) = bet n goal (d.N k) + sm (fun j => bet n goal (d.B j) * d.a j (k + 1)) d.m := by
  have hac : ∀ v, v < n + rows.length + rows.length → acol n rows goal v d.m = - bet n goal v := fun v hv => by
    rw [hm]
    unfold acol bet
    split
    · rw [if_neg (by omega)]
    · split
      · rw [if_neg (by omega)]; grind
      · rw [if_neg (fun e : rows.length = v - n - rows.length ∧ ngR rows rows.length => by omega)]; grind
  have hz : acol n rows goal (n + rows.length + rows.length) d.m = 1 := by
    rw [hm]
    unfold acol
    rw [if_neg (by omega), if_neg (by omega), if_neg (by omega), if_pos rfl]
  have hsum : ∀ j0, sm (fun j => (d.wg go).a j j0 * acol n rows goal ((d.wg go).Bz (n + rows.length + rows.length) j) d.m) (d.m + 1) = go j0 - sm (fun j => bet n goal (d.B j) * d.a j j0) d.m := fun j0 => by
    show sm _ d.m + (d.wg go).a d.m j0 * acol n rows goal ((d.wg go).Bz (n + rows.length + rows.length) d.m) d.m = _
    have e1 : (d.wg go).Bz (n + rows.length + rows.length) d.m = n + rows.length + rows.length := if_neg (by show ¬ d.m < d.m; omega)
    rw [e1, hz, wg_goal]
    rw [sm_congr (g := fun j => (-1) * (bet n goal (d.B j) * d.a j j0)) (fun j hj => by
      have e2 : (d.wg go).Bz (n + rows.length + rows.length) j = d.B j := if_pos hj
      rw [e2, wg_row d go hj, hac _ (vb j hj)]; grind), sm_mul]
    grind
  refine ⟨?_, fun k hk => ?_⟩
  · have h := c.c0 d.m (by show d.m < d.m + 1; omega)
    have h2 := (hsum 0).symm.trans h
    unfold arhs at h2
    rw [if_neg (by omega)] at h2
    grind
  · have h := c.ck k hk d.m (by show d.m < d.m + 1; omega)
    have h2 := (hsum (k + 1)).symm.trans h
    have h3 : acol n rows goal ((d.wg go).N k) d.m = - bet n goal (d.N k) := hac _ (vn k hk)
    rw [h3] at h2
    grind
end
end Go.Proofs.Ytdegpgonphgbcaa
