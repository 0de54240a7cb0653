/-
  The document's Best.
  Numbers with one common denominator (plain).
  What Solve hands back.
-/
import Derived.Test.YtdegpgonphgbcaaZTaL
import Derived.Test.YtdegpgonphgbcaaZSyF
namespace Go.Proofs.Ytdegpgonphgbcaa
open Go.RowKit
section
variable {n : Nat} {rows : List MRow} {goal : List (Int × Int)} {c0 : Int} (hs : SmallP n rows goal c0)
include hs
theorem bet_big {D : Rat} (hD : Whole D) (bD : Ab D 382637520) (v : Nat) : Big (bet n goal v) D (9 * 382637520) := by
  obtain ⟨z, hz, h⟩ := bet_int (n := n) (goal := goal) v
  have h9 := coef_nine (by decide) hs.2.2.2.1 (v : Int)
  rw [hz]
  rcases h with h | h
  · exact Big.int hD bD (by rw [h]; exact h9.1) (by rw [h]; exact h9.2)
  · exact Big.int hD bD (by omega) (by omega)
theorem bet_times {x D X : Rat} (hx : Big x D X) (v : Nat) : Big (bet n goal v * x) D (9 * X) := by
  obtain ⟨z, hz, h⟩ := bet_int (n := n) (goal := goal) v
  have h9 := coef_nine (by decide) hs.2.2.2.1 (v : Int)
  rw [hz]
  rcases h with h | h
  · exact hx.times (by rw [h]; exact h9.1) (by rw [h]; exact h9.2)
  · exact hx.times (by omega) (by omega)
theorem tab2 {T : Tab} {d : Dg} (h : OnDr n rows goal rows.length T d) : ClrFit T (ogoal (n + rows.length + rows.length + 1) goal goal.length) rows.length (n + rows.length + rows.length + 1) ∧ ∃ d2, OnT (F2t n rows goal) (n + rows.length + rows.length) ⟨T.rows, T.basis, clrs T (ogoal (n + rows.length + rows.length + 1) goal goal.length) rows.length⟩ d2 := by
  have t := h.t
  have hm := h.f.mm
  have hn := h.f.nn
  have h6 : rows.length ≤ 6 := by have := hs.2.2.1; omega
  obtain ⟨D, hD⟩ := f1t_rep hs d h.f h.I
  have big : ∀ j, j ≤ rows.length → ∀ c, c < n + rows.length + rows.length + 1 → Big (gR (clrs T (ogoal (n + rows.length + rows.length + 1) goal goal.length) j) c) D (9 * 382637520 + 6 * (9 * 2125764000)) := fun j hj c hc => by
    rw [clrs_at hs t j (by omega) c hc]
    exact (bet_big hs hD.w hD.bd c).neg.add (big_six (by grind) (by omega) fun i hi => bet_times hs (tab_row_con t hD (by omega) hc) _)
  refine ⟨⟨fun j hj => tab_row_fit t hD (by omega), fun j hj => fitl_of fun c hc => ?_, fun j hj c hc => ?_, fun j hj => ?_⟩, ?_⟩
  · rw [clrs_length, ogoal_length] at hc
    exact quo_fit' hD.w hD.ne hD.bd (big j hj c hc) (by grind) (by grind)
  · have hb := t.vb j (by omega)
    have e : gR (clrs T (ogoal (n + rows.length + rows.length + 1) goal goal.length) j) (T.basis.getD j 0) = - bet n goal (d.B j) := by
      rw [t.B j (by omega), clrs_at hs t j (by omega) (d.B j) (by omega), sm_zero (f := fun i => bet n goal (d.B i) * gR (T.row i) (d.B j)) (fun i hi => by rw [t.ab i j (by omega) (by omega), if_neg (by omega)]; grind)]
      grind
    rw [e]
    have := (bet_times hs (tab_row_con t hD (i := j) (by omega) hc) (d.B j)).neg
    rw [show -bet n goal (d.B j) * gR (T.row j) c = -(bet n goal (d.B j) * gR (T.row j) c) by grind]
    exact quo_fit' hD.w hD.ne hD.bd this (by grind) (by grind)
  · rw [t.B j (by omega)]
    have := t.vb j (by omega)
    omega
  · obtain ⟨go, hc, hE⟩ := h.f.go
    obtain ⟨g0, gk⟩ := go_at hm hn t.vb t.vn hc
    have cl := fun c hc => clrs_at hs t rows.length (by omega) c hc
    have hbz : bet n goal (n + rows.length + rows.length) = 0 := by unfold bet; rw [if_neg (by omega)]
    have r1 : ∀ i j, i < d.m → (d.wg go).a i j = d.a i j := fun i j hi => wg_row d go hi j
    have m1 : ∀ j, (d.wg go).a d.m j = go j := fun j => wg_goal d go j
    refine ⟨d.wg go, ⟨t.m, t.bl, t.len, by show (clrs T _ _).length = _; rw [clrs_length, ogoal_length], t.B, fun i k hi hk => by rw [r1 i _ hi]; exact t.an i k hi hk, t.ab, fun i hi => by rw [r1 i _ hi]; exact t.a0 i hi, fun k hk => ?_, fun j hj => ?_, ?_, t.vb, t.vn, t.tot⟩, wg_inj.2 h.I, fun i hi => by rw [r1 i _ hi]; exact h.ok i hi, ⟨hm, hn, hc, hE, fun i hi => h.b i (by have hi : i < d.m := hi; omega)⟩⟩
    · have hk : k < d.n := hk
      show gR (clrs T _ _) (d.N k) = - (d.wg go).a d.m (k + 1)
      rw [m1, cl _ (by have := t.vn k hk; omega), gk k hk, hm]
      rw [sm_congr (g := fun j => (-1) * (bet n goal (d.B j) * d.a j (k + 1))) (fun j hj => by rw [t.an j k (by omega) hk]; grind), sm_mul]
      grind
    · have hj : j < d.m := hj
      show gR (clrs T _ _) (d.B j) = 0
      rw [cl _ (by have := t.vb j hj; omega), sm_only (k := j) (fun i hi hne => by rw [t.ab i j (by omega) hj, if_neg hne]; grind), if_pos (by omega), t.ab j j hj hj, if_pos rfl]
      grind
    · show gR (clrs T _ _) _ = (d.wg go).a d.m 0
      rw [m1, cl _ (by omega), g0, hm, hbz]
      rw [sm_congr (g := fun j => bet n goal (d.B j) * d.a j 0) (fun j hj => by rw [t.a0 j (by omega)])]
      grind
theorem end2 {T : Tab} {d : Dg} {b : Bool} (h : OnT (F2t n rows goal) (n + rows.length + rows.length) T d) (g2 : b = true → ∀ k, k < d.n → d.N k < n + rows.length → ¬ 0 < d.a d.m (k + 1)) (g3 : b = false → ∃ k, k < d.n ∧ d.N k < n + rows.length ∧ 0 < d.a d.m (k + 1) ∧ ∀ r, r < d.m → ¬ d.a r (k + 1) < 0) :
    ∃ code x y, BestEnd c0 (n + rows.length + rows.length) b T code x y ∧ PartsOk n rows goal c0 code x y := by
  have t := h.t
  have f := h.f
  have feas : ∀ x z, d.Sat x z → (∀ i, i < d.m → 0 ≤ x (d.B i)) → (∀ k, k < d.n → 0 ≤ x (d.N k)) → (∀ k, k < d.n → ¬ d.N k < n + rows.length → x (d.N k) = 0) → FeasX n rows x ∧ objX goal c0 x = (c0 : Rat) + z := fun x z hx hB hN hA => by
    obtain ⟨he, hz⟩ := (d0_sat hs x z).1 ((f.eqv.s x z).1 hx)
    refine ⟨feas_eqs (fun v hv => ?_) (fun v hv hv2 => ?_) he, by unfold objX; rw [hz]⟩
    · rcases t.tot v (by omega) with ⟨i, hi, e⟩ | ⟨k, hk, e⟩
      · rw [← e]; exact hB i hi
      · rw [← e]; exact hN k hk
    · rcases t.tot v hv2 with ⟨i, hi, e⟩ | ⟨k, hk, e⟩
      · have := f.bas i hi; omega
      · rw [← e]; exact hA k hk (by omega)
  cases b with
  | false =>
    obtain ⟨k, hk, hkN, hp, hall⟩ := g3 rfl
    refine ⟨35, 0, 0, .inl ⟨rfl, rfl, rfl, rfl⟩, .inr (.inl ⟨rfl, rfl, rfl, fun B => ?_⟩)⟩
    obtain ⟨s, hs0, hs1⟩ : ∃ s : Rat, 0 ≤ s ∧ B ≤ (c0 : Rat) + (d.a d.m 0 + d.a d.m (k + 1) * s) := by
      by_cases hB : B ≤ (c0 : Rat) + d.a d.m 0
      · exact ⟨0, Rat.le_refl, by grind⟩
      · refine ⟨(B - ((c0 : Rat) + d.a d.m 0)) / d.a d.m (k + 1), ?_, ?_⟩
        · have h1 : 0 ≤ B - ((c0 : Rat) + d.a d.m 0) := by grind
          rw [Rat.div_def]
          exact Rat.mul_nonneg h1 (Rat.le_of_lt (Rat.inv_pos.2 hp))
        · have hne : d.a d.m (k + 1) ≠ 0 := by intro e; rw [e] at hp; exact absurd hp (by decide)
          have : d.a d.m (k + 1) * ((B - ((c0 : Rat) + d.a d.m 0)) / d.a d.m (k + 1)) = B - ((c0 : Rat) + d.a d.m 0) := by grind
          rw [this]; grind
    obtain ⟨x, hx, hxk, hxo, hxb⟩ := h.I.sol1 hk s
    obtain ⟨hf, ho⟩ := feas x _ hx (fun i hi => by
      rw [hxb i hi]
      have h1 := h.ok i hi
      have h2 : 0 ≤ d.a i (k + 1) := by have := hall i hi; grind
      have := Rat.mul_nonneg h2 hs0
      grind) (fun c hc => by
      by_cases e : c = k
      · rw [e, hxk]; exact hs0
      · rw [hxo c hc e]; exact Rat.le_refl) (fun c hc hcN => hxo c hc (fun e => hcN (by rw [e]; exact hkN)))
    exact ⟨x, hf, by rw [ho]; exact hs1⟩
  | true =>
    have hopt := g2 rfl
    obtain ⟨D, hD⟩ := f2t_rep hs d f h.I
    have e0 : gR T.goal (n + rows.length + rows.length) = d.a d.m 0 := t.g0
    have hc9 := hs.2.2.2.2
    have f1 : Fit (d.a d.m 0) := quo_fit' hD.w hD.ne hD.bd hD.g0 (by grind) (by grind)
    have f2 : Fit (d.a d.m 0 + (c0 : Rat)) := quo_fit' hD.w hD.ne hD.bd (hD.g0.add (Big.int hD.w hD.bd hc9.1 hc9.2.1)) (by grind) (by grind)
    refine ⟨0, (d.a d.m 0 + (c0 : Rat)).num, ((d.a d.m 0 + (c0 : Rat)).den : Int), .inr ⟨rfl, rfl, by rw [e0]; exact f1, by rw [e0]; exact f2, by rw [e0], by rw [e0]⟩, .inr (.inr ⟨rfl, d.a d.m 0 + (c0 : Rat), rfl, rfl, f2, ?_, fun y hy => ?_⟩)⟩
    · obtain ⟨x, hx, hxo, hxb⟩ := h.I.sol0
      obtain ⟨hf, ho⟩ := feas x _ hx (fun i hi => by rw [hxb i hi]; exact h.ok i hi) (fun c hc => by rw [hxo c hc]; exact Rat.le_refl) (fun c hc _ => hxo c hc)
      exact ⟨x, hf, by rw [ho]; grind⟩
    · have he := xOf_eqs hs y
      have hx := (f.eqv.s (xOf n rows y) (dotY goal (xOf n rows y) goal.length)).2 ((d0_sat hs _ _).2 ⟨he, rfl⟩)
      have hv : dotY goal (xOf n rows y) goal.length = d.a d.m 0 + sm (fun k => d.a d.m (k + 1) * xOf n rows y (d.N k)) d.n := hx.2
      have hle : sm (fun k => d.a d.m (k + 1) * xOf n rows y (d.N k)) d.n ≤ sm (fun _ => 0) d.n := sm_le fun k hk => by
        by_cases hkN : d.N k < n + rows.length
        · have h1 : 0 ≤ - d.a d.m (k + 1) := by have := hopt k hk hkN; grind
          have := Rat.mul_nonneg h1 (xOf_nonneg hy (d.N k))
          grind
        · rw [xOf_art (by omega), Rat.mul_zero]; exact Rat.le_refl
      rw [sm_zero (f := fun _ => (0 : Rat)) (fun _ _ => rfl)] at hle
      have hext : objX goal c0 y = objX goal c0 (xOf n rows y) := objX_ext hs (fun j hj => by unfold xOf; rw [if_pos hj])
      rw [hext]
      unfold objX
      grind
theorem best_ex : ∃ code x y, BestP n rows goal c0 code x y ∧ PartsOk n rows goal c0 code x y := by
  have h0 : OnT (F1t n rows goal) (n + rows.length + rows.length) (tabAt n rows.length (n + rows.length + rows.length + 1) rows rows.length) (d0 n rows) := ⟨d0_tab hs, d0_inj, d0_ok, f1t_0 hs⟩
  obtain ⟨k, b, T1, d1, hrun, hE, h1, g2, g3⟩ := runT_ex (n := n + rows.length) f1t_piv (by omega) (f1t_rep hs) h0
  have t := h1.t
  have f := h1.f
  have anon : ∀ v, 0 ≤ alp n rows v := fun v => by
    rcases alp_01 (n := n) (rows := rows) v with h | h
    · rw [h]; exact Rat.le_refl
    · rw [h.1]; decide
  cases b with
  | false =>
    obtain ⟨x, hx, hxN, hp, hall⟩ := g3 rfl
    have hck := f.frm.ck x hx
    have hsn : 0 ≤ sm (fun j => d1.a j (x + 1) * alp n rows (d1.B j)) d1.m := sm_nonneg fun j hj => Rat.mul_nonneg (by have := hall j hj; grind) (anon _)
    have := anon (d1.N x)
    rw [hck] at hp
    grind
  | true =>
    have hopt := g2 rfl
    have hz := f.frm.c0
    have tn : ∀ j, j < d1.m → 0 ≤ d1.a j 0 * alp n rows (d1.B j) := fun j hj => Rat.mul_nonneg (h1.ok j hj) (anon _)
    have hsn := sm_nonneg tn
    have hg0 : gR T1.goal (n + rows.length + rows.length) = d1.a d1.m 0 := t.g0
    by_cases hne : d1.a d1.m 0 = 0
    · have hzero : ∀ j, j < d1.m → ¬ d1.B j < n + rows.length → d1.a j 0 = 0 := fun j hj hB => by
        have h2 := sm_each tn (by rw [hne] at hz; grind) j hj
        rw [(f.bas j hj).resolve_left hB, Rat.mul_one] at h2
        exact h2
      obtain ⟨T2, d2, hdr, h2⟩ := drive_ex hs rows.length 0 T1 d1 (by omega) ⟨t, h1.I, h1.ok, f, hzero, fun j hj => by omega⟩
      obtain ⟨hcf, d3, h3⟩ := tab2 hs h2
      obtain ⟨k2, b2, T4, d4, hrun2, _, h4, q2, q3⟩ := runT_ex (n := n + rows.length) f2t_piv (by omega) (f2t_rep hs) h3
      obtain ⟨code, x, y, he, hp⟩ := end2 hs h4 q2 q3
      exact ⟨code, x, y, ⟨k, true, T1, hrun, .inr ⟨by rw [hg0]; exact hne, T2, hdr, hcf, k2, b2, T4, hrun2, he⟩⟩, hp⟩
    · refine ⟨34, 0, 0, ⟨k, true, T1, hrun, .inl ⟨by rw [hg0]; exact hne, rfl, rfl, rfl⟩⟩, .inl ⟨rfl, rfl, rfl, ?_⟩⟩
      rintro ⟨y, hy⟩
      apply hne
      obtain ⟨go, _, hEg⟩ := f.go
      have hx := (hEg.s (xOf n rows y) _).2 ((d0_sat hs _ _).2 ⟨xOf_eqs hs y, rfl⟩)
      have hrows : ∀ i, i < d1.m → xOf n rows y (d1.B i) = d1.val i (xOf n rows y) := fun i hi => by
        have h2 : xOf n rows y (d1.B i) = (d1.wg go).val i (xOf n rows y) := hx.1 i hi
        rw [h2]
        unfold Dg.val
        show (d1.wg go).a i 0 + sm (fun k => (d1.wg go).a i (k + 1) * xOf n rows y (d1.N k)) d1.n = _
        rw [wg_row d1 go hi]
        congr 1
        exact sm_congr fun c hc => by rw [wg_row d1 go hi]
      have hval := f.frm.val hrows
      have az : ∀ v, alp n rows v * xOf n rows y v = 0 := fun v => by
        rcases alp_01 (n := n) (rows := rows) v with h | h
        · rw [h]; grind
        · rw [xOf_art h.2]; grind
      rw [sm_zero (f := fun j => alp n rows (d1.B j) * xOf n rows y (d1.B j)) (fun j _ => az _), sm_zero (f := fun c => alp n rows (d1.N c) * xOf n rows y (d1.N c)) (fun c _ => az _)] at hval
      have hv2 : d1.val d1.m (xOf n rows y) = d1.a d1.m 0 + sm (fun k => d1.a d1.m (k + 1) * xOf n rows y (d1.N k)) d1.n := rfl
      have hle : sm (fun k => d1.a d1.m (k + 1) * xOf n rows y (d1.N k)) d1.n ≤ sm (fun _ => 0) d1.n := sm_le fun k hk => by
        by_cases hkN : d1.N k < n + rows.length
        · have h1 : 0 ≤ - d1.a d1.m (k + 1) := by have := hopt k hk hkN; grind
          have := Rat.mul_nonneg h1 (xOf_nonneg hy (d1.N k))
          grind
        · rw [xOf_art (by omega), Rat.mul_zero]; exact Rat.le_refl
      rw [sm_zero (f := fun _ => (0 : Rat)) (fun _ _ => rfl)] at hle
      grind
end
def Sq (q : Nat) (B : Int) (x : Rat) : Prop := (0 < q ∧ q ≤ 400000000) ∧ ∃ z : Int, (q : Rat) * x = (z : Rat) ∧ -B ≤ z ∧ z ≤ B
theorem Sq.fit {q : Nat} {B : Int} {x : Rat} (h : Sq q B x) (hB : B ≤ 1152921504606846976) : Fit x := by
  obtain ⟨⟨hq, hq2⟩, z, hz, h0, h1⟩ := h
  have hq0 : (q : Rat) ≠ 0 := by
    intro e
    have : ((q : Int) : Rat) = ((0 : Int) : Rat) := by simpa using e
    have := Rat.intCast_inj.1 this
    omega
  have e : Rat.divInt z (q : Int) = x := by rw [Rat.divInt_eq_div, ← hz]; show (q : Rat) * x / ((q : Int) : Rat) = x; rw [Rat.intCast_natCast]; grind
  obtain ⟨e1, e2⟩ := fND_rat (a := z) (b := (q : Int)) (by omega)
  rw [e] at e1 e2
  have l1 := fN_le (a := z) (b := (q : Int)) (by omega)
  have l2 := fD_le (a := z) (b := (q : Int)) (by omega)
  rw [e1] at l1
  rw [e2] at l2
  have : ((q : Int).natAbs : Int) = q := rfl
  exact ⟨by omega, by omega, by omega⟩
theorem Sq.up {q : Nat} {B C : Int} {x : Rat} (h : Sq q B x) (hB : B ≤ C) : Sq q C x := by obtain ⟨hq, z, hz, h0, h1⟩ := h; exact ⟨hq, z, hz, by omega, by omega⟩
theorem Sq.add {q : Nat} {B C : Int} {x y : Rat} (h : Sq q B x) (k : Sq q C y) : Sq q (B + C) (x + y) := by
  obtain ⟨hq, z, hz, h0, h1⟩ := h
  obtain ⟨_, u, hu, k0, k1⟩ := k
  exact ⟨hq, z + u, by rw [Rat.intCast_add, ← hz, ← hu]; grind, by omega, by omega⟩
theorem Sq.mul {q : Nat} {B C : Int} {x : Rat} {c : Int} (h : Sq q B x) (h0 : -C ≤ c) (h1 : c ≤ C) : Sq q (C * B) ((c : Rat) * x) := by
  obtain ⟨hq, z, hz, k0, k1⟩ := h
  have : (c * z).natAbs ≤ C.natAbs * B.natAbs := by rw [Int.natAbs_mul]; exact Nat.mul_le_mul (by omega) (by omega)
  have e : ((C.natAbs * B.natAbs : Nat) : Int) = C * B := by rw [Int.natCast_mul]; congr 1 <;> omega
  exact ⟨hq, c * z, by rw [Rat.intCast_mul, ← hz]; grind, by omega, by omega⟩
theorem Sq.int {q : Nat} (hq : 0 < q ∧ q ≤ 400000000) {c : Int} (h0 : -9 ≤ c) (h1 : c ≤ 9) : Sq q 3600000000 (c : Rat) := ⟨hq, q * c, by rw [Rat.intCast_mul, Rat.intCast_natCast], by
  have : (q * c).natAbs ≤ 400000000 * 9 := by rw [Int.natAbs_mul]; exact Nat.mul_le_mul (by omega) (by omega)
  omega, by
  have : (q * c).natAbs ≤ 400000000 * 9 := by rw [Int.natAbs_mul]; exact Nat.mul_le_mul (by omega) (by omega)
  omega⟩
structure FrQ (q : Nat) (l : List (Int × Int)) : Prop where
  hq : 0 < q ∧ q ≤ 400000000
  in63 : ∀ t ∈ l, In63 t
  good : GoodP l
  sm : ∀ i, Sq q 2200000000 (gR (l.map toR) i)
theorem FrQ.get {q : Nat} {l : List (Int × Int)} (h : FrQ q l) {K : Nat → Prop} {w : World} {a : Option Addr} {n c i : Nat} (R : Row RTm 2 K w a n c l) (hi : i < n) : ∃ b o x, a = some ⟨b, o, none⟩ ∧ x = gR (l.map toR) i ∧ w.cell? ⟨b, o + i * 2, none⟩ = some (.int .i64 x.num) ∧ w.cell? ⟨b, o + i * 2 + 1, none⟩ = some (.int .i64 (x.den : Int)) ∧ b < w.heap.size := by
  obtain ⟨b, o, t, rfl, ht, c0, c1, kb, lb⟩ := RTm.get R hi
  obtain ⟨e1, e2⟩ := toR_val (h.good t (List.mem_of_getElem? ht)).2
  refine ⟨b, o, toR t, rfl, (gR_map ht).symm, ?_, ?_, lb⟩
  · rw [e1]; exact c0
  · rw [e2]; exact c1
theorem dotAt_sq {q : Nat} {tm l : List (Int × Int)} (h : FrQ q l) (ht : ∀ t ∈ tm, -9 ≤ t.2 ∧ t.2 ≤ 9) : ∀ k : Nat, k ≤ tm.length → Sq q (19800000000 * k) (dotAt tm (l.map toR) k)
  | 0, _ => ⟨h.hq, 0, by unfold dotAt; simp, by omega, by omega⟩
  | k + 1, hk => by
    obtain ⟨t, htt⟩ : ∃ t, tm[k]? = some t := ⟨_, List.getElem?_eq_getElem (by omega)⟩
    rw [dotAt_succ htt]
    have := ht t (List.mem_of_getElem? htt)
    exact ((dotAt_sq h ht k (by omega)).add ((h.sm t.1.toNat).mul (C := 9) this.1 this.2)).up (by omega)
section
variable {q : Nat} {n : Int} {rows : List MRow} {goal : List (Int × Int)} {c0 : Int} (hs : SmallP n rows goal c0) {l : List (Int × Int)} (hf : FrQ q l)
include hs hf
theorem valAt_sq : ∀ k : Nat, Sq q (3600000000 + 110000000000 * k) (valAt rows c0 (l.map toR) k)
  | 0 => by have := hs.2.2.2.2; exact (Sq.int hf.hq this.1 this.2.1).up (by omega)
  | k + 1 => by
    have := (small_rowD hs k).2
    exact ((valAt_sq k).add ((hf.sm k).mul (C := 50) this.1 this.2)).up (by omega)
theorem colAt_sq (c : Int) : ∀ k : Nat, Sq q (19800000000 * k) (colAt rows (l.map toR) c k)
  | 0 => ⟨hf.hq, 0, by show (q : Rat) * (0 : Rat) = _; simp, by omega, by omega⟩
  | k + 1 => by
    have := coef_nine (by decide) (small_rowD hs k).1 c
    exact ((colAt_sq c k).add ((hf.sm k).mul (C := 9) this.1 this.2)).up (by omega)
end
def prs (l : List Rat) : List (Int × Int) := l.map fun x => (x.num, (x.den : Int))
theorem prs_toR (l : List Rat) : (prs l).map toR = l := by
  unfold prs
  rw [List.map_map]
  have : (toR ∘ fun x : Rat => (x.num, (x.den : Int))) = id := by
    funext x
    show Rat.divInt x.num (x.den : Int) = x
    exact Rat.num_divInt_den x
  rw [this, List.map_id]
theorem gR_nil (l : List Rat) {j : Nat} (h : l.length ≤ j) : gR l j = 0 := by unfold gR; rw [List.getD_eq_getElem?_getD, List.getElem?_eq_none h]; rfl
theorem frq_of {D : Rat} (hD : Whole D) (hne : D ≠ 0) (bD : Ab D 382637520) {l : List Rat} (h0 : ∀ i, 0 ≤ gR l i) (hb : ∀ i, Big (gR l i) D 2125764000) : ∃ q, FrQ q (prs l) := by
  obtain ⟨z, hz, hz0⟩ := whole_ne hD hne
  have bz : -382637520 ≤ z ∧ z ≤ 382637520 := by
    rw [hz] at bD
    exact ab_int (B := 382637520) bD
  have sq : ∀ x, Big x D 2125764000 → Sq z.natAbs 2200000000 x := fun x hx => by
    obtain ⟨⟨p, hp⟩, bp⟩ := hx
    have bp2 := bp
    rw [hp] at bp2
    have bp3 := ab_int (B := 2125764000) bp2
    refine ⟨⟨by omega, by omega⟩, ?_⟩
    rcases Int.natAbs_eq z with e | e
    · refine ⟨p, ?_, by omega, by omega⟩
      have : ((z.natAbs : Nat) : Rat) = (z : Rat) := by rw [← Rat.intCast_natCast, ← e]
      rw [this, ← hp, hz]; grind
    · refine ⟨-p, ?_, by omega, by omega⟩
      have : ((z.natAbs : Nat) : Rat) = -(z : Rat) := by rw [← Rat.intCast_natCast, ← Rat.intCast_neg]; congr 1; omega
      rw [this, Rat.intCast_neg, ← hp, hz]; grind
  have fit : ∀ x ∈ l, Fit x ∧ 0 ≤ x := fun x hx => by
    obtain ⟨i, hi⟩ := List.getElem?_of_mem hx
    have h1 := hb i
    have h2 := h0 i
    rw [gR_of hi] at h1 h2
    exact ⟨quo_fit' hD hne bD h1 (by grind) (by grind), h2⟩
  refine ⟨z.natAbs, ⟨by omega, by omega⟩, fun t ht => ?_, fun t ht => ?_, fun i => by rw [prs_toR]; exact sq _ (hb i)⟩
  · obtain ⟨x, hx, rfl⟩ := List.mem_map.1 ht
    have := (fit x hx).1
    exact ⟨by have := this.1; dsimp only; omega, by have := this.2.1; dsimp only; omega⟩
  · obtain ⟨x, hx, rfl⟩ := List.mem_map.1 ht
    obtain ⟨f, p⟩ := fit x hx
    refine ⟨Rat.num_nonneg.2 p, ?_⟩
    have hr := x.reduced
    exact decide_eq_true ⟨f.1, f.2.1, den_one x, f.d, by show Nat.gcd x.num.natAbs (x.den : Int).natAbs = 1; simpa using hr⟩
theorem prs_row {w : World} {g : Nat} {l : List Rat} (h : FBlk w g l []) (hl : l.length ≤ 1000) : Row RTm 2 (fun k => k = g) w (some ⟨g, 0, none⟩) l.length l.length (prs l) := by
  refine ⟨by unfold prs; rw [List.length_map], Nat.le_refl _, by omega, by omega, fun i t ht => ?_⟩
  unfold prs at ht
  rw [List.getElem?_map] at ht
  obtain ⟨x, hx, rfl⟩ := Option.map_eq_some_iff.1 ht
  obtain ⟨c0, c1⟩ := FBlk.get h hx
  exact ⟨g, 0, rfl, rfl, h.lt, by show w.cell? ⟨g, 0 + i * 2, none⟩ = _; rw [Nat.zero_add]; exact c0, by show w.cell? ⟨g, 0 + i * 2 + 1, none⟩ = _; rw [Nat.zero_add]; exact c1⟩
theorem valAt_sum (rows : List MRow) (c0 : Int) (ys : List Rat) : ∀ k, valAt rows c0 ys k = (c0 : Rat) + sm (fun i => ((rowD rows i).2 : Rat) * gR ys i) k
  | 0 => by show (c0 : Rat) = c0 + 0; grind
  | k + 1 => by
    have ih := valAt_sum rows c0 ys k
    show valAt rows c0 ys k + _ = _ + (sm _ k + _)
    rw [ih]; grind
theorem colAt_sum (rows : List MRow) (c0 : Int) (ys : List Rat) (c : Int) : ∀ k, colAt rows ys c k = sm (fun i => (coefF (rowD rows i).1 c : Rat) * gR ys i) k
  | 0 => rfl
  | k + 1 => by
    have ih := colAt_sum rows c0 ys c k
    show colAt rows ys c k + _ = sm _ k + _
    rw [ih]
section
variable {n : Nat} {rows : List MRow} {goal : List (Int × Int)} {c0 : Int} (hs : SmallP n rows goal c0) {d : Dc} (h : End2 n rows goal c0 d)
include h
theorem e2_B {i : Nat} (hi : i < rows.length) : iAt d.ins i = ((dg d).B i : Int) := by
  have hi : i < d.ins.length := by rw [h.m]; exact hi
  have := h.i0 _ (iAt_mem hi)
  show _ = ((iAt d.ins i).toNat : Int)
  omega
theorem e2_N {k : Nat} (hk : k < d.outs.length) : iAt d.outs k = ((dg d).N k : Int) := by
  have := h.o0 _ (iAt_mem hk)
  show _ = ((iAt d.outs k).toNat : Int)
  omega
theorem cols_at : ∀ j, j ≤ rows.length → ∀ c, c < n → ((∃ i, i < j ∧ (dg d).B i = c + 1 ∧ gR (colsAt d n j) c = (dg d).a i 0) ∨ ((∀ i, i < j → (dg d).B i ≠ c + 1) ∧ gR (colsAt d n j) c = 0))
  | 0, _, c, hc => .inr ⟨fun i hi => by omega, by
    show gR (List.replicate n 0) c = 0
    exact gR_of (by rw [List.getElem?_replicate, if_pos hc])⟩
  | j + 1, hj, c, hc => by
    have ih := cols_at j (by omega) c hc
    have hB := e2_B h (i := j) (by omega)
    rw [colsAt_succ]
    unfold colStep
    rw [hB]
    by_cases e : (dg d).B j = c + 1
    · rw [if_pos ⟨by omega, by omega⟩, gR_put (by rw [colsAt_length]; exact hc), if_pos (by omega)]
      exact .inl ⟨j, by omega, e, rfl⟩
    · have hsame : gR (if 1 ≤ ((dg d).B j : Int) ∧ ((dg d).B j : Int) ≤ n then (colsAt d n j).set (((dg d).B j : Int) - 1).toNat (gR (d.rows.getD j []) 0) else colsAt d n j) c = gR (colsAt d n j) c := by
        split
        · rw [gR_put (by rw [colsAt_length]; exact hc), if_neg (by omega)]
        · rfl
      rw [hsame]
      rcases ih with ⟨i, hi, hb, hv⟩ | ⟨hall, hv⟩
      · exact .inl ⟨i, by omega, hb, hv⟩
      · refine .inr ⟨fun i hi => ?_, hv⟩
        by_cases hij : i = j
        · rw [hij]; exact e
        · exact hall i (by omega)
theorem cols_val (c : Nat) : gR (colsAt d n rows.length) c = 0 ∨ ∃ i, i < rows.length ∧ gR (colsAt d n rows.length) c = (dg d).a i 0 := by
  by_cases hc : c < n
  · rcases cols_at h rows.length (Nat.le_refl _) c hc with ⟨i, hi, _, hv⟩ | ⟨_, hv⟩
    · exact .inr ⟨i, hi, hv⟩
    · exact .inl hv
  · exact .inl (gR_nil _ (by rw [colsAt_length]; omega))
theorem rows_val : ∀ j, j ≤ d.outs.length → ∀ i, gR (rowsAt d n rows.length j) i = 0 ∨ ∃ k, k < j ∧ (dg d).N k = n + 1 + i ∧ gR (rowsAt d n rows.length j) i = - (dg d).a rows.length (k + 1)
  | 0, _, i => .inl (by
    show gR (List.replicate rows.length 0) i = 0
    by_cases hi : i < rows.length
    · exact gR_of (by rw [List.getElem?_replicate, if_pos hi])
    · exact gR_nil _ (by simp; omega))
  | j + 1, hj, i => by
    have ih := rows_val j (by omega) i
    have hN := e2_N h (k := j) (by omega)
    have hlast : gR (lastR d.rows) (j + 1) = (dg d).a rows.length (j + 1) := by rw [lastR_eq h.fit, h.m]; rfl
    rw [rowsAt_succ]
    unfold rowStep
    rw [hN, hlast]
    by_cases hi : i < rows.length
    · by_cases e : (dg d).N j = n + 1 + i
      · rw [if_pos (by omega), gR_put (by rw [rowsAt_length]; exact hi), if_pos (by omega)]
        exact .inr ⟨j, by omega, e, rfl⟩
      · have hsame : gR (if (n : Int) < ((dg d).N j : Int) then (rowsAt d n rows.length j).set (((dg d).N j : Int) - n - 1).toNat (-(dg d).a rows.length (j + 1)) else rowsAt d n rows.length j) i = gR (rowsAt d n rows.length j) i := by
          split
          · rw [gR_put (by rw [rowsAt_length]; exact hi), if_neg (by omega)]
          · rfl
        rw [hsame]
        rcases ih with hv | ⟨k, hk, hb, hv⟩
        · exact .inl hv
        · exact .inr ⟨k, by omega, hb, hv⟩
    · refine .inl (gR_nil _ ?_)
      split
      · rw [List.length_set, rowsAt_length]; omega
      · rw [rowsAt_length]; omega
theorem rows_sum (X : Nat → Rat) : ∀ j, j ≤ d.outs.length → sm (fun i => gR (rowsAt d n rows.length j) i * X i) rows.length = - sm (fun k => if n + 1 ≤ (dg d).N k then (dg d).a rows.length (k + 1) * X ((dg d).N k - n - 1) else 0) j
  | 0, _ => by
    show _ = -(0 : Rat)
    rw [sm_zero (fun i hi => by
      rw [show gR (rowsAt d n rows.length 0) i = 0 from gR_of (by show (List.replicate rows.length (0 : Rat))[i]? = _; rw [List.getElem?_replicate, if_pos hi])]; grind)]
    grind
  | j + 1, hj => by
    have ih := rows_sum X j (by omega)
    have hN := e2_N h (k := j) (by omega)
    have hlast : gR (lastR d.rows) (j + 1) = (dg d).a rows.length (j + 1) := by rw [lastR_eq h.fit, h.m]; rfl
    show _ = - (sm _ j + (if n + 1 ≤ (dg d).N j then _ else _))
    rw [rowsAt_succ]
    unfold rowStep
    rw [hN, hlast]
    by_cases e : n + 1 ≤ (dg d).N j
    · have hvar := (h.var ((dg d).N j)).1 (.inr ⟨j, by show j < d.outs.length; omega, rfl⟩)
      obtain ⟨i0, hi0⟩ : ∃ i0, i0 = (dg d).N j - n - 1 := ⟨_, rfl⟩
      have hlt : i0 < rows.length := by omega
      have hold : gR (rowsAt d n rows.length j) i0 = 0 := by
        rcases rows_val h j (by omega) i0 with hv | ⟨k, hk, hb, _⟩
        · exact hv
        · have := h.I.n k j (by show k < d.outs.length; omega) (by show j < d.outs.length; omega) (by omega)
          omega
      rw [if_pos (by omega), if_pos e, ← hi0, show (((dg d).N j : Int) - n - 1).toNat = i0 by omega]
      rw [sm_one (g := fun i => gR (rowsAt d n rows.length j) i * X i) hlt (fun i hi hne => by rw [gR_put (by rw [rowsAt_length]; exact hi), if_neg hne]), ih, gR_put (by rw [rowsAt_length]; exact hlt), if_pos rfl, hold]
      grind
    · rw [if_neg (by omega), if_neg e, ih]; grind
include hs
theorem e2_dual (y : Nat → Rat) : objX goal c0 y = (dg d).a rows.length 0 - sm (fun i => gR (rowsAt d n rows.length d.outs.length) i * (((rowD rows i).2 : Rat) - dotA rows i y)) rows.length + sm (fun k => if n + 1 ≤ (dg d).N k then 0 else (dg d).a rows.length (k + 1) * y ((dg d).N k - 1)) d.outs.length := by
  obtain ⟨x, hx⟩ : ∃ x : Nat → Rat, x = fun v => if v ≤ n then y (v - 1) else ((rowD rows (v - n - 1)).2 : Rat) - dotA rows (v - n - 1) y := ⟨_, rfl⟩
  have xa : ∀ j, j < n → x (j + 1) = y j := fun j hj => by rw [hx]; show (if j + 1 ≤ n then _ else _) = _; rw [if_pos (by omega), Nat.add_sub_cancel]
  have xb : ∀ v, n + 1 ≤ v → x v = ((rowD rows (v - n - 1)).2 : Rat) - dotA rows (v - n - 1) y := fun v hv => by rw [hx]; exact if_neg (by omega)
  have hd : ∀ i, dotA rows i (fun j => x (j + 1)) = dotA rows i y := fun i => dotA_ext hs (fun j hj => xa j hj) i
  have hz := ((h.sat x (objX goal c0 (fun j => x (j + 1)))).2 ⟨fun i hi => by rw [xb _ (by omega), hd i, show n + 1 + i - n - 1 = i by omega], rfl⟩).2
  rw [← objX_ext hs (y := fun j => x (j + 1)) (y' := y) (fun j hj => xa j hj), hz]
  have hm : (dg d).m = rows.length := h.m
  unfold Dg.val
  rw [hm, rows_sum h _ d.outs.length (Nat.le_refl _)]
  have e : sm (fun k => (dg d).a rows.length (k + 1) * x ((dg d).N k)) (dg d).n = sm (fun k => (if n + 1 ≤ (dg d).N k then (dg d).a rows.length (k + 1) * (((rowD rows ((dg d).N k - n - 1)).2 : Rat) - dotA rows ((dg d).N k - n - 1) y) else 0) + (if n + 1 ≤ (dg d).N k then 0 else (dg d).a rows.length (k + 1) * y ((dg d).N k - 1))) d.outs.length := sm_congr fun k hk => by
    have hvar := (h.var ((dg d).N k)).1 (.inr ⟨k, hk, rfl⟩)
    by_cases hkn : n + 1 ≤ (dg d).N k
    · rw [if_pos hkn, if_pos hkn, xb _ hkn]; grind
    · have := xa ((dg d).N k - 1) (by omega)
      rw [show (dg d).N k - 1 + 1 = (dg d).N k by omega] at this
      rw [if_neg hkn, if_neg hkn, this]; grind
  rw [e, sm_add]
  grind
omit hs in
theorem rows_nonneg (i : Nat) : 0 ≤ gR (rowsAt d n rows.length d.outs.length) i := by
  rcases rows_val h d.outs.length (Nat.le_refl _) i with hv | ⟨k, hk, _, hv⟩
  · rw [hv]; exact Rat.le_refl
  · rw [hv]; have := h.opt k hk; grind
theorem rows_prove : ProveP n rows goal (rowsAt d n rows.length d.outs.length) ∧ valAt rows c0 (rowsAt d n rows.length d.outs.length) rows.length = (dg d).a rows.length 0 := by
  constructor
  · intro c hc0 hc1
    obtain ⟨c', rfl⟩ : ∃ c' : Nat, c = (c' : Int) := ⟨c.toNat, by omega⟩
    rw [colAt_sum rows c0]
    have h0 := e2_dual hs h (fun _ => 0)
    have h1 := e2_dual hs h (fun j => if j = c' then 1 else 0)
    have d0 : ∀ i, dotA rows i (fun _ => 0) = 0 := fun i => by
      unfold dotA; rw [dotY_all (small_rowD hs i).1]; exact sm_zero fun j _ => by grind
    have d1 : ∀ i, dotA rows i (fun j => if j = c' then 1 else 0) = (coefF (rowD rows i).1 (c' : Int) : Rat) := fun i => by
      unfold dotA; rw [dotY_all (small_rowD hs i).1, sm_only (k := c') (fun j _ hne => by rw [if_neg hne]; grind), if_pos (by omega), if_pos rfl]; grind
    have o0' : objX goal c0 (fun _ => 0) = (c0 : Rat) := by
      unfold objX; rw [dotY_all hs.2.2.2.1, sm_zero (fun j _ => by grind)]; grind
    have o1 : objX goal c0 (fun j => if j = c' then 1 else 0) = (c0 : Rat) + (coefF goal (c' : Int) : Rat) := by
      unfold objX; rw [dotY_all hs.2.2.2.1, sm_only (k := c') (fun j _ hne => by rw [if_neg hne]; grind), if_pos (by omega), if_pos rfl]; grind
    rw [o0'] at h0
    rw [o1] at h1
    rw [sm_zero (f := fun k => if n + 1 ≤ (dg d).N k then (0 : Rat) else (dg d).a rows.length (k + 1) * (fun _ => 0) ((dg d).N k - 1)) (fun k _ => by split <;> grind)] at h0
    have hle : sm (fun k => if n + 1 ≤ (dg d).N k then (0 : Rat) else (dg d).a rows.length (k + 1) * (fun j => if j = c' then 1 else 0) ((dg d).N k - 1)) d.outs.length ≤ sm (fun _ => 0) d.outs.length := sm_le fun k hk => by
      have := h.opt k hk
      split
      · exact Rat.le_refl
      · show (dg d).a rows.length (k + 1) * (if (dg d).N k - 1 = c' then 1 else 0) ≤ 0
        split <;> grind
    rw [sm_zero (f := fun _ => (0 : Rat)) (fun _ _ => rfl)] at hle
    have es : sm (fun i => gR (rowsAt d n rows.length d.outs.length) i * (((rowD rows i).2 : Rat) - dotA rows i (fun j => if j = c' then 1 else 0))) rows.length = sm (fun i => gR (rowsAt d n rows.length d.outs.length) i * (((rowD rows i).2 : Rat) - dotA rows i (fun _ => 0)) + (-1) * ((coefF (rowD rows i).1 (c' : Int) : Rat) * gR (rowsAt d n rows.length d.outs.length) i)) rows.length := sm_congr fun i _ => by
      rw [d1 i, d0 i]; grind
    rw [es, sm_add, sm_mul] at h1
    grind
  · have h0 := e2_dual hs h (fun _ => 0)
    have d0 : ∀ i, dotA rows i (fun _ => 0) = 0 := fun i => by
      unfold dotA; rw [dotY_all (small_rowD hs i).1]; exact sm_zero fun j _ => by grind
    have o0' : objX goal c0 (fun _ => 0) = (c0 : Rat) := by
      unfold objX; rw [dotY_all hs.2.2.2.1, sm_zero (fun j _ => by grind)]; grind
    rw [o0', sm_zero (f := fun k => if n + 1 ≤ (dg d).N k then (0 : Rat) else (dg d).a rows.length (k + 1) * (fun _ => 0) ((dg d).N k - 1)) (fun k _ => by split <;> grind)] at h0
    rw [valAt_sum rows c0, sm_congr (g := fun i => gR (rowsAt d n rows.length d.outs.length) i * (((rowD rows i).2 : Rat) - dotA rows i (fun _ => 0))) (fun i _ => by rw [d0 i]; grind)]
    grind
theorem cols_obey : FeasX n rows (gR (colsAt d n rows.length)) ∧ objX goal c0 (gR (colsAt d n rows.length)) = (dg d).a rows.length 0 := by
  have hm : (dg d).m = rows.length := h.m
  obtain ⟨x, hsx, hn, hb⟩ := h.I.sol0
  obtain ⟨h1, h2⟩ := (h.sat x _).1 hsx
  have hx : ∀ j, j < n → gR (colsAt d n rows.length) j = x (j + 1) := fun j hj => by
    rcases cols_at h rows.length (Nat.le_refl _) j hj with ⟨i, hi, hB, hv⟩ | ⟨hall, hv⟩
    · rw [hv, ← hB, hb i (by rw [hm]; exact hi)]
    · rcases (h.var (j + 1)).2 ⟨by omega, by omega⟩ with ⟨i, hi, e⟩ | ⟨k, hk, e⟩
      · exact absurd e (hall i (by rw [← hm]; exact hi))
      · rw [hv, ← e, hn k hk]
  have hf : FeasX n rows (fun j => x (j + 1)) := feas_of (fun v v1 v2 => by
    rcases (h.var v).2 ⟨v1, v2⟩ with ⟨i, hi, rfl⟩ | ⟨k, hk, rfl⟩
    · rw [hb i hi]; exact h.ok i (by rw [← hm]; exact hi)
    · rw [hn k hk]; exact Rat.le_refl) h1
  constructor
  · obtain ⟨k1, k2⟩ := feasX_iff.1 hf
    exact feasX_iff.2 ⟨fun j hj => by rw [hx j hj]; exact k1 j hj, fun i hi => by rw [dotA_ext hs (y' := fun j => x (j + 1)) hx i]; exact k2 i hi⟩
  · rw [objX_ext hs (y' := fun j => x (j + 1)) hx, ← h2, hm]
theorem end_frq : (∃ q, FrQ q (prs (colsAt d n rows.length))) ∧ ∃ q, FrQ q (prs (rowsAt d n rows.length d.outs.length)) := by
  have hm : (dg d).m = rows.length := h.m
  obtain ⟨D, hD⟩ := f2_rep hs _ h.f h.I
  constructor
  · refine frq_of hD.w hD.ne hD.bd (fun i => ?_) (fun i => ?_)
    · rcases cols_val h i with e | ⟨r, hr, e⟩
      · rw [e]; exact Rat.le_refl
      · rw [e]; exact h.ok r hr
    · rcases cols_val h i with e | ⟨r, hr, e⟩
      · rw [e]; exact ⟨by rw [Rat.zero_mul]; exact whole_int 0, by rw [Rat.zero_mul]; exact ab_zero (by grind)⟩
      · rw [e]; exact hD.con r (by rw [hm]; exact hr)
  · refine frq_of hD.w hD.ne hD.bd (fun i => rows_nonneg h i) (fun i => ?_)
    rcases rows_val h d.outs.length (Nat.le_refl _) i with e | ⟨k, hk, _, e⟩
    · rw [e]; exact ⟨by rw [Rat.zero_mul]; exact whole_int 0, by rw [Rat.zero_mul]; exact ab_zero (by grind)⟩
    · rw [e]; exact ((hD.row rows.length k (by rw [hm]; exact Nat.le_refl _) hk).neg).le (by grind)
end
end Go.Proofs.Ytdegpgonphgbcaa
