/-
  timeboundlaw25.MaySteps returns true, whatever its arguments are. No condition. Printed by mkLawMaSteps.py.
-/
import Derived.Deep.DeepCutAuto
import Derived.Test.YtlpelpjcbclemaaZMbJ
import Derived.Test.YtlpelpjcbclemaaMaN
namespace Go.Proofs.Ytlpelpjcbclemaa
open Go.RowKit

structure LVar (d S b : Nat) (a : Option Addr) (c : Nat) (ss : List (List Int)) (w : World) : Prop where
  has : Has w b [.slice a S c]
  mat : Mat (Nd d) w a S c ss
  ne : b ≠ d
  lt : b < w.heap.size
theorem LVar.keep {d S b c : Nat} {a : Option Addr} {ss : List (List Int)} {w w' : World} (h : LVar d S b a c ss w) (k : Chg (fun k => k = d) w w') : LVar d S b a c ss w' :=
  ⟨k.has h.has h.lt h.ne, Mat.chg h.mat k (fun _ h => h), h.ne, Nat.lt_of_lt_of_le h.lt k.size⟩
structure NVar (d : Nat) (a : Option Addr) (n c : Nat) (xs : List Int) (w : World) : Prop where
  ints : Ints (Nd d) w a n c xs
theorem NVar.keep {d c n : Nat} {a : Option Addr} {xs : List Int} {w w' : World} (h : NVar d a n c xs w) (k : Chg (fun k => k = d) w w') : NVar d a n c xs w' := ⟨Ints.chg h.ints k (fun _ h => h)⟩
/-- A state of any lengths in a variable. -/
structure RVar (d b : Nat) (a : Option Addr) (n c : Nat) (oa : Option Addr) (on oc : Nat) (m : List (List (List Int))) (o : List Int) (w : World) : Prop where
  has : Has w b [.slice a n c, .slice oa on oc]
  cub : YCub (Nd d) w a n c oa on oc m o
  ne : b ≠ d
  lt : b < w.heap.size
theorem RVar.keep {d b n c on oc : Nat} {a oa : Option Addr} {m : List (List (List Int))} {o : List Int} {w w' : World} (h : RVar d b a n c oa on oc m o w) (k : Chg (fun k => k = d) w w') : RVar d b a n c oa on oc m o w' :=
  ⟨k.has h.has h.lt h.ne, h.cub.chg k (fun _ h => h), h.ne, Nat.lt_of_lt_of_le h.lt k.size⟩
theorem BoolIff.to {p : Prop} {b : Bool} (hb : b = true ↔ p) {w w' : World} {e : Ending} (h : BoolIff p w e w') : e = .returned (.bool b) ∧ Below w.heap.size w w' := by
  obtain ⟨c, rfl, hc, h2⟩ := h
  have : c = b := by cases b <;> cases c <;> simp_all
  rw [this]; exact ⟨rfl, h2⟩
theorem BoolIff.pick (p : Prop) : ∃ b : Bool, b = true ↔ p := by
  by_cases h : p
  · exact ⟨true, by simp [h]⟩
  · exact ⟨false, by simp [h]⟩
theorem oints_set {w : World} {f : Nat → Prop} {a : Option Addr} {n c : Nat} {o : List Int} (r : OInts w f (.slice a n c) o) {k : Nat} (hk : k < o.length) :
    ∃ b, a = some ⟨b, 0, none⟩ ∧ f b ∧ b < w.heap.size ∧ (∃ v, w.cell? ⟨b, k, none⟩ = some v) ∧ w.frozen? ⟨b, k, none⟩ = false ∧ ∀ (w2 : World), Below w.heap.size w w2 → ∀ z : Int, -9223372036854775808 ≤ z → z ≤ 9223372036854775807 → OInts (w2.setCell ⟨b, k, none⟩ (.int .i64 z)) (Grown f w) (.slice a n c) (o.set k z) := by
  obtain ⟨b, cap, u, fq, p⟩ := OwnRow.pick OInt.loc r (List.getElem?_eq_getElem hk)
  have pf := p.form
  simp only [Value.slice.injEq] at pf
  exact ⟨b, pf.1, p.own, p.lt, ⟨_, p.cell⟩, p.free, fun w2 hb z h0 h1 => p.swap w2 (fun _ => False) (.int .i64 z) z (Chg.of_below hb) ⟨rfl, h0, h1⟩ (fun _ h => h.elim)⟩
/-- The state that was made wrong, perhaps: the sets of another one, and numbers of its own. -/
structure BV (d S b : Nat) (a : Option Addr) (c : Nat) (oa : Option Addr) (oc : Nat) (f : Nat → Prop) (o : List Int) (w : World) : Prop where
  has : Has w b [.slice a S c, .slice oa S oc]
  own : OInts w f (.slice oa S oc) o
  ne : ∀ k, f k → k ≠ d ∧ k ≠ b
theorem bv_made {d S b c oc : Nat} {a oa : Option Addr} {f : Nat → Prop} {o : List Int} {w : World} {u v : Value} (hx : Has w b [u, v]) (h : OInts w f (.slice oa S oc) o) (hn : ∀ k, f k → k ≠ d ∧ k ≠ b) :
    BV d S b a c oa oc f o ((w.setCell ⟨b, 0, none⟩ (.slice a S c)).setCell ⟨b, 1, none⟩ (.slice oa S oc)) :=
  ⟨(hx.set0 _).set1 _, OInts.loc.chg (M := fun j => j = b) h ((Chg.setCell (M := fun j => j = b) (Chg.refl _) (fun _ => rfl) _).setCell (fun _ => rfl) _) (fun j hj _ e => (hn j hj).2 e), hn⟩

set_option maxRecDepth 100000 in
set_option maxHeartbeats 16000000 in
theorem msteps_law (aR : Option Addr) (lenR capR : Nat) (zR : List (List (List Int))) (bR : Option Addr) (lnR cpR : Nat) (yR : List Int) (a0 : Option Addr) (len0 cap0 : Nat) (z0 : List Int) (P Q : Int) (wP : (Lit.int .i64 P).wf = true) (wQ : (Lit.int .i64 Q).wf = true) (wO : World) (wR : Cube (fun _ => True) wO aR lenR capR zR) (wR2 : Ints (fun _ => True) wO bR lnR cpR yR) (w0' : IsRow .i64 wO a0 len0 cap0 z0) :
    Calls Try.prog 7 #[.agg #[.slice aR lenR capR, .slice bR lnR cpR], .slice a0 len0 cap0, .int .i64 P, .int .i64 Q] wO fun e w' => e = .returned (.bool true) ∧ Below wO.heap.size wO w' := by
  have hP : -9223372036854775808 ≤ P ∧ P ≤ 9223372036854775807 := by simpa [Lit.wf, IntKind.min, IntKind.max, IntKind.signed, IntKind.bits] using wP
  have hQ : -9223372036854775808 ≤ Q ∧ Q ≤ 9223372036854775807 := by simpa [Lit.wf, IntKind.min, IntKind.max, IntKind.signed, IntKind.bits] using wQ
  obtain ⟨P0, P1⟩ := hP
  obtain ⟨Q0, Q1⟩ := hQ
  have MD0 := Lib.hid (fun w => dmod_any P 1048577 (by omega) (by omega) P0 P1 w)
  have MQ0 := Lib.hid (fun w => dmod_any Q 7 (by omega) (by omega) Q0 Q1 w)
  have y1 := Int.emod_nonneg P (show (1048577 : Int) ≠ 0 by omega); have y2 := Int.emod_lt_of_pos P (show (0 : Int) < 1048577 by omega)
  have q1 := Int.emod_nonneg Q (show (7 : Int) ≠ 0 by omega); have q2 := Int.emod_lt_of_pos Q (show (0 : Int) < 7 by omega)
  generalize P % 1048577 = y at *
  generalize Q % 7 = qq at *
  have bO : Below wO.heap.size wO (wO.alloc (.cells #[.slice aR lenR capR, .slice bR lnR cpR] 31)) := (Below.refl _ _).alloc (Nat.le_refl _) _
  have W0 := Lib.hid (IsRow.block (w := wO) (w' := wO.alloc (.cells #[.slice aR lenR capR, .slice bR lnR cpR] 31)) w0' (fun x _ hx => bO.block _ hx))
  have RV0 := Lib.hid (show RVar (wO.heap.size + 1) wO.heap.size aR lenR capR bR lnR cpR zR yR (wO.alloc (.cells #[.slice aR lenR capR, .slice bR lnR cpR] 31)) from
    ⟨Has.new wO [.slice aR lenR capR, .slice bR lnR cpR] 31, ⟨Row.wide (RSl.wider (RSl.wider RInt.wider)) (fun k _ hk => by unfold Nd; simp at hk; omega) (Row.below (RSl.stays (RSl.stays RInt.stays)) wR bO), Row.wide RInt.wider (fun k _ hk => by unfold Nd; simp at hk; omega) (Row.below RInt.stays wR2 bO)⟩, by omega, by simp⟩)
  have BO := Lib.hid bO
  have ZO := Lib.hid (show (wO.alloc (.cells #[.slice aR lenR capR, .slice bR lnR cpR] 31)).heap.size = wO.heap.size + 1 by simp)
  clear bO w0' wR wR2 wP wQ
  go_enter Try.func7, Try.ntmps7
  go_upto_region 1 with fail
  obtain ⟨w, hw⟩ : ∃ w : World, w = wO.alloc (.cells #[.slice aR lenR capR, .slice bR lnR cpR] 31) := ⟨_, rfl⟩
  rw [← hw] at W0 RV0 BO ZO ⊢
  clear hw
  rw [← ZO.out] at RV0
  obtain ⟨bV, hbR⟩ : ∃ b, b = wO.heap.size := ⟨_, rfl⟩
  have SO := Lib.hid (show wO.heap.size ≤ w.heap.size by have := ZO.out; omega)
  rw [← hbR] at RV0 ⊢
  clear hbR ZO
  go_wp2_with fail
  refine (new_any a0 len0 cap0 z0 _ W0.out).mono ?_
  rintro e w2 ⟨rfl, hd2, hb2⟩
  have D2 := Lib.hid hd2; have C2 := Lib.hid (Chg.of_below (M := Ge w.heap.size) hb2); have hb2' := hb2; clear hd2 hb2
  go_wp2_with fail
  refine (m2cache_any w.heap.size _ D2.out).mono ?_
  rintro e w3 ⟨S, W, L, rfl, g1, g2, g3, g4, g5, hd3, hc3⟩
  have hC := Lib.hid (show COk S W L from ⟨by omega, by omega, by omega, by omega, by omega, by omega⟩)
  have WP := Lib.hid (show 0 < W by omega)
  have D3 := Lib.hid (Deck.k_alloc (o := .cells #[.int .i64 S, .int .i64 W, .int .i64 L] 26) hd3)
  have C3 := Lib.hid ((C2.out.gt hc3 (Nat.le_refl _)).alloc (.cells #[.int .i64 S, .int .i64 W, .int .i64 L] 26))
  have X3 := Lib.hid (CVar.new (d := w.heap.size) (S := S) (W := W) (L := L) (w := w3) hd3.lt)
  have L3 := Lib.hid hd3.lt
  have R3 := Lib.hid (((RV0.out.keep (Chg.dk hb2')).keep hc3).keep (Chg.dka w3 (.cells #[.int .i64 S, .int .i64 W, .int .i64 L] 26)))
  clear hd3 hc3 D2 C2 RV0 hb2'
  have c0 := X3.out.has.cell 0 _ rfl; have c1 := X3.out.has.cell 1 _ rfl; have c2 := X3.out.has.cell 2 _ rfl; have lx := X3.out.lt
  go_upto_region 3 with fail
  obtain ⟨wv, hwv⟩ : ∃ wv : World, wv = w3.alloc (.cells #[.int .i64 S, .int .i64 W, .int .i64 L] 26) := ⟨_, rfl⟩
  rw [← hwv] at X3 C3 D3 R3 c0 c1 c2 lx ⊢
  clear hwv
  have ld := D3.out.lt
  have D0 := D3
  go_cut [11, 12] (fun s11 s12 wx => ∃ U V m o q r b1 a1 k1 i1 l1 b2 a2 k2 i2 l2, s11 = .pointer (some ⟨b1, 0, none⟩) ∧ s12 = .pointer (some ⟨b2, 0, none⟩) ∧ YSt U S W m o ∧ U.length ≤ 43 ∧ YSt V S W q r ∧ V.length ≤ 43 ∧ SVar w.heap.size S b1 a1 k1 i1 l1 m o wx ∧ SVar w.heap.size S b2 a2 k2 i2 l2 q r wx ∧ Chg (fun k => k = w.heap.size) wv wx ∧ Deck wx w.heap.size)
  case first =>
    as_aux_lemma =>
      have hC0 := hC
      have nx := X3.out.ne
      refine hd_start 8 (fun w' => w'.cell? ⟨w3.heap.size, 0, none⟩ = some (.int .i64 S) ∧ w'.cell? ⟨w3.heap.size, 1, none⟩ = some (.int .i64 W) ∧ w'.cell? ⟨w3.heap.size, 2, none⟩ = some (.int .i64 L)) (by kernel_rfl) ⟨by kernel_rfl, by kernel_rfl, by kernel_rfl, by decide⟩ ⟨c0, c1, c2⟩ (fun ok => ?_)
      refine hd_take_l (i := 0) (v := ?_) ok rfl (by decide) (by kernel_rfl) (by kernel_rfl) (fun _ _ _ h => h) (Or.inl ⟨by kernel_rfl, ?_⟩) ?_
      rotate_left
      · (intro w hSw; (try dsimp only at hSw); (try go_split_ands); go_simp; (try (with_reducible rfl)))
      go_frame
      refine hd_take_l (i := 1) (v := ?_) ok rfl (by decide) (by kernel_rfl) (by kernel_rfl) (fun _ _ _ h => h) (Or.inl ⟨by kernel_rfl, ?_⟩) ?_
      rotate_left
      · (intro w hSw; (try dsimp only at hSw); (try go_split_ands); go_simp; (try (with_reducible rfl)))
      go_frame
      refine hd_take_l (i := 3) (v := ?_) ok rfl (by decide) (by kernel_rfl) (by kernel_rfl) (fun _ _ _ h => h) (Or.inl ⟨by kernel_rfl, ?_⟩) ?_
      rotate_left
      · (intro w hSw; (try dsimp only at hSw); (try go_split_ands); go_simp; (try (with_reducible rfl)))
      go_frame
      refine hd_take_l (i := 4) (v := ?_) ok rfl (by decide) (by kernel_rfl) (by kernel_rfl) (fun _ _ _ h => h) (Or.inl ⟨by kernel_rfl, ?_⟩) ?_
      rotate_left
      · (intro w hSw; (try dsimp only at hSw); (try go_split_ands); go_simp; (try (with_reducible rfl)))
      go_frame
      refine hd_inv_p [(25, 2), (28, 5), (11, 6), (12, 7)] (fun _ => undef) (fun b v w' => (Chg (fun k => k = w.heap.size) wv w' ∧ Deck w' w.heap.size) ∧ ∃ A C A' C' xq yq : Nat, (b 2 = true → StP w.heap.size S w' A C (v 2) (fun m' o' => ∃ U : List Int, YSt U S W m' o' ∧ U.length ≤ 43)) ∧ (b 5 = true → StP w.heap.size S w' A' C' (v 5) (fun m' o' => ∃ U : List Int, YSt U S W m' o' ∧ U.length ≤ 43)) ∧ (b 6 = true → VarP w.heap.size wv w' xq (v 6)) ∧ (b 7 = true → VarP w.heap.size wv w' yq (v 7)) ∧ (b 6 = true → b 7 = true → xq ≠ yq) ∧ (b 2 = true → b 6 = true → xq < A ∨ C ≤ xq) ∧ (b 2 = true → b 7 = true → yq < A ∨ C ≤ yq) ∧ (b 5 = true → b 6 = true → xq < A' ∨ C' ≤ xq) ∧ (b 5 = true → b 7 = true → yq < A' ∨ C' ≤ yq)) (.inl ok) ⟨by decide, by decide, by kernel_rfl, rfl⟩ (by kernel_rfl) (by kernel_rfl) (by decide) ⟨⟨Chg.dkd _, D0.out.k_drew⟩, 0, 0, 0, 0, 0, 0, (fun h => by cases h), (fun h => by cases h), (fun h => by cases h), (fun h => by cases h), (fun h _ => by cases h), (fun h _ => by cases h), (fun h _ => by cases h), (fun h _ => by cases h), (fun h _ => by cases h)⟩ ?_ ?_
      · intro i oi hi ho b v a w' hJ hv hr hb hdep hS K hK
        obtain ⟨⟨hC, hD⟩, A, C, A', C', xq, yq, j1, j2, j3, j4, j34, j13, j14, j23, j24⟩ := hJ
        have hCs := hC.size
        have hdw : w.heap.size < w'.heap.size := by omega
        have hi4 : i = 2 ∨ i = 5 ∨ i = 6 ∨ i = 7 := by simpa using hi
        rcases hi4 with rfl | rfl | rfl | rfl
        · obtain rfl := Option.some.inj ho
          try dsimp only at hS
          obtain ⟨s0, s1, s2⟩ := hS
          have e23 : a.tmps[23]?.getD undef = .pointer (some ⟨w.heap.size, 0, none⟩) := (get_eval a 23).trans (hr 23 (by decide))
          have e24 : a.tmps[24]?.getD undef = CV S W L := (get_eval a 24).trans (hr 24 (by decide))
          go_simp
          (try rw [e23, e24])
          go_at_call 11
          refine (m2may_any S W L hC0.out (by omega) (by omega) w.heap.size _ hD).mono ?_
          rintro e w5 ⟨V5, ta5, tc5, ua5, uc5, f5, g5, q5, r5, rfl, ho5, hm5, hU5, hd5, hc5⟩
          have hk5 : Chg (fun k => k = w.heap.size) w' w5 := hc5
          have z5 := hk5.size
          exact hK _ _ ⟨hk5.cell (by omega) s0, hk5.cell (by omega) s1, hk5.cell (by omega) s2⟩ ⟨⟨hC.dt hk5, hd5⟩, w'.heap.size, w5.heap.size, A', C', xq, yq, fun _ => StP.of ho5 (by omega) ⟨V5, hm5, hU5⟩, fun h => (j2 h).keep hk5, fun h => (j3 h).keep hk5, fun h => (j4 h).keep hk5, j34, fun _ h => .inl (j3 h).2.2.2.2, fun _ h => .inl (j4 h).2.2.2.2, j23, j24⟩
        · obtain rfl := Option.some.inj ho
          try dsimp only at hS
          obtain ⟨s0, s1, s2⟩ := hS
          have e26 : a.tmps[26]?.getD undef = .pointer (some ⟨w.heap.size, 0, none⟩) := (get_eval a 26).trans (hr 26 (by decide))
          have e27 : a.tmps[27]?.getD undef = CV S W L := (get_eval a 27).trans (hr 27 (by decide))
          go_simp
          (try rw [e26, e27])
          go_at_call 11
          refine (m2may_any S W L hC0.out (by omega) (by omega) w.heap.size _ hD).mono ?_
          rintro e w6 ⟨V6, ta6, tc6, ua6, uc6, f6, g6, q6, r6, rfl, ho6, hm6, hU6, hd6, hc6⟩
          have hk6 : Chg (fun k => k = w.heap.size) w' w6 := hc6
          have z6 := hk6.size
          exact hK _ _ ⟨hk6.cell (by omega) s0, hk6.cell (by omega) s1, hk6.cell (by omega) s2⟩ ⟨⟨hC.dt hk6, hd6⟩, A, C, w'.heap.size, w6.heap.size, xq, yq, fun h => (j1 h).keep hk6, fun _ => StP.of ho6 (by omega) ⟨V6, hm6, hU6⟩, fun h => (j3 h).keep hk6, fun h => (j4 h).keep hk6, j34, j13, j14, fun _ h => .inl (j3 h).2.2.2.2, fun _ h => .inl (j4 h).2.2.2.2⟩
        · obtain rfl := Option.some.inj ho
          try dsimp only at hS
          obtain ⟨s0, s1, s2⟩ := hS
          go_simp
          have hk : Chg (fun k => k = w.heap.size) w' (w'.alloc (.cells #[.slice none 0 0, .slice none 0 0] 31)) := Chg.dka _ _
          exact hK _ _ ⟨hk.cell (by omega) s0, hk.cell (by omega) s1, hk.cell (by omega) s2⟩ ⟨⟨hC.dt hk, hD.k_alloc⟩, A, C, A', C', w'.heap.size, yq, fun h => (j1 h).keep hk, fun h => (j2 h).keep hk, fun _ => VarP.new hCs hdw, fun h => (j4 h).keep hk, fun _ h => (by have := (j4 h).2.2.2.2; omega), fun h _ => (by obtain ⟨_, _, _, _, _, _, _, _, q, _⟩ := j1 h; exact .inr q), j14, fun h _ => (by obtain ⟨_, _, _, _, _, _, _, _, q, _⟩ := j2 h; exact .inr q), j24⟩
        · obtain rfl := Option.some.inj ho
          try dsimp only at hS
          obtain ⟨s0, s1, s2⟩ := hS
          go_simp
          have hk : Chg (fun k => k = w.heap.size) w' (w'.alloc (.cells #[.slice none 0 0, .slice none 0 0] 31)) := Chg.dka _ _
          exact hK _ _ ⟨hk.cell (by omega) s0, hk.cell (by omega) s1, hk.cell (by omega) s2⟩ ⟨⟨hC.dt hk, hD.k_alloc⟩, A, C, A', C', xq, w'.heap.size, fun h => (j1 h).keep hk, fun h => (j2 h).keep hk, fun h => (j3 h).keep hk, fun _ => VarP.new hCs hdw, fun h _ => (by have := (j3 h).2.2.2.2; omega), j13, fun h _ => (by obtain ⟨_, _, _, _, _, _, _, _, q, _⟩ := j1 h; exact .inr q), j23, fun h _ => (by obtain ⟨_, _, _, _, _, _, _, _, q, _⟩ := j2 h; exact .inr q)⟩
      · intro b v w' hall hJ hS
        obtain ⟨⟨hC, hD⟩, A, C, A', C', xq, yq, j1, j2, j3, j4, j34, j13, j14, j23, j24⟩ := hJ
        obtain ⟨ta1, tc1, ua1, uc1, m1, o1, hv1, q1, _, dA, V5, hm5, hU5⟩ := j1 (hall 2 (by decide))
        obtain ⟨ta2, tc2, ua2, uc2, m2, o2, hv2, q2, _, dA', V6, hm6, hU6⟩ := j2 (hall 5 (by decide))
        obtain ⟨hv3, x1, x2, x3, x4⟩ := j3 (hall 6 (by decide))
        obtain ⟨hv4, y1, y2, y3, y4⟩ := j4 (hall 7 (by decide))
        have hxy := j34 (hall 6 (by decide)) (hall 7 (by decide)); have p1 := j13 (hall 2 (by decide)) (hall 6 (by decide)); have p2 := j14 (hall 2 (by decide)) (hall 7 (by decide)); have p3 := j23 (hall 5 (by decide)) (hall 6 (by decide)); have p4 := j24 (hall 5 (by decide)) (hall 7 (by decide))
        have TS := Lib.hid (two_stored hC x1 x2 x3 x4 y1 y2 y3 y4 hxy q1 dA q2 dA' p1 p2 p3 p4)
        have HDD := Lib.hid hD
        simp only [putP, hv1, hv2, hv3, hv4]
        clear j1 j2 j3 j4 j34 j13 j14 j23 j24 hall hS ok q1 q2
        have xc0 := x1.cell 0 _ rfl; have xc1 := x1.cell 1 _ rfl; have xf := x1.free; have yc0 := y1.cell 0 _ rfl; have yc1 := y1.cell 1 _ rfl; have yf := y1.free
        clear x1 y1
        go_frame
        refine hd_done (by kernel_rfl) ?_
        simp only [List.drop_succ_cons, List.drop_zero]
        go_wp2_with fail
        go_meet
        exact ⟨V5, V6, _, _, _, _, _, _, _, _, _, _, _, _, _, _, rfl, rfl, hm5, hU5, hm6, hU6, TS.out.1, TS.out.2.1, TS.out.2.2, by repeat (first | (with_reducible exact HDD.out) | (with_reducible refine Deck.k_set (by omega) ?_))⟩
  case rest =>
    obtain ⟨U, V, m, o, q, r, b1, a1, k1, i1, l1, b2, a2, k2, i2, l2, rfl, rfl, hm, hU, hq, hV, v1, v2, hcc, hdd⟩ := hcut
    have HM := Lib.hid hm; have HQ := Lib.hid hq; have HU := Lib.hid hU; have HV := Lib.hid hV
    have X4 := Lib.hid (X3.out.keep hcc); have Y4 := Lib.hid v1; have Z4 := Lib.hid v2; have R4 := Lib.hid (R3.out.keep hcc); have C4 := Lib.hid (C3.out.gt hcc (Nat.le_refl _)); have D4 := Lib.hid hdd
    clear hm hq hU hV v1 v2 hcc hdd c0 c1 c2 lx ld D0 X3 C3 D3 R3
    go_wp2_with fail
    refine (m2line_any w.heap.size _ D4.out).mono ?_
    rintro e w7 ⟨x, rfl, hx7, hd7, hc7⟩
    have HX := Lib.hid hx7
    have hxo := base_ok hx7
    have D5 := Lib.hid hd7
    have C5 := Lib.hid (C4.out.gt hc7 (Nat.le_refl _))
    have C7 := Lib.hid hc7
    clear hx7 hd7 hc7 C4 D4
    go_wp2_with fail
    refine (m2few_any w.heap.size _ D5.out).mono ?_
    rintro e w8 ⟨la, ln, lc, xs, rfl, hl8, hn8, hx8, hd8, hc8⟩
    have hcc := Lib.hid (C7.out.dt hc8)
    have X5 := Lib.hid (X4.out.keep hcc.out); have Y5 := Lib.hid (Y4.out.keep hcc.out); have Z5 := Lib.hid (Z4.out.keep hcc.out); have R5 := Lib.hid (R4.out.keep hcc.out)
    have C6 := Lib.hid (C5.out.gt hc8 (Nat.le_refl _)); have D6 := Lib.hid hd8
    have N5 := Lib.hid (show NVar w.heap.size la ln lc xs w8 from ⟨hl8.read (fun k hk => by have := D5.out.lt; unfold Ge at hk; unfold Nd; omega)⟩)
    have HXS := Lib.hid hx8
    clear hl8 hn8 hx8 hd8 hc8 hcc C7 X4 Y4 Z4 R4 C5 D5
    go_wp2_with fail
    refine (MD0.out _).mono ?_
    rintro e w9 ⟨rfl, rfl⟩
    have X6 := Lib.hid (X5.out.keep (Chg.dka w9 (.cells #[.int .i64 x, .int .i64 y] 3))); have Y6 := Lib.hid (Y5.out.keep (Chg.dka w9 (.cells #[.int .i64 x, .int .i64 y] 3))); have Z6 := Lib.hid (Z5.out.keep (Chg.dka w9 (.cells #[.int .i64 x, .int .i64 y] 3))); have R6 := Lib.hid (R5.out.keep (Chg.dka w9 (.cells #[.int .i64 x, .int .i64 y] 3))); have N6 := Lib.hid (N5.out.keep (Chg.dka w9 (.cells #[.int .i64 x, .int .i64 y] 3)))
    have C7 := Lib.hid (C6.out.alloc (.cells #[.int .i64 x, .int .i64 y] 3)); have D7 := Lib.hid (Deck.k_alloc (o := (.cells #[.int .i64 x, .int .i64 y] 3)) D6.out)
    have B6 := Lib.hid (Has.new w9 [.int .i64 x, .int .i64 y] 3)
    have n6 : w9.heap.size ≠ w.heap.size := by have := D6.out.lt; omega
    clear X5 Y5 Z5 R5 N5 C6 D6
    have UU := Lib.hid (show ((U ++ V) ++ (Base ++ [y])).length ≤ 1000 by have := HU.out; have := HV.out; rw [List.length_append, List.length_append, List.length_append]; have : Base.length = 31 := rfl; simp; omega)
    have HY := Lib.hid (show y ∈ (U ++ V) ++ (Base ++ [y]) by simp)
    have HBU := Lib.hid (show ∀ z ∈ Base, z ∈ (U ++ V) ++ (Base ++ [y]) from fun z hz => by simp [hz])
    have HA := Lib.hid (show YSt ((U ++ V) ++ (Base ++ [y])) S W m o from HM.out.unionL.unionL)
    have HB := Lib.hid (show YSt ((U ++ V) ++ (Base ++ [y])) S W q r from HQ.out.union'.unionL)
    have LI := Lib.hid (show LnsOk ((U ++ V) ++ (Base ++ [y])) xs from fun z hz => ⟨(base_ok (HXS.out z hz)).1, (base_ok (HXS.out z hz)).2, HBU.out z (HXS.out z hz)⟩)
    generalize hUU : (U ++ V) ++ (Base ++ [y]) = T at *
    clear hUU HM HQ
    go_wp2
    obtain ⟨wd, hwd⟩ : ∃ wd : World, wd = w9.alloc (.cells #[.int .i64 x, .int .i64 y] 3) := ⟨_, rfl⟩
    rw [← hwd] at X6 Y6 Z6 R6 N6 C7 D7 B6 ⊢
    have lb : w9.heap.size < wd.heap.size := by rw [hwd]; simp
    clear hwd
    generalize w9.heap.size = bl at *
    go_loopw [38] (fun i wr => ∃ k : Nat, k ≤ 2 ∧ i = .int .i64 k ∧ Chg (fun k => k = w.heap.size) wd wr ∧ Deck wr w.heap.size) (fun i _ => 2 - (intOf i).toNat)
    case atStart => exact ⟨0, Nat.zero_le _, rfl, Chg.refl _, D7.out⟩
    case round =>
      obtain ⟨n, hn, rfl, n1, n2⟩ := hrel
      have N1 := Lib.hid n1; have N2 := Lib.hid n2; clear n1 n2
      by_cases hlt : n < 2
      · obtain ⟨z, hz, hz0, hz1, hzT⟩ : ∃ z : Int, wr.cell? ⟨bl, n, none⟩ = some (.int .i64 z) ∧ 0 ≤ z ∧ z ≤ 1048576 ∧ z ∈ T := by
          have hb := N1.out.has B6.out lb n6
          rcases (show n = 0 ∨ n = 1 by omega) with rfl | rfl
          · exact ⟨x, hb.cell 0 _ rfl, hxo.1, hxo.2, HBU.out x HX.out⟩
          · exact ⟨y, hb.cell 1 _ rfl, y1, by omega, HY.out⟩
        have HZT := Lib.hid hzT
        have X8 := Lib.hid (X6.out.keep N1.out); have Y8 := Lib.hid (Y6.out.keep N1.out)
        have C8 := Lib.hid (C7.out.gt N1.out (Nat.le_refl _))
        have LD := Lib.hid N2.out.lt
        have j0 : (0 : Int) ≤ (n : Int) := by omega
        have j1 : (n : Int) < 2 := by omega
        clear hzT
        go_upto_region 8 with fail
        clear hz
        go_cut [62] (fun s62 wx => s62 = .bool false ∧ Chg Non wr wx)
        case first =>
          as_aux_lemma =>
            obtain ⟨v, hv⟩ : ∃ v : Nat, ageY S W m o z = v := ⟨_, rfl⟩
            have AG := Lib.hid (show ∀ w', YCub (Nd w.heap.size) w' a1 S k1 i1 S l1 m o → Calls Try.prog 15 #[CV S W L, YV a1 S k1 i1 S l1, .int .i64 z] w' (IntBelow (v : Nat) w') from fun w' r => by have h := yage_any S W L hC.out m o HA.out _ a1 S k1 i1 S l1 z hz0 (by omega) w' r; rw [hv] at h; exact h)
            have AR := Lib.hid (show ∀ w', YCub (Nd w.heap.size) w' a1 S k1 i1 S l1 m o → Calls Try.prog 30 #[CV S W L, YV a1 S k1 i1 S l1, .int .i64 z] w' (IntBelow (v : Nat) w') from fun w' r => by have h := yrage_any S W L hC.out m o HA.out _ a1 S k1 i1 S l1 z hz0 w' r; rw [hv] at h; exact h)
            clear hv
            have hvv : ((v : Int) != (v : Int)) = false := by simp
            have TS := Lib.hid (ytouch_st HA.out WP.out hz0 hz1 HZT.out)
            have T1 := Lib.hid (fun w' (r : YCub (Nd w.heap.size) w' a1 S k1 i1 S l1 m o) => ytouch_any T UU.out S W L hC.out m o HA.out _ a1 S k1 i1 S l1 z hz0 hz1 HZT.out w' r)
            have T2 := Lib.hid (fun w' (r : YCub (Nd w.heap.size) w' a1 S k1 i1 S l1 m o) => yrtouch_any T UU.out S W L hC.out m o HA.out _ a1 S k1 i1 S l1 z hz0 hz1 HZT.out w' r)
            generalize touchYm S W m o z = M at *
            generalize touchYo S W m o z = Mo at *
            have CX0 := Lib.hid (Chg.refl (M := Non) wr)
            have X8v0 := Lib.hid (X8.out.keep (Chg.dkd wr)); have Y8v0 := Lib.hid (Y8.out.keep (Chg.dkd wr))
            have CFv0 := Lib.hid (CX0.out.drew); have LDv0 := Lib.hid (show w.heap.size < wr.drew.heap.size from LD.out)
            have zX80 := X8v0.out.has.cell 0 _ rfl; have zX81 := X8v0.out.has.cell 1 _ rfl; have zX82 := X8v0.out.has.cell 2 _ rfl; have zY80 := Y8v0.out.has.cell 0 _ rfl; have zY81 := Y8v0.out.has.cell 1 _ rfl
            refine hd_start 20 (fun w' => w'.cell? ⟨w3.heap.size, 0, none⟩ = some (.int .i64 S) ∧ w'.cell? ⟨w3.heap.size, 1, none⟩ = some (.int .i64 W) ∧ w'.cell? ⟨w3.heap.size, 2, none⟩ = some (.int .i64 L) ∧ w'.cell? ⟨b1, 0, none⟩ = some (.slice a1 S k1) ∧ w'.cell? ⟨b1, 1, none⟩ = some (.slice i1 S l1)) (by kernel_rfl) ⟨by kernel_rfl, by kernel_rfl, by kernel_rfl, by decide⟩ ⟨zX80, zX81, zX82, zY80, zY81⟩ (fun ok => ?_)
            refine hd_take_l (i := 0) (v := ?_) ok rfl (by decide) (by kernel_rfl) (by kernel_rfl) (fun _ _ _ h => h) (Or.inl ⟨by kernel_rfl, ?_⟩) ?_
            rotate_left
            · (intro w hSw; (try dsimp only at hSw); (try go_split_ands); go_simp; (try (with_reducible rfl)))
            go_frame
            refine hd_take_l (i := 1) (v := ?_) ok rfl (by decide) (by kernel_rfl) (by kernel_rfl) (fun _ _ _ h => h) (Or.inl ⟨by kernel_rfl, ?_⟩) ?_
            rotate_left
            · (intro w hSw; (try dsimp only at hSw); (try go_split_ands); go_simp; (try (with_reducible rfl)))
            go_frame
            refine hd_take_l (i := 2) (v := ?_) ok rfl (by decide) (by kernel_rfl) (by kernel_rfl) (fun _ _ _ h => h) (Or.inl ⟨by kernel_rfl, ?_⟩) ?_
            rotate_left
            · (intro w hSw; (try dsimp only at hSw); (try go_split_ands); go_simp; (try (with_reducible rfl)))
            go_frame
            refine hd_take_l (i := 4) (v := ?_) ok rfl (by decide) (by kernel_rfl) (by kernel_rfl) (fun _ _ _ h => h) (Or.inl ⟨by kernel_rfl, ?_⟩) ?_
            rotate_left
            · (intro w hSw; (try dsimp only at hSw); (try go_split_ands); go_simp; (try (with_reducible rfl)))
            go_frame
            refine hd_take_l (i := 5) (v := ?_) ok rfl (by decide) (by kernel_rfl) (by kernel_rfl) (fun _ _ _ h => h) (Or.inl ⟨by kernel_rfl, ?_⟩) ?_
            rotate_left
            · (intro w hSw; (try dsimp only at hSw); (try go_split_ands); go_simp; (try (with_reducible rfl)))
            go_frame
            refine hd_take_l (i := 6) (v := ?_) ok rfl (by decide) (by kernel_rfl) (by kernel_rfl) (fun _ _ _ h => h) (Or.inl ⟨by kernel_rfl, ?_⟩) ?_
            rotate_left
            · (intro w hSw; (try dsimp only at hSw); (try go_split_ands); go_simp; (try (with_reducible rfl)))
            go_frame
            refine hd_only_l (c := 3) rfl (by decide) (by kernel_rfl) (fun K hK => ?_)
            go_simp
            go_at_call 15
            refine (AG.out _ Y8v0.out.cub).mono ?_
            rintro e w103 ⟨rfl, hb3⟩
            (try simp only [])
            refine hK _ _ (by refine ⟨?_, ?_, ?_, ?_, ?_⟩ <;> (first | exact cell_later hb3 zX80 | exact cell_later hb3 zX81 | exact cell_later hb3 zX82 | exact cell_later hb3 zY80 | exact cell_later hb3 zY81)) ?_
            clear hK K
            (try go_frame)
            have X8v1 := Lib.hid (X8v0.out.keep (Chg.dk hb3)); have Y8v1 := Lib.hid (Y8v0.out.keep (Chg.dk hb3))
            have CFv1 := Lib.hid (CFv0.out.tr hb3); have LDv1 := Lib.hid (Nat.lt_of_lt_of_le LDv0.out hb3.size)
            clear hb3 zX80 zX81 zX82 zY80 zY81
            have zX80 := X8v1.out.has.cell 0 _ rfl; have zX81 := X8v1.out.has.cell 1 _ rfl; have zX82 := X8v1.out.has.cell 2 _ rfl; have zY80 := Y8v1.out.has.cell 0 _ rfl; have zY81 := Y8v1.out.has.cell 1 _ rfl
            refine hd_only_l (c := 7) rfl (by decide) (by kernel_rfl) (fun K hK => ?_)
            go_simp
            go_at_call 30
            refine (AR.out _ Y8v1.out.cub).mono ?_
            rintro e w107 ⟨rfl, hb7⟩
            (try simp only [])
            refine hK _ _ (by refine ⟨?_, ?_, ?_, ?_, ?_⟩ <;> (first | exact cell_later hb7 zX80 | exact cell_later hb7 zX81 | exact cell_later hb7 zX82 | exact cell_later hb7 zY80 | exact cell_later hb7 zY81)) ?_
            clear hK K
            (try go_frame)
            have X8v2 := Lib.hid (X8v1.out.keep (Chg.dk hb7)); have Y8v2 := Lib.hid (Y8v1.out.keep (Chg.dk hb7))
            have CFv2 := Lib.hid (CFv1.out.tr hb7); have LDv2 := Lib.hid (Nat.lt_of_lt_of_le LDv1.out hb7.size)
            clear hb7 zX80 zX81 zX82 zY80 zY81
            have zX80 := X8v2.out.has.cell 0 _ rfl; have zX81 := X8v2.out.has.cell 1 _ rfl; have zX82 := X8v2.out.has.cell 2 _ rfl; have zY80 := Y8v2.out.has.cell 0 _ rfl; have zY81 := Y8v2.out.has.cell 1 _ rfl
            refine hd_take_l (i := 8) (v := ?_) ok rfl (by decide) (by kernel_rfl) (by kernel_rfl) (fun _ _ _ h => h) (Or.inl ⟨by kernel_rfl, ?_⟩) ?_
            rotate_left
            · (intro w hSw; (try dsimp only at hSw); (try go_split_ands); go_simp; (try (with_reducible rfl)))
            go_frame
            refine hd_take_l (i := 9) (v := ?_) ok rfl (by decide) (by kernel_rfl) (by kernel_rfl) (fun _ _ _ h => h) (Or.inl ⟨by kernel_rfl, ?_⟩) ?_
            rotate_left
            · (intro w hSw; (try dsimp only at hSw); (try go_split_ands); go_simp; (try (with_reducible rfl)))
            go_frame
            refine hd_take_l (i := 10) (v := ?_) ok rfl (by decide) (by kernel_rfl) (by kernel_rfl) (fun _ _ _ h => h) (Or.inl ⟨by kernel_rfl, ?_⟩) ?_
            rotate_left
            · (intro w hSw; (try dsimp only at hSw); (try go_split_ands); go_simp; (try (with_reducible rfl)))
            go_frame
            refine hd_take_l (i := 11) (v := ?_) ok rfl (by decide) (by kernel_rfl) (by kernel_rfl) (fun _ _ _ h => h) (Or.inl ⟨by kernel_rfl, ?_⟩) ?_
            rotate_left
            · (intro w hSw; (try dsimp only at hSw); (try go_split_ands); go_simp; (try (with_reducible rfl)))
            go_frame
            refine hd_take_l (i := 12) (v := ?_) ok rfl (by decide) (by kernel_rfl) (by kernel_rfl) (fun _ _ _ h => h) (Or.inl ⟨by kernel_rfl, ?_⟩) ?_
            rotate_left
            · (intro w hSw; (try dsimp only at hSw); (try go_split_ands); go_simp; (try (with_reducible rfl)))
            go_frame
            refine hd_take_l (i := 14) (v := ?_) ok rfl (by decide) (by kernel_rfl) (by kernel_rfl) (fun _ _ _ h => h) (Or.inl ⟨by kernel_rfl, ?_⟩) ?_
            rotate_left
            · (intro w hSw; (try dsimp only at hSw); (try go_split_ands); go_simp; (try (with_reducible rfl)))
            go_frame
            refine hd_take_l (i := 15) (v := ?_) ok rfl (by decide) (by kernel_rfl) (by kernel_rfl) (fun _ _ _ h => h) (Or.inl ⟨by kernel_rfl, ?_⟩) ?_
            rotate_left
            · (intro w hSw; (try dsimp only at hSw); (try go_split_ands); go_simp; (try (with_reducible rfl)))
            go_frame
            refine hd_take_l (i := 16) (v := ?_) ok rfl (by decide) (by kernel_rfl) (by kernel_rfl) (fun _ _ _ h => h) (Or.inl ⟨by kernel_rfl, ?_⟩) ?_
            rotate_left
            · (intro w hSw; (try dsimp only at hSw); (try go_split_ands); go_simp; (try (with_reducible rfl)))
            go_frame
            refine hd_only_l (c := 13) rfl (by decide) (by kernel_rfl) (fun K hK => ?_)
            go_simp
            go_at_call 14
            refine (T1.out _ Y8v2.out.cub).mono ?_
            rintro e w113 h13
            obtain ⟨ta13, tc13, ua13, uc13, f13, g13, rfl, ho13, hb13⟩ := YRet.fix h13 TS.out.len TS.out.olen
            (try simp only [])
            refine hK _ _ (by refine ⟨?_, ?_, ?_, ?_, ?_⟩ <;> (first | exact cell_later hb13 zX80 | exact cell_later hb13 zX81 | exact cell_later hb13 zX82 | exact cell_later hb13 zY80 | exact cell_later hb13 zY81)) ?_
            clear hK K
            (try go_frame)
            have X8v3 := Lib.hid (X8v2.out.keep (Chg.dk hb13)); have Y8v3 := Lib.hid (Y8v2.out.keep (Chg.dk hb13))
            have CFv3 := Lib.hid (CFv2.out.tr hb13); have LDv3 := Lib.hid (Nat.lt_of_lt_of_le LDv2.out hb13.size)
            have HO13 := Lib.hid (ho13.nd LDv2.out)
            clear ho13 h13
            clear hb13 zX80 zX81 zX82 zY80 zY81
            have zX80 := X8v3.out.has.cell 0 _ rfl; have zX81 := X8v3.out.has.cell 1 _ rfl; have zX82 := X8v3.out.has.cell 2 _ rfl; have zY80 := Y8v3.out.has.cell 0 _ rfl; have zY81 := Y8v3.out.has.cell 1 _ rfl
            refine hd_only_l (c := 17) rfl (by decide) (by kernel_rfl) (fun K hK => ?_)
            go_simp
            go_at_call 31
            refine (T2.out _ Y8v3.out.cub).mono ?_
            rintro e w117 h17
            obtain ⟨ta17, tc17, ua17, uc17, f17, g17, rfl, ho17, hb17⟩ := YRet.fix h17 TS.out.len TS.out.olen
            (try simp only [])
            refine hK _ _ (by refine ⟨?_, ?_, ?_, ?_, ?_⟩ <;> (first | exact cell_later hb17 zX80 | exact cell_later hb17 zX81 | exact cell_later hb17 zX82 | exact cell_later hb17 zY80 | exact cell_later hb17 zY81)) ?_
            clear hK K
            (try go_frame)
            have X8v4 := Lib.hid (X8v3.out.keep (Chg.dk hb17)); have Y8v4 := Lib.hid (Y8v3.out.keep (Chg.dk hb17))
            have CFv4 := Lib.hid (CFv3.out.tr hb17); have LDv4 := Lib.hid (Nat.lt_of_lt_of_le LDv3.out hb17.size)
            (try have HO13 := Lib.hid (YCub.k_below hb17 HO13.out))
            have HO17 := Lib.hid (ho17.nd LDv3.out)
            clear ho17 h17
            clear hb17 zX80 zX81 zX82 zY80 zY81
            have zX80 := X8v4.out.has.cell 0 _ rfl; have zX81 := X8v4.out.has.cell 1 _ rfl; have zX82 := X8v4.out.has.cell 2 _ rfl; have zY80 := Y8v4.out.has.cell 0 _ rfl; have zY81 := Y8v4.out.has.cell 1 _ rfl
            refine hd_only_l (c := 18) rfl (by decide) (by kernel_rfl) (fun K hK => ?_)
            go_simp
            go_at_call 20
            refine (rysame_yes (Nd w.heap.size) (Nd w.heap.size) ta13 ta17 ua13 ua17 S tc13 S tc17 S uc13 S uc17 _ _ _ HO13.out HO17.out).mono ?_
            rintro e w118 ⟨rfl, hb18⟩
            (try simp only [])
            refine hK _ _ (by refine ⟨?_, ?_, ?_, ?_, ?_⟩ <;> (first | exact cell_later hb18 zX80 | exact cell_later hb18 zX81 | exact cell_later hb18 zX82 | exact cell_later hb18 zY80 | exact cell_later hb18 zY81)) ?_
            clear hK K
            (try go_frame)
            have X8v5 := Lib.hid (X8v4.out.keep (Chg.dk hb18)); have Y8v5 := Lib.hid (Y8v4.out.keep (Chg.dk hb18))
            have CFv5 := Lib.hid (CFv4.out.tr hb18); have LDv5 := Lib.hid (Nat.lt_of_lt_of_le LDv4.out hb18.size)
            (try have HO13 := Lib.hid (YCub.k_below hb18 HO13.out))
            (try have HO17 := Lib.hid (YCub.k_below hb18 HO17.out))
            clear hb18 zX80 zX81 zX82 zY80 zY81
            have zX80 := X8v5.out.has.cell 0 _ rfl; have zX81 := X8v5.out.has.cell 1 _ rfl; have zX82 := X8v5.out.has.cell 2 _ rfl; have zY80 := Y8v5.out.has.cell 0 _ rfl; have zY81 := Y8v5.out.has.cell 1 _ rfl
            refine hd_take_l (i := 19) (v := ?_) ok rfl (by decide) (by kernel_rfl) (by kernel_rfl) (fun _ _ _ h => h) (Or.inl ⟨by kernel_rfl, ?_⟩) ?_
            rotate_left
            · (intro w hSw; (try dsimp only at hSw); (try go_split_ands); go_simp; (try (with_reducible rfl)))
            go_frame
            clear ok zX80 zX81 zX82 zY80 zY81
            refine hd_done (by kernel_rfl) ?_
            simp only [List.drop_succ_cons, List.drop_zero]
            go_wp2_with fail
            go_meet
            exact ⟨rfl, CFv5.out⟩
        case rest =>
          obtain ⟨rfl, hcc⟩ := hcut
          have N3 := Lib.hid (N1.out.dt (hcc.mono (fun _ _ h => h.elim))); have N4 := Lib.hid (N2.out.chg hcc (fun j hj hjd e => e))
          clear hcc X8 Y8 C8 LD N1 N2
          go_wp2
          go_roundw
          case rel => exact ⟨n + 1, by omega, by go_num, N3.out, N4.out⟩
          case measure => simp [intOf]; omega
      · obtain rfl : n = 2 := by omega
        have X8 := Lib.hid (X6.out.keep N1.out); have Y8 := Lib.hid (Y6.out.keep N1.out); have Z8 := Lib.hid (Z6.out.keep N1.out); have R8 := Lib.hid (R6.out.keep N1.out); have N8 := Lib.hid (N6.out.keep N1.out)
        have C8 := Lib.hid (C7.out.gt N1.out (Nat.le_refl _))
        clear X6 Y6 Z6 R6 N6 C7 D7 B6 N1
        go_upto_region 11 with fail
        have ld := N2.out.lt
        obtain ⟨wv, hwv⟩ : ∃ wv : World, wv = wr := ⟨_, rfl⟩
        subst hwv
        have y0' := Y8.out.has.cell 0 _ rfl; have y1' := Y8.out.has.cell 1 _ rfl; have ly := Y8.out.lt
        have HL := Lib.hid HA.out.olen
        go_cut [17] (fun s17 wx => ∃ bb va vc f, s17 = .pointer (some ⟨bb, 0, none⟩) ∧ BV w.heap.size S bb a1 k1 va vc f o wx ∧ (∀ k, f k → wv.heap.size ≤ k) ∧ wv.heap.size ≤ bb ∧ Below wv.heap.size wv wx)
        case first =>
          as_aux_lemma =>
                have k0 : (0 : Int) ≤ 0 := by omega
                refine hd_start 7 (fun w' => w'.cell? ⟨b1, 0, none⟩ = some (.slice a1 S k1) ∧ w'.cell? ⟨b1, 1, none⟩ = some (.slice i1 S l1)) (by kernel_rfl) ⟨by kernel_rfl, by kernel_rfl, by kernel_rfl, by decide⟩ ⟨y0', y1'⟩ (fun ok => ?_)
                refine hd_take_l (i := 0) (v := ?_) ok rfl (by decide) (by kernel_rfl) (by kernel_rfl) (fun _ _ _ h => h) (Or.inl ⟨by kernel_rfl, ?_⟩) ?_
                rotate_left
                · (intro w hSw; (try dsimp only at hSw); (try go_split_ands); go_simp; (try (with_reducible rfl)))
                go_frame
                refine hd_take_l (i := 1) (v := ?_) ok rfl (by decide) (by kernel_rfl) (by kernel_rfl) (fun _ _ _ h => h) (Or.inl ⟨by kernel_rfl, ?_⟩) ?_
                rotate_left
                · (intro w hSw; (try dsimp only at hSw); (try go_split_ands); go_simp; (try (with_reducible rfl)))
                go_frame
                refine hd_take_l (i := 2) (v := ?_) ok rfl (by decide) (by kernel_rfl) (by kernel_rfl) (fun _ _ _ h => h) (Or.inl ⟨by kernel_rfl, ?_⟩) ?_
                rotate_left
                · (intro w hSw; (try dsimp only at hSw); (try go_split_ands); go_simp; (try (with_reducible rfl)))
                go_frame
                refine hd_take_l (i := 3) (v := ?_) ok rfl (by decide) (by kernel_rfl) (by kernel_rfl) (fun _ _ _ h => h) (Or.inl ⟨by kernel_rfl, ?_⟩) ?_
                rotate_left
                · (intro w hSw; (try dsimp only at hSw); (try go_split_ands); go_simp; (try (with_reducible rfl)))
                go_frame
                refine hd_two_l (c := 4) (d := 6) rfl rfl (by decide) (by decide) (by kernel_rfl) (fun K hK => ?_) (fun K hK => ?_)
                · have OI := Lib.hid (show Ints (Nd w.heap.size) wv.drew i1 S l1 o from ((Y8.out.keep (Chg.dkd _)).cub).ints)
                  refine step_append_o rfl _ _ 22 rfl Try.underlying22 info_int (OInts.nil _ (fun _ => False)) rfl OI.out rfl (by have := OI.out.hsz; simp; omega) ?_
                  intro v4 w4 hap
                  rw [List.nil_append] at hap
                  obtain ⟨va, vn, vc, rfl⟩ : ∃ a n c, v4 = .slice a n c := by obtain ⟨a, c, h⟩ := hap.out.1.form; exact ⟨a, _, c, h⟩
                  obtain rfl : S = vn := by have h1 := (OInts.read (K := fun _ => True) (fun _ _ => trivial) hap.out.1).hlen; have h2 := HL.out; omega
                  have B4 := Lib.hid (Chg.below (M := fun _ => False) (B := wv.heap.size) hap.out.2 (fun _ _ h => h) (by simp))
                  have I4 := Lib.hid (show OInts w4 (Bt wv.heap.size w4.heap.size) (.slice va S vc) o from OwnRow.wid _ _ _ _ _ _ (fun j hj => ⟨hj.1.elim False.elim (fun h => by simpa using h), hj.2⟩) hap.out.1.lt)
                  have s4 := hap.out.2.size
                  simp only [World.size_drew] at s4
                  clear hap
                  have BA := Lib.hid (show Below wv.heap.size wv w4 from (Below.refl _ _).drew.trans B4.out)
                  have d0 := (Y8.out.keep (Chg.of_below BA.out)).has.cell 0 _ rfl; have d1 := (Y8.out.keep (Chg.of_below BA.out)).has.cell 1 _ rfl
                  (try simp only [])
                  refine hK _ _ ⟨d0, d1⟩ ?_
                  clear hK K
                  (try go_frame)
                  refine hd_take_l (i := 5) (v := ?_) ok rfl (by decide) (by kernel_rfl) (by kernel_rfl) (fun _ _ _ h => h) (Or.inl ⟨by kernel_rfl, ?_⟩) ?_
                  rotate_left
                  · (intro w hSw; (try dsimp only at hSw); (try go_split_ands); go_simp; (try (with_reducible rfl)))
                  go_frame
                  refine hd_only_l (c := 6) rfl (by decide) (by kernel_rfl) (fun K hK => ?_)
                  go_simp
                  (try simp only [])
                  refine hK _ _ ⟨cell_alloc (by omega) d0, cell_alloc (by omega) d1⟩ ?_
                  clear hK K
                  (try go_frame)
                  clear ok d0 d1 y0' y1'
                  refine hd_done (by kernel_rfl) ?_
                  simp only [List.drop_succ_cons, List.drop_zero]
                  go_wp2_with fail
                  go_meet
                  exact ⟨w4.heap.size, va, vc, Bt wv.heap.size w4.heap.size, rfl, ⟨Has.new w4 [.slice a1 S k1, .slice va S vc] 31, OInts.loc.below I4.out ((Below.refl _ _).alloc (Nat.le_refl _) _), fun k hk => ⟨by have := hk.1; omega, by have := hk.2; omega⟩⟩, fun k hk => hk.1, by omega, BA.out.alloc (by omega) _⟩
                · go_simp
                  (try simp only [])
                  refine hK _ _ ⟨cell_alloc (by omega) y0', cell_alloc (by omega) y1'⟩ ?_
                  clear hK K
                  (try go_frame)
                  refine hd_only_l (c := 4) rfl (by decide) (by kernel_rfl) (fun K hK => ?_)
                  have OI := Lib.hid (show Ints (Nd w.heap.size) (wv.drew.alloc (.cells #[.slice none 0 0, .slice none 0 0] 31)) i1 S l1 o from ((Y8.out.keep ((Chg.dkd _).alloc _)).cub).ints)
                  refine step_append_o rfl _ _ 22 rfl Try.underlying22 info_int (OInts.nil _ (fun _ => False)) rfl OI.out rfl (by have := OI.out.hsz; simp; omega) ?_
                  intro v4 w4 hap
                  rw [List.nil_append] at hap
                  obtain ⟨va, vn, vc, rfl⟩ : ∃ a n c, v4 = .slice a n c := by obtain ⟨a, c, h⟩ := hap.out.1.form; exact ⟨a, _, c, h⟩
                  obtain rfl : S = vn := by have h1 := (OInts.read (K := fun _ => True) (fun _ _ => trivial) hap.out.1).hlen; have h2 := HL.out; omega
                  have B4 := Lib.hid (Chg.below (M := fun _ => False) (B := (wv.heap.size + 1)) hap.out.2 (fun _ _ h => h) (by simp))
                  have I4 := Lib.hid (show OInts w4 (Bt (wv.heap.size + 1) w4.heap.size) (.slice va S vc) o from OwnRow.wid _ _ _ _ _ _ (fun j hj => ⟨hj.1.elim False.elim (fun h => by simpa using h), hj.2⟩) hap.out.1.lt)
                  have s4 := hap.out.2.size
                  simp only [World.size_drew, World.size_alloc] at s4
                  clear hap
                  have BA := Lib.hid (show Below wv.heap.size wv w4 from ((Below.refl _ _).drew.alloc (by simp) (.cells #[.slice none 0 0, .slice none 0 0] 31)).trans (B4.out.mono (by omega)))
                  have d0 := (Y8.out.keep (Chg.of_below BA.out)).has.cell 0 _ rfl; have d1 := (Y8.out.keep (Chg.of_below BA.out)).has.cell 1 _ rfl
                  (try simp only [])
                  refine hK _ _ ⟨d0, d1⟩ ?_
                  clear hK K
                  (try go_frame)
                  refine hd_take_l (i := 5) (v := ?_) ok rfl (by decide) (by kernel_rfl) (by kernel_rfl) (fun _ _ _ h => h) (Or.inl ⟨by kernel_rfl, ?_⟩) ?_
                  rotate_left
                  · (intro w hSw; (try dsimp only at hSw); (try go_split_ands); go_simp; (try (with_reducible rfl)))
                  go_frame
                  clear ok d0 d1 y0' y1'
                  refine hd_done (by kernel_rfl) ?_
                  simp only [List.drop_succ_cons, List.drop_zero]
                  have H5 := Lib.hid ((Has.new wv.drew [.slice none 0 0, .slice none 0 0] 31).below B4.out (by simp))
                  simp only [World.size_drew] at H5
                  have h0 := H5.out.cell 0 _ rfl; have h1 := H5.out.cell 1 _ rfl; have hf := H5.out.free; have hl := H5.out.lt (by simp)
                  go_wp2_with fail
                  go_meet
                  exact ⟨wv.heap.size, _, _, _, rfl, bv_made H5.out I4.out (fun k hk => ⟨by have := hk.1; omega, by have := hk.1; omega⟩), fun k hk => by have := hk.1; omega, Nat.le_refl _, ((BA.out.setCell (by simp) _).setCell (by simp) _)⟩
        case rest =>
         obtain ⟨bb, va, vc, f, rfl, hBV, hf, hbb, hbe⟩ := hcut
         have BV1 := Lib.hid hBV; have HF := Lib.hid hf; have BE := Lib.hid hbe
         clear hBV hf hbe y0' y1' ly
         have b0 := BV1.out.has.cell 0 _ rfl; have b1' := BV1.out.has.cell 1 _ rfl; have lbb := BV1.out.has.lt (by simp)
         have Y9 := Lib.hid (Y8.out.keep (Chg.of_below BE.out))
         have D9 := Lib.hid (N2.out.below BE.out (Nat.le_refl _))
         go_upto_if 73 with fail
         obtain ⟨w5, hw5⟩ : ∃ w5 : World, w5 = wc := ⟨_, rfl⟩
         subst hw5
         go_cut [18] (fun _ wx => ∃ va vc o', SVar w.heap.size S bb a1 k1 va vc m o' wx ∧ Chg (fun k => k = w.heap.size) wv wx ∧ Deck wx w.heap.size)
         case first =>
          as_aux_lemma =>
              by_cases hS : S = 0
              · have hS0 : ¬ ((S : Int) > 0) := by omega
                have hS1 : ¬ (0 < S) := by omega
                go_wp2_with fail
                all_goals
                  go_meet
                  exact ⟨va, vc, o, ⟨BV1.out.has, ⟨Y9.out.cub.cub, OInts.read (fun k hk => (BV1.out.ne k hk).1) BV1.out.own⟩, by omega, lbb⟩, Chg.of_below BE.out, D9.out⟩
              · have hS0 : ((S : Int) > 0) := by omega
                have hS1 : 0 < S := by omega
                go_upto_region 13 with fail
                refine hd_start 6 (fun w' => w'.cell? ⟨bb, 1, none⟩ = some (.slice va S vc)) (by kernel_rfl) ⟨by kernel_rfl, by kernel_rfl, by kernel_rfl, by decide⟩ b1' (fun ok => ?_)
                refine hd_take_l (i := 0) (v := ?_) ok rfl (by decide) (by kernel_rfl) (by kernel_rfl) (fun _ _ _ h => h) (Or.inl ⟨by kernel_rfl, ?_⟩) ?_
                rotate_left
                · (intro w hSw; (try dsimp only at hSw); (try go_split_ands); go_simp; (try (with_reducible rfl)))
                go_frame
                refine hd_take_l (i := 1) (v := ?_) ok rfl (by decide) (by kernel_rfl) (by kernel_rfl) (fun _ _ _ h => h) (Or.inl ⟨by kernel_rfl, ?_⟩) ?_
                rotate_left
                · (intro w hSw; (try dsimp only at hSw); (try go_split_ands); go_simp; (try (with_reducible rfl)))
                go_frame
                refine hd_take_l (i := 2) (v := ?_) ok rfl (by decide) (by kernel_rfl) (by kernel_rfl) (fun _ _ _ h => h) (Or.inl ⟨by kernel_rfl, ?_⟩) ?_
                rotate_left
                · (intro w hSw; (try dsimp only at hSw); (try go_split_ands); go_simp; (try (with_reducible rfl)))
                go_frame
                refine hd_only_l (c := 3) rfl (by decide) (by kernel_rfl) (fun K hK => ?_)
                go_simp
                go_at_call 29
                refine (MQ0.out _).mono ?_
                rintro e wq ⟨rfl, rfl⟩
                (try simp only [])
                refine hK _ _ b1' ?_
                clear hK K
                (try go_frame)
                obtain ⟨nb, hnb, hfn, hnl, ⟨v0, hv0⟩, hnf, SO1⟩ := oints_set BV1.out.own (k := 0) (by have := HL.out; omega)
                subst hnb
                have q3 : IntKind.i64.wrap (qq - 1) = qq - 1 := IntWalk.i64_in _ (by omega)
                have s0 : 0 < S := by omega
                refine hd_take_l (i := 4) (v := ?_) ok rfl (by decide) (by kernel_rfl) (by kernel_rfl) (fun _ _ _ h => h) (Or.inl ⟨by kernel_rfl, ?_⟩) ?_
                rotate_left
                · (intro w hSw; (try dsimp only at hSw); (try go_split_ands); go_simp; (try (with_reducible rfl)))
                go_frame
                refine hd_take_l (i := 5) (v := ?_) ok rfl (by decide) (by kernel_rfl) (by kernel_rfl) (fun _ _ _ h => h) (Or.inl ⟨by kernel_rfl, ?_⟩) ?_
                rotate_left
                · (intro w hSw; (try dsimp only at hSw); (try go_split_ands); go_simp; (try (with_reducible rfl)))
                go_frame
                clear ok
                refine hd_done (by kernel_rfl) ?_
                simp only [List.drop_succ_cons, List.drop_zero]
                have hz0 : w5.drew.cell? ⟨nb, 0, none⟩ = some v0 := hv0
                have hzf : w5.drew.frozen? ⟨nb, 0, none⟩ = false := hnf
                have nbw := HF.out nb hfn
                have nbd := BV1.out.ne nb hfn
                have SOH := Lib.hid (SO1 w5.drew (Below.refl _ _).drew (qq - 1) (by omega) (by omega))
                have cN := Lib.hid (show Chg (fun k => k = nb) w5 (w5.drew.setCell ⟨nb, 0, none⟩ (.int .i64 (qq - 1))) from Chg.setCell (M := fun j => j = nb) ((Chg.refl w5).drew) (fun _ => rfl) _)
                go_wp2_with fail
                go_meet
                refine ⟨_, vc, o.set 0 (qq - 1), ⟨cN.out.has BV1.out.has lbb (fun e => nbd.2 e.symm), ⟨(Y8.out.keep (Chg.of_below (BE.out.drew.setCell nbw _))).cub.cub, OInts.read (fun k hk => ?_) (SOH.out.lt)⟩, by omega, by simpa using lbb⟩, Chg.of_below (BE.out.drew.setCell nbw _), (D9.out.below (Below.refl _ _).drew (Nat.le_refl _)).other (by show w.heap.size < nb; omega) _⟩
                rcases hk.1 with h | h
                · exact (BV1.out.ne k h).1
                · have := hk.2; simp at this; omega
         case rest =>
          clear BV1 HF BE Y9 D9 b0 b1' lbb hbb
          obtain ⟨va, vc, o', hB, hcc, hdd⟩ := hcut
          have X9 := Lib.hid (X8.out.keep hcc); have Y9 := Lib.hid (Y8.out.keep hcc); have Z9 := Lib.hid (Z8.out.keep hcc); have R9 := Lib.hid (R8.out.keep hcc); have N9 := Lib.hid (N8.out.keep hcc); have B9 := Lib.hid hB
          have C9 := Lib.hid (C8.out.gt hcc (Nat.le_refl _)); have D9 := Lib.hid hdd
          clear hB hcc hdd X8 Y8 Z8 R8 N8 C8 N2 ld
          have c0 := X9.out.has.cell 0 _ rfl; have c1 := X9.out.has.cell 1 _ rfl; have c2 := X9.out.has.cell 2 _ rfl; have lx := X9.out.lt
          go_wp2_with fail
          refine (m2lines_any S W L hC.out w.heap.size _ D9.out).mono ?_
          rintro e w10 ⟨oa, on, oc, ss, rfl, ho, hv, hd, hc⟩
          obtain rfl : S = on := by have h1 := ho.matT.hlen; have h2 := hv.1; omega
          have HVS := Lib.hid hv
          have ka := Chg.dka (d := w.heap.size) w10 (.cells #[.slice oa S oc] 44)
          have X10 := Lib.hid ((X9.out.keep hc).keep ka); have Y10 := Lib.hid ((Y9.out.keep hc).keep ka); have Z10 := Lib.hid ((Z9.out.keep hc).keep ka); have R10 := Lib.hid ((R9.out.keep hc).keep ka); have N10 := Lib.hid ((N9.out.keep hc).keep ka); have B10 := Lib.hid ((B9.out.keep hc).keep ka)
          have L10 := Lib.hid (show LVar w.heap.size S w10.heap.size oa oc ss (w10.alloc (.cells #[.slice oa S oc] 44)) from
            ⟨Has.new w10 [.slice oa S oc] 44, (OMat.k_alloc ho).read (fun k hk => by have := D9.out.lt; unfold Ge at hk; unfold Nd; omega), by have := hd.lt; omega, by simp⟩)
          have C10 := Lib.hid ((C9.out.gt hc (Nat.le_refl _)).gt ka (Nat.le_refl _))
          have LD := Lib.hid (show w.heap.size < (w10.alloc (.cells #[.slice oa S oc] 44)).heap.size by have := hd.lt; simp; omega)
          clear ho hv hd hc ka X9 Y9 Z9 R9 N9 B9 C9 D9 c0 c1 c2 lx
          go_upto_region 15 with fail
          obtain ⟨wv, hwv⟩ : ∃ wv : World, wv = w10.alloc (.cells #[.slice oa S oc] 44) := ⟨_, rfl⟩
          rw [← hwv] at X10 Y10 Z10 R10 N10 B10 L10 C10 LD ⊢
          clear hwv
          generalize w10.heap.size = bL at *
          go_cut [109] (fun s109 wx => s109 = .bool false ∧ Chg Non wv wx)
          case first =>
            as_aux_lemma =>
              have x0 := fun s : BelowW wv => ((X10.out.keep (Chg.dk s.ok)).has).cell 0 _ rfl; have x1 := fun s : BelowW wv => ((X10.out.keep (Chg.dk s.ok)).has).cell 1 _ rfl; have x2 := fun s : BelowW wv => ((X10.out.keep (Chg.dk s.ok)).has).cell 2 _ rfl
              have y0 := fun s : BelowW wv => ((Y10.out.keep (Chg.dk s.ok)).has).cell 0 _ rfl; have y0' := fun s : BelowW wv => ((Y10.out.keep (Chg.dk s.ok)).has).cell 1 _ rfl
              have z0' := fun s : BelowW wv => ((Z10.out.keep (Chg.dk s.ok)).has).cell 0 _ rfl; have z1' := fun s : BelowW wv => ((Z10.out.keep (Chg.dk s.ok)).has).cell 1 _ rfl
              have r0 := fun s : BelowW wv => ((R10.out.keep (Chg.dk s.ok)).has).cell 0 _ rfl; have r1 := fun s : BelowW wv => ((R10.out.keep (Chg.dk s.ok)).has).cell 1 _ rfl
              have b0' := fun s : BelowW wv => ((B10.out.keep (Chg.dk s.ok)).has).cell 0 _ rfl; have b1' := fun s : BelowW wv => ((B10.out.keep (Chg.dk s.ok)).has).cell 1 _ rfl
              obtain ⟨p1, hp1⟩ := BoolIff.pick (ValidY S W zR yR)
              obtain ⟨p2, hp2⟩ := BoolIff.pick (ValidY S W m o')
              obtain ⟨p3, hp3⟩ := BoolIff.pick (BelowY S W m o q r)
              have A1 := Lib.hid (fun s : BelowW wv => (yvalid_any S W L hC.out (Nd w.heap.size) aR lenR capR bR lnR cpR zR yR s.world (R10.out.keep (Chg.dk s.ok)).cub).mono (fun _ _ h => h.to hp1))
              have A2 := Lib.hid (fun s : BelowW wv => (yrvalid_any S W L hC.out (Nd w.heap.size) aR lenR capR bR lnR cpR zR yR s.world (R10.out.keep (Chg.dk s.ok)).cub).mono (fun _ _ h => h.to hp1))
              have A3 := Lib.hid (fun s : BelowW wv => (yvalid_any S W L hC.out (Nd w.heap.size) a1 S k1 va S vc m o' s.world (B10.out.keep (Chg.dk s.ok)).cub).mono (fun _ _ h => h.to hp2))
              have A4 := Lib.hid (fun s : BelowW wv => (yrvalid_any S W L hC.out (Nd w.heap.size) a1 S k1 va S vc m o' s.world (B10.out.keep (Chg.dk s.ok)).cub).mono (fun _ _ h => h.to hp2))
              have A5 := Lib.hid (fun s : BelowW wv => (ybelow_any T UU.out S W L hC.out m q o r HA.out HB.out (Nd w.heap.size) (Nd w.heap.size) a1 S k1 i1 S l1 a2 S k2 i2 S l2 s.world (Y10.out.keep (Chg.dk s.ok)).cub (Z10.out.keep (Chg.dk s.ok)).cub).mono (fun _ _ h => h.to hp3))
              have A6 := Lib.hid (fun s : BelowW wv => (yrbelow_any T UU.out S W L hC.out m q o r HA.out HB.out (Nd w.heap.size) (Nd w.heap.size) a1 S k1 i1 S l1 a2 S k2 i2 S l2 s.world (Y10.out.keep (Chg.dk s.ok)).cub (Z10.out.keep (Chg.dk s.ok)).cub).mono (fun _ _ h => h.to hp3))
              have e1 : (p1 != p1) = false := by simp
              have e2 : (p2 != p2) = false := by simp
              have e3 : (p3 != p3) = false := by simp
              clear hp1 hp2 hp3
              refine wp_region_below (by kernel_rfl) (by kernel_rfl) ?_
              repeat (go_big_quiet_step ((first | (go_at_call 32; first | (with_reducible exact calls_below _ (A1.out _)) | (with_reducible exact calls_below _ (A3.out _))) | (go_at_call 27; first | (with_reducible exact calls_below _ (A2.out _)) | (with_reducible exact calls_below _ (A4.out _))) | (go_at_call 18; with_reducible exact calls_below _ (A5.out _)) | (go_at_call 33; with_reducible exact calls_below _ (A6.out _)))))
              refine wpQuiet_nil ?_
              rintro w' ⟨s, rfl⟩
              clear x0 x1 x2 y0 y0' z0' z1' r0 r1 b0' b1'
              go_wp2_with fail
              go_meet
              exact ⟨rfl, Chg.of_below s.ok⟩
          case rest =>
            obtain ⟨rfl, hcc⟩ := hcut
            have hcd := hcc.mono (N := fun k => k = w.heap.size) (fun _ _ h => h.elim)
            have X11 := Lib.hid (X10.out.keep hcd); have Y11 := Lib.hid (Y10.out.keep hcd); have Z11 := Lib.hid (Z10.out.keep hcd); have N11 := Lib.hid (N10.out.keep hcd); have L11 := Lib.hid (L10.out.keep hcd)
            have C11 := Lib.hid (C10.out.gt hcd (Nat.le_refl _))
            have LDc := Lib.hid (Nat.lt_of_lt_of_le LD.out hcc.size)
            clear hcc hcd X10 Y10 Z10 R10 N10 B10 L10 C10 LD
            have LD := LDc
            have JS := Lib.hid (yjoin_st HA.out HB.out); have ES := Lib.hid (show YSt T S W (eitherY S W (m, o) xs).1 (eitherY S W (m, o) xs).2 from eitherY_st (st := (m, o)) HA.out WP.out LI.out); have OS := Lib.hid (of_yst HVS.out)
            have TS := Lib.hid (ytop_st T S W)
            have J1 := Lib.hid (fun w' (r1 : YCub (Nd w.heap.size) w' a1 S k1 i1 S l1 m o) (r2 : YCub (Nd w.heap.size) w' a2 S k2 i2 S l2 q r) => yjoin_any T UU.out S W L hC.out m q o r HA.out HB.out _ _ a1 S k1 i1 S l1 a2 S k2 i2 S l2 w' r1 r2)
            have J2 := Lib.hid (fun w' (r1 : YCub (Nd w.heap.size) w' a1 S k1 i1 S l1 m o) (r2 : YCub (Nd w.heap.size) w' a2 S k2 i2 S l2 q r) => yrjoin_any T UU.out S W L hC.out m q o r HA.out HB.out _ _ a1 S k1 i1 S l1 a2 S k2 i2 S l2 w' r1 r2)
            have E1 := Lib.hid (fun w' (r1 : YCub (Nd w.heap.size) w' a1 S k1 i1 S l1 m o) (r2 : Ints (Nd w.heap.size) w' la ln lc xs) => yeither_any T UU.out S W L hC.out m o HA.out _ _ a1 S k1 i1 S l1 la ln lc xs LI.out w' r1 r2)
            have E2 := Lib.hid (fun w' (r1 : YCub (Nd w.heap.size) w' a1 S k1 i1 S l1 m o) (r2 : Ints (Nd w.heap.size) w' la ln lc xs) => yreither_any T UU.out S W L hC.out m o HA.out _ _ a1 S k1 i1 S l1 la ln lc xs LI.out w' r1 r2)
            have O1 := Lib.hid (fun w' (r1 : Mat (Nd w.heap.size) w' oa S oc ss) => yof_any S W L hC.out _ oa S oc ss HVS.out w' r1)
            have O2 := Lib.hid (show ∀ w', Mat (Nd w.heap.size) w' oa S oc ss → Calls Try.prog 36 #[CV S W L, .agg #[.slice oa S oc]] w' (YRet (ofM ss) (List.replicate S (W : Int)) w') from fun w' r1 => yrof_any S W L hC.out _ oa S oc ss HVS.out w' r1)
            have P1 := Lib.hid (fun w' => ytop_any S W L hC.out w'); have P2 := Lib.hid (fun w' => yrtop_any S W L hC.out w')
            have OL := Lib.hid (show (ofM ss).length = S from OS.out.len)
            have OLo := Lib.hid (show (List.replicate S (W : Int)).length = S from List.length_replicate)
            generalize joinYm S W m o q r = J at *
            generalize joinYo S o r = Jo at *
            generalize eitherY S W (m, o) xs = E at *
            generalize ofM ss = O at *
            generalize List.replicate S (W : Int) = Oo at *
            generalize topS S W = TT at *
            generalize topO S = TO at *
            go_upto_region 17 with fail
            obtain ⟨wv, rfl⟩ : ∃ wv : World, wv = wc := ⟨_, rfl⟩
            have X11v0 := Lib.hid (X11.out.keep (Chg.dkd wv)); have Y11v0 := Lib.hid (Y11.out.keep (Chg.dkd wv)); have Z11v0 := Lib.hid (Z11.out.keep (Chg.dkd wv)); have L11v0 := Lib.hid (L11.out.keep (Chg.dkd wv)); have N11v0 := Lib.hid (N11.out.keep (Chg.dkd wv))
            have CFv0 := Lib.hid (C11.out.drew); have LDv0 := Lib.hid (show w.heap.size < wv.drew.heap.size from LD.out)
            have zX110 := X11v0.out.has.cell 0 _ rfl; have zX111 := X11v0.out.has.cell 1 _ rfl; have zX112 := X11v0.out.has.cell 2 _ rfl; have zY110 := Y11v0.out.has.cell 0 _ rfl; have zY111 := Y11v0.out.has.cell 1 _ rfl; have zZ110 := Z11v0.out.has.cell 0 _ rfl; have zZ111 := Z11v0.out.has.cell 1 _ rfl; have zL110 := L11v0.out.has.cell 0 _ rfl
            refine hd_start 38 (fun w' => w'.cell? ⟨w3.heap.size, 0, none⟩ = some (.int .i64 S) ∧ w'.cell? ⟨w3.heap.size, 1, none⟩ = some (.int .i64 W) ∧ w'.cell? ⟨w3.heap.size, 2, none⟩ = some (.int .i64 L) ∧ w'.cell? ⟨b1, 0, none⟩ = some (.slice a1 S k1) ∧ w'.cell? ⟨b1, 1, none⟩ = some (.slice i1 S l1) ∧ w'.cell? ⟨b2, 0, none⟩ = some (.slice a2 S k2) ∧ w'.cell? ⟨b2, 1, none⟩ = some (.slice i2 S l2) ∧ w'.cell? ⟨bL, 0, none⟩ = some (.slice oa S oc)) (by kernel_rfl) ⟨by kernel_rfl, by kernel_rfl, by kernel_rfl, by decide⟩ ⟨zX110, zX111, zX112, zY110, zY111, zZ110, zZ111, zL110⟩ (fun ok => ?_)
            refine hd_take_l (i := 0) (v := ?_) ok rfl (by decide) (by kernel_rfl) (by kernel_rfl) (fun _ _ _ h => h) (Or.inl ⟨by kernel_rfl, ?_⟩) ?_
            rotate_left
            · (intro w hSw; (try dsimp only at hSw); (try go_split_ands); go_simp; (try (with_reducible rfl)))
            go_frame
            refine hd_take_l (i := 1) (v := ?_) ok rfl (by decide) (by kernel_rfl) (by kernel_rfl) (fun _ _ _ h => h) (Or.inl ⟨by kernel_rfl, ?_⟩) ?_
            rotate_left
            · (intro w hSw; (try dsimp only at hSw); (try go_split_ands); go_simp; (try (with_reducible rfl)))
            go_frame
            refine hd_take_l (i := 2) (v := ?_) ok rfl (by decide) (by kernel_rfl) (by kernel_rfl) (fun _ _ _ h => h) (Or.inl ⟨by kernel_rfl, ?_⟩) ?_
            rotate_left
            · (intro w hSw; (try dsimp only at hSw); (try go_split_ands); go_simp; (try (with_reducible rfl)))
            go_frame
            refine hd_take_l (i := 4) (v := ?_) ok rfl (by decide) (by kernel_rfl) (by kernel_rfl) (fun _ _ _ h => h) (Or.inl ⟨by kernel_rfl, ?_⟩) ?_
            rotate_left
            · (intro w hSw; (try dsimp only at hSw); (try go_split_ands); go_simp; (try (with_reducible rfl)))
            go_frame
            refine hd_take_l (i := 5) (v := ?_) ok rfl (by decide) (by kernel_rfl) (by kernel_rfl) (fun _ _ _ h => h) (Or.inl ⟨by kernel_rfl, ?_⟩) ?_
            rotate_left
            · (intro w hSw; (try dsimp only at hSw); (try go_split_ands); go_simp; (try (with_reducible rfl)))
            go_frame
            refine hd_take_l (i := 6) (v := ?_) ok rfl (by decide) (by kernel_rfl) (by kernel_rfl) (fun _ _ _ h => h) (Or.inl ⟨by kernel_rfl, ?_⟩) ?_
            rotate_left
            · (intro w hSw; (try dsimp only at hSw); (try go_split_ands); go_simp; (try (with_reducible rfl)))
            go_frame
            refine hd_only_l (c := 3) rfl (by decide) (by kernel_rfl) (fun K hK => ?_)
            go_simp
            go_at_call 19
            refine (J1.out _ Y11v0.out.cub Z11v0.out.cub).mono ?_
            rintro e w103 h3
            obtain ⟨ta3, tc3, ua3, uc3, f3, g3, rfl, ho3, hb3⟩ := YRet.fix h3 JS.out.len JS.out.olen
            (try simp only [])
            refine hK _ _ (by refine ⟨?_, ?_, ?_, ?_, ?_, ?_, ?_, ?_⟩ <;> (first | exact cell_later hb3 zX110 | exact cell_later hb3 zX111 | exact cell_later hb3 zX112 | exact cell_later hb3 zY110 | exact cell_later hb3 zY111 | exact cell_later hb3 zZ110 | exact cell_later hb3 zZ111 | exact cell_later hb3 zL110)) ?_
            clear hK K
            (try go_frame)
            have X11v1 := Lib.hid (X11v0.out.keep (Chg.dk hb3)); have Y11v1 := Lib.hid (Y11v0.out.keep (Chg.dk hb3)); have Z11v1 := Lib.hid (Z11v0.out.keep (Chg.dk hb3)); have L11v1 := Lib.hid (L11v0.out.keep (Chg.dk hb3)); have N11v1 := Lib.hid (N11v0.out.keep (Chg.dk hb3))
            have CFv1 := Lib.hid (CFv0.out.tr hb3); have LDv1 := Lib.hid (Nat.lt_of_lt_of_le LDv0.out hb3.size)
            have HO3 := Lib.hid (ho3.nd LDv0.out)
            clear ho3 h3
            clear hb3 zX110 zX111 zX112 zY110 zY111 zZ110 zZ111 zL110
            have zX110 := X11v1.out.has.cell 0 _ rfl; have zX111 := X11v1.out.has.cell 1 _ rfl; have zX112 := X11v1.out.has.cell 2 _ rfl; have zY110 := Y11v1.out.has.cell 0 _ rfl; have zY111 := Y11v1.out.has.cell 1 _ rfl; have zZ110 := Z11v1.out.has.cell 0 _ rfl; have zZ111 := Z11v1.out.has.cell 1 _ rfl; have zL110 := L11v1.out.has.cell 0 _ rfl
            refine hd_only_l (c := 7) rfl (by decide) (by kernel_rfl) (fun K hK => ?_)
            go_simp
            go_at_call 16
            refine (J2.out _ Y11v1.out.cub Z11v1.out.cub).mono ?_
            rintro e w107 h7
            obtain ⟨ta7, tc7, ua7, uc7, f7, g7, rfl, ho7, hb7⟩ := YRet.fix h7 JS.out.len JS.out.olen
            (try simp only [])
            refine hK _ _ (by refine ⟨?_, ?_, ?_, ?_, ?_, ?_, ?_, ?_⟩ <;> (first | exact cell_later hb7 zX110 | exact cell_later hb7 zX111 | exact cell_later hb7 zX112 | exact cell_later hb7 zY110 | exact cell_later hb7 zY111 | exact cell_later hb7 zZ110 | exact cell_later hb7 zZ111 | exact cell_later hb7 zL110)) ?_
            clear hK K
            (try go_frame)
            have X11v2 := Lib.hid (X11v1.out.keep (Chg.dk hb7)); have Y11v2 := Lib.hid (Y11v1.out.keep (Chg.dk hb7)); have Z11v2 := Lib.hid (Z11v1.out.keep (Chg.dk hb7)); have L11v2 := Lib.hid (L11v1.out.keep (Chg.dk hb7)); have N11v2 := Lib.hid (N11v1.out.keep (Chg.dk hb7))
            have CFv2 := Lib.hid (CFv1.out.tr hb7); have LDv2 := Lib.hid (Nat.lt_of_lt_of_le LDv1.out hb7.size)
            (try have HO3 := Lib.hid (YCub.k_below hb7 HO3.out))
            have HO7 := Lib.hid (ho7.nd LDv1.out)
            clear ho7 h7
            clear hb7 zX110 zX111 zX112 zY110 zY111 zZ110 zZ111 zL110
            have zX110 := X11v2.out.has.cell 0 _ rfl; have zX111 := X11v2.out.has.cell 1 _ rfl; have zX112 := X11v2.out.has.cell 2 _ rfl; have zY110 := Y11v2.out.has.cell 0 _ rfl; have zY111 := Y11v2.out.has.cell 1 _ rfl; have zZ110 := Z11v2.out.has.cell 0 _ rfl; have zZ111 := Z11v2.out.has.cell 1 _ rfl; have zL110 := L11v2.out.has.cell 0 _ rfl
            refine hd_only_l (c := 8) rfl (by decide) (by kernel_rfl) (fun K hK => ?_)
            go_simp
            go_at_call 20
            refine (rysame_yes (Nd w.heap.size) (Nd w.heap.size) ta3 ta7 ua3 ua7 S tc3 S tc7 S uc3 S uc7 _ _ _ HO3.out HO7.out).mono ?_
            rintro e w108 ⟨rfl, hb8⟩
            (try simp only [])
            refine hK _ _ (by refine ⟨?_, ?_, ?_, ?_, ?_, ?_, ?_, ?_⟩ <;> (first | exact cell_later hb8 zX110 | exact cell_later hb8 zX111 | exact cell_later hb8 zX112 | exact cell_later hb8 zY110 | exact cell_later hb8 zY111 | exact cell_later hb8 zZ110 | exact cell_later hb8 zZ111 | exact cell_later hb8 zL110)) ?_
            clear hK K
            (try go_frame)
            have X11v3 := Lib.hid (X11v2.out.keep (Chg.dk hb8)); have Y11v3 := Lib.hid (Y11v2.out.keep (Chg.dk hb8)); have Z11v3 := Lib.hid (Z11v2.out.keep (Chg.dk hb8)); have L11v3 := Lib.hid (L11v2.out.keep (Chg.dk hb8)); have N11v3 := Lib.hid (N11v2.out.keep (Chg.dk hb8))
            have CFv3 := Lib.hid (CFv2.out.tr hb8); have LDv3 := Lib.hid (Nat.lt_of_lt_of_le LDv2.out hb8.size)
            (try have HO3 := Lib.hid (YCub.k_below hb8 HO3.out))
            (try have HO7 := Lib.hid (YCub.k_below hb8 HO7.out))
            clear hb8 zX110 zX111 zX112 zY110 zY111 zZ110 zZ111 zL110
            have zX110 := X11v3.out.has.cell 0 _ rfl; have zX111 := X11v3.out.has.cell 1 _ rfl; have zX112 := X11v3.out.has.cell 2 _ rfl; have zY110 := Y11v3.out.has.cell 0 _ rfl; have zY111 := Y11v3.out.has.cell 1 _ rfl; have zZ110 := Z11v3.out.has.cell 0 _ rfl; have zZ111 := Z11v3.out.has.cell 1 _ rfl; have zL110 := L11v3.out.has.cell 0 _ rfl
            refine hd_take_l (i := 9) (v := ?_) ok rfl (by decide) (by kernel_rfl) (by kernel_rfl) (fun _ _ _ h => h) (Or.inl ⟨by kernel_rfl, ?_⟩) ?_
            rotate_left
            · (intro w hSw; (try dsimp only at hSw); (try go_split_ands); go_simp; (try (with_reducible rfl)))
            go_frame
            refine hd_take_l (i := 10) (v := ?_) ok rfl (by decide) (by kernel_rfl) (by kernel_rfl) (fun _ _ _ h => h) (Or.inl ⟨by kernel_rfl, ?_⟩) ?_
            rotate_left
            · (intro w hSw; (try dsimp only at hSw); (try go_split_ands); go_simp; (try (with_reducible rfl)))
            go_frame
            refine hd_take_l (i := 11) (v := ?_) ok rfl (by decide) (by kernel_rfl) (by kernel_rfl) (fun _ _ _ h => h) (Or.inl ⟨by kernel_rfl, ?_⟩) ?_
            rotate_left
            · (intro w hSw; (try dsimp only at hSw); (try go_split_ands); go_simp; (try (with_reducible rfl)))
            go_frame
            refine hd_take_l (i := 12) (v := ?_) ok rfl (by decide) (by kernel_rfl) (by kernel_rfl) (fun _ _ _ h => h) (Or.inl ⟨by kernel_rfl, ?_⟩) ?_
            rotate_left
            · (intro w hSw; (try dsimp only at hSw); (try go_split_ands); go_simp; (try (with_reducible rfl)))
            go_frame
            refine hd_take_l (i := 14) (v := ?_) ok rfl (by decide) (by kernel_rfl) (by kernel_rfl) (fun _ _ _ h => h) (Or.inl ⟨by kernel_rfl, ?_⟩) ?_
            rotate_left
            · (intro w hSw; (try dsimp only at hSw); (try go_split_ands); go_simp; (try (with_reducible rfl)))
            go_frame
            refine hd_take_l (i := 15) (v := ?_) ok rfl (by decide) (by kernel_rfl) (by kernel_rfl) (fun _ _ _ h => h) (Or.inl ⟨by kernel_rfl, ?_⟩) ?_
            rotate_left
            · (intro w hSw; (try dsimp only at hSw); (try go_split_ands); go_simp; (try (with_reducible rfl)))
            go_frame
            refine hd_take_l (i := 16) (v := ?_) ok rfl (by decide) (by kernel_rfl) (by kernel_rfl) (fun _ _ _ h => h) (Or.inl ⟨by kernel_rfl, ?_⟩) ?_
            rotate_left
            · (intro w hSw; (try dsimp only at hSw); (try go_split_ands); go_simp; (try (with_reducible rfl)))
            go_frame
            refine hd_only_l (c := 13) rfl (by decide) (by kernel_rfl) (fun K hK => ?_)
            go_simp
            go_at_call 24
            refine (E1.out _ Y11v3.out.cub N11v3.out.ints).mono ?_
            rintro e w113 h13
            obtain ⟨ta13, tc13, ua13, uc13, f13, g13, rfl, ho13, hb13⟩ := YRet.fix h13 ES.out.len ES.out.olen
            (try simp only [])
            refine hK _ _ (by refine ⟨?_, ?_, ?_, ?_, ?_, ?_, ?_, ?_⟩ <;> (first | exact cell_later hb13 zX110 | exact cell_later hb13 zX111 | exact cell_later hb13 zX112 | exact cell_later hb13 zY110 | exact cell_later hb13 zY111 | exact cell_later hb13 zZ110 | exact cell_later hb13 zZ111 | exact cell_later hb13 zL110)) ?_
            clear hK K
            (try go_frame)
            have X11v4 := Lib.hid (X11v3.out.keep (Chg.dk hb13)); have Y11v4 := Lib.hid (Y11v3.out.keep (Chg.dk hb13)); have Z11v4 := Lib.hid (Z11v3.out.keep (Chg.dk hb13)); have L11v4 := Lib.hid (L11v3.out.keep (Chg.dk hb13)); have N11v4 := Lib.hid (N11v3.out.keep (Chg.dk hb13))
            have CFv4 := Lib.hid (CFv3.out.tr hb13); have LDv4 := Lib.hid (Nat.lt_of_lt_of_le LDv3.out hb13.size)
            (try have HO3 := Lib.hid (YCub.k_below hb13 HO3.out))
            (try have HO7 := Lib.hid (YCub.k_below hb13 HO7.out))
            have HO13 := Lib.hid (ho13.nd LDv3.out)
            clear ho13 h13
            clear hb13 zX110 zX111 zX112 zY110 zY111 zZ110 zZ111 zL110
            have zX110 := X11v4.out.has.cell 0 _ rfl; have zX111 := X11v4.out.has.cell 1 _ rfl; have zX112 := X11v4.out.has.cell 2 _ rfl; have zY110 := Y11v4.out.has.cell 0 _ rfl; have zY111 := Y11v4.out.has.cell 1 _ rfl; have zZ110 := Z11v4.out.has.cell 0 _ rfl; have zZ111 := Z11v4.out.has.cell 1 _ rfl; have zL110 := L11v4.out.has.cell 0 _ rfl
            refine hd_only_l (c := 17) rfl (by decide) (by kernel_rfl) (fun K hK => ?_)
            go_simp
            go_at_call 34
            refine (E2.out _ Y11v4.out.cub N11v4.out.ints).mono ?_
            rintro e w117 h17
            obtain ⟨ta17, tc17, ua17, uc17, f17, g17, rfl, ho17, hb17⟩ := YRet.fix h17 ES.out.len ES.out.olen
            (try simp only [])
            refine hK _ _ (by refine ⟨?_, ?_, ?_, ?_, ?_, ?_, ?_, ?_⟩ <;> (first | exact cell_later hb17 zX110 | exact cell_later hb17 zX111 | exact cell_later hb17 zX112 | exact cell_later hb17 zY110 | exact cell_later hb17 zY111 | exact cell_later hb17 zZ110 | exact cell_later hb17 zZ111 | exact cell_later hb17 zL110)) ?_
            clear hK K
            (try go_frame)
            have X11v5 := Lib.hid (X11v4.out.keep (Chg.dk hb17)); have Y11v5 := Lib.hid (Y11v4.out.keep (Chg.dk hb17)); have Z11v5 := Lib.hid (Z11v4.out.keep (Chg.dk hb17)); have L11v5 := Lib.hid (L11v4.out.keep (Chg.dk hb17)); have N11v5 := Lib.hid (N11v4.out.keep (Chg.dk hb17))
            have CFv5 := Lib.hid (CFv4.out.tr hb17); have LDv5 := Lib.hid (Nat.lt_of_lt_of_le LDv4.out hb17.size)
            (try have HO3 := Lib.hid (YCub.k_below hb17 HO3.out))
            (try have HO7 := Lib.hid (YCub.k_below hb17 HO7.out))
            (try have HO13 := Lib.hid (YCub.k_below hb17 HO13.out))
            have HO17 := Lib.hid (ho17.nd LDv4.out)
            clear ho17 h17
            clear hb17 zX110 zX111 zX112 zY110 zY111 zZ110 zZ111 zL110
            have zX110 := X11v5.out.has.cell 0 _ rfl; have zX111 := X11v5.out.has.cell 1 _ rfl; have zX112 := X11v5.out.has.cell 2 _ rfl; have zY110 := Y11v5.out.has.cell 0 _ rfl; have zY111 := Y11v5.out.has.cell 1 _ rfl; have zZ110 := Z11v5.out.has.cell 0 _ rfl; have zZ111 := Z11v5.out.has.cell 1 _ rfl; have zL110 := L11v5.out.has.cell 0 _ rfl
            refine hd_only_l (c := 18) rfl (by decide) (by kernel_rfl) (fun K hK => ?_)
            go_simp
            go_at_call 20
            refine (rysame_yes (Nd w.heap.size) (Nd w.heap.size) ta13 ta17 ua13 ua17 S tc13 S tc17 S uc13 S uc17 _ _ _ HO13.out HO17.out).mono ?_
            rintro e w118 ⟨rfl, hb18⟩
            (try simp only [])
            refine hK _ _ (by refine ⟨?_, ?_, ?_, ?_, ?_, ?_, ?_, ?_⟩ <;> (first | exact cell_later hb18 zX110 | exact cell_later hb18 zX111 | exact cell_later hb18 zX112 | exact cell_later hb18 zY110 | exact cell_later hb18 zY111 | exact cell_later hb18 zZ110 | exact cell_later hb18 zZ111 | exact cell_later hb18 zL110)) ?_
            clear hK K
            (try go_frame)
            have X11v6 := Lib.hid (X11v5.out.keep (Chg.dk hb18)); have Y11v6 := Lib.hid (Y11v5.out.keep (Chg.dk hb18)); have Z11v6 := Lib.hid (Z11v5.out.keep (Chg.dk hb18)); have L11v6 := Lib.hid (L11v5.out.keep (Chg.dk hb18)); have N11v6 := Lib.hid (N11v5.out.keep (Chg.dk hb18))
            have CFv6 := Lib.hid (CFv5.out.tr hb18); have LDv6 := Lib.hid (Nat.lt_of_lt_of_le LDv5.out hb18.size)
            (try have HO3 := Lib.hid (YCub.k_below hb18 HO3.out))
            (try have HO7 := Lib.hid (YCub.k_below hb18 HO7.out))
            (try have HO13 := Lib.hid (YCub.k_below hb18 HO13.out))
            (try have HO17 := Lib.hid (YCub.k_below hb18 HO17.out))
            clear hb18 zX110 zX111 zX112 zY110 zY111 zZ110 zZ111 zL110
            have zX110 := X11v6.out.has.cell 0 _ rfl; have zX111 := X11v6.out.has.cell 1 _ rfl; have zX112 := X11v6.out.has.cell 2 _ rfl; have zY110 := Y11v6.out.has.cell 0 _ rfl; have zY111 := Y11v6.out.has.cell 1 _ rfl; have zZ110 := Z11v6.out.has.cell 0 _ rfl; have zZ111 := Z11v6.out.has.cell 1 _ rfl; have zL110 := L11v6.out.has.cell 0 _ rfl
            refine hd_take_l (i := 19) (v := ?_) ok rfl (by decide) (by kernel_rfl) (by kernel_rfl) (fun _ _ _ h => h) (Or.inl ⟨by kernel_rfl, ?_⟩) ?_
            rotate_left
            · (intro w hSw; (try dsimp only at hSw); (try go_split_ands); go_simp; (try (with_reducible rfl)))
            go_frame
            refine hd_take_l (i := 20) (v := ?_) ok rfl (by decide) (by kernel_rfl) (by kernel_rfl) (fun _ _ _ h => h) (Or.inl ⟨by kernel_rfl, ?_⟩) ?_
            rotate_left
            · (intro w hSw; (try dsimp only at hSw); (try go_split_ands); go_simp; (try (with_reducible rfl)))
            go_frame
            refine hd_take_l (i := 21) (v := ?_) ok rfl (by decide) (by kernel_rfl) (by kernel_rfl) (fun _ _ _ h => h) (Or.inl ⟨by kernel_rfl, ?_⟩) ?_
            rotate_left
            · (intro w hSw; (try dsimp only at hSw); (try go_split_ands); go_simp; (try (with_reducible rfl)))
            go_frame
            refine hd_take_l (i := 23) (v := ?_) ok rfl (by decide) (by kernel_rfl) (by kernel_rfl) (fun _ _ _ h => h) (Or.inl ⟨by kernel_rfl, ?_⟩) ?_
            rotate_left
            · (intro w hSw; (try dsimp only at hSw); (try go_split_ands); go_simp; (try (with_reducible rfl)))
            go_frame
            refine hd_only_l (c := 22) rfl (by decide) (by kernel_rfl) (fun K hK => ?_)
            go_simp
            go_at_call 13
            refine (P1.out _).mono ?_
            rintro e w122 h22
            obtain ⟨ta22, tc22, ua22, uc22, f22, g22, rfl, ho22, hb22⟩ := YRet.fix h22 TS.out.len TS.out.olen
            (try simp only [])
            refine hK _ _ (by refine ⟨?_, ?_, ?_, ?_, ?_, ?_, ?_, ?_⟩ <;> (first | exact cell_later hb22 zX110 | exact cell_later hb22 zX111 | exact cell_later hb22 zX112 | exact cell_later hb22 zY110 | exact cell_later hb22 zY111 | exact cell_later hb22 zZ110 | exact cell_later hb22 zZ111 | exact cell_later hb22 zL110)) ?_
            clear hK K
            (try go_frame)
            have X11v7 := Lib.hid (X11v6.out.keep (Chg.dk hb22)); have Y11v7 := Lib.hid (Y11v6.out.keep (Chg.dk hb22)); have Z11v7 := Lib.hid (Z11v6.out.keep (Chg.dk hb22)); have L11v7 := Lib.hid (L11v6.out.keep (Chg.dk hb22)); have N11v7 := Lib.hid (N11v6.out.keep (Chg.dk hb22))
            have CFv7 := Lib.hid (CFv6.out.tr hb22); have LDv7 := Lib.hid (Nat.lt_of_lt_of_le LDv6.out hb22.size)
            (try have HO3 := Lib.hid (YCub.k_below hb22 HO3.out))
            (try have HO7 := Lib.hid (YCub.k_below hb22 HO7.out))
            (try have HO13 := Lib.hid (YCub.k_below hb22 HO13.out))
            (try have HO17 := Lib.hid (YCub.k_below hb22 HO17.out))
            have HO22 := Lib.hid (ho22.nd LDv6.out)
            clear ho22 h22
            clear hb22 zX110 zX111 zX112 zY110 zY111 zZ110 zZ111 zL110
            have zX110 := X11v7.out.has.cell 0 _ rfl; have zX111 := X11v7.out.has.cell 1 _ rfl; have zX112 := X11v7.out.has.cell 2 _ rfl; have zY110 := Y11v7.out.has.cell 0 _ rfl; have zY111 := Y11v7.out.has.cell 1 _ rfl; have zZ110 := Z11v7.out.has.cell 0 _ rfl; have zZ111 := Z11v7.out.has.cell 1 _ rfl; have zL110 := L11v7.out.has.cell 0 _ rfl
            refine hd_only_l (c := 24) rfl (by decide) (by kernel_rfl) (fun K hK => ?_)
            go_simp
            go_at_call 35
            refine (P2.out _).mono ?_
            rintro e w124 h24
            obtain ⟨ta24, tc24, ua24, uc24, f24, g24, rfl, ho24, hb24⟩ := YRet.fix h24 TS.out.len TS.out.olen
            (try simp only [])
            refine hK _ _ (by refine ⟨?_, ?_, ?_, ?_, ?_, ?_, ?_, ?_⟩ <;> (first | exact cell_later hb24 zX110 | exact cell_later hb24 zX111 | exact cell_later hb24 zX112 | exact cell_later hb24 zY110 | exact cell_later hb24 zY111 | exact cell_later hb24 zZ110 | exact cell_later hb24 zZ111 | exact cell_later hb24 zL110)) ?_
            clear hK K
            (try go_frame)
            have X11v8 := Lib.hid (X11v7.out.keep (Chg.dk hb24)); have Y11v8 := Lib.hid (Y11v7.out.keep (Chg.dk hb24)); have Z11v8 := Lib.hid (Z11v7.out.keep (Chg.dk hb24)); have L11v8 := Lib.hid (L11v7.out.keep (Chg.dk hb24)); have N11v8 := Lib.hid (N11v7.out.keep (Chg.dk hb24))
            have CFv8 := Lib.hid (CFv7.out.tr hb24); have LDv8 := Lib.hid (Nat.lt_of_lt_of_le LDv7.out hb24.size)
            (try have HO3 := Lib.hid (YCub.k_below hb24 HO3.out))
            (try have HO7 := Lib.hid (YCub.k_below hb24 HO7.out))
            (try have HO13 := Lib.hid (YCub.k_below hb24 HO13.out))
            (try have HO17 := Lib.hid (YCub.k_below hb24 HO17.out))
            (try have HO22 := Lib.hid (YCub.k_below hb24 HO22.out))
            have HO24 := Lib.hid (ho24.nd LDv7.out)
            clear ho24 h24
            clear hb24 zX110 zX111 zX112 zY110 zY111 zZ110 zZ111 zL110
            have zX110 := X11v8.out.has.cell 0 _ rfl; have zX111 := X11v8.out.has.cell 1 _ rfl; have zX112 := X11v8.out.has.cell 2 _ rfl; have zY110 := Y11v8.out.has.cell 0 _ rfl; have zY111 := Y11v8.out.has.cell 1 _ rfl; have zZ110 := Z11v8.out.has.cell 0 _ rfl; have zZ111 := Z11v8.out.has.cell 1 _ rfl; have zL110 := L11v8.out.has.cell 0 _ rfl
            refine hd_only_l (c := 25) rfl (by decide) (by kernel_rfl) (fun K hK => ?_)
            go_simp
            go_at_call 20
            refine (rysame_yes (Nd w.heap.size) (Nd w.heap.size) ta22 ta24 ua22 ua24 S tc22 S tc24 S uc22 S uc24 _ _ _ HO22.out HO24.out).mono ?_
            rintro e w125 ⟨rfl, hb25⟩
            (try simp only [])
            refine hK _ _ (by refine ⟨?_, ?_, ?_, ?_, ?_, ?_, ?_, ?_⟩ <;> (first | exact cell_later hb25 zX110 | exact cell_later hb25 zX111 | exact cell_later hb25 zX112 | exact cell_later hb25 zY110 | exact cell_later hb25 zY111 | exact cell_later hb25 zZ110 | exact cell_later hb25 zZ111 | exact cell_later hb25 zL110)) ?_
            clear hK K
            (try go_frame)
            have X11v9 := Lib.hid (X11v8.out.keep (Chg.dk hb25)); have Y11v9 := Lib.hid (Y11v8.out.keep (Chg.dk hb25)); have Z11v9 := Lib.hid (Z11v8.out.keep (Chg.dk hb25)); have L11v9 := Lib.hid (L11v8.out.keep (Chg.dk hb25)); have N11v9 := Lib.hid (N11v8.out.keep (Chg.dk hb25))
            have CFv9 := Lib.hid (CFv8.out.tr hb25); have LDv9 := Lib.hid (Nat.lt_of_lt_of_le LDv8.out hb25.size)
            (try have HO3 := Lib.hid (YCub.k_below hb25 HO3.out))
            (try have HO7 := Lib.hid (YCub.k_below hb25 HO7.out))
            (try have HO13 := Lib.hid (YCub.k_below hb25 HO13.out))
            (try have HO17 := Lib.hid (YCub.k_below hb25 HO17.out))
            (try have HO22 := Lib.hid (YCub.k_below hb25 HO22.out))
            (try have HO24 := Lib.hid (YCub.k_below hb25 HO24.out))
            clear hb25 zX110 zX111 zX112 zY110 zY111 zZ110 zZ111 zL110
            have zX110 := X11v9.out.has.cell 0 _ rfl; have zX111 := X11v9.out.has.cell 1 _ rfl; have zX112 := X11v9.out.has.cell 2 _ rfl; have zY110 := Y11v9.out.has.cell 0 _ rfl; have zY111 := Y11v9.out.has.cell 1 _ rfl; have zZ110 := Z11v9.out.has.cell 0 _ rfl; have zZ111 := Z11v9.out.has.cell 1 _ rfl; have zL110 := L11v9.out.has.cell 0 _ rfl
            refine hd_take_l (i := 26) (v := ?_) ok rfl (by decide) (by kernel_rfl) (by kernel_rfl) (fun _ _ _ h => h) (Or.inl ⟨by kernel_rfl, ?_⟩) ?_
            rotate_left
            · (intro w hSw; (try dsimp only at hSw); (try go_split_ands); go_simp; (try (with_reducible rfl)))
            go_frame
            refine hd_take_l (i := 27) (v := ?_) ok rfl (by decide) (by kernel_rfl) (by kernel_rfl) (fun _ _ _ h => h) (Or.inl ⟨by kernel_rfl, ?_⟩) ?_
            rotate_left
            · (intro w hSw; (try dsimp only at hSw); (try go_split_ands); go_simp; (try (with_reducible rfl)))
            go_frame
            refine hd_take_l (i := 28) (v := ?_) ok rfl (by decide) (by kernel_rfl) (by kernel_rfl) (fun _ _ _ h => h) (Or.inl ⟨by kernel_rfl, ?_⟩) ?_
            rotate_left
            · (intro w hSw; (try dsimp only at hSw); (try go_split_ands); go_simp; (try (with_reducible rfl)))
            go_frame
            refine hd_take_l (i := 29) (v := ?_) ok rfl (by decide) (by kernel_rfl) (by kernel_rfl) (fun _ _ _ h => h) (Or.inl ⟨by kernel_rfl, ?_⟩) ?_
            rotate_left
            · (intro w hSw; (try dsimp only at hSw); (try go_split_ands); go_simp; (try (with_reducible rfl)))
            go_frame
            refine hd_take_l (i := 31) (v := ?_) ok rfl (by decide) (by kernel_rfl) (by kernel_rfl) (fun _ _ _ h => h) (Or.inl ⟨by kernel_rfl, ?_⟩) ?_
            rotate_left
            · (intro w hSw; (try dsimp only at hSw); (try go_split_ands); go_simp; (try (with_reducible rfl)))
            go_frame
            refine hd_take_l (i := 32) (v := ?_) ok rfl (by decide) (by kernel_rfl) (by kernel_rfl) (fun _ _ _ h => h) (Or.inl ⟨by kernel_rfl, ?_⟩) ?_
            rotate_left
            · (intro w hSw; (try dsimp only at hSw); (try go_split_ands); go_simp; (try (with_reducible rfl)))
            go_frame
            refine hd_only_l (c := 30) rfl (by decide) (by kernel_rfl) (fun K hK => ?_)
            go_simp
            go_at_call 22
            refine (O1.out _ L11v9.out.mat).mono ?_
            rintro e w130 h30
            obtain ⟨ta30, tc30, ua30, uc30, f30, g30, rfl, ho30, hb30⟩ := YRet.fix h30 OL.out OLo.out
            (try simp only [])
            refine hK _ _ (by refine ⟨?_, ?_, ?_, ?_, ?_, ?_, ?_, ?_⟩ <;> (first | exact cell_later hb30 zX110 | exact cell_later hb30 zX111 | exact cell_later hb30 zX112 | exact cell_later hb30 zY110 | exact cell_later hb30 zY111 | exact cell_later hb30 zZ110 | exact cell_later hb30 zZ111 | exact cell_later hb30 zL110)) ?_
            clear hK K
            (try go_frame)
            have X11v10 := Lib.hid (X11v9.out.keep (Chg.dk hb30)); have Y11v10 := Lib.hid (Y11v9.out.keep (Chg.dk hb30)); have Z11v10 := Lib.hid (Z11v9.out.keep (Chg.dk hb30)); have L11v10 := Lib.hid (L11v9.out.keep (Chg.dk hb30)); have N11v10 := Lib.hid (N11v9.out.keep (Chg.dk hb30))
            have CFv10 := Lib.hid (CFv9.out.tr hb30); have LDv10 := Lib.hid (Nat.lt_of_lt_of_le LDv9.out hb30.size)
            (try have HO3 := Lib.hid (YCub.k_below hb30 HO3.out))
            (try have HO7 := Lib.hid (YCub.k_below hb30 HO7.out))
            (try have HO13 := Lib.hid (YCub.k_below hb30 HO13.out))
            (try have HO17 := Lib.hid (YCub.k_below hb30 HO17.out))
            (try have HO22 := Lib.hid (YCub.k_below hb30 HO22.out))
            (try have HO24 := Lib.hid (YCub.k_below hb30 HO24.out))
            have HO30 := Lib.hid (ho30.nd LDv9.out)
            clear ho30 h30
            clear hb30 zX110 zX111 zX112 zY110 zY111 zZ110 zZ111 zL110
            have zX110 := X11v10.out.has.cell 0 _ rfl; have zX111 := X11v10.out.has.cell 1 _ rfl; have zX112 := X11v10.out.has.cell 2 _ rfl; have zY110 := Y11v10.out.has.cell 0 _ rfl; have zY111 := Y11v10.out.has.cell 1 _ rfl; have zZ110 := Z11v10.out.has.cell 0 _ rfl; have zZ111 := Z11v10.out.has.cell 1 _ rfl; have zL110 := L11v10.out.has.cell 0 _ rfl
            refine hd_only_l (c := 33) rfl (by decide) (by kernel_rfl) (fun K hK => ?_)
            go_simp
            go_at_call 36
            refine (O2.out _ L11v10.out.mat).mono ?_
            rintro e w133 h33
            obtain ⟨ta33, tc33, ua33, uc33, f33, g33, rfl, ho33, hb33⟩ := YRet.fix h33 OL.out OLo.out
            (try simp only [])
            refine hK _ _ (by refine ⟨?_, ?_, ?_, ?_, ?_, ?_, ?_, ?_⟩ <;> (first | exact cell_later hb33 zX110 | exact cell_later hb33 zX111 | exact cell_later hb33 zX112 | exact cell_later hb33 zY110 | exact cell_later hb33 zY111 | exact cell_later hb33 zZ110 | exact cell_later hb33 zZ111 | exact cell_later hb33 zL110)) ?_
            clear hK K
            (try go_frame)
            have X11v11 := Lib.hid (X11v10.out.keep (Chg.dk hb33)); have Y11v11 := Lib.hid (Y11v10.out.keep (Chg.dk hb33)); have Z11v11 := Lib.hid (Z11v10.out.keep (Chg.dk hb33)); have L11v11 := Lib.hid (L11v10.out.keep (Chg.dk hb33)); have N11v11 := Lib.hid (N11v10.out.keep (Chg.dk hb33))
            have CFv11 := Lib.hid (CFv10.out.tr hb33); have LDv11 := Lib.hid (Nat.lt_of_lt_of_le LDv10.out hb33.size)
            (try have HO3 := Lib.hid (YCub.k_below hb33 HO3.out))
            (try have HO7 := Lib.hid (YCub.k_below hb33 HO7.out))
            (try have HO13 := Lib.hid (YCub.k_below hb33 HO13.out))
            (try have HO17 := Lib.hid (YCub.k_below hb33 HO17.out))
            (try have HO22 := Lib.hid (YCub.k_below hb33 HO22.out))
            (try have HO24 := Lib.hid (YCub.k_below hb33 HO24.out))
            (try have HO30 := Lib.hid (YCub.k_below hb33 HO30.out))
            have HO33 := Lib.hid (ho33.nd LDv10.out)
            clear ho33 h33
            clear hb33 zX110 zX111 zX112 zY110 zY111 zZ110 zZ111 zL110
            have zX110 := X11v11.out.has.cell 0 _ rfl; have zX111 := X11v11.out.has.cell 1 _ rfl; have zX112 := X11v11.out.has.cell 2 _ rfl; have zY110 := Y11v11.out.has.cell 0 _ rfl; have zY111 := Y11v11.out.has.cell 1 _ rfl; have zZ110 := Z11v11.out.has.cell 0 _ rfl; have zZ111 := Z11v11.out.has.cell 1 _ rfl; have zL110 := L11v11.out.has.cell 0 _ rfl
            refine hd_only_l (c := 34) rfl (by decide) (by kernel_rfl) (fun K hK => ?_)
            go_simp
            go_at_call 20
            refine (rysame_yes (Nd w.heap.size) (Nd w.heap.size) ta30 ta33 ua30 ua33 S tc30 S tc33 S uc30 S uc33 _ _ _ HO30.out HO33.out).mono ?_
            rintro e w134 ⟨rfl, hb34⟩
            (try simp only [])
            refine hK _ _ (by refine ⟨?_, ?_, ?_, ?_, ?_, ?_, ?_, ?_⟩ <;> (first | exact cell_later hb34 zX110 | exact cell_later hb34 zX111 | exact cell_later hb34 zX112 | exact cell_later hb34 zY110 | exact cell_later hb34 zY111 | exact cell_later hb34 zZ110 | exact cell_later hb34 zZ111 | exact cell_later hb34 zL110)) ?_
            clear hK K
            (try go_frame)
            have X11v12 := Lib.hid (X11v11.out.keep (Chg.dk hb34)); have Y11v12 := Lib.hid (Y11v11.out.keep (Chg.dk hb34)); have Z11v12 := Lib.hid (Z11v11.out.keep (Chg.dk hb34)); have L11v12 := Lib.hid (L11v11.out.keep (Chg.dk hb34)); have N11v12 := Lib.hid (N11v11.out.keep (Chg.dk hb34))
            have CFv12 := Lib.hid (CFv11.out.tr hb34); have LDv12 := Lib.hid (Nat.lt_of_lt_of_le LDv11.out hb34.size)
            (try have HO3 := Lib.hid (YCub.k_below hb34 HO3.out))
            (try have HO7 := Lib.hid (YCub.k_below hb34 HO7.out))
            (try have HO13 := Lib.hid (YCub.k_below hb34 HO13.out))
            (try have HO17 := Lib.hid (YCub.k_below hb34 HO17.out))
            (try have HO22 := Lib.hid (YCub.k_below hb34 HO22.out))
            (try have HO24 := Lib.hid (YCub.k_below hb34 HO24.out))
            (try have HO30 := Lib.hid (YCub.k_below hb34 HO30.out))
            (try have HO33 := Lib.hid (YCub.k_below hb34 HO33.out))
            clear hb34 zX110 zX111 zX112 zY110 zY111 zZ110 zZ111 zL110
            have zX110 := X11v12.out.has.cell 0 _ rfl; have zX111 := X11v12.out.has.cell 1 _ rfl; have zX112 := X11v12.out.has.cell 2 _ rfl; have zY110 := Y11v12.out.has.cell 0 _ rfl; have zY111 := Y11v12.out.has.cell 1 _ rfl; have zZ110 := Z11v12.out.has.cell 0 _ rfl; have zZ111 := Z11v12.out.has.cell 1 _ rfl; have zL110 := L11v12.out.has.cell 0 _ rfl
            refine hd_take_l (i := 35) (v := ?_) ok rfl (by decide) (by kernel_rfl) (by kernel_rfl) (fun _ _ _ h => h) (Or.inl ⟨by kernel_rfl, ?_⟩) ?_
            rotate_left
            · (intro w hSw; (try dsimp only at hSw); (try go_split_ands); go_simp; (try (with_reducible rfl)))
            go_frame
            refine hd_take_l (i := 36) (v := ?_) ok rfl (by decide) (by kernel_rfl) (by kernel_rfl) (fun _ _ _ h => h) (Or.inl ⟨by kernel_rfl, ?_⟩) ?_
            rotate_left
            · (intro w hSw; (try dsimp only at hSw); (try go_split_ands); go_simp; (try (with_reducible rfl)))
            go_frame
            refine hd_only_l (c := 37) rfl (by decide) (by kernel_rfl) (fun K hK => ?_)
            go_simp
            go_at_call 10
            refine (awake_any _).mono ?_
            rintro e w137 ⟨rfl, hb37⟩
            (try simp only [])
            refine hK _ _ (by refine ⟨?_, ?_, ?_, ?_, ?_, ?_, ?_, ?_⟩ <;> (first | exact cell_later hb37 zX110 | exact cell_later hb37 zX111 | exact cell_later hb37 zX112 | exact cell_later hb37 zY110 | exact cell_later hb37 zY111 | exact cell_later hb37 zZ110 | exact cell_later hb37 zZ111 | exact cell_later hb37 zL110)) ?_
            clear hK K
            (try go_frame)
            have X11v13 := Lib.hid (X11v12.out.keep (Chg.dk hb37)); have Y11v13 := Lib.hid (Y11v12.out.keep (Chg.dk hb37)); have Z11v13 := Lib.hid (Z11v12.out.keep (Chg.dk hb37)); have L11v13 := Lib.hid (L11v12.out.keep (Chg.dk hb37)); have N11v13 := Lib.hid (N11v12.out.keep (Chg.dk hb37))
            have CFv13 := Lib.hid (CFv12.out.tr hb37); have LDv13 := Lib.hid (Nat.lt_of_lt_of_le LDv12.out hb37.size)
            (try have HO3 := Lib.hid (YCub.k_below hb37 HO3.out))
            (try have HO7 := Lib.hid (YCub.k_below hb37 HO7.out))
            (try have HO13 := Lib.hid (YCub.k_below hb37 HO13.out))
            (try have HO17 := Lib.hid (YCub.k_below hb37 HO17.out))
            (try have HO22 := Lib.hid (YCub.k_below hb37 HO22.out))
            (try have HO24 := Lib.hid (YCub.k_below hb37 HO24.out))
            (try have HO30 := Lib.hid (YCub.k_below hb37 HO30.out))
            (try have HO33 := Lib.hid (YCub.k_below hb37 HO33.out))
            clear hb37 zX110 zX111 zX112 zY110 zY111 zZ110 zZ111 zL110
            have zX110 := X11v13.out.has.cell 0 _ rfl; have zX111 := X11v13.out.has.cell 1 _ rfl; have zX112 := X11v13.out.has.cell 2 _ rfl; have zY110 := Y11v13.out.has.cell 0 _ rfl; have zY111 := Y11v13.out.has.cell 1 _ rfl; have zZ110 := Z11v13.out.has.cell 0 _ rfl; have zZ111 := Z11v13.out.has.cell 1 _ rfl; have zL110 := L11v13.out.has.cell 0 _ rfl
            clear ok zX110 zX111 zX112 zY110 zY111 zZ110 zZ111 zL110
            refine hd_done (by kernel_rfl) ?_
            simp only [List.drop_succ_cons, List.drop_zero]
            go_wp2
            go_ret
            exact ⟨rfl, (BO.out.trans (Below.mono (Chg.below (M := Ge w.heap.size) CFv13.out (fun j hj h => by unfold Ge at h; omega) (Nat.le_refl _)) SO.out))⟩
end Go.Proofs.Ytlpelpjcbclemaa
