/-
  timeboundlaw25.MayLeast returns true, whatever its list is. No condition. Printed by mkLawMa.py.
-/
import Derived.Deep.DeepCutAuto
import Derived.Test.YtlpelpjcbclemaaMbC
import Derived.Test.YtlpelpjcbclemaaMaN
namespace Go.Proofs.Ytlpelpjcbclemaa
open Go.RowKit

set_option maxRecDepth 100000 in
set_option maxHeartbeats 8000000 in
theorem mleast_law (a0 : Option Addr) (len0 cap0 : Nat) (z0 : List Int) (w : World) (w0 : IsRow .i64 w a0 len0 cap0 z0) :
    Calls Try.prog 5 #[.slice a0 len0 cap0] w fun e w' => e = .returned (.bool true) ∧ Below w.heap.size w w' := by
  have W0 := Lib.hid w0
  clear w0
  go_enter Try.func5, Try.ntmps5
  go_wp2_with fail
  refine (new_any a0 len0 cap0 z0 _ W0.out).mono ?_
  rintro e w2 ⟨rfl, hd2, hb2⟩
  have D2 := Lib.hid hd2; have C2 := Lib.hid (Chg.of_below (M := Ge w.heap.size) hb2); clear hd2 hb2
  go_wp2_with fail
  refine (m2cache_any w.heap.size _ D2.out).mono ?_
  rintro e w3 ⟨S, W, L, rfl, g1, g2, g3, g4, g5, hd3, hc3⟩
  have hC := Lib.hid (show COk S W L from ⟨by omega, by omega, by omega, by omega, by omega, by omega⟩)
  have WP := Lib.hid (show 0 < W by omega)
  have D3 := Lib.hid (Deck.k_alloc (o := .cells #[.int .i64 S, .int .i64 W, .int .i64 L] 26) hd3)
  have C3 := Lib.hid ((C2.out.gt hc3 (Nat.le_refl _)).alloc (.cells #[.int .i64 S, .int .i64 W, .int .i64 L] 26))
  have X3 := Lib.hid (CVar.new (d := w.heap.size) (S := S) (W := W) (L := L) (w := w3) hd3.lt)
  have L3 := Lib.hid hd3.lt
  clear hd3 hc3 D2 C2
  have c0 := X3.out.has.cell 0 _ rfl; have c1 := X3.out.has.cell 1 _ rfl; have c2 := X3.out.has.cell 2 _ rfl; have lx := X3.out.lt
  go_upto_region 3 with fail
  obtain ⟨wv, hwv⟩ : ∃ wv : World, wv = w3.alloc (.cells #[.int .i64 S, .int .i64 W, .int .i64 L] 26) := ⟨_, rfl⟩
  rw [← hwv] at X3 C3 D3 c0 c1 c2 lx ⊢
  clear hwv
  have ld := D3.out.lt
  have D0 := D3
  go_cut [5, 6] (fun s5 s6 wx => ∃ U V m o q r b1 a1 k1 i1 l1 b2 a2 k2 i2 l2, s5 = .pointer (some ⟨b1, 0, none⟩) ∧ s6 = .pointer (some ⟨b2, 0, none⟩) ∧ YSt U S W m o ∧ U.length ≤ 43 ∧ YSt V S W q r ∧ V.length ≤ 43 ∧ SVar w.heap.size S b1 a1 k1 i1 l1 m o wx ∧ SVar w.heap.size S b2 a2 k2 i2 l2 q r wx ∧ Chg (fun k => k = w.heap.size) wv wx ∧ Deck wx w.heap.size)
  case first =>
    as_aux_lemma =>
      have hC0 := hC
      have nx := X3.out.ne
      refine hd_start 8 (fun w' => w'.cell? ⟨w3.heap.size, 0, none⟩ = some (.int .i64 S) ∧ w'.cell? ⟨w3.heap.size, 1, none⟩ = some (.int .i64 W) ∧ w'.cell? ⟨w3.heap.size, 2, none⟩ = some (.int .i64 L)) (by kernel_rfl) ⟨by kernel_rfl, by kernel_rfl, by kernel_rfl, by decide⟩ ⟨c0, c1, c2⟩ (fun ok => ?_)
      refine hd_take_l (i := 0) (v := ?_) ok rfl (by decide) (by kernel_rfl) (by kernel_rfl) (fun _ _ _ h => h) (Or.inl ⟨by kernel_rfl, ?_⟩) ?_
      rotate_left
      · (intro w hSw; (try dsimp only at hSw); (try go_split_ands); go_simp; (try (with_reducible rfl)))
      go_frame
      refine hd_take_l (i := 1) (v := ?_) ok rfl (by decide) (by kernel_rfl) (by kernel_rfl) (fun _ _ _ h => h) (Or.inl ⟨by kernel_rfl, ?_⟩) ?_
      rotate_left
      · (intro w hSw; (try dsimp only at hSw); (try go_split_ands); go_simp; (try (with_reducible rfl)))
      go_frame
      refine hd_take_l (i := 3) (v := ?_) ok rfl (by decide) (by kernel_rfl) (by kernel_rfl) (fun _ _ _ h => h) (Or.inl ⟨by kernel_rfl, ?_⟩) ?_
      rotate_left
      · (intro w hSw; (try dsimp only at hSw); (try go_split_ands); go_simp; (try (with_reducible rfl)))
      go_frame
      refine hd_take_l (i := 4) (v := ?_) ok rfl (by decide) (by kernel_rfl) (by kernel_rfl) (fun _ _ _ h => h) (Or.inl ⟨by kernel_rfl, ?_⟩) ?_
      rotate_left
      · (intro w hSw; (try dsimp only at hSw); (try go_split_ands); go_simp; (try (with_reducible rfl)))
      go_frame
      refine hd_inv_p [(15, 2), (18, 5), (5, 6), (6, 7)] (fun _ => undef) (fun b v w' => (Chg (fun k => k = w.heap.size) wv w' ∧ Deck w' w.heap.size) ∧ ∃ A C A' C' xq yq : Nat, (b 2 = true → StP w.heap.size S w' A C (v 2) (fun m' o' => ∃ U : List Int, YSt U S W m' o' ∧ U.length ≤ 43)) ∧ (b 5 = true → StP w.heap.size S w' A' C' (v 5) (fun m' o' => ∃ U : List Int, YSt U S W m' o' ∧ U.length ≤ 43)) ∧ (b 6 = true → VarP w.heap.size wv w' xq (v 6)) ∧ (b 7 = true → VarP w.heap.size wv w' yq (v 7)) ∧ (b 6 = true → b 7 = true → xq ≠ yq) ∧ (b 2 = true → b 6 = true → xq < A ∨ C ≤ xq) ∧ (b 2 = true → b 7 = true → yq < A ∨ C ≤ yq) ∧ (b 5 = true → b 6 = true → xq < A' ∨ C' ≤ xq) ∧ (b 5 = true → b 7 = true → yq < A' ∨ C' ≤ yq)) (.inl ok) ⟨by decide, by decide, by kernel_rfl, rfl⟩ (by kernel_rfl) (by kernel_rfl) (by decide) ⟨⟨Chg.dkd _, D0.out.k_drew⟩, 0, 0, 0, 0, 0, 0, (fun h => by cases h), (fun h => by cases h), (fun h => by cases h), (fun h => by cases h), (fun h _ => by cases h), (fun h _ => by cases h), (fun h _ => by cases h), (fun h _ => by cases h), (fun h _ => by cases h)⟩ ?_ ?_
      · intro i oi hi ho b v a w' hJ hv hr hb hdep hS K hK
        obtain ⟨⟨hC, hD⟩, A, C, A', C', xq, yq, j1, j2, j3, j4, j34, j13, j14, j23, j24⟩ := hJ
        have hCs := hC.size
        have hdw : w.heap.size < w'.heap.size := by omega
        have hi4 : i = 2 ∨ i = 5 ∨ i = 6 ∨ i = 7 := by simpa using hi
        rcases hi4 with rfl | rfl | rfl | rfl
        · obtain rfl := Option.some.inj ho
          try dsimp only at hS
          obtain ⟨s0, s1, s2⟩ := hS
          have e13 : a.tmps[13]?.getD undef = .pointer (some ⟨w.heap.size, 0, none⟩) := (get_eval a 13).trans (hr 13 (by decide))
          have e14 : a.tmps[14]?.getD undef = CV S W L := (get_eval a 14).trans (hr 14 (by decide))
          go_simp
          (try rw [e13, e14])
          go_at_call 11
          refine (m2may_any S W L hC0.out (by omega) (by omega) w.heap.size _ hD).mono ?_
          rintro e w5 ⟨V5, ta5, tc5, ua5, uc5, f5, g5, q5, r5, rfl, ho5, hm5, hU5, hd5, hc5⟩
          have hk5 : Chg (fun k => k = w.heap.size) w' w5 := hc5
          have z5 := hk5.size
          exact hK _ _ ⟨hk5.cell (by omega) s0, hk5.cell (by omega) s1, hk5.cell (by omega) s2⟩ ⟨⟨hC.dt hk5, hd5⟩, w'.heap.size, w5.heap.size, A', C', xq, yq, fun _ => StP.of ho5 (by omega) ⟨V5, hm5, hU5⟩, fun h => (j2 h).keep hk5, fun h => (j3 h).keep hk5, fun h => (j4 h).keep hk5, j34, fun _ h => .inl (j3 h).2.2.2.2, fun _ h => .inl (j4 h).2.2.2.2, j23, j24⟩
        · obtain rfl := Option.some.inj ho
          try dsimp only at hS
          obtain ⟨s0, s1, s2⟩ := hS
          have e16 : a.tmps[16]?.getD undef = .pointer (some ⟨w.heap.size, 0, none⟩) := (get_eval a 16).trans (hr 16 (by decide))
          have e17 : a.tmps[17]?.getD undef = CV S W L := (get_eval a 17).trans (hr 17 (by decide))
          go_simp
          (try rw [e16, e17])
          go_at_call 11
          refine (m2may_any S W L hC0.out (by omega) (by omega) w.heap.size _ hD).mono ?_
          rintro e w6 ⟨V6, ta6, tc6, ua6, uc6, f6, g6, q6, r6, rfl, ho6, hm6, hU6, hd6, hc6⟩
          have hk6 : Chg (fun k => k = w.heap.size) w' w6 := hc6
          have z6 := hk6.size
          exact hK _ _ ⟨hk6.cell (by omega) s0, hk6.cell (by omega) s1, hk6.cell (by omega) s2⟩ ⟨⟨hC.dt hk6, hd6⟩, A, C, w'.heap.size, w6.heap.size, xq, yq, fun h => (j1 h).keep hk6, fun _ => StP.of ho6 (by omega) ⟨V6, hm6, hU6⟩, fun h => (j3 h).keep hk6, fun h => (j4 h).keep hk6, j34, j13, j14, fun _ h => .inl (j3 h).2.2.2.2, fun _ h => .inl (j4 h).2.2.2.2⟩
        · obtain rfl := Option.some.inj ho
          try dsimp only at hS
          obtain ⟨s0, s1, s2⟩ := hS
          go_simp
          have hk : Chg (fun k => k = w.heap.size) w' (w'.alloc (.cells #[.slice none 0 0, .slice none 0 0] 31)) := Chg.dka _ _
          exact hK _ _ ⟨hk.cell (by omega) s0, hk.cell (by omega) s1, hk.cell (by omega) s2⟩ ⟨⟨hC.dt hk, hD.k_alloc⟩, A, C, A', C', w'.heap.size, yq, fun h => (j1 h).keep hk, fun h => (j2 h).keep hk, fun _ => VarP.new hCs hdw, fun h => (j4 h).keep hk, fun _ h => (by have := (j4 h).2.2.2.2; omega), fun h _ => (by obtain ⟨_, _, _, _, _, _, _, _, q, _⟩ := j1 h; exact .inr q), j14, fun h _ => (by obtain ⟨_, _, _, _, _, _, _, _, q, _⟩ := j2 h; exact .inr q), j24⟩
        · obtain rfl := Option.some.inj ho
          try dsimp only at hS
          obtain ⟨s0, s1, s2⟩ := hS
          go_simp
          have hk : Chg (fun k => k = w.heap.size) w' (w'.alloc (.cells #[.slice none 0 0, .slice none 0 0] 31)) := Chg.dka _ _
          exact hK _ _ ⟨hk.cell (by omega) s0, hk.cell (by omega) s1, hk.cell (by omega) s2⟩ ⟨⟨hC.dt hk, hD.k_alloc⟩, A, C, A', C', xq, w'.heap.size, fun h => (j1 h).keep hk, fun h => (j2 h).keep hk, fun h => (j3 h).keep hk, fun _ => VarP.new hCs hdw, fun h _ => (by have := (j3 h).2.2.2.2; omega), j13, fun h _ => (by obtain ⟨_, _, _, _, _, _, _, _, q, _⟩ := j1 h; exact .inr q), j23, fun h _ => (by obtain ⟨_, _, _, _, _, _, _, _, q, _⟩ := j2 h; exact .inr q)⟩
      · intro b v w' hall hJ hS
        obtain ⟨⟨hC, hD⟩, A, C, A', C', xq, yq, j1, j2, j3, j4, j34, j13, j14, j23, j24⟩ := hJ
        obtain ⟨ta1, tc1, ua1, uc1, m1, o1, hv1, q1, _, dA, V5, hm5, hU5⟩ := j1 (hall 2 (by decide))
        obtain ⟨ta2, tc2, ua2, uc2, m2, o2, hv2, q2, _, dA', V6, hm6, hU6⟩ := j2 (hall 5 (by decide))
        obtain ⟨hv3, x1, x2, x3, x4⟩ := j3 (hall 6 (by decide))
        obtain ⟨hv4, y1, y2, y3, y4⟩ := j4 (hall 7 (by decide))
        have hxy := j34 (hall 6 (by decide)) (hall 7 (by decide)); have p1 := j13 (hall 2 (by decide)) (hall 6 (by decide)); have p2 := j14 (hall 2 (by decide)) (hall 7 (by decide)); have p3 := j23 (hall 5 (by decide)) (hall 6 (by decide)); have p4 := j24 (hall 5 (by decide)) (hall 7 (by decide))
        have TS := Lib.hid (two_stored hC x1 x2 x3 x4 y1 y2 y3 y4 hxy q1 dA q2 dA' p1 p2 p3 p4)
        have HDD := Lib.hid hD
        simp only [putP, hv1, hv2, hv3, hv4]
        clear j1 j2 j3 j4 j34 j13 j14 j23 j24 hall hS ok q1 q2
        have xc0 := x1.cell 0 _ rfl; have xc1 := x1.cell 1 _ rfl; have xf := x1.free; have yc0 := y1.cell 0 _ rfl; have yc1 := y1.cell 1 _ rfl; have yf := y1.free
        clear x1 y1
        go_frame
        refine hd_done (by kernel_rfl) ?_
        simp only [List.drop_succ_cons, List.drop_zero]
        go_wp2_with fail
        go_meet
        exact ⟨V5, V6, _, _, _, _, _, _, _, _, _, _, _, _, _, _, rfl, rfl, hm5, hU5, hm6, hU6, TS.out.1, TS.out.2.1, TS.out.2.2, by repeat (first | (with_reducible exact HDD.out) | (with_reducible refine Deck.k_set (by omega) ?_))⟩
  case rest =>
    obtain ⟨U, V, m, o, q, r, b1, a1, k1, i1, l1, b2, a2, k2, i2, l2, rfl, rfl, hm, hU, hq, hV, v1, v2, hcc, hdd⟩ := hcut
    have HU := Lib.hid hU; have HV := Lib.hid hV
    have HA := Lib.hid (show YSt (U ++ V) S W m o from hm.unionL); have HB := Lib.hid (show YSt (U ++ V) S W q r from hq.union')
    have HU2 := Lib.hid (show (U ++ V).length ≤ 86 by rw [List.length_append]; omega)
    have X4 := Lib.hid (X3.out.keep hcc); have Y4 := Lib.hid v1; have Z4 := Lib.hid v2; have C4 := Lib.hid (C3.out.gt hcc (Nat.le_refl _)); have D4 := Lib.hid hdd
    clear hm hq hU hV v1 v2 hcc hdd c0 c1 c2 lx ld D0 X3 C3 D3
    have c0 := X4.out.has.cell 0 _ rfl; have c1 := X4.out.has.cell 1 _ rfl; have c2 := X4.out.has.cell 2 _ rfl; have lx := X4.out.lt; have y0 := Y4.out.has.cell 0 _ rfl; have y1 := Y4.out.has.cell 1 _ rfl; have ly := Y4.out.lt; have z0 := Z4.out.has.cell 0 _ rfl; have z1 := Z4.out.has.cell 1 _ rfl; have lz := Z4.out.lt
    go_wp2_with fail
    refine (yjoin_any (U ++ V) (by have := HU2.out; omega) S W L hC.out m q o r HA.out HB.out (Nd w.heap.size) (Nd w.heap.size) a1 S k1 i1 S l1 a2 S k2 i2 S l2 _ Y4.out.cub Z4.out.cub).mono ?_
    rintro e w7 h7
    obtain ⟨ja, jc, ia, ic, f7, g7, rfl, ho7, hb7⟩ := YRet.fix h7 joinYm_len joinYo_len
    have X5 := Lib.hid ((X4.out.keep (Chg.dk hb7)).keep (Chg.dka w7 (.cells #[.slice ja S jc, .slice ia S ic] 31)))
    have Y5 := Lib.hid ((Y4.out.keep (Chg.dk hb7)).keep (Chg.dka w7 (.cells #[.slice ja S jc, .slice ia S ic] 31)))
    have Z5 := Lib.hid ((Z4.out.keep (Chg.dk hb7)).keep (Chg.dka w7 (.cells #[.slice ja S jc, .slice ia S ic] 31)))
    have P5 := Lib.hid (SVar.new (d := w.heap.size) (w := w7) (Nat.lt_of_lt_of_le D4.out.lt hb7.size) (ho7.nd D4.out.lt))
    have C5 := Lib.hid ((C4.out.tr hb7).alloc (.cells #[.slice ja S jc, .slice ia S ic] 31))
    have D5 := Lib.hid (Deck.k_alloc (o := .cells #[.slice ja S jc, .slice ia S ic] 31) (D4.out.below hb7 (Nat.le_refl _)))
    clear c0 c1 c2 lx y0 y1 ly z0 z1 lz h7 ho7 hb7 X4 Y4 Z4 C4 D4
    have c0 := X5.out.has.cell 0 _ rfl; have c1 := X5.out.has.cell 1 _ rfl; have c2 := X5.out.has.cell 2 _ rfl; have lx := X5.out.lt; have y0 := Y5.out.has.cell 0 _ rfl; have y1 := Y5.out.has.cell 1 _ rfl; have ly := Y5.out.lt; have z0 := Z5.out.has.cell 0 _ rfl; have z1 := Z5.out.has.cell 1 _ rfl; have lz := Z5.out.lt
    go_upto_region 5 with fail
    obtain ⟨wv, hwv⟩ : ∃ wv : World, wv = w7.alloc (.cells #[.slice ja S jc, .slice ia S ic] 31) := ⟨_, rfl⟩
    rw [← hwv] at X5 Y5 Z5 P5 C5 D5 c0 c1 c2 lx y0 y1 ly z0 z1 lz ⊢
    clear hwv
    have ld := D5.out.lt
    have D0 := D5
    go_cut [8] (fun s8 wx => ∃ R n p b j k i l, s8 = .pointer (some ⟨b, 0, none⟩) ∧ YSt R S W n p ∧ R.length ≤ 43 ∧ SVar w.heap.size S b j k i l (joinYm S W (joinYm S W m o n p) (joinYo S o p) q r) (joinYo S (joinYo S o p) r) wx ∧ Chg (fun k => k = w.heap.size) wv wx)
    case first =>
      as_aux_lemma =>
        have HUo := HU2.out
        have nx := X5.out.ne; have ny := Y5.out.ne; have nz := Z5.out.ne
        go_region_held3 (fun w' => w'.cell? ⟨w3.heap.size, 0, none⟩ = some (.int .i64 S) ∧ w'.cell? ⟨w3.heap.size, 1, none⟩ = some (.int .i64 W) ∧ w'.cell? ⟨w3.heap.size, 2, none⟩ = some (.int .i64 L) ∧ w'.cell? ⟨b1, 0, none⟩ = some (.slice a1 S k1) ∧ w'.cell? ⟨b1, 1, none⟩ = some (.slice i1 S l1) ∧ w'.cell? ⟨b2, 0, none⟩ = some (.slice a2 S k2) ∧ w'.cell? ⟨b2, 1, none⟩ = some (.slice i2 S l2)) (((try dsimp only); (try go_split_ands); (repeat' apply And.intro); all_goals (repeat (first | assumption | (refine cell_later hb10 ?_) | (refine cell_later hb9 ?_) | (refine hc8.cell (by omega) ?_) | (refine cell_alloc (by first | assumption | omega | (simp; omega)) ?_) | (refine cell_set (by omega) ?_) | (refine cell_drew ?_)))))
          (first
            | (go_at_call 11; ((with_reducible refine (m2may_any S W L hC.out (by omega) (by omega) w.heap.size _ (by repeat (first | (with_reducible exact D0.out) | (with_reducible refine Deck.k_drew ?_) | (with_reducible refine Deck.k_alloc ?_)))).mono ?_); rintro e w8 ⟨V8, ta8, tc8, ua8, uc8, f8, g8, q8, r8, rfl, ho8, hm8, hU8, hd8, hc8⟩; have s8 := hc8.size; (try simp only [World.size_alloc, World.size_drew] at s8); have ho8 := ho8.bt; (try simp only [World.size_alloc, World.size_drew] at ho8); (try (refine (have x8_0_0 : Has w8 (wv.heap.size) [.slice none 0 0, .slice none 0 0] := ?_; ?_); (focus ((with_reducible refine Has.k_chg hc8 ?_ ?_ ?_); (focus (first | omega | (simp; done) | (simp; omega))); (focus (first | omega | (simp; done) | (simp; omega))); (repeat (first | (with_reducible refine Has.drew ?_) | ((with_reducible refine Has.k_new2 ?_); (first | rfl | (simp; done))) | ((with_reducible refine Has.k_old ?_ ?_); (focus (first | omega | (simp; done) | (simp; omega)))))); done)); have x8_0_0c := x8_0_0.cell 0 _ rfl; have x8_0_0d := x8_0_0.cell 1 _ rfl; have x8_0_0f := x8_0_0.free; have x8_0_0l := x8_0_0.lt (by simp)))))
            | (go_at_call 16; ((with_reducible refine (yrjoin_any ((U ++ V) ++ V8) (by rw [List.length_append]; omega) S W L hC.out m q8 o r8 HA.out.unionL hm8.union' (Nd w.heap.size) (Nd w.heap.size) a1 S k1 i1 S l1 ta8 S tc8 ua8 S uc8 _ (by repeat (first | (with_reducible exact Y5.out.cub) | (with_reducible refine YCub.k_chg (Chg.dkd _) ?_) | (with_reducible refine YCub.k_chg (Chg.dka _ _) ?_) | (with_reducible refine YCub.k_chg hc8 ?_))) (by repeat (first | (with_reducible exact YCub.ndb (by omega) ho8) | (with_reducible refine YCub.k_chg (Chg.dkd _) ?_) | (with_reducible refine YCub.k_chg (Chg.dka _ _) ?_) ))).mono ?_); rintro e w9 h9; obtain ⟨ta9, tc9, ua9, uc9, f9, g9, rfl, ho9, hb9⟩ := YRet.fix h9 joinYm_len joinYo_len; have s9 := hb9.size; (try simp only [World.size_alloc] at s9); have ho9 := ho9.bt; (try simp only [World.size_alloc] at ho9); (try (refine (have x9_0_0 : Has w9 (wv.heap.size) [.slice none 0 0, .slice none 0 0] := ?_; ?_); (focus ((with_reducible refine Has.k_below hb9 ?_ ?_); (focus (first | omega | (simp; done) | (simp; omega))); (repeat (first | (with_reducible exact x8_0_0) | (with_reducible refine Has.drew ?_) | ((with_reducible refine Has.k_new2 ?_); (first | rfl | (simp; done))) | ((with_reducible refine Has.k_old ?_ ?_); (focus (first | omega | (simp; done) | (simp; omega)))))); done)); have x9_0_0c := x9_0_0.cell 0 _ rfl; have x9_0_0d := x9_0_0.cell 1 _ rfl; have x9_0_0f := x9_0_0.free; have x9_0_0l := x9_0_0.lt (by simp))); (try (refine (have x9_1_0 : Has w9 (w8.heap.size) [.slice none 0 0, .slice none 0 0] := ?_; ?_); (focus ((with_reducible refine Has.k_below hb9 ?_ ?_); (focus (first | omega | (simp; done) | (simp; omega))); (repeat (first | (with_reducible refine Has.drew ?_) | ((with_reducible refine Has.k_new2 ?_); (first | rfl | (simp; done))) | ((with_reducible refine Has.k_old ?_ ?_); (focus (first | omega | (simp; done) | (simp; omega)))))); done)); have x9_1_0c := x9_1_0.cell 0 _ rfl; have x9_1_0d := x9_1_0.cell 1 _ rfl; have x9_1_0f := x9_1_0.free; have x9_1_0l := x9_1_0.lt (by simp)))))
            | (go_at_call 16; ((with_reducible refine (yrjoin_any ((U ++ V) ++ V8) (by rw [List.length_append]; omega) S W L hC.out (joinYm S W m o q8 r8) q (joinYo S o r8) r (yjoin_st (U := (U ++ V) ++ V8) HA.out.unionL hm8.union') HB.out.unionL (Nd w.heap.size) (Nd w.heap.size) ta9 S tc9 ua9 S uc9 a2 S k2 i2 S l2 _ (by repeat (first | (with_reducible exact YCub.ndb (by omega) ho9) | (with_reducible refine YCub.k_chg (Chg.dkd _) ?_) | (with_reducible refine YCub.k_chg (Chg.dka _ _) ?_) )) (by repeat (first | (with_reducible exact Z5.out.cub) | (with_reducible refine YCub.k_chg (Chg.dkd _) ?_) | (with_reducible refine YCub.k_chg (Chg.dka _ _) ?_) | (with_reducible refine YCub.k_chg (Chg.dk hb9) ?_) | (with_reducible refine YCub.k_chg hc8 ?_)))).mono ?_); rintro e w10 h10; obtain ⟨ta10, tc10, ua10, uc10, f10, g10, rfl, ho10, hb10⟩ := YRet.fix h10 joinYm_len joinYo_len; have s10 := hb10.size; (try simp only [World.size_alloc] at s10); have ho10 := ho10.bt; (try simp only [World.size_alloc] at ho10); (try (refine (have x10_0_0 : Has w10 (wv.heap.size) [.slice none 0 0, .slice none 0 0] := ?_; ?_); (focus ((with_reducible refine Has.k_below hb10 ?_ ?_); (focus (first | omega | (simp; done) | (simp; omega))); (repeat (first | (with_reducible exact x9_0_0) | (with_reducible refine Has.drew ?_) | ((with_reducible refine Has.k_new2 ?_); (first | rfl | (simp; done))) | ((with_reducible refine Has.k_old ?_ ?_); (focus (first | omega | (simp; done) | (simp; omega)))))); done)); have x10_0_0c := x10_0_0.cell 0 _ rfl; have x10_0_0d := x10_0_0.cell 1 _ rfl; have x10_0_0f := x10_0_0.free; have x10_0_0l := x10_0_0.lt (by simp))); (try (refine (have x10_1_0 : Has w10 (w8.heap.size) [.slice none 0 0, .slice none 0 0] := ?_; ?_); (focus ((with_reducible refine Has.k_below hb10 ?_ ?_); (focus (first | omega | (simp; done) | (simp; omega))); (repeat (first | (with_reducible exact x9_1_0) | (with_reducible refine Has.drew ?_) | ((with_reducible refine Has.k_new2 ?_); (first | rfl | (simp; done))) | ((with_reducible refine Has.k_old ?_ ?_); (focus (first | omega | (simp; done) | (simp; omega)))))); done)); have x10_1_0c := x10_1_0.cell 0 _ rfl; have x10_1_0d := x10_1_0.cell 1 _ rfl; have x10_1_0f := x10_1_0.free; have x10_1_0l := x10_1_0.lt (by simp))); (try (refine (have x10_2_0 : Has w10 (w9.heap.size) [.slice none 0 0, .slice none 0 0] := ?_; ?_); (focus ((with_reducible refine Has.k_below hb10 ?_ ?_); (focus (first | omega | (simp; done) | (simp; omega))); (repeat (first | (with_reducible refine Has.drew ?_) | ((with_reducible refine Has.k_new2 ?_); (first | rfl | (simp; done))) | ((with_reducible refine Has.k_old ?_ ?_); (focus (first | omega | (simp; done) | (simp; omega)))))); done)); have x10_2_0c := x10_2_0.cell 0 _ rfl; have x10_2_0d := x10_2_0.cell 1 _ rfl; have x10_2_0f := x10_2_0.free; have x10_2_0l := x10_2_0.lt (by simp))))))
        all_goals
          clear c0 c1 c2 y0 y1 z0 z1
          go_wp2_with fail
          go_meet
          refine ⟨V8, q8, r8, _, ta10, tc10, ua10, uc10, rfl, hm8, hU8, ⟨?_, ?_, ?_, ?_⟩, ?_⟩
          · repeat (first | (with_reducible exact x10_0_0) | (with_reducible exact x10_1_0) | (with_reducible exact x10_2_0) | ((with_reducible refine Has.k_new2 ?_); (first | rfl | (simp; done))) | (with_reducible refine Has.k_set01 ?_) | ((with_reducible refine Has.k_set ?_ ?_); (focus (first | omega | (simp; done) | (simp; omega)))) | ((with_reducible refine Has.k_old ?_ ?_); (focus (first | omega | (simp; done) | (simp; omega)))))
          · (apply YCub.ndb'; (focus ((repeat (first | (with_reducible exact ho10) | (with_reducible refine YCub.k_alloc ?_) | (with_reducible refine YCub.k_drew ?_) | ((with_reducible refine YCub.k_set ?_ ?_); rotate_left) | ((with_reducible refine YCub.k_chgi hc8 ?_ ?_); rotate_left) | (with_reducible refine YCub.k_below hb9 ?_) | (with_reducible refine YCub.k_below hb10 ?_))); (all_goals (intro i hi; have h1 := hi.1; have h2 := hi.2; first | omega | (simp; omega))))); omega)
          · first | omega | (simp; omega)
          · first | omega | (simp; done) | (simp; omega)
          · repeat (first | (with_reducible exact Chg.refl _) | (with_reducible refine Chg.alloc ?_ _) | (with_reducible refine Chg.drew ?_) | (with_reducible refine Chg.k_set (by first | omega | (simp; omega)) ?_) | (with_reducible refine Chg.k_tr hb10 ?_) | (with_reducible refine Chg.k_tr hb9 ?_) | (with_reducible refine Chg.k_call hc8 ?_))
    case rest =>
      obtain ⟨R, n, p, b4, a4, k4, i4, l4, rfl, hr, hR, v4, hcc⟩ := hcut
      have X7 := Lib.hid (X5.out.keep hcc); have Y7 := Lib.hid (Y5.out.keep hcc); have Z7 := Lib.hid (Z5.out.keep hcc); have P7 := Lib.hid (P5.out.keep hcc); have C7 := Lib.hid (C5.out.gt hcc (Nat.le_refl _)); have Q7 := Lib.hid v4
      have LD := Lib.hid (show w.heap.size < wc.heap.size from Nat.lt_of_lt_of_le ld hcc.size)
      obtain ⟨E, hE⟩ : ∃ E, E = (U ++ V) ++ R := ⟨_, rfl⟩
      have HE := Lib.hid (show E.length ≤ 1000 by have := HU2.out; rw [hE, List.length_append]; omega)
      have EA := Lib.hid (show YSt E S W m o from hE ▸ HA.out.unionL)
      have EB := Lib.hid (show YSt E S W q r from hE ▸ HB.out.unionL)
      have ER := Lib.hid (show YSt E S W n p from hE ▸ hr.union')
      clear c0 c1 c2 lx y0 y1 ly z0 z1 lz ld D0 X5 Y5 Z5 P5 C5 D5 hr hR v4 hcc hE HA HB
      have HJ := Lib.hid (yjoin_st EA.out EB.out)
      have HR := Lib.hid (yjoin_st EA.out ER.out)
      have HK := Lib.hid (yjoin_st HR.out EB.out)
      have B1 := Lib.hid (below_yjoin EA.out EB.out).1
      have B2 := Lib.hid (below_yjoin EA.out EB.out).2
      have B3 := Lib.hid (BelowY.least EA.out EB.out HK.out (BelowY.trans EA.out HR.out HK.out (below_yjoin EA.out ER.out).1 (below_yjoin HR.out EB.out).1) (below_yjoin HR.out EB.out).2)
      have B4 := Lib.hid (BelowY.top HJ.out)
      have HT := Lib.hid (ytop_st E S W)
      have JC := Lib.hid (show ∀ (w' : World), YCub (Nd w.heap.size) w' a2 S k2 i2 S l2 q r → YCub (Nd w.heap.size) w' a1 S k1 i1 S l1 m o → Calls Try.prog 19 #[CV S W L, YV a2 S k2 i2 S l2, YV a1 S k1 i1 S l1] w' (YRet (joinYm S W m o q r) (joinYo S o r) w') from fun w' r2 r1 => by have h := yjoin_any E HE.out S W L hC.out q m r o EB.out EA.out _ _ a2 S k2 i2 S l2 a1 S k1 i1 S l1 w' r2 r1; rw [(yjoin_comm EA.out EB.out).1, (yjoin_comm EA.out EB.out).2] at h; exact h)
      generalize joinYm S W (joinYm S W m o n p) (joinYo S o p) q r = G at *
      generalize joinYo S (joinYo S o p) r = Go at *
      generalize joinYm S W m o q r = J at *
      generalize joinYo S o r = Jo at *
      go_upto_region 6 with fail
      obtain ⟨wv, rfl⟩ : ∃ wv : World, wv = wc := ⟨_, rfl⟩
      have X7v0 := Lib.hid (X7.out.keep (Chg.dkd wv)); have Y7v0 := Lib.hid (Y7.out.keep (Chg.dkd wv)); have Z7v0 := Lib.hid (Z7.out.keep (Chg.dkd wv)); have P7v0 := Lib.hid (P7.out.keep (Chg.dkd wv)); have Q7v0 := Lib.hid (Q7.out.keep (Chg.dkd wv))
      have CFv0 := Lib.hid (C7.out.drew); have LDv0 := Lib.hid (show w.heap.size < wv.drew.heap.size from LD.out)
      have zX70 := X7v0.out.has.cell 0 _ rfl; have zX71 := X7v0.out.has.cell 1 _ rfl; have zX72 := X7v0.out.has.cell 2 _ rfl; have zY70 := Y7v0.out.has.cell 0 _ rfl; have zY71 := Y7v0.out.has.cell 1 _ rfl; have zZ70 := Z7v0.out.has.cell 0 _ rfl; have zZ71 := Z7v0.out.has.cell 1 _ rfl; have zP70 := P7v0.out.has.cell 0 _ rfl; have zP71 := P7v0.out.has.cell 1 _ rfl; have zQ70 := Q7v0.out.has.cell 0 _ rfl; have zQ71 := Q7v0.out.has.cell 1 _ rfl
      refine hd_start 34 (fun w' => w'.cell? ⟨w3.heap.size, 0, none⟩ = some (.int .i64 S) ∧ w'.cell? ⟨w3.heap.size, 1, none⟩ = some (.int .i64 W) ∧ w'.cell? ⟨w3.heap.size, 2, none⟩ = some (.int .i64 L) ∧ w'.cell? ⟨b1, 0, none⟩ = some (.slice a1 S k1) ∧ w'.cell? ⟨b1, 1, none⟩ = some (.slice i1 S l1) ∧ w'.cell? ⟨b2, 0, none⟩ = some (.slice a2 S k2) ∧ w'.cell? ⟨b2, 1, none⟩ = some (.slice i2 S l2) ∧ w'.cell? ⟨w7.heap.size, 0, none⟩ = some (.slice ja S jc) ∧ w'.cell? ⟨w7.heap.size, 1, none⟩ = some (.slice ia S ic) ∧ w'.cell? ⟨b4, 0, none⟩ = some (.slice a4 S k4) ∧ w'.cell? ⟨b4, 1, none⟩ = some (.slice i4 S l4)) (by kernel_rfl) ⟨by kernel_rfl, by kernel_rfl, by kernel_rfl, by decide⟩ ⟨zX70, zX71, zX72, zY70, zY71, zZ70, zZ71, zP70, zP71, zQ70, zQ71⟩ (fun ok => ?_)
      refine hd_take_l (i := 0) (v := ?_) ok rfl (by decide) (by kernel_rfl) (by kernel_rfl) (fun _ _ _ h => h) (Or.inl ⟨by kernel_rfl, ?_⟩) ?_
      rotate_left
      · (intro w hSw; (try dsimp only at hSw); (try go_split_ands); go_simp; (try (with_reducible rfl)))
      go_frame
      refine hd_take_l (i := 1) (v := ?_) ok rfl (by decide) (by kernel_rfl) (by kernel_rfl) (fun _ _ _ h => h) (Or.inl ⟨by kernel_rfl, ?_⟩) ?_
      rotate_left
      · (intro w hSw; (try dsimp only at hSw); (try go_split_ands); go_simp; (try (with_reducible rfl)))
      go_frame
      refine hd_take_l (i := 2) (v := ?_) ok rfl (by decide) (by kernel_rfl) (by kernel_rfl) (fun _ _ _ h => h) (Or.inl ⟨by kernel_rfl, ?_⟩) ?_
      rotate_left
      · (intro w hSw; (try dsimp only at hSw); (try go_split_ands); go_simp; (try (with_reducible rfl)))
      go_frame
      refine hd_only_l (c := 3) rfl (by decide) (by kernel_rfl) (fun K hK => ?_)
      go_simp
      go_at_call 18
      refine (ybelow_any E HE.out S W L hC.out m J o Jo EA.out HJ.out (Nd w.heap.size) (Nd w.heap.size) a1 S k1 i1 S l1 ja S jc ia S ic _ Y7v0.out.cub P7v0.out.cub).mono ?_
      rintro e w103 h3
      obtain ⟨rfl, hb3⟩ := h3.tt B1.out
      (try simp only [])
      refine hK _ _ (by refine ⟨?_, ?_, ?_, ?_, ?_, ?_, ?_, ?_, ?_, ?_, ?_⟩ <;> (first | exact cell_later hb3 zX70 | exact cell_later hb3 zX71 | exact cell_later hb3 zX72 | exact cell_later hb3 zY70 | exact cell_later hb3 zY71 | exact cell_later hb3 zZ70 | exact cell_later hb3 zZ71 | exact cell_later hb3 zP70 | exact cell_later hb3 zP71 | exact cell_later hb3 zQ70 | exact cell_later hb3 zQ71)) ?_
      clear hK K
      (try go_frame)
      have X7v1 := Lib.hid (X7v0.out.keep (Chg.dk hb3)); have Y7v1 := Lib.hid (Y7v0.out.keep (Chg.dk hb3)); have Z7v1 := Lib.hid (Z7v0.out.keep (Chg.dk hb3)); have P7v1 := Lib.hid (P7v0.out.keep (Chg.dk hb3)); have Q7v1 := Lib.hid (Q7v0.out.keep (Chg.dk hb3))
      have CFv1 := Lib.hid (CFv0.out.tr hb3); have LDv1 := Lib.hid (Nat.lt_of_lt_of_le LDv0.out hb3.size)
      clear hb3 zX70 zX71 zX72 zY70 zY71 zZ70 zZ71 zP70 zP71 zQ70 zQ71
      have zX70 := X7v1.out.has.cell 0 _ rfl; have zX71 := X7v1.out.has.cell 1 _ rfl; have zX72 := X7v1.out.has.cell 2 _ rfl; have zY70 := Y7v1.out.has.cell 0 _ rfl; have zY71 := Y7v1.out.has.cell 1 _ rfl; have zZ70 := Z7v1.out.has.cell 0 _ rfl; have zZ71 := Z7v1.out.has.cell 1 _ rfl; have zP70 := P7v1.out.has.cell 0 _ rfl; have zP71 := P7v1.out.has.cell 1 _ rfl; have zQ70 := Q7v1.out.has.cell 0 _ rfl; have zQ71 := Q7v1.out.has.cell 1 _ rfl
      refine hd_take_l (i := 4) (v := ?_) ok rfl (by decide) (by kernel_rfl) (by kernel_rfl) (fun _ _ _ h => h) (Or.inl ⟨by kernel_rfl, ?_⟩) ?_
      rotate_left
      · (intro w hSw; (try dsimp only at hSw); (try go_split_ands); go_simp; (try (with_reducible rfl)))
      go_frame
      refine hd_take_l (i := 5) (v := ?_) ok rfl (by decide) (by kernel_rfl) (by kernel_rfl) (fun _ _ _ h => h) (Or.inl ⟨by kernel_rfl, ?_⟩) ?_
      rotate_left
      · (intro w hSw; (try dsimp only at hSw); (try go_split_ands); go_simp; (try (with_reducible rfl)))
      go_frame
      refine hd_take_l (i := 6) (v := ?_) ok rfl (by decide) (by kernel_rfl) (by kernel_rfl) (fun _ _ _ h => h) (Or.inl ⟨by kernel_rfl, ?_⟩) ?_
      rotate_left
      · (intro w hSw; (try dsimp only at hSw); (try go_split_ands); go_simp; (try (with_reducible rfl)))
      go_frame
      refine hd_take_l (i := 7) (v := ?_) ok rfl (by decide) (by kernel_rfl) (by kernel_rfl) (fun _ _ _ h => h) (Or.inl ⟨by kernel_rfl, ?_⟩) ?_
      rotate_left
      · (intro w hSw; (try dsimp only at hSw); (try go_split_ands); go_simp; (try (with_reducible rfl)))
      go_frame
      refine hd_only_l (c := 8) rfl (by decide) (by kernel_rfl) (fun K hK => ?_)
      go_simp
      go_at_call 18
      refine (ybelow_any E HE.out S W L hC.out q J r Jo EB.out HJ.out (Nd w.heap.size) (Nd w.heap.size) a2 S k2 i2 S l2 ja S jc ia S ic _ Z7v1.out.cub P7v1.out.cub).mono ?_
      rintro e w108 h8
      obtain ⟨rfl, hb8⟩ := h8.tt B2.out
      (try simp only [])
      refine hK _ _ (by refine ⟨?_, ?_, ?_, ?_, ?_, ?_, ?_, ?_, ?_, ?_, ?_⟩ <;> (first | exact cell_later hb8 zX70 | exact cell_later hb8 zX71 | exact cell_later hb8 zX72 | exact cell_later hb8 zY70 | exact cell_later hb8 zY71 | exact cell_later hb8 zZ70 | exact cell_later hb8 zZ71 | exact cell_later hb8 zP70 | exact cell_later hb8 zP71 | exact cell_later hb8 zQ70 | exact cell_later hb8 zQ71)) ?_
      clear hK K
      (try go_frame)
      have X7v2 := Lib.hid (X7v1.out.keep (Chg.dk hb8)); have Y7v2 := Lib.hid (Y7v1.out.keep (Chg.dk hb8)); have Z7v2 := Lib.hid (Z7v1.out.keep (Chg.dk hb8)); have P7v2 := Lib.hid (P7v1.out.keep (Chg.dk hb8)); have Q7v2 := Lib.hid (Q7v1.out.keep (Chg.dk hb8))
      have CFv2 := Lib.hid (CFv1.out.tr hb8); have LDv2 := Lib.hid (Nat.lt_of_lt_of_le LDv1.out hb8.size)
      clear hb8 zX70 zX71 zX72 zY70 zY71 zZ70 zZ71 zP70 zP71 zQ70 zQ71
      have zX70 := X7v2.out.has.cell 0 _ rfl; have zX71 := X7v2.out.has.cell 1 _ rfl; have zX72 := X7v2.out.has.cell 2 _ rfl; have zY70 := Y7v2.out.has.cell 0 _ rfl; have zY71 := Y7v2.out.has.cell 1 _ rfl; have zZ70 := Z7v2.out.has.cell 0 _ rfl; have zZ71 := Z7v2.out.has.cell 1 _ rfl; have zP70 := P7v2.out.has.cell 0 _ rfl; have zP71 := P7v2.out.has.cell 1 _ rfl; have zQ70 := Q7v2.out.has.cell 0 _ rfl; have zQ71 := Q7v2.out.has.cell 1 _ rfl
      refine hd_take_l (i := 9) (v := ?_) ok rfl (by decide) (by kernel_rfl) (by kernel_rfl) (fun _ _ _ h => h) (Or.inl ⟨by kernel_rfl, ?_⟩) ?_
      rotate_left
      · (intro w hSw; (try dsimp only at hSw); (try go_split_ands); go_simp; (try (with_reducible rfl)))
      go_frame
      refine hd_take_l (i := 10) (v := ?_) ok rfl (by decide) (by kernel_rfl) (by kernel_rfl) (fun _ _ _ h => h) (Or.inl ⟨by kernel_rfl, ?_⟩) ?_
      rotate_left
      · (intro w hSw; (try dsimp only at hSw); (try go_split_ands); go_simp; (try (with_reducible rfl)))
      go_frame
      refine hd_take_l (i := 11) (v := ?_) ok rfl (by decide) (by kernel_rfl) (by kernel_rfl) (fun _ _ _ h => h) (Or.inl ⟨by kernel_rfl, ?_⟩) ?_
      rotate_left
      · (intro w hSw; (try dsimp only at hSw); (try go_split_ands); go_simp; (try (with_reducible rfl)))
      go_frame
      refine hd_take_l (i := 12) (v := ?_) ok rfl (by decide) (by kernel_rfl) (by kernel_rfl) (fun _ _ _ h => h) (Or.inl ⟨by kernel_rfl, ?_⟩) ?_
      rotate_left
      · (intro w hSw; (try dsimp only at hSw); (try go_split_ands); go_simp; (try (with_reducible rfl)))
      go_frame
      refine hd_take_l (i := 13) (v := ?_) ok rfl (by decide) (by kernel_rfl) (by kernel_rfl) (fun _ _ _ h => h) (Or.inl ⟨by kernel_rfl, ?_⟩) ?_
      rotate_left
      · (intro w hSw; (try dsimp only at hSw); (try go_split_ands); go_simp; (try (with_reducible rfl)))
      go_frame
      refine hd_only_l (c := 14) rfl (by decide) (by kernel_rfl) (fun K hK => ?_)
      go_simp
      go_at_call 18
      refine (ybelow_any E HE.out S W L hC.out J G Jo Go HJ.out HK.out (Nd w.heap.size) (Nd w.heap.size) ja S jc ia S ic a4 S k4 i4 S l4 _ P7v2.out.cub Q7v2.out.cub).mono ?_
      rintro e w114 h14
      obtain ⟨rfl, hb14⟩ := h14.tt B3.out
      (try simp only [])
      refine hK _ _ (by refine ⟨?_, ?_, ?_, ?_, ?_, ?_, ?_, ?_, ?_, ?_, ?_⟩ <;> (first | exact cell_later hb14 zX70 | exact cell_later hb14 zX71 | exact cell_later hb14 zX72 | exact cell_later hb14 zY70 | exact cell_later hb14 zY71 | exact cell_later hb14 zZ70 | exact cell_later hb14 zZ71 | exact cell_later hb14 zP70 | exact cell_later hb14 zP71 | exact cell_later hb14 zQ70 | exact cell_later hb14 zQ71)) ?_
      clear hK K
      (try go_frame)
      have X7v3 := Lib.hid (X7v2.out.keep (Chg.dk hb14)); have Y7v3 := Lib.hid (Y7v2.out.keep (Chg.dk hb14)); have Z7v3 := Lib.hid (Z7v2.out.keep (Chg.dk hb14)); have P7v3 := Lib.hid (P7v2.out.keep (Chg.dk hb14)); have Q7v3 := Lib.hid (Q7v2.out.keep (Chg.dk hb14))
      have CFv3 := Lib.hid (CFv2.out.tr hb14); have LDv3 := Lib.hid (Nat.lt_of_lt_of_le LDv2.out hb14.size)
      clear hb14 zX70 zX71 zX72 zY70 zY71 zZ70 zZ71 zP70 zP71 zQ70 zQ71
      have zX70 := X7v3.out.has.cell 0 _ rfl; have zX71 := X7v3.out.has.cell 1 _ rfl; have zX72 := X7v3.out.has.cell 2 _ rfl; have zY70 := Y7v3.out.has.cell 0 _ rfl; have zY71 := Y7v3.out.has.cell 1 _ rfl; have zZ70 := Z7v3.out.has.cell 0 _ rfl; have zZ71 := Z7v3.out.has.cell 1 _ rfl; have zP70 := P7v3.out.has.cell 0 _ rfl; have zP71 := P7v3.out.has.cell 1 _ rfl; have zQ70 := Q7v3.out.has.cell 0 _ rfl; have zQ71 := Q7v3.out.has.cell 1 _ rfl
      refine hd_take_l (i := 15) (v := ?_) ok rfl (by decide) (by kernel_rfl) (by kernel_rfl) (fun _ _ _ h => h) (Or.inl ⟨by kernel_rfl, ?_⟩) ?_
      rotate_left
      · (intro w hSw; (try dsimp only at hSw); (try go_split_ands); go_simp; (try (with_reducible rfl)))
      go_frame
      refine hd_take_l (i := 16) (v := ?_) ok rfl (by decide) (by kernel_rfl) (by kernel_rfl) (fun _ _ _ h => h) (Or.inl ⟨by kernel_rfl, ?_⟩) ?_
      rotate_left
      · (intro w hSw; (try dsimp only at hSw); (try go_split_ands); go_simp; (try (with_reducible rfl)))
      go_frame
      refine hd_take_l (i := 17) (v := ?_) ok rfl (by decide) (by kernel_rfl) (by kernel_rfl) (fun _ _ _ h => h) (Or.inl ⟨by kernel_rfl, ?_⟩) ?_
      rotate_left
      · (intro w hSw; (try dsimp only at hSw); (try go_split_ands); go_simp; (try (with_reducible rfl)))
      go_frame
      refine hd_take_l (i := 18) (v := ?_) ok rfl (by decide) (by kernel_rfl) (by kernel_rfl) (fun _ _ _ h => h) (Or.inl ⟨by kernel_rfl, ?_⟩) ?_
      rotate_left
      · (intro w hSw; (try dsimp only at hSw); (try go_split_ands); go_simp; (try (with_reducible rfl)))
      go_frame
      refine hd_take_l (i := 19) (v := ?_) ok rfl (by decide) (by kernel_rfl) (by kernel_rfl) (fun _ _ _ h => h) (Or.inl ⟨by kernel_rfl, ?_⟩) ?_
      rotate_left
      · (intro w hSw; (try dsimp only at hSw); (try go_split_ands); go_simp; (try (with_reducible rfl)))
      go_frame
      refine hd_only_l (c := 20) rfl (by decide) (by kernel_rfl) (fun K hK => ?_)
      go_simp
      go_at_call 13
      refine (ytop_any S W L hC.out _).mono ?_
      rintro e w120 h20
      obtain ⟨ta20, tc20, ua20, uc20, f20, g20, rfl, ho20, hb20⟩ := YRet.fix h20 (topS_len S W) (topO_len S)
      (try simp only [])
      refine hK _ _ (by refine ⟨?_, ?_, ?_, ?_, ?_, ?_, ?_, ?_, ?_, ?_, ?_⟩ <;> (first | exact cell_later hb20 zX70 | exact cell_later hb20 zX71 | exact cell_later hb20 zX72 | exact cell_later hb20 zY70 | exact cell_later hb20 zY71 | exact cell_later hb20 zZ70 | exact cell_later hb20 zZ71 | exact cell_later hb20 zP70 | exact cell_later hb20 zP71 | exact cell_later hb20 zQ70 | exact cell_later hb20 zQ71)) ?_
      clear hK K
      (try go_frame)
      have X7v4 := Lib.hid (X7v3.out.keep (Chg.dk hb20)); have Y7v4 := Lib.hid (Y7v3.out.keep (Chg.dk hb20)); have Z7v4 := Lib.hid (Z7v3.out.keep (Chg.dk hb20)); have P7v4 := Lib.hid (P7v3.out.keep (Chg.dk hb20)); have Q7v4 := Lib.hid (Q7v3.out.keep (Chg.dk hb20))
      have CFv4 := Lib.hid (CFv3.out.tr hb20); have LDv4 := Lib.hid (Nat.lt_of_lt_of_le LDv3.out hb20.size)
      have HO20 := Lib.hid (ho20.nd LDv3.out)
      clear ho20 h20
      clear hb20 zX70 zX71 zX72 zY70 zY71 zZ70 zZ71 zP70 zP71 zQ70 zQ71
      have zX70 := X7v4.out.has.cell 0 _ rfl; have zX71 := X7v4.out.has.cell 1 _ rfl; have zX72 := X7v4.out.has.cell 2 _ rfl; have zY70 := Y7v4.out.has.cell 0 _ rfl; have zY71 := Y7v4.out.has.cell 1 _ rfl; have zZ70 := Z7v4.out.has.cell 0 _ rfl; have zZ71 := Z7v4.out.has.cell 1 _ rfl; have zP70 := P7v4.out.has.cell 0 _ rfl; have zP71 := P7v4.out.has.cell 1 _ rfl; have zQ70 := Q7v4.out.has.cell 0 _ rfl; have zQ71 := Q7v4.out.has.cell 1 _ rfl
      refine hd_only_l (c := 21) rfl (by decide) (by kernel_rfl) (fun K hK => ?_)
      go_simp
      go_at_call 18
      refine (ybelow_any E HE.out S W L hC.out J (topS S W) Jo (topO S) HJ.out HT.out (Nd w.heap.size) (Nd w.heap.size) ja S jc ia S ic ta20 S tc20 ua20 S uc20 _ P7v4.out.cub HO20.out).mono ?_
      rintro e w121 h21
      obtain ⟨rfl, hb21⟩ := h21.tt B4.out
      (try simp only [])
      refine hK _ _ (by refine ⟨?_, ?_, ?_, ?_, ?_, ?_, ?_, ?_, ?_, ?_, ?_⟩ <;> (first | exact cell_later hb21 zX70 | exact cell_later hb21 zX71 | exact cell_later hb21 zX72 | exact cell_later hb21 zY70 | exact cell_later hb21 zY71 | exact cell_later hb21 zZ70 | exact cell_later hb21 zZ71 | exact cell_later hb21 zP70 | exact cell_later hb21 zP71 | exact cell_later hb21 zQ70 | exact cell_later hb21 zQ71)) ?_
      clear hK K
      (try go_frame)
      have X7v5 := Lib.hid (X7v4.out.keep (Chg.dk hb21)); have Y7v5 := Lib.hid (Y7v4.out.keep (Chg.dk hb21)); have Z7v5 := Lib.hid (Z7v4.out.keep (Chg.dk hb21)); have P7v5 := Lib.hid (P7v4.out.keep (Chg.dk hb21)); have Q7v5 := Lib.hid (Q7v4.out.keep (Chg.dk hb21))
      have CFv5 := Lib.hid (CFv4.out.tr hb21); have LDv5 := Lib.hid (Nat.lt_of_lt_of_le LDv4.out hb21.size)
      clear hb21 zX70 zX71 zX72 zY70 zY71 zZ70 zZ71 zP70 zP71 zQ70 zQ71
      have zX70 := X7v5.out.has.cell 0 _ rfl; have zX71 := X7v5.out.has.cell 1 _ rfl; have zX72 := X7v5.out.has.cell 2 _ rfl; have zY70 := Y7v5.out.has.cell 0 _ rfl; have zY71 := Y7v5.out.has.cell 1 _ rfl; have zZ70 := Z7v5.out.has.cell 0 _ rfl; have zZ71 := Z7v5.out.has.cell 1 _ rfl; have zP70 := P7v5.out.has.cell 0 _ rfl; have zP71 := P7v5.out.has.cell 1 _ rfl; have zQ70 := Q7v5.out.has.cell 0 _ rfl; have zQ71 := Q7v5.out.has.cell 1 _ rfl
      refine hd_take_l (i := 22) (v := ?_) ok rfl (by decide) (by kernel_rfl) (by kernel_rfl) (fun _ _ _ h => h) (Or.inl ⟨by kernel_rfl, ?_⟩) ?_
      rotate_left
      · (intro w hSw; (try dsimp only at hSw); (try go_split_ands); go_simp; (try (with_reducible rfl)))
      go_frame
      refine hd_take_l (i := 23) (v := ?_) ok rfl (by decide) (by kernel_rfl) (by kernel_rfl) (fun _ _ _ h => h) (Or.inl ⟨by kernel_rfl, ?_⟩) ?_
      rotate_left
      · (intro w hSw; (try dsimp only at hSw); (try go_split_ands); go_simp; (try (with_reducible rfl)))
      go_frame
      refine hd_take_l (i := 24) (v := ?_) ok rfl (by decide) (by kernel_rfl) (by kernel_rfl) (fun _ _ _ h => h) (Or.inl ⟨by kernel_rfl, ?_⟩) ?_
      rotate_left
      · (intro w hSw; (try dsimp only at hSw); (try go_split_ands); go_simp; (try (with_reducible rfl)))
      go_frame
      refine hd_take_l (i := 25) (v := ?_) ok rfl (by decide) (by kernel_rfl) (by kernel_rfl) (fun _ _ _ h => h) (Or.inl ⟨by kernel_rfl, ?_⟩) ?_
      rotate_left
      · (intro w hSw; (try dsimp only at hSw); (try go_split_ands); go_simp; (try (with_reducible rfl)))
      go_frame
      refine hd_take_l (i := 26) (v := ?_) ok rfl (by decide) (by kernel_rfl) (by kernel_rfl) (fun _ _ _ h => h) (Or.inl ⟨by kernel_rfl, ?_⟩) ?_
      rotate_left
      · (intro w hSw; (try dsimp only at hSw); (try go_split_ands); go_simp; (try (with_reducible rfl)))
      go_frame
      refine hd_take_l (i := 28) (v := ?_) ok rfl (by decide) (by kernel_rfl) (by kernel_rfl) (fun _ _ _ h => h) (Or.inl ⟨by kernel_rfl, ?_⟩) ?_
      rotate_left
      · (intro w hSw; (try dsimp only at hSw); (try go_split_ands); go_simp; (try (with_reducible rfl)))
      go_frame
      refine hd_only_l (c := 27) rfl (by decide) (by kernel_rfl) (fun K hK => ?_)
      go_simp
      go_at_call 19
      refine (JC.out _ Z7v5.out.cub Y7v5.out.cub).mono ?_
      rintro e w127 h27
      obtain ⟨ta27, tc27, ua27, uc27, f27, g27, rfl, ho27, hb27⟩ := YRet.fix h27 HJ.out.len HJ.out.olen
      (try simp only [])
      refine hK _ _ (by refine ⟨?_, ?_, ?_, ?_, ?_, ?_, ?_, ?_, ?_, ?_, ?_⟩ <;> (first | exact cell_later hb27 zX70 | exact cell_later hb27 zX71 | exact cell_later hb27 zX72 | exact cell_later hb27 zY70 | exact cell_later hb27 zY71 | exact cell_later hb27 zZ70 | exact cell_later hb27 zZ71 | exact cell_later hb27 zP70 | exact cell_later hb27 zP71 | exact cell_later hb27 zQ70 | exact cell_later hb27 zQ71)) ?_
      clear hK K
      (try go_frame)
      have X7v6 := Lib.hid (X7v5.out.keep (Chg.dk hb27)); have Y7v6 := Lib.hid (Y7v5.out.keep (Chg.dk hb27)); have Z7v6 := Lib.hid (Z7v5.out.keep (Chg.dk hb27)); have P7v6 := Lib.hid (P7v5.out.keep (Chg.dk hb27)); have Q7v6 := Lib.hid (Q7v5.out.keep (Chg.dk hb27))
      have CFv6 := Lib.hid (CFv5.out.tr hb27); have LDv6 := Lib.hid (Nat.lt_of_lt_of_le LDv5.out hb27.size)
      have HO27 := Lib.hid (ho27.nd LDv5.out)
      clear ho27 h27
      clear hb27 zX70 zX71 zX72 zY70 zY71 zZ70 zZ71 zP70 zP71 zQ70 zQ71
      have zX70 := X7v6.out.has.cell 0 _ rfl; have zX71 := X7v6.out.has.cell 1 _ rfl; have zX72 := X7v6.out.has.cell 2 _ rfl; have zY70 := Y7v6.out.has.cell 0 _ rfl; have zY71 := Y7v6.out.has.cell 1 _ rfl; have zZ70 := Z7v6.out.has.cell 0 _ rfl; have zZ71 := Z7v6.out.has.cell 1 _ rfl; have zP70 := P7v6.out.has.cell 0 _ rfl; have zP71 := P7v6.out.has.cell 1 _ rfl; have zQ70 := Q7v6.out.has.cell 0 _ rfl; have zQ71 := Q7v6.out.has.cell 1 _ rfl
      refine hd_only_l (c := 29) rfl (by decide) (by kernel_rfl) (fun K hK => ?_)
      go_simp
      go_at_call 20
      refine (rysame_yes (Nd w.heap.size) (Nd w.heap.size) ta27 ja ua27 ia S tc27 S jc S uc27 S ic J Jo _ HO27.out P7v6.out.cub).mono ?_
      rintro e w129 ⟨rfl, hb29⟩
      (try simp only [])
      refine hK _ _ (by refine ⟨?_, ?_, ?_, ?_, ?_, ?_, ?_, ?_, ?_, ?_, ?_⟩ <;> (first | exact cell_later hb29 zX70 | exact cell_later hb29 zX71 | exact cell_later hb29 zX72 | exact cell_later hb29 zY70 | exact cell_later hb29 zY71 | exact cell_later hb29 zZ70 | exact cell_later hb29 zZ71 | exact cell_later hb29 zP70 | exact cell_later hb29 zP71 | exact cell_later hb29 zQ70 | exact cell_later hb29 zQ71)) ?_
      clear hK K
      (try go_frame)
      have X7v7 := Lib.hid (X7v6.out.keep (Chg.dk hb29)); have Y7v7 := Lib.hid (Y7v6.out.keep (Chg.dk hb29)); have Z7v7 := Lib.hid (Z7v6.out.keep (Chg.dk hb29)); have P7v7 := Lib.hid (P7v6.out.keep (Chg.dk hb29)); have Q7v7 := Lib.hid (Q7v6.out.keep (Chg.dk hb29))
      have CFv7 := Lib.hid (CFv6.out.tr hb29); have LDv7 := Lib.hid (Nat.lt_of_lt_of_le LDv6.out hb29.size)
      clear hb29 zX70 zX71 zX72 zY70 zY71 zZ70 zZ71 zP70 zP71 zQ70 zQ71
      have zX70 := X7v7.out.has.cell 0 _ rfl; have zX71 := X7v7.out.has.cell 1 _ rfl; have zX72 := X7v7.out.has.cell 2 _ rfl; have zY70 := Y7v7.out.has.cell 0 _ rfl; have zY71 := Y7v7.out.has.cell 1 _ rfl; have zZ70 := Z7v7.out.has.cell 0 _ rfl; have zZ71 := Z7v7.out.has.cell 1 _ rfl; have zP70 := P7v7.out.has.cell 0 _ rfl; have zP71 := P7v7.out.has.cell 1 _ rfl; have zQ70 := Q7v7.out.has.cell 0 _ rfl; have zQ71 := Q7v7.out.has.cell 1 _ rfl
      refine hd_take_l (i := 30) (v := ?_) ok rfl (by decide) (by kernel_rfl) (by kernel_rfl) (fun _ _ _ h => h) (Or.inl ⟨by kernel_rfl, ?_⟩) ?_
      rotate_left
      · (intro w hSw; (try dsimp only at hSw); (try go_split_ands); go_simp; (try (with_reducible rfl)))
      go_frame
      refine hd_take_l (i := 31) (v := ?_) ok rfl (by decide) (by kernel_rfl) (by kernel_rfl) (fun _ _ _ h => h) (Or.inl ⟨by kernel_rfl, ?_⟩) ?_
      rotate_left
      · (intro w hSw; (try dsimp only at hSw); (try go_split_ands); go_simp; (try (with_reducible rfl)))
      go_frame
      refine hd_only_l (c := 32) rfl (by decide) (by kernel_rfl) (fun K hK => ?_)
      go_simp
      go_at_call 10
      refine (awake_any _).mono ?_
      rintro e w132 ⟨rfl, hb32⟩
      (try simp only [])
      refine hK _ _ (by refine ⟨?_, ?_, ?_, ?_, ?_, ?_, ?_, ?_, ?_, ?_, ?_⟩ <;> (first | exact cell_later hb32 zX70 | exact cell_later hb32 zX71 | exact cell_later hb32 zX72 | exact cell_later hb32 zY70 | exact cell_later hb32 zY71 | exact cell_later hb32 zZ70 | exact cell_later hb32 zZ71 | exact cell_later hb32 zP70 | exact cell_later hb32 zP71 | exact cell_later hb32 zQ70 | exact cell_later hb32 zQ71)) ?_
      clear hK K
      (try go_frame)
      have X7v8 := Lib.hid (X7v7.out.keep (Chg.dk hb32)); have Y7v8 := Lib.hid (Y7v7.out.keep (Chg.dk hb32)); have Z7v8 := Lib.hid (Z7v7.out.keep (Chg.dk hb32)); have P7v8 := Lib.hid (P7v7.out.keep (Chg.dk hb32)); have Q7v8 := Lib.hid (Q7v7.out.keep (Chg.dk hb32))
      have CFv8 := Lib.hid (CFv7.out.tr hb32); have LDv8 := Lib.hid (Nat.lt_of_lt_of_le LDv7.out hb32.size)
      clear hb32 zX70 zX71 zX72 zY70 zY71 zZ70 zZ71 zP70 zP71 zQ70 zQ71
      have zX70 := X7v8.out.has.cell 0 _ rfl; have zX71 := X7v8.out.has.cell 1 _ rfl; have zX72 := X7v8.out.has.cell 2 _ rfl; have zY70 := Y7v8.out.has.cell 0 _ rfl; have zY71 := Y7v8.out.has.cell 1 _ rfl; have zZ70 := Z7v8.out.has.cell 0 _ rfl; have zZ71 := Z7v8.out.has.cell 1 _ rfl; have zP70 := P7v8.out.has.cell 0 _ rfl; have zP71 := P7v8.out.has.cell 1 _ rfl; have zQ70 := Q7v8.out.has.cell 0 _ rfl; have zQ71 := Q7v8.out.has.cell 1 _ rfl
      refine hd_take_l (i := 33) (v := ?_) ok rfl (by decide) (by kernel_rfl) (by kernel_rfl) (fun _ _ _ h => h) (Or.inl ⟨by kernel_rfl, ?_⟩) ?_
      rotate_left
      · (intro w hSw; (try dsimp only at hSw); (try go_split_ands); go_simp; (try (with_reducible rfl)))
      go_frame
      clear ok zX70 zX71 zX72 zY70 zY71 zZ70 zZ71 zP70 zP71 zQ70 zQ71
      refine hd_done (by kernel_rfl) ?_
      simp only [List.drop_succ_cons, List.drop_zero]
      go_wp2
      go_ret
      exact ⟨rfl, Chg.below (M := Ge w.heap.size) CFv8.out (fun j hj h => by unfold Ge at h; omega) (Nat.le_refl _)⟩
end Go.Proofs.Ytlpelpjcbclemaa
