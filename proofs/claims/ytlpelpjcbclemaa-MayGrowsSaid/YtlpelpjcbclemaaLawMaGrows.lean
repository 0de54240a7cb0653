/-
  timeboundlaw25.MayGrows returns true, whatever its list is. No condition. Printed by mkLawMa.py.
-/
import Derived.Deep.DeepCutAuto
import Derived.Test.YtlpelpjcbclemaaMbC
import Derived.Test.YtlpelpjcbclemaaMaN
namespace Go.Proofs.Ytlpelpjcbclemaa
open Go.RowKit

set_option maxRecDepth 100000 in
set_option maxHeartbeats 8000000 in
theorem mgrows_law (a0 : Option Addr) (len0 cap0 : Nat) (z0 : List Int) (w : World) (w0 : IsRow .i64 w a0 len0 cap0 z0) :
    Calls Try.prog 4 #[.slice a0 len0 cap0] w fun e w' => e = .returned (.bool true) ∧ Below w.heap.size w w' := by
  have W0 := Lib.hid w0
  clear w0
  go_enter Try.func4, Try.ntmps4
  go_wp2_with fail
  refine (new_any a0 len0 cap0 z0 _ W0.out).mono ?_
  rintro e w2 ⟨rfl, hd2, hb2⟩
  have D2 := Lib.hid hd2; have C2 := Lib.hid (Chg.of_below (M := Ge w.heap.size) hb2); clear hd2 hb2
  go_wp2_with fail
  refine (m2cache_any w.heap.size _ D2.out).mono ?_
  rintro e w3 ⟨S, W, L, rfl, g1, g2, g3, g4, g5, hd3, hc3⟩
  have hC := Lib.hid (show COk S W L from ⟨by omega, by omega, by omega, by omega, by omega, by omega⟩)
  have WP := Lib.hid (show 0 < W by omega)
  have D3 := Lib.hid (Deck.k_alloc (o := .cells #[.int .i64 S, .int .i64 W, .int .i64 L] 26) hd3)
  have C3 := Lib.hid ((C2.out.gt hc3 (Nat.le_refl _)).alloc (.cells #[.int .i64 S, .int .i64 W, .int .i64 L] 26))
  have X3 := Lib.hid (CVar.new (d := w.heap.size) (S := S) (W := W) (L := L) (w := w3) hd3.lt)
  have L3 := Lib.hid hd3.lt
  clear hd3 hc3 D2 C2
  have c0 := X3.out.has.cell 0 _ rfl; have c1 := X3.out.has.cell 1 _ rfl; have c2 := X3.out.has.cell 2 _ rfl; have lx := X3.out.lt
  go_wp2_with fail
  refine (m2may_any S W L hC.out (by omega) (by omega) w.heap.size _ D3.out).mono ?_
  rintro e w4 ⟨U, ma, mc, na, nc, f1, f2, m, o, rfl, ho4, hm4, hU4, hd4, hc4⟩
  have HM := Lib.hid hm4
  have HU := Lib.hid hU4
  have X4 := Lib.hid ((X3.out.keep hc4).keep (Chg.dka w4 (.cells #[.slice ma S mc, .slice na S nc] 31)))
  have Y4 := Lib.hid (SVar.new (d := w.heap.size) hd4.lt (ho4.nd D3.out.lt))
  have C4 := Lib.hid ((C3.out.gt hc4 (Nat.le_refl _)).alloc (.cells #[.slice ma S mc, .slice na S nc] 31))
  have D4 := Lib.hid (Deck.k_alloc (o := .cells #[.slice ma S mc, .slice na S nc] 31) hd4)
  clear c0 c1 c2 lx ho4 hm4 hU4 hd4 hc4 X3 C3 D3
  have y0 := Y4.out.has.cell 0 _ rfl; have y1 := Y4.out.has.cell 1 _ rfl; have ly := Y4.out.lt
  have c0 := X4.out.has.cell 0 _ rfl; have c1 := X4.out.has.cell 1 _ rfl; have c2 := X4.out.has.cell 2 _ rfl; have lx := X4.out.lt
  go_upto_region 4 with fail
  obtain ⟨wv, hwv⟩ : ∃ wv : World, wv = w4.alloc (.cells #[.slice ma S mc, .slice na S nc] 31) := ⟨_, rfl⟩
  rw [← hwv] at X4 Y4 C4 D4 c0 c1 c2 lx y0 y1 ly ⊢
  clear hwv
  have ld := D4.out.lt
  have D0 := D4
  go_cut [6] (fun s6 wx => ∃ V q r b ja jc ia ic, s6 = .pointer (some ⟨b, 0, none⟩) ∧ YSt V S W q r ∧ V.length ≤ 43 ∧ SVar w.heap.size S b ja jc ia ic (joinYm S W m o q r) (joinYo S o r) wx ∧ Chg (fun k => k = w.heap.size) wv wx ∧ Deck wx w.heap.size)
  case first =>
    as_aux_lemma =>
      have HUo := HU.out
      have nx := X4.out.ne; have ny := Y4.out.ne
      go_region_held3 (fun w' => w'.cell? ⟨w3.heap.size, 0, none⟩ = some (.int .i64 S) ∧ w'.cell? ⟨w3.heap.size, 1, none⟩ = some (.int .i64 W) ∧ w'.cell? ⟨w3.heap.size, 2, none⟩ = some (.int .i64 L) ∧ w'.cell? ⟨w4.heap.size, 0, none⟩ = some (.slice ma S mc) ∧ w'.cell? ⟨w4.heap.size, 1, none⟩ = some (.slice na S nc)) (((try dsimp only); (try go_split_ands); (repeat' apply And.intro); all_goals (repeat (first | assumption | (refine cell_later hb6 ?_) | (refine hc5.cell (by omega) ?_) | (refine cell_alloc (by first | assumption | omega | (simp; omega)) ?_) | (refine cell_set (by omega) ?_) | (refine cell_drew ?_)))))
        (first
          | (go_at_call 11; ((with_reducible refine (m2may_any S W L hC.out (by omega) (by omega) w.heap.size _ (by repeat (first | (with_reducible exact D0.out) | (with_reducible refine Deck.k_drew ?_) | (with_reducible refine Deck.k_alloc ?_)))).mono ?_); rintro e w5 ⟨V5, ta5, tc5, ua5, uc5, f5, g5, q5, r5, rfl, ho5, hm5, hU5, hd5, hc5⟩; have s5 := hc5.size; (try simp only [World.size_alloc, World.size_drew] at s5); have ho5 := ho5.bt; (try simp only [World.size_alloc, World.size_drew] at ho5); (try (refine (have x5_0_0 : Has w5 (wv.heap.size) [.slice none 0 0, .slice none 0 0] := ?_; ?_); (focus ((with_reducible refine Has.k_chg hc5 ?_ ?_ ?_); (focus (first | omega | (simp; done) | (simp; omega))); (focus (first | omega | (simp; done) | (simp; omega))); (repeat (first | (with_reducible refine Has.drew ?_) | ((with_reducible refine Has.k_new2 ?_); (first | rfl | (simp; done))) | ((with_reducible refine Has.k_old ?_ ?_); (focus (first | omega | (simp; done) | (simp; omega)))))); done)); have x5_0_0c := x5_0_0.cell 0 _ rfl; have x5_0_0d := x5_0_0.cell 1 _ rfl; have x5_0_0f := x5_0_0.free; have x5_0_0l := x5_0_0.lt (by simp)))))
          | (go_at_call 16; ((with_reducible refine (yrjoin_any (U ++ V5) (by rw [List.length_append]; omega) S W L hC.out m q5 o r5 HM.out.unionL hm5.union' (Nd w.heap.size) (Nd w.heap.size) ma S mc na S nc ta5 S tc5 ua5 S uc5 _ (by repeat (first | (with_reducible exact Y4.out.cub) | (with_reducible refine YCub.k_chg (Chg.dkd _) ?_) | (with_reducible refine YCub.k_chg (Chg.dka _ _) ?_) | (with_reducible refine YCub.k_chg hc5 ?_))) (by repeat (first | (with_reducible exact YCub.ndb (by omega) ho5) | (with_reducible refine YCub.k_chg (Chg.dkd _) ?_) | (with_reducible refine YCub.k_chg (Chg.dka _ _) ?_) ))).mono ?_); rintro e w6 h6; obtain ⟨ta6, tc6, ua6, uc6, f6, g6, rfl, ho6, hb6⟩ := YRet.fix h6 (joinYm_len) (joinYo_len); have s6 := hb6.size; (try simp only [World.size_alloc] at s6); have ho6 := ho6.bt; (try simp only [World.size_alloc] at ho6); (try (refine (have x6_0_0 : Has w6 (wv.heap.size) [.slice none 0 0, .slice none 0 0] := ?_; ?_); (focus ((with_reducible refine Has.k_below hb6 ?_ ?_); (focus (first | omega | (simp; done) | (simp; omega))); (repeat (first | (with_reducible exact x5_0_0) | (with_reducible refine Has.drew ?_) | ((with_reducible refine Has.k_new2 ?_); (first | rfl | (simp; done))) | ((with_reducible refine Has.k_old ?_ ?_); (focus (first | omega | (simp; done) | (simp; omega)))))); done)); have x6_0_0c := x6_0_0.cell 0 _ rfl; have x6_0_0d := x6_0_0.cell 1 _ rfl; have x6_0_0f := x6_0_0.free; have x6_0_0l := x6_0_0.lt (by simp))); (try (refine (have x6_1_0 : Has w6 (w5.heap.size) [.slice none 0 0, .slice none 0 0] := ?_; ?_); (focus ((with_reducible refine Has.k_below hb6 ?_ ?_); (focus (first | omega | (simp; done) | (simp; omega))); (repeat (first | (with_reducible refine Has.drew ?_) | ((with_reducible refine Has.k_new2 ?_); (first | rfl | (simp; done))) | ((with_reducible refine Has.k_old ?_ ?_); (focus (first | omega | (simp; done) | (simp; omega)))))); done)); have x6_1_0c := x6_1_0.cell 0 _ rfl; have x6_1_0d := x6_1_0.cell 1 _ rfl; have x6_1_0f := x6_1_0.free; have x6_1_0l := x6_1_0.lt (by simp))))))
      all_goals
        clear c0 c1 c2 y0 y1
        go_wp2_with fail
        go_meet
        refine ⟨V5, q5, r5, _, ta6, tc6, ua6, uc6, rfl, hm5, hU5, ⟨?_, ?_, ?_, ?_⟩, ?_, ?_⟩
        · repeat (first | (with_reducible exact x6_0_0) | (with_reducible exact x6_1_0) | ((with_reducible refine Has.k_new2 ?_); (first | rfl | (simp; done))) | (with_reducible refine Has.k_set01 ?_) | ((with_reducible refine Has.k_set ?_ ?_); (focus (first | omega | (simp; done) | (simp; omega)))) | ((with_reducible refine Has.k_old ?_ ?_); (focus (first | omega | (simp; done) | (simp; omega)))))
        · (apply YCub.ndb'; (focus ((repeat (first | (with_reducible exact ho6) | (with_reducible refine YCub.k_alloc ?_) | (with_reducible refine YCub.k_drew ?_) | ((with_reducible refine YCub.k_set ?_ ?_); rotate_left) | ((with_reducible refine YCub.k_chgi hc5 ?_ ?_); rotate_left) | (with_reducible refine YCub.k_below hb6 ?_))); (all_goals (intro i hi; have h1 := hi.1; have h2 := hi.2; first | omega | (simp; omega))))); omega)
        · first | omega | (simp; omega)
        · first | omega | (simp; done) | (simp; omega)
        · repeat (first | (with_reducible exact Chg.refl _) | (with_reducible refine Chg.alloc ?_ _) | (with_reducible refine Chg.drew ?_) | (with_reducible refine Chg.k_set (by first | omega | (simp; omega)) ?_) | (with_reducible refine Chg.k_tr hb6 ?_) | (with_reducible refine Chg.k_call hc5 ?_))
        · repeat (first | (with_reducible exact hd5) | (with_reducible exact D0.out) | (with_reducible refine Deck.k_alloc ?_) | (with_reducible refine Deck.k_drew ?_) | (with_reducible refine Deck.k_set (by first | omega | (simp; omega)) ?_) | (with_reducible refine Deck.k_below hb6 ?_))
  case rest =>
    obtain ⟨V, q, r, bb, ja, jc, ia, ic, rfl, hq, hV, hb, hcc, hdd⟩ := hcut
    have HQ := Lib.hid hq; have HV := Lib.hid hV
    have X5 := Lib.hid (X4.out.keep hcc); have Y5 := Lib.hid (Y4.out.keep hcc); have Z5 := Lib.hid hb; have C5 := Lib.hid (C4.out.gt hcc (Nat.le_refl _)); have D5 := Lib.hid hdd
    clear hq hV hb hcc hdd c0 c1 c2 lx y0 y1 ly ld D0 X4 Y4 C4 D4
    go_wp2_with fail
    refine (m2line_any w.heap.size _ D5.out).mono ?_
    rintro e w7 ⟨x, rfl, hx7, hd7, hc7⟩
    have HX := Lib.hid hx7
    have HO := Lib.hid (base_ok hx7)
    have X6 := Lib.hid (X5.out.keep hc7); have Y6 := Lib.hid (Y5.out.keep hc7); have Z6 := Lib.hid (Z5.out.keep hc7); have C6 := Lib.hid (C5.out.gt hc7 (Nat.le_refl _)); have D6 := Lib.hid hd7
    clear hx7 hd7 hc7 X5 Y5 Z5 C5 D5
    have c0 := X6.out.has.cell 0 _ rfl; have c1 := X6.out.has.cell 1 _ rfl; have c2 := X6.out.has.cell 2 _ rfl; have lx := X6.out.lt; have y0 := Y6.out.has.cell 0 _ rfl; have y1 := Y6.out.has.cell 1 _ rfl; have ly := Y6.out.lt; have z0 := Z6.out.has.cell 0 _ rfl; have z1 := Z6.out.has.cell 1 _ rfl; have lz := Z6.out.lt
    go_upto_region 6 with fail
    obtain ⟨wv, rfl⟩ : ∃ wv : World, wv = w7 := ⟨_, rfl⟩
    have ld := D6.out.lt
    have D0 := D6
    have HU2 := Lib.hid (show ((U ++ V) ++ Base).length ≤ 1000 by have := HU.out; have := HV.out; rw [List.length_append, List.length_append]; have : Base.length = 31 := rfl; omega)
    have HA := Lib.hid (show YSt ((U ++ V) ++ Base) S W m o from HM.out.unionL.unionL)
    have HB := Lib.hid (show YSt ((U ++ V) ++ Base) S W q r from HQ.out.union'.unionL)
    have HJ := Lib.hid (yjoin_st HA.out HB.out)
    have HXU := Lib.hid (show x ∈ (U ++ V) ++ Base from List.mem_append_right _ HX.out)
    go_cut [8, 9] (fun s8 s9 wx => ∃ b1 j1 k1 i1 l1 b2 j2 k2 i2 l2, s8 = .pointer (some ⟨b1, 0, none⟩) ∧ s9 = .pointer (some ⟨b2, 0, none⟩) ∧ SVar w.heap.size S b1 j1 k1 i1 l1 (touchYm S W m o x) (touchYo S W m o x) wx ∧ SVar w.heap.size S b2 j2 k2 i2 l2 (touchYm S W (joinYm S W m o q r) (joinYo S o r) x) (touchYo S W (joinYm S W m o q r) (joinYo S o r) x) wx ∧ Chg (fun k => k = w.heap.size) wv wx)
    case first =>
      as_aux_lemma =>
        have hC0 := hC
        have nx := X6.out.ne; have ny := Y6.out.ne; have nz := Z6.out.ne
        refine hd_start 10 (fun w' => w'.cell? ⟨w3.heap.size, 0, none⟩ = some (.int .i64 S) ∧ w'.cell? ⟨w3.heap.size, 1, none⟩ = some (.int .i64 W) ∧ w'.cell? ⟨w3.heap.size, 2, none⟩ = some (.int .i64 L) ∧ w'.cell? ⟨w4.heap.size, 0, none⟩ = some (.slice ma S mc) ∧ w'.cell? ⟨w4.heap.size, 1, none⟩ = some (.slice na S nc) ∧ w'.cell? ⟨bb, 0, none⟩ = some (.slice ja S jc) ∧ w'.cell? ⟨bb, 1, none⟩ = some (.slice ia S ic)) (by kernel_rfl) ⟨by kernel_rfl, by kernel_rfl, by kernel_rfl, by decide⟩ ⟨c0, c1, c2, y0, y1, z0, z1⟩ (fun ok => ?_)
        refine hd_take_l (i := 0) (v := ?_) ok rfl (by decide) (by kernel_rfl) (by kernel_rfl) (fun _ _ _ h => h) (Or.inl ⟨by kernel_rfl, ?_⟩) ?_
        rotate_left
        · (intro w hSw; (try dsimp only at hSw); (try go_split_ands); go_simp; (try (with_reducible rfl)))
        go_frame
        refine hd_take_l (i := 1) (v := ?_) ok rfl (by decide) (by kernel_rfl) (by kernel_rfl) (fun _ _ _ h => h) (Or.inl ⟨by kernel_rfl, ?_⟩) ?_
        rotate_left
        · (intro w hSw; (try dsimp only at hSw); (try go_split_ands); go_simp; (try (with_reducible rfl)))
        go_frame
        refine hd_take_l (i := 2) (v := ?_) ok rfl (by decide) (by kernel_rfl) (by kernel_rfl) (fun _ _ _ h => h) (Or.inl ⟨by kernel_rfl, ?_⟩) ?_
        rotate_left
        · (intro w hSw; (try dsimp only at hSw); (try go_split_ands); go_simp; (try (with_reducible rfl)))
        go_frame
        refine hd_take_l (i := 4) (v := ?_) ok rfl (by decide) (by kernel_rfl) (by kernel_rfl) (fun _ _ _ h => h) (Or.inl ⟨by kernel_rfl, ?_⟩) ?_
        rotate_left
        · (intro w hSw; (try dsimp only at hSw); (try go_split_ands); go_simp; (try (with_reducible rfl)))
        go_frame
        refine hd_take_l (i := 5) (v := ?_) ok rfl (by decide) (by kernel_rfl) (by kernel_rfl) (fun _ _ _ h => h) (Or.inl ⟨by kernel_rfl, ?_⟩) ?_
        rotate_left
        · (intro w hSw; (try dsimp only at hSw); (try go_split_ands); go_simp; (try (with_reducible rfl)))
        go_frame
        refine hd_take_l (i := 6) (v := ?_) ok rfl (by decide) (by kernel_rfl) (by kernel_rfl) (fun _ _ _ h => h) (Or.inl ⟨by kernel_rfl, ?_⟩) ?_
        rotate_left
        · (intro w hSw; (try dsimp only at hSw); (try go_split_ands); go_simp; (try (with_reducible rfl)))
        go_frame
        refine hd_inv_p [(28, 3), (32, 7), (8, 8), (9, 9)] (fun _ => undef) (fun b v w' => (Chg (fun k => k = w.heap.size) wv w') ∧ ∃ A C A' C' xq yq : Nat, (b 3 = true → StP w.heap.size S w' A C (v 3) (fun m' o' => m' = touchYm S W m o x ∧ o' = touchYo S W m o x)) ∧ (b 7 = true → StP w.heap.size S w' A' C' (v 7) (fun m' o' => m' = touchYm S W (joinYm S W m o q r) (joinYo S o r) x ∧ o' = touchYo S W (joinYm S W m o q r) (joinYo S o r) x)) ∧ (b 8 = true → VarP w.heap.size wv w' xq (v 8)) ∧ (b 9 = true → VarP w.heap.size wv w' yq (v 9)) ∧ (b 8 = true → b 9 = true → xq ≠ yq) ∧ (b 3 = true → b 8 = true → xq < A ∨ C ≤ xq) ∧ (b 3 = true → b 9 = true → yq < A ∨ C ≤ yq) ∧ (b 7 = true → b 8 = true → xq < A' ∨ C' ≤ xq) ∧ (b 7 = true → b 9 = true → yq < A' ∨ C' ≤ yq)) (.inl ok) ⟨by decide, by decide, by kernel_rfl, rfl⟩ (by kernel_rfl) (by kernel_rfl) (by decide) ⟨Chg.dkd _, 0, 0, 0, 0, 0, 0, (fun h => by cases h), (fun h => by cases h), (fun h => by cases h), (fun h => by cases h), (fun h _ => by cases h), (fun h _ => by cases h), (fun h _ => by cases h), (fun h _ => by cases h), (fun h _ => by cases h)⟩ ?_ ?_
        · intro i oi hi ho b v a w' hJ hv hr hb hdep hS K hK
          obtain ⟨hC, A, C, A', C', xq, yq, j1, j2, j3, j4, j34, j13, j14, j23, j24⟩ := hJ
          have hCs := hC.size
          have hdw : w.heap.size < w'.heap.size := by omega
          have hi4 : i = 3 ∨ i = 7 ∨ i = 8 ∨ i = 9 := by simpa using hi
          rcases hi4 with rfl | rfl | rfl | rfl
          · obtain rfl := Option.some.inj ho
            try dsimp only at hS
            obtain ⟨s0, s1, s2, s3, s4, s5, s6⟩ := hS
            have e25 : a.tmps[25]?.getD undef = CV S W L := (get_eval a 25).trans (hr 25 (by decide))
            have e26 : a.tmps[26]?.getD undef = YV ma S mc na S nc := (get_eval a 26).trans (hr 26 (by decide))
            have e27 : a.tmps[27]?.getD undef = .int .i64 x := (get_eval a 27).trans (hr 27 (by decide))
            go_simp
            (try rw [e25, e26, e27])
            go_at_call 14
            refine (ytouch_any ((U ++ V) ++ Base) HU2.out S W L hC0.out m o HA.out (Nd w.heap.size) ma S mc na S nc x HO.out.1 HO.out.2 HXU.out _ (Y6.out.keep hC).cub).mono ?_
            rintro e w8 h8
            obtain ⟨ta8, tc8, ua8, uc8, f8, g8, rfl, ho8, hb8⟩ := YRet.fix h8 (ytouch_st HA.out WP.out HO.out.1 HO.out.2 HXU.out).len (ytouch_st HA.out WP.out HO.out.1 HO.out.2 HXU.out).olen
            have hk8 : Chg (fun k => k = w.heap.size) w' w8 := Chg.dk hb8
            have z8 := hk8.size
            exact hK _ _ ⟨hk8.cell (by omega) s0, hk8.cell (by omega) s1, hk8.cell (by omega) s2, hk8.cell (by omega) s3, hk8.cell (by omega) s4, hk8.cell (by omega) s5, hk8.cell (by omega) s6⟩ ⟨(hC.dt hk8), w'.heap.size, w8.heap.size, A', C', xq, yq, fun _ => StP.of ho8 (by omega) ⟨rfl, rfl⟩, fun h => (j2 h).keep hk8, fun h => (j3 h).keep hk8, fun h => (j4 h).keep hk8, j34, fun _ h => .inl (j3 h).2.2.2.2, fun _ h => .inl (j4 h).2.2.2.2, j23, j24⟩
          · obtain rfl := Option.some.inj ho
            try dsimp only at hS
            obtain ⟨s0, s1, s2, s3, s4, s5, s6⟩ := hS
            have e29 : a.tmps[29]?.getD undef = CV S W L := (get_eval a 29).trans (hr 29 (by decide))
            have e30 : a.tmps[30]?.getD undef = YV ja S jc ia S ic := (get_eval a 30).trans (hr 30 (by decide))
            have e31 : a.tmps[31]?.getD undef = .int .i64 x := (get_eval a 31).trans (hr 31 (by decide))
            go_simp
            (try rw [e29, e30, e31])
            go_at_call 14
            refine (ytouch_any ((U ++ V) ++ Base) HU2.out S W L hC0.out (joinYm S W m o q r) (joinYo S o r) HJ.out (Nd w.heap.size) ja S jc ia S ic x HO.out.1 HO.out.2 HXU.out _ (Z6.out.keep hC).cub).mono ?_
            rintro e w9 h9
            obtain ⟨ta9, tc9, ua9, uc9, f9, g9, rfl, ho9, hb9⟩ := YRet.fix h9 (ytouch_st HJ.out WP.out HO.out.1 HO.out.2 HXU.out).len (ytouch_st HJ.out WP.out HO.out.1 HO.out.2 HXU.out).olen
            have hk9 : Chg (fun k => k = w.heap.size) w' w9 := Chg.dk hb9
            have z9 := hk9.size
            exact hK _ _ ⟨hk9.cell (by omega) s0, hk9.cell (by omega) s1, hk9.cell (by omega) s2, hk9.cell (by omega) s3, hk9.cell (by omega) s4, hk9.cell (by omega) s5, hk9.cell (by omega) s6⟩ ⟨(hC.dt hk9), A, C, w'.heap.size, w9.heap.size, xq, yq, fun h => (j1 h).keep hk9, fun _ => StP.of ho9 (by omega) ⟨rfl, rfl⟩, fun h => (j3 h).keep hk9, fun h => (j4 h).keep hk9, j34, j13, j14, fun _ h => .inl (j3 h).2.2.2.2, fun _ h => .inl (j4 h).2.2.2.2⟩
          · obtain rfl := Option.some.inj ho
            try dsimp only at hS
            obtain ⟨s0, s1, s2, s3, s4, s5, s6⟩ := hS
            go_simp
            have hk : Chg (fun k => k = w.heap.size) w' (w'.alloc (.cells #[.slice none 0 0, .slice none 0 0] 31)) := Chg.dka _ _
            exact hK _ _ ⟨hk.cell (by omega) s0, hk.cell (by omega) s1, hk.cell (by omega) s2, hk.cell (by omega) s3, hk.cell (by omega) s4, hk.cell (by omega) s5, hk.cell (by omega) s6⟩ ⟨(hC.dt hk), A, C, A', C', w'.heap.size, yq, fun h => (j1 h).keep hk, fun h => (j2 h).keep hk, fun _ => VarP.new hCs hdw, fun h => (j4 h).keep hk, fun _ h => (by have := (j4 h).2.2.2.2; omega), fun h _ => (by obtain ⟨_, _, _, _, _, _, _, _, q, _⟩ := j1 h; exact .inr q), j14, fun h _ => (by obtain ⟨_, _, _, _, _, _, _, _, q, _⟩ := j2 h; exact .inr q), j24⟩
          · obtain rfl := Option.some.inj ho
            try dsimp only at hS
            obtain ⟨s0, s1, s2, s3, s4, s5, s6⟩ := hS
            go_simp
            have hk : Chg (fun k => k = w.heap.size) w' (w'.alloc (.cells #[.slice none 0 0, .slice none 0 0] 31)) := Chg.dka _ _
            exact hK _ _ ⟨hk.cell (by omega) s0, hk.cell (by omega) s1, hk.cell (by omega) s2, hk.cell (by omega) s3, hk.cell (by omega) s4, hk.cell (by omega) s5, hk.cell (by omega) s6⟩ ⟨(hC.dt hk), A, C, A', C', xq, w'.heap.size, fun h => (j1 h).keep hk, fun h => (j2 h).keep hk, fun h => (j3 h).keep hk, fun _ => VarP.new hCs hdw, fun h _ => (by have := (j3 h).2.2.2.2; omega), j13, fun h _ => (by obtain ⟨_, _, _, _, _, _, _, _, q, _⟩ := j1 h; exact .inr q), j23, fun h _ => (by obtain ⟨_, _, _, _, _, _, _, _, q, _⟩ := j2 h; exact .inr q)⟩
        · intro b v w' hall hJ hS
          obtain ⟨hC, A, C, A', C', xq, yq, j1, j2, j3, j4, j34, j13, j14, j23, j24⟩ := hJ
          obtain ⟨ta1, tc1, ua1, uc1, m1, o1, hv1, q1, _, dA, rfl, rfl⟩ := j1 (hall 3 (by decide))
          obtain ⟨ta2, tc2, ua2, uc2, m2, o2, hv2, q2, _, dA', rfl, rfl⟩ := j2 (hall 7 (by decide))
          obtain ⟨hv3, x1, x2, x3, x4⟩ := j3 (hall 8 (by decide))
          obtain ⟨hv4, y1, y2, y3, y4⟩ := j4 (hall 9 (by decide))
          have hxy := j34 (hall 8 (by decide)) (hall 9 (by decide)); have p1 := j13 (hall 3 (by decide)) (hall 8 (by decide)); have p2 := j14 (hall 3 (by decide)) (hall 9 (by decide)); have p3 := j23 (hall 7 (by decide)) (hall 8 (by decide)); have p4 := j24 (hall 7 (by decide)) (hall 9 (by decide))
          have TS := Lib.hid (two_stored hC x1 x2 x3 x4 y1 y2 y3 y4 hxy q1 dA q2 dA' p1 p2 p3 p4)
          simp only [putP, hv1, hv2, hv3, hv4]
          clear j1 j2 j3 j4 j34 j13 j14 j23 j24 hall hS ok q1 q2
          have xc0 := x1.cell 0 _ rfl; have xc1 := x1.cell 1 _ rfl; have xf := x1.free; have yc0 := y1.cell 0 _ rfl; have yc1 := y1.cell 1 _ rfl; have yf := y1.free
          clear x1 y1
          go_frame
          refine hd_done (by kernel_rfl) ?_
          simp only [List.drop_succ_cons, List.drop_zero]
          go_wp2_with fail
          go_meet
          exact ⟨_, _, _, _, _, _, _, _, _, _, rfl, rfl, TS.out.1, TS.out.2.1, TS.out.2.2⟩
    case rest =>
      obtain ⟨b1, j1, k1, i1, l1, b2, j2, k2, i2, l2, rfl, rfl, v1, v2, hcc⟩ := hcut
      have X7 := Lib.hid (X6.out.keep hcc); have Y7 := Lib.hid (Y6.out.keep hcc); have Z7 := Lib.hid (Z6.out.keep hcc); have C7 := Lib.hid (C6.out.gt hcc (Nat.le_refl _))
      have P7 := Lib.hid v1; have Q7 := Lib.hid v2
      clear c0 c1 c2 lx y0 y1 ly z0 z1 lz ld D0 X6 Y6 Z6 C6 D6 v1 v2 hcc
      have B1 := Lib.hid (below_yjoin HA.out HB.out).1
      have TA := Lib.hid (ytouch_st HA.out WP.out HO.out.1 HO.out.2 HXU.out)
      have TJ := Lib.hid (ytouch_st HJ.out WP.out HO.out.1 HO.out.2 HXU.out)
      have B2 := Lib.hid (BelowY.touch HA.out HJ.out WP.out HO.out.1 HO.out.2 HXU.out B1.out)
      have AG := Lib.hid (show ¬ S = 0 → ageY S W (touchYm S W m o x) (touchYo S W m o x) x = 0 from fun hS => ageY_used HA.out WP.out HO.out.1 HO.out.2 HXU.out hS)
      generalize touchYm S W m o x = M at *
      generalize touchYo S W m o x = Mo at *
      generalize touchYm S W (joinYm S W m o q r) (joinYo S o r) x = N at *
      generalize touchYo S W (joinYm S W m o q r) (joinYo S o r) x = No at *
      generalize joinYm S W m o q r = J at *
      generalize joinYo S o r = Jo at *
      have c0 := X7.out.has.cell 0 _ rfl; have c1 := X7.out.has.cell 1 _ rfl; have c2 := X7.out.has.cell 2 _ rfl; have lx := X7.out.lt; have y0 := Y7.out.has.cell 0 _ rfl; have y1 := Y7.out.has.cell 1 _ rfl; have ly := Y7.out.lt; have z0 := Z7.out.has.cell 0 _ rfl; have z1 := Z7.out.has.cell 1 _ rfl; have lz := Z7.out.lt
      go_wp2_with fail
      refine (ybelow_any ((U ++ V) ++ Base) HU2.out S W L hC.out m J o Jo HA.out HJ.out (Nd w.heap.size) (Nd w.heap.size) ma S mc na S nc ja S jc ia S ic _ Y7.out.cub Z7.out.cub).mono ?_
      rintro e w8 h8
      obtain ⟨rfl, hb8⟩ := h8.tt B1.out
      have X8 := Lib.hid (X7.out.keep (Chg.dk hb8)); have P8 := Lib.hid (P7.out.keep (Chg.dk hb8)); have Q8 := Lib.hid (Q7.out.keep (Chg.dk hb8)); have C8 := Lib.hid (C7.out.tr hb8)
      clear c0 c1 c2 lx y0 y1 ly z0 z1 lz X7 Y7 Z7 P7 Q7 C7 h8 hb8
      have c0 := X8.out.has.cell 0 _ rfl; have c1 := X8.out.has.cell 1 _ rfl; have c2 := X8.out.has.cell 2 _ rfl; have lx := X8.out.lt; have p0 := P8.out.has.cell 0 _ rfl; have p1 := P8.out.has.cell 1 _ rfl; have lp := P8.out.lt; have q0 := Q8.out.has.cell 0 _ rfl; have q1 := Q8.out.has.cell 1 _ rfl; have lq := Q8.out.lt
      go_wp2_with fail
      refine (ybelow_any ((U ++ V) ++ Base) HU2.out S W L hC.out M N Mo No TA.out TJ.out (Nd w.heap.size) (Nd w.heap.size) j1 S k1 i1 S l1 j2 S k2 i2 S l2 _ P8.out.cub Q8.out.cub).mono ?_
      rintro e w9 h9
      obtain ⟨rfl, hb9⟩ := h9.tt B2.out
      have X9 := Lib.hid (X8.out.keep (Chg.dk hb9)); have P9 := Lib.hid (P8.out.keep (Chg.dk hb9)); have C9 := Lib.hid (C8.out.tr hb9)
      clear c0 c1 c2 lx p0 p1 lp q0 q1 lq X8 P8 Q8 C8 h9 hb9
      have c0 := X9.out.has.cell 0 _ rfl; have c1 := X9.out.has.cell 1 _ rfl; have c2 := X9.out.has.cell 2 _ rfl; have lx := X9.out.lt; have p0 := P9.out.has.cell 0 _ rfl; have p1 := P9.out.has.cell 1 _ rfl; have lp := P9.out.lt
      by_cases hS : S = 0
      · have hS0 : ((S : Int) == 0) = true := by simpa using hS
        clear hS
        go_wp2_with fail
        refine (awake_any _).mono ?_
        rintro e w10 ⟨rfl, hb10⟩
        have C10 := Lib.hid (C9.out.tr hb10)
        clear c0 c1 c2 p0 p1
        go_wp2
        go_ret
        exact ⟨rfl, Chg.below (M := Ge w.heap.size) C10.out (fun j hj h => by unfold Ge at h; omega) (Nat.le_refl _)⟩
      · have hS0 : ((S : Int) == 0) = false := by simpa using hS
        have AX := Lib.hid (yage_any S W L hC.out M Mo TA.out (Nd w.heap.size) j1 S k1 i1 S l1 x HO.out.1 (by have := HO.out.2; omega) w9 P9.out.cub)
        rw [AG.out hS] at AX
        clear hS
        go_wp2_with fail
        refine AX.out.mono ?_
        rintro e w10 ⟨rfl, hb10⟩
        have C10 := Lib.hid (C9.out.tr hb10)
        clear c0 c1 c2 p0 p1 hb10
        go_wp2_with fail
        refine (awake_any _).mono ?_
        rintro e w11 ⟨rfl, hb11⟩
        have C11 := Lib.hid (C10.out.tr hb11)
        go_wp2
        go_ret
        exact ⟨rfl, Chg.below (M := Ge w.heap.size) C11.out (fun j hj h => by unfold Ge at h; omega) (Nat.le_refl _)⟩
end Go.Proofs.Ytlpelpjcbclemaa
