/-
  timeboundlaw24.MustGrows returns true, whatever its list is. No condition. Printed by mkLawMu.py.
-/
import Derived.Test.YtikhbijobkkhgaaMuAa
import Derived.Deep.DeepCutAuto
namespace Go.Proofs.Ytikhbijobkkhgaa
open Go.RowKit

set_option maxRecDepth 100000 in
set_option maxHeartbeats 8000000 in
theorem grows_law (a0 : Option Addr) (len0 cap0 : Nat) (z0 : List Int) (w : World) (w0 : IsRow .i64 w a0 len0 cap0 z0) :
    Calls Try.prog 5 #[.slice a0 len0 cap0] w fun e w' => e = .returned (.bool true) ∧ Below w.heap.size w w' := by
  have W0 := Lib.hid w0
  clear w0
  go_enter Try.func5, Try.ntmps5
  go_wp2_with fail
  refine (new_any a0 len0 cap0 z0 _ W0.out).mono ?_
  rintro e w2 ⟨rfl, hd2, hb2⟩
  have D2 := Lib.hid hd2; have C2 := Lib.hid (Chg.of_below (M := Ge w.heap.size) hb2); clear hd2 hb2
  go_wp2_with fail
  refine (m2cache_any w.heap.size _ D2.out).mono ?_
  rintro e w3 ⟨S, W, L, rfl, g1, g2, g3, g4, g5, hd3, hc3⟩
  have hC := Lib.hid (show COk S W L from ⟨by omega, by omega, by omega, by omega, by omega, by omega⟩)
  have WP := Lib.hid (show 0 < W by omega)
  have D3 := Lib.hid (Deck.k_alloc (o := .cells #[.int .i64 S, .int .i64 W, .int .i64 L] 26) hd3)
  have C3 := Lib.hid ((C2.out.gt hc3 (Nat.le_refl _)).alloc (.cells #[.int .i64 S, .int .i64 W, .int .i64 L] 26))
  have X3 := Lib.hid (CVar.new (d := w.heap.size) (S := S) (W := W) (L := L) (w := w3) hd3.lt)
  have L3 := Lib.hid hd3.lt
  clear hd3 hc3 D2 C2
  have c0 := X3.out.has.cell 0 _ rfl; have c1 := X3.out.has.cell 1 _ rfl; have c2 := X3.out.has.cell 2 _ rfl; have lx := X3.out.lt
  go_wp2_with fail
  refine (m2must_any S W L hC.out (by omega) (by omega) w.heap.size _ D3.out).mono ?_
  rintro e w4 ⟨U, ma, mc, m, rfl, ho4, hm4, hU4, hd4, hc4⟩
  have HM := Lib.hid hm4
  have HU := Lib.hid hU4
  have X4 := Lib.hid ((X3.out.keep hc4).keep (Chg.dka w4 (.cells #[.slice ma S mc] 30)))
  have Y4 := Lib.hid (SVar.new (d := w.heap.size) hd4.lt (ho4.nd D3.out.lt))
  have C4 := Lib.hid ((C3.out.gt hc4 (Nat.le_refl _)).alloc (.cells #[.slice ma S mc] 30))
  have D4 := Lib.hid (Deck.k_alloc (o := .cells #[.slice ma S mc] 30) hd4)
  clear c0 c1 c2 lx ho4 hm4 hU4 hd4 hc4 X3 C3 D3
  have y0 := Y4.out.has.cell 0 _ rfl; have ly := Y4.out.lt
  have c0 := X4.out.has.cell 0 _ rfl; have c1 := X4.out.has.cell 1 _ rfl; have c2 := X4.out.has.cell 2 _ rfl; have lx := X4.out.lt
  go_upto_region 4 with fail
  obtain ⟨wv, hwv⟩ : ∃ wv : World, wv = w4.alloc (.cells #[.slice ma S mc] 30) := ⟨_, rfl⟩
  rw [← hwv] at X4 Y4 C4 D4 c0 c1 c2 lx y0 ly ⊢
  clear hwv
  have ld := D4.out.lt
  have D0 := D4
  go_cut [6] (fun s6 wx => ∃ V q b ja jc, s6 = .pointer (some ⟨b, 0, none⟩) ∧ MSt V S W q ∧ V.length ≤ 43 ∧ SVar w.heap.size S b ja jc (joinM W m q) wx ∧ Chg (fun k => k = w.heap.size) wv wx ∧ Deck wx w.heap.size)
  case first =>
    as_aux_lemma =>
      have HUo := HU.out
      have nx := X4.out.ne; have ny := Y4.out.ne
      go_region_held3 (fun w' => w'.cell? ⟨w3.heap.size, 0, none⟩ = some (.int .i64 S) ∧ w'.cell? ⟨w3.heap.size, 1, none⟩ = some (.int .i64 W) ∧ w'.cell? ⟨w3.heap.size, 2, none⟩ = some (.int .i64 L) ∧ w'.cell? ⟨w4.heap.size, 0, none⟩ = some (.slice ma S mc)) (((try dsimp only); (try go_split_ands); (repeat' apply And.intro); all_goals (repeat (first | assumption | (refine cell_later hb6 ?_) | (refine hc5.cell (by omega) ?_) | (refine cell_alloc (by first | assumption | omega | (simp; omega)) ?_) | (refine cell_set (by omega) ?_) | (refine cell_drew ?_)))))
        (first
          | (go_at_call 11; ((with_reducible refine (m2must_any S W L hC.out (by omega) (by omega) w.heap.size _ (by repeat (first | (with_reducible exact D0.out) | (with_reducible refine Deck.k_drew ?_) | (with_reducible refine Deck.k_alloc ?_)))).mono ?_); rintro e w5 ⟨V5, ta5, tc5, q5, rfl, ho5, hm5, hU5, hd5, hc5⟩; have s5 := hc5.size; (try simp only [World.size_alloc, World.size_drew] at s5); have ho5 := ho5.bt1; (try simp only [World.size_alloc, World.size_drew] at ho5); (try (refine (have x5_0_0 : Has w5 (wv.heap.size) [.slice none 0 0] := ?_; ?_); (focus ((with_reducible refine Has.k_chg hc5 ?_ ?_ ?_); (focus (first | omega | (simp; done) | (simp; omega))); (focus (first | omega | (simp; done) | (simp; omega))); (repeat (first | (with_reducible refine Has.drew ?_) | ((with_reducible refine Has.k_new ?_); (first | rfl | (simp; done))) | ((with_reducible refine Has.k_old ?_ ?_); (focus (first | omega | (simp; done) | (simp; omega)))))); done)); have x5_0_0c := x5_0_0.cell 0 _ rfl; have x5_0_0f := x5_0_0.free; have x5_0_0l := x5_0_0.lt (by simp)))))
          | (go_at_call 21; ((with_reducible refine (rjoin_any U V5 (by omega) S W L hC.out m q5 HM.out hm5 (Nd w.heap.size) (Nd w.heap.size) ma S mc ta5 S tc5 _ (by repeat (first | (with_reducible exact Y4.out.cub) | (with_reducible refine Cube.k_chg ?_ (Chg.dkd _)) | (with_reducible refine Cube.k_chg ?_ (Chg.dka _ _)) | (with_reducible refine Cube.k_chg ?_ hc5))) (by repeat (first | (with_reducible exact OCub.ndb (by omega) ho5) | (with_reducible refine Cube.k_chg ?_ (Chg.dkd _)) | (with_reducible refine Cube.k_chg ?_ (Chg.dka _ _)) ))).mono ?_); rintro e w6 h6; obtain ⟨ta6, tc6, rfl, ho6, hb6⟩ := StRet.fix h6 (joinM_len HM.out.len hm5.len); have s6 := hb6.size; (try simp only [World.size_alloc] at s6); have ho6 := ho6.bt1; (try simp only [World.size_alloc] at ho6); (try (refine (have x6_0_0 : Has w6 (wv.heap.size) [.slice none 0 0] := ?_; ?_); (focus ((with_reducible refine Has.k_below hb6 ?_ ?_); (focus (first | omega | (simp; done) | (simp; omega))); (repeat (first | (with_reducible exact x5_0_0) | (with_reducible refine Has.drew ?_) | ((with_reducible refine Has.k_new ?_); (first | rfl | (simp; done))) | ((with_reducible refine Has.k_old ?_ ?_); (focus (first | omega | (simp; done) | (simp; omega)))))); done)); have x6_0_0c := x6_0_0.cell 0 _ rfl; have x6_0_0f := x6_0_0.free; have x6_0_0l := x6_0_0.lt (by simp))); (try (refine (have x6_1_0 : Has w6 (w5.heap.size) [.slice none 0 0] := ?_; ?_); (focus ((with_reducible refine Has.k_below hb6 ?_ ?_); (focus (first | omega | (simp; done) | (simp; omega))); (repeat (first | (with_reducible refine Has.drew ?_) | ((with_reducible refine Has.k_new ?_); (first | rfl | (simp; done))) | ((with_reducible refine Has.k_old ?_ ?_); (focus (first | omega | (simp; done) | (simp; omega)))))); done)); have x6_1_0c := x6_1_0.cell 0 _ rfl; have x6_1_0f := x6_1_0.free; have x6_1_0l := x6_1_0.lt (by simp))))))
      all_goals
        clear c0 c1 c2 y0
        go_wp2_with fail
        go_meet
        refine ⟨V5, q5, _, ta6, tc6, rfl, hm5, hU5, ⟨?_, ?_, ?_, ?_⟩, ?_, ?_⟩
        · repeat (first | (with_reducible exact x6_0_0) | (with_reducible exact x6_1_0) | ((with_reducible refine Has.k_new ?_); (first | rfl | (simp; done))) | (with_reducible refine Has.k_set0 ?_) | ((with_reducible refine Has.k_set ?_ ?_); (focus (first | omega | (simp; done) | (simp; omega)))) | ((with_reducible refine Has.k_old ?_ ?_); (focus (first | omega | (simp; done) | (simp; omega)))))
        · (apply OCub.ndb'; (focus ((repeat (first | (with_reducible exact ho6) | (with_reducible refine OCub.k_alloc ?_) | (with_reducible refine OCub.k_drew ?_) | ((with_reducible refine OCub.k_set ?_ ?_); rotate_left) | ((with_reducible refine OCub.k_chg hc5 ?_ ?_); rotate_left) | (with_reducible refine OCub.k_below hb6 ?_))); (all_goals (intro i hi; have h1 := hi.1; have h2 := hi.2; first | omega | (simp; omega))))); omega)
        · first | omega | (simp; omega)
        · first | omega | (simp; done) | (simp; omega)
        · repeat (first | (with_reducible exact Chg.refl _) | (with_reducible refine Chg.alloc ?_ _) | (with_reducible refine Chg.drew ?_) | (with_reducible refine Chg.k_set (by first | omega | (simp; omega)) ?_) | (with_reducible refine Chg.k_tr hb6 ?_) | (with_reducible refine Chg.k_call hc5 ?_))
        · repeat (first | (with_reducible exact hd5) | (with_reducible exact D0.out) | (with_reducible refine Deck.k_alloc ?_) | (with_reducible refine Deck.k_drew ?_) | (with_reducible refine Deck.k_set (by first | omega | (simp; omega)) ?_) | (with_reducible refine Deck.k_below hb6 ?_))
  case rest =>
    obtain ⟨V, q, bb, ja, jc, rfl, hq, hV, hb, hcc, hdd⟩ := hcut
    have HQ := Lib.hid hq; have HV := Lib.hid hV
    have X5 := Lib.hid (X4.out.keep hcc); have Y5 := Lib.hid (Y4.out.keep hcc); have Z5 := Lib.hid hb; have C5 := Lib.hid (C4.out.gt hcc (Nat.le_refl _)); have D5 := Lib.hid hdd
    clear hq hV hb hcc hdd c0 c1 c2 lx y0 ly ld D0 X4 Y4 C4 D4
    go_wp2_with fail
    refine (m2line_any w.heap.size _ D5.out).mono ?_
    rintro e w7 ⟨x, rfl, hx7, hd7, hc7⟩
    have HX := Lib.hid hx7
    have HO := Lib.hid (base_ok hx7)
    have X6 := Lib.hid (X5.out.keep hc7); have Y6 := Lib.hid (Y5.out.keep hc7); have Z6 := Lib.hid (Z5.out.keep hc7); have C6 := Lib.hid (C5.out.gt hc7 (Nat.le_refl _)); have D6 := Lib.hid hd7
    clear hx7 hd7 hc7 X5 Y5 Z5 C5 D5
    have c0 := X6.out.has.cell 0 _ rfl; have c1 := X6.out.has.cell 1 _ rfl; have c2 := X6.out.has.cell 2 _ rfl; have lx := X6.out.lt; have y0 := Y6.out.has.cell 0 _ rfl; have ly := Y6.out.lt; have z0 := Z6.out.has.cell 0 _ rfl; have lz := Z6.out.lt
    go_upto_region 6 with fail
    obtain ⟨wv, rfl⟩ : ∃ wv : World, wv = w7 := ⟨_, rfl⟩
    have ld := D6.out.lt
    have D0 := D6
    have HU2 := Lib.hid (show ((U ++ V) ++ Base).length ≤ 1000 by have := HU.out; have := HV.out; rw [List.length_append, List.length_append]; have : Base.length = 31 := rfl; omega)
    have HA := Lib.hid (show MSt ((U ++ V) ++ Base) S W m from HM.out.union.union)
    have HJ := Lib.hid (show MSt ((U ++ V) ++ Base) S W (joinM W m q) from (join_st HM.out HQ.out).union.union)
    have HXU := Lib.hid (show x ∈ (U ++ V) ++ Base from List.mem_append_right _ HX.out)
    go_cut [8, 9] (fun s8 s9 wx => ∃ b1 j1 k1 b2 j2 k2, s8 = .pointer (some ⟨b1, 0, none⟩) ∧ s9 = .pointer (some ⟨b2, 0, none⟩) ∧ SVar w.heap.size S b1 j1 k1 (touchM S W m x) wx ∧ SVar w.heap.size S b2 j2 k2 (touchM S W (joinM W m q) x) wx ∧ Chg (fun k => k = w.heap.size) wv wx ∧ Deck wx w.heap.size)
    case first =>
      as_aux_lemma =>
        have tok1 : True := trivial
        go_region_held3 (fun w' => w'.cell? ⟨w3.heap.size, 0, none⟩ = some (.int .i64 S) ∧ w'.cell? ⟨w3.heap.size, 1, none⟩ = some (.int .i64 W) ∧ w'.cell? ⟨w3.heap.size, 2, none⟩ = some (.int .i64 L) ∧ w'.cell? ⟨w4.heap.size, 0, none⟩ = some (.slice ma S mc) ∧ w'.cell? ⟨bb, 0, none⟩ = some (.slice ja S jc)) (((try dsimp only); (try go_split_ands); (repeat' apply And.intro); all_goals (repeat (first | assumption | (refine cell_later hb9 ?_) | (refine cell_later hb8 ?_) | (refine cell_alloc (by first | assumption | omega | (simp; omega)) ?_) | (refine cell_set (by omega) ?_) | (refine cell_drew ?_)))))
          (first
            | (go_at_call 19; have _t := tok1; ((with_reducible refine (touch_any ((U ++ V) ++ Base) HU2.out S W L hC.out m HA.out (Nd w.heap.size) ma S mc x HO.out.1 HO.out.2 HXU.out _ (by repeat (first | (with_reducible exact Y6.out.cub) | (with_reducible refine Cube.k_chg ?_ (Chg.dkd _)) | (with_reducible refine Cube.k_chg ?_ (Chg.dka _ _)) ))).mono ?_); rintro e w8 h8; obtain ⟨ta8, tc8, rfl, ho8, hb8⟩ := StRet.fix h8 (touch_st HA.out WP.out HO.out.1 HO.out.2 HXU.out).len; clear tok1; have s8 := hb8.size; (try simp only [World.size_alloc, World.size_drew] at s8); have ho8 := ho8.bt1; (try simp only [World.size_alloc, World.size_drew] at ho8); (try (refine (have x8_0_0 : Has w8 (wv.heap.size) [.slice none 0 0] := ?_; ?_); (focus ((with_reducible refine Has.k_below hb8 ?_ ?_); (focus (first | omega | (simp; done) | (simp; omega))); (repeat (first | (with_reducible refine Has.drew ?_) | ((with_reducible refine Has.k_new ?_); (first | rfl | (simp; done))) | ((with_reducible refine Has.k_old ?_ ?_); (focus (first | omega | (simp; done) | (simp; omega)))))); done)); have x8_0_0c := x8_0_0.cell 0 _ rfl; have x8_0_0f := x8_0_0.free; have x8_0_0l := x8_0_0.lt (by simp))); (try (refine (have x8_0_1 : Has w8 (wv.heap.size + 1) [.slice none 0 0] := ?_; ?_); (focus ((with_reducible refine Has.k_below hb8 ?_ ?_); (focus (first | omega | (simp; done) | (simp; omega))); (repeat (first | (with_reducible refine Has.drew ?_) | ((with_reducible refine Has.k_new ?_); (first | rfl | (simp; done))) | ((with_reducible refine Has.k_old ?_ ?_); (focus (first | omega | (simp; done) | (simp; omega)))))); done)); have x8_0_1c := x8_0_1.cell 0 _ rfl; have x8_0_1f := x8_0_1.free; have x8_0_1l := x8_0_1.lt (by simp)))))
            | (go_at_call 19; ((with_reducible refine (touch_any ((U ++ V) ++ Base) HU2.out S W L hC.out (joinM W m q) HJ.out (Nd w.heap.size) ja S jc x HO.out.1 HO.out.2 HXU.out _ (by repeat (first | (with_reducible exact Z6.out.cub) | (with_reducible refine Cube.k_chg ?_ (Chg.dkd _)) | (with_reducible refine Cube.k_chg ?_ (Chg.dka _ _)) | (with_reducible refine Cube.k_chg ?_ (Chg.dk hb8))))).mono ?_); rintro e w9 h9; obtain ⟨ta9, tc9, rfl, ho9, hb9⟩ := StRet.fix h9 (touch_st HJ.out WP.out HO.out.1 HO.out.2 HXU.out).len; have s9 := hb9.size; (try simp only [World.size_alloc] at s9); have ho9 := ho9.bt1; (try simp only [World.size_alloc] at ho9); (try (refine (have x9_0_0 : Has w9 (wv.heap.size) [.slice none 0 0] := ?_; ?_); (focus ((with_reducible refine Has.k_below hb9 ?_ ?_); (focus (first | omega | (simp; done) | (simp; omega))); (repeat (first | (with_reducible exact x8_0_0) | (with_reducible refine Has.drew ?_) | ((with_reducible refine Has.k_new ?_); (first | rfl | (simp; done))) | ((with_reducible refine Has.k_old ?_ ?_); (focus (first | omega | (simp; done) | (simp; omega)))))); done)); have x9_0_0c := x9_0_0.cell 0 _ rfl; have x9_0_0f := x9_0_0.free; have x9_0_0l := x9_0_0.lt (by simp))); (try (refine (have x9_0_1 : Has w9 (wv.heap.size + 1) [.slice none 0 0] := ?_; ?_); (focus ((with_reducible refine Has.k_below hb9 ?_ ?_); (focus (first | omega | (simp; done) | (simp; omega))); (repeat (first | (with_reducible exact x8_0_1) | (with_reducible refine Has.drew ?_) | ((with_reducible refine Has.k_new ?_); (first | rfl | (simp; done))) | ((with_reducible refine Has.k_old ?_ ?_); (focus (first | omega | (simp; done) | (simp; omega)))))); done)); have x9_0_1c := x9_0_1.cell 0 _ rfl; have x9_0_1f := x9_0_1.free; have x9_0_1l := x9_0_1.lt (by simp))); (try (refine (have x9_1_0 : Has w9 (w8.heap.size) [.slice none 0 0] := ?_; ?_); (focus ((with_reducible refine Has.k_below hb9 ?_ ?_); (focus (first | omega | (simp; done) | (simp; omega))); (repeat (first | (with_reducible refine Has.drew ?_) | ((with_reducible refine Has.k_new ?_); (first | rfl | (simp; done))) | ((with_reducible refine Has.k_old ?_ ?_); (focus (first | omega | (simp; done) | (simp; omega)))))); done)); have x9_1_0c := x9_1_0.cell 0 _ rfl; have x9_1_0f := x9_1_0.free; have x9_1_0l := x9_1_0.lt (by simp))); (try (refine (have x9_1_1 : Has w9 (w8.heap.size + 1) [.slice none 0 0] := ?_; ?_); (focus ((with_reducible refine Has.k_below hb9 ?_ ?_); (focus (first | omega | (simp; done) | (simp; omega))); (repeat (first | (with_reducible refine Has.drew ?_) | ((with_reducible refine Has.k_new ?_); (first | rfl | (simp; done))) | ((with_reducible refine Has.k_old ?_ ?_); (focus (first | omega | (simp; done) | (simp; omega)))))); done)); have x9_1_1c := x9_1_1.cell 0 _ rfl; have x9_1_1f := x9_1_1.free; have x9_1_1l := x9_1_1.lt (by simp))))))
        all_goals
          clear c0 c1 c2 y0 z0
          go_wp2_with fail
          go_meet
          refine ⟨_, ta8, tc8, _, ta9, tc9, rfl, rfl, ⟨?_, ?_, ?_, ?_⟩, ⟨?_, ?_, ?_, ?_⟩, ?_, ?_⟩
          · repeat (first | (with_reducible exact x9_0_0) | (with_reducible exact x9_0_1) | (with_reducible exact x9_1_0) | (with_reducible exact x9_1_1) | ((with_reducible refine Has.k_new ?_); (first | rfl | (simp; done))) | (with_reducible refine Has.k_set0 ?_) | ((with_reducible refine Has.k_set ?_ ?_); (focus (first | omega | (simp; done) | (simp; omega)))) | ((with_reducible refine Has.k_old ?_ ?_); (focus (first | omega | (simp; done) | (simp; omega)))))
          · (apply OCub.ndb'; (focus ((repeat (first | (with_reducible exact ho8) | (with_reducible refine OCub.k_alloc ?_) | (with_reducible refine OCub.k_drew ?_) | ((with_reducible refine OCub.k_set ?_ ?_); rotate_left) | (with_reducible refine OCub.k_below hb8 ?_) | (with_reducible refine OCub.k_below hb9 ?_))); (all_goals (intro i hi; have h1 := hi.1; have h2 := hi.2; first | omega | (simp; omega))))); omega)
          · first | omega | (simp; omega)
          · first | omega | (simp; done) | (simp; omega)
          · repeat (first | (with_reducible exact x9_0_0) | (with_reducible exact x9_0_1) | (with_reducible exact x9_1_0) | (with_reducible exact x9_1_1) | ((with_reducible refine Has.k_new ?_); (first | rfl | (simp; done))) | (with_reducible refine Has.k_set0 ?_) | ((with_reducible refine Has.k_set ?_ ?_); (focus (first | omega | (simp; done) | (simp; omega)))) | ((with_reducible refine Has.k_old ?_ ?_); (focus (first | omega | (simp; done) | (simp; omega)))))
          · (apply OCub.ndb'; (focus ((repeat (first | (with_reducible exact ho9) | (with_reducible refine OCub.k_alloc ?_) | (with_reducible refine OCub.k_drew ?_) | ((with_reducible refine OCub.k_set ?_ ?_); rotate_left) | (with_reducible refine OCub.k_below hb8 ?_) | (with_reducible refine OCub.k_below hb9 ?_))); (all_goals (intro i hi; have h1 := hi.1; have h2 := hi.2; first | omega | (simp; omega))))); omega)
          · first | omega | (simp; omega)
          · first | omega | (simp; done) | (simp; omega)
          · repeat (first | (with_reducible exact Chg.refl _) | (with_reducible refine Chg.alloc ?_ _) | (with_reducible refine Chg.drew ?_) | (with_reducible refine Chg.k_set (by first | omega | (simp; omega)) ?_) | (with_reducible refine Chg.k_tr hb9 ?_) | (with_reducible refine Chg.k_tr hb8 ?_))
          · repeat (first  | (with_reducible exact D0.out) | (with_reducible refine Deck.k_alloc ?_) | (with_reducible refine Deck.k_drew ?_) | (with_reducible refine Deck.k_set (by first | omega | (simp; omega)) ?_) | (with_reducible refine Deck.k_below hb8 ?_) | (with_reducible refine Deck.k_below hb9 ?_))
    case rest =>
      obtain ⟨b1, j1, k1, b2, j2, k2, rfl, rfl, v1, v2, hcc, hdd⟩ := hcut
      have X7 := Lib.hid (X6.out.keep hcc); have Y7 := Lib.hid (Y6.out.keep hcc); have Z7 := Lib.hid (Z6.out.keep hcc); have C7 := Lib.hid (C6.out.gt hcc (Nat.le_refl _))
      have P7 := Lib.hid v1; have Q7 := Lib.hid v2; have hdd0 := Lib.hid hdd
      clear c0 c1 c2 lx y0 ly z0 lz ld D0 X6 Y6 Z6 C6 D6 v1 v2 hcc hdd
      have LD := Lib.hid (show w.heap.size < wc.heap.size from hdd0.out.lt); clear hdd0
      have B1 := Lib.hid (below_join HM.out HQ.out).1
      have TA := Lib.hid (touch_st HA.out WP.out HO.out.1 HO.out.2 HXU.out)
      have TJ := Lib.hid (touch_st HJ.out WP.out HO.out.1 HO.out.2 HXU.out)
      have B2 := Lib.hid (BelowM.touch HA.out HJ.out WP.out HO.out.1 HO.out.2 HXU.out HXU.out B1.out)
      have T3 := Lib.hid (touch_twice HA.out WP.out HO.out.1 HO.out.2 HXU.out)
      have AG := Lib.hid (show ¬ S = 0 → ((ageN S W (touchM S W m x) x : Nat) : Int) = 0 from fun hS => by have := age_used HA.out WP.out HO.out.1 HO.out.2 HXU.out hS; omega)
      generalize touchM S W m x = M at *
      generalize touchM S W (joinM W m q) x = N at *
      generalize joinM W m q = J at *
      go_upto_region 7 with fail
      obtain ⟨wv, rfl⟩ : ∃ wv : World, wv = wc := ⟨_, rfl⟩
      have TT := Lib.hid (show ∀ (w' : World), Cube (Nd w.heap.size) w' j1 S k1 M → Calls Try.prog 19 #[CV S W L, .agg #[.slice j1 S k1], .int .i64 x] w' (StRet M w') from fun w' r => T3.out ▸ touch_any ((U ++ V) ++ Base) HU2.out S W L hC.out M TA.out (Nd w.heap.size) j1 S k1 x HO.out.1 HO.out.2 HXU.out w' r)
      by_cases hS : S = 0
      · have hS0 : ((S : Int) == 0) = true := by simpa using hS
        clear hS
        have X7v0 := Lib.hid (X7.out.keep (Chg.dkd wv)); have Y7v0 := Lib.hid (Y7.out.keep (Chg.dkd wv)); have Z7v0 := Lib.hid (Z7.out.keep (Chg.dkd wv)); have P7v0 := Lib.hid (P7.out.keep (Chg.dkd wv)); have Q7v0 := Lib.hid (Q7.out.keep (Chg.dkd wv))
        have CFv0 := Lib.hid (C7.out.drew); have LDv0 := Lib.hid (show w.heap.size < wv.drew.heap.size from LD.out)
        have zX70 := X7v0.out.has.cell 0 _ rfl; have zX71 := X7v0.out.has.cell 1 _ rfl; have zX72 := X7v0.out.has.cell 2 _ rfl; have zY70 := Y7v0.out.has.cell 0 _ rfl; have zZ70 := Z7v0.out.has.cell 0 _ rfl; have zP70 := P7v0.out.has.cell 0 _ rfl; have zQ70 := Q7v0.out.has.cell 0 _ rfl
        refine hd_start 35 (fun w' => w'.cell? ⟨w3.heap.size, 0, none⟩ = some (.int .i64 S) ∧ w'.cell? ⟨w3.heap.size, 1, none⟩ = some (.int .i64 W) ∧ w'.cell? ⟨w3.heap.size, 2, none⟩ = some (.int .i64 L) ∧ w'.cell? ⟨w4.heap.size, 0, none⟩ = some (.slice ma S mc) ∧ w'.cell? ⟨bb, 0, none⟩ = some (.slice ja S jc) ∧ w'.cell? ⟨b1, 0, none⟩ = some (.slice j1 S k1) ∧ w'.cell? ⟨b2, 0, none⟩ = some (.slice j2 S k2)) (by kernel_rfl) ⟨by kernel_rfl, by kernel_rfl, by kernel_rfl, by decide⟩ ⟨zX70, zX71, zX72, zY70, zZ70, zP70, zQ70⟩ (fun ok => ?_)
        refine hd_take (i := 0) (v := ?_) ok rfl (by decide) (by kernel_rfl) (by kernel_rfl) (fun _ _ _ h => h) (Or.inl ⟨by kernel_rfl, ?_⟩) ?_
        rotate_left
        · (intro w hSw; (try dsimp only at hSw); (try go_split_ands); go_simp; (try (with_reducible rfl)))
        simp only [Act.put, List.setIfInBounds_toArray]
        refine hd_take (i := 1) (v := ?_) ok rfl (by decide) (by kernel_rfl) (by kernel_rfl) (fun _ _ _ h => h) (Or.inl ⟨by kernel_rfl, ?_⟩) ?_
        rotate_left
        · (intro w hSw; (try dsimp only at hSw); (try go_split_ands); go_simp; (try (with_reducible rfl)))
        simp only [Act.put]
        refine hd_take (i := 2) (v := ?_) ok rfl (by decide) (by kernel_rfl) (by kernel_rfl) (fun _ _ _ h => h) (Or.inl ⟨by kernel_rfl, ?_⟩) ?_
        rotate_left
        · (intro w hSw; (try dsimp only at hSw); (try go_split_ands); go_simp; (try (with_reducible rfl)))
        simp only [Act.put]
        refine hd_only (c := 3) rfl (by decide) (by kernel_rfl) (fun K hK => ?_)
        go_simp
        go_at_call 22
        refine (below_any ((U ++ V) ++ Base) ((U ++ V) ++ Base) S W L hC.out m J HA.out HJ.out (Nd w.heap.size) (Nd w.heap.size) ma S mc ja S jc _ Y7v0.out.cub Z7v0.out.cub).mono ?_
        rintro e w103 h3
        obtain ⟨rfl, hb3⟩ := h3.tt B1.out
        simp only []
        refine hK _ _ (by refine ⟨?_, ?_, ?_, ?_, ?_, ?_, ?_⟩ <;> (first | exact cell_later hb3 zX70 | exact cell_later hb3 zX71 | exact cell_later hb3 zX72 | exact cell_later hb3 zY70 | exact cell_later hb3 zZ70 | exact cell_later hb3 zP70 | exact cell_later hb3 zQ70)) ?_
        clear hK K
        (try simp only [Act.put, List.setIfInBounds_toArray, List.set_cons_zero, List.set_cons_succ])
        have X7v1 := Lib.hid (X7v0.out.keep (Chg.dk hb3)); have Y7v1 := Lib.hid (Y7v0.out.keep (Chg.dk hb3)); have Z7v1 := Lib.hid (Z7v0.out.keep (Chg.dk hb3)); have P7v1 := Lib.hid (P7v0.out.keep (Chg.dk hb3)); have Q7v1 := Lib.hid (Q7v0.out.keep (Chg.dk hb3))
        have CFv1 := Lib.hid (CFv0.out.tr hb3); have LDv1 := Lib.hid (Nat.lt_of_lt_of_le LDv0.out hb3.size)
        clear hb3 zX70 zX71 zX72 zY70 zZ70 zP70 zQ70
        have zX70 := X7v1.out.has.cell 0 _ rfl; have zX71 := X7v1.out.has.cell 1 _ rfl; have zX72 := X7v1.out.has.cell 2 _ rfl; have zY70 := Y7v1.out.has.cell 0 _ rfl; have zZ70 := Z7v1.out.has.cell 0 _ rfl; have zP70 := P7v1.out.has.cell 0 _ rfl; have zQ70 := Q7v1.out.has.cell 0 _ rfl
        refine hd_take (i := 4) (v := ?_) ok rfl (by decide) (by kernel_rfl) (by kernel_rfl) (fun _ _ _ h => h) (Or.inl ⟨by kernel_rfl, ?_⟩) ?_
        rotate_left
        · (intro w hSw; (try dsimp only at hSw); (try go_split_ands); go_simp; (try (with_reducible rfl)))
        simp only [Act.put, List.setIfInBounds_toArray]
        refine hd_take (i := 5) (v := ?_) ok rfl (by decide) (by kernel_rfl) (by kernel_rfl) (fun _ _ _ h => h) (Or.inl ⟨by kernel_rfl, ?_⟩) ?_
        rotate_left
        · (intro w hSw; (try dsimp only at hSw); (try go_split_ands); go_simp; (try (with_reducible rfl)))
        simp only [Act.put]
        refine hd_take (i := 6) (v := ?_) ok rfl (by decide) (by kernel_rfl) (by kernel_rfl) (fun _ _ _ h => h) (Or.inl ⟨by kernel_rfl, ?_⟩) ?_
        rotate_left
        · (intro w hSw; (try dsimp only at hSw); (try go_split_ands); go_simp; (try (with_reducible rfl)))
        simp only [Act.put]
        refine hd_take (i := 7) (v := ?_) ok rfl (by decide) (by kernel_rfl) (by kernel_rfl) (fun _ _ _ h => h) (Or.inl ⟨by kernel_rfl, ?_⟩) ?_
        rotate_left
        · (intro w hSw; (try dsimp only at hSw); (try go_split_ands); go_simp; (try (with_reducible rfl)))
        simp only [Act.put]
        refine hd_only (c := 8) rfl (by decide) (by kernel_rfl) (fun K hK => ?_)
        go_simp
        go_at_call 22
        refine (below_any ((U ++ V) ++ Base) ((U ++ V) ++ Base) S W L hC.out M N TA.out TJ.out (Nd w.heap.size) (Nd w.heap.size) j1 S k1 j2 S k2 _ P7v1.out.cub Q7v1.out.cub).mono ?_
        rintro e w108 h8
        obtain ⟨rfl, hb8⟩ := h8.tt B2.out
        simp only []
        refine hK _ _ (by refine ⟨?_, ?_, ?_, ?_, ?_, ?_, ?_⟩ <;> (first | exact cell_later hb8 zX70 | exact cell_later hb8 zX71 | exact cell_later hb8 zX72 | exact cell_later hb8 zY70 | exact cell_later hb8 zZ70 | exact cell_later hb8 zP70 | exact cell_later hb8 zQ70)) ?_
        clear hK K
        (try simp only [Act.put, List.setIfInBounds_toArray, List.set_cons_zero, List.set_cons_succ])
        have X7v2 := Lib.hid (X7v1.out.keep (Chg.dk hb8)); have Y7v2 := Lib.hid (Y7v1.out.keep (Chg.dk hb8)); have Z7v2 := Lib.hid (Z7v1.out.keep (Chg.dk hb8)); have P7v2 := Lib.hid (P7v1.out.keep (Chg.dk hb8)); have Q7v2 := Lib.hid (Q7v1.out.keep (Chg.dk hb8))
        have CFv2 := Lib.hid (CFv1.out.tr hb8); have LDv2 := Lib.hid (Nat.lt_of_lt_of_le LDv1.out hb8.size)
        clear hb8 zX70 zX71 zX72 zY70 zZ70 zP70 zQ70
        have zX70 := X7v2.out.has.cell 0 _ rfl; have zX71 := X7v2.out.has.cell 1 _ rfl; have zX72 := X7v2.out.has.cell 2 _ rfl; have zY70 := Y7v2.out.has.cell 0 _ rfl; have zZ70 := Z7v2.out.has.cell 0 _ rfl; have zP70 := P7v2.out.has.cell 0 _ rfl; have zQ70 := Q7v2.out.has.cell 0 _ rfl
        refine hd_take (i := 9) (v := ?_) ok rfl (by decide) (by kernel_rfl) (by kernel_rfl) (fun _ _ _ h => h) (Or.inl ⟨by kernel_rfl, ?_⟩) ?_
        rotate_left
        · (intro w hSw; (try dsimp only at hSw); (try go_split_ands); go_simp; (try (with_reducible rfl)))
        simp only [Act.put, List.setIfInBounds_toArray]
        refine hd_take (i := 10) (v := ?_) ok rfl (by decide) (by kernel_rfl) (by kernel_rfl) (fun _ _ _ h => h) (Or.inl ⟨by kernel_rfl, ?_⟩) ?_
        rotate_left
        · (intro w hSw; (try dsimp only at hSw); (try go_split_ands); go_simp; (try (with_reducible rfl)))
        simp only [Act.put]
        refine hd_take (i := 11) (v := ?_) ok rfl (by decide) (by kernel_rfl) (by kernel_rfl) (fun _ _ _ h => h) (Or.inl ⟨by kernel_rfl, ?_⟩) ?_
        rotate_left
        · (intro w hSw; (try dsimp only at hSw); (try go_split_ands); go_simp; (try (with_reducible rfl)))
        simp only [Act.put]
        refine hd_take (i := 12) (v := ?_) ok rfl (by decide) (by kernel_rfl) (by kernel_rfl) (fun _ _ _ h => h) (Or.inl ⟨by kernel_rfl, ?_⟩) ?_
        rotate_left
        · (intro w hSw; (try dsimp only at hSw); (try go_split_ands); go_simp; (try (with_reducible rfl)))
        simp only [Act.put]
        refine hd_take (i := 13) (v := ?_) ok rfl (by decide) (by kernel_rfl) (by kernel_rfl) (fun _ _ _ h => h) (Or.inl ⟨by kernel_rfl, ?_⟩) ?_
        rotate_left
        · (intro w hSw; (try dsimp only at hSw); (try go_split_ands); go_simp; (try (with_reducible rfl)))
        simp only [Act.put]
        refine hd_take (i := 14) (v := ?_) ok rfl (by decide) (by kernel_rfl) (by kernel_rfl) (fun _ _ _ h => h) (Or.inl ⟨by kernel_rfl, ?_⟩) ?_
        rotate_left
        · (intro w hSw; (try dsimp only at hSw); (try go_split_ands); go_simp; (try (with_reducible rfl)))
        simp only [Act.put]
        refine hd_take (i := 15) (v := undef) ok rfl (by decide) (by kernel_rfl) (by kernel_rfl) (fun _ _ _ h => h) (Or.inr ⟨by kernel_rfl, rfl⟩) ?_
        simp only [Act.put]
        refine hd_take (i := 16) (v := undef) ok rfl (by decide) (by kernel_rfl) (by kernel_rfl) (fun _ _ _ h => h) (Or.inr ⟨by kernel_rfl, rfl⟩) ?_
        simp only [Act.put]
        refine hd_take (i := 17) (v := undef) ok rfl (by decide) (by kernel_rfl) (by kernel_rfl) (fun _ _ _ h => h) (Or.inr ⟨by kernel_rfl, rfl⟩) ?_
        simp only [Act.put]
        refine hd_take (i := 18) (v := undef) ok rfl (by decide) (by kernel_rfl) (by kernel_rfl) (fun _ _ _ h => h) (Or.inr ⟨by kernel_rfl, rfl⟩) ?_
        simp only [Act.put]
        refine hd_take (i := 19) (v := undef) ok rfl (by decide) (by kernel_rfl) (by kernel_rfl) (fun _ _ _ h => h) (Or.inr ⟨by kernel_rfl, rfl⟩) ?_
        simp only [Act.put]
        refine hd_take (i := 20) (v := ?_) ok rfl (by decide) (by kernel_rfl) (by kernel_rfl) (fun _ _ _ h => h) (Or.inl ⟨by kernel_rfl, ?_⟩) ?_
        rotate_left
        · (intro w hSw; (try dsimp only at hSw); (try go_split_ands); go_simp; (try (with_reducible rfl)))
        simp only [Act.put]
        refine hd_take (i := 21) (v := ?_) ok rfl (by decide) (by kernel_rfl) (by kernel_rfl) (fun _ _ _ h => h) (Or.inl ⟨by kernel_rfl, ?_⟩) ?_
        rotate_left
        · (intro w hSw; (try dsimp only at hSw); (try go_split_ands); go_simp; (try (with_reducible rfl)))
        simp only [Act.put]
        refine hd_take (i := 22) (v := ?_) ok rfl (by decide) (by kernel_rfl) (by kernel_rfl) (fun _ _ _ h => h) (Or.inl ⟨by kernel_rfl, ?_⟩) ?_
        rotate_left
        · (intro w hSw; (try dsimp only at hSw); (try go_split_ands); go_simp; (try (with_reducible rfl)))
        simp only [Act.put]
        refine hd_take (i := 23) (v := ?_) ok rfl (by decide) (by kernel_rfl) (by kernel_rfl) (fun _ _ _ h => h) (Or.inl ⟨by kernel_rfl, ?_⟩) ?_
        rotate_left
        · (intro w hSw; (try dsimp only at hSw); (try go_split_ands); go_simp; (try (with_reducible rfl)))
        simp only [Act.put]
        refine hd_take (i := 24) (v := ?_) ok rfl (by decide) (by kernel_rfl) (by kernel_rfl) (fun _ _ _ h => h) (Or.inl ⟨by kernel_rfl, ?_⟩) ?_
        rotate_left
        · (intro w hSw; (try dsimp only at hSw); (try go_split_ands); go_simp; (try (with_reducible rfl)))
        simp only [Act.put]
        refine hd_take (i := 25) (v := ?_) ok rfl (by decide) (by kernel_rfl) (by kernel_rfl) (fun _ _ _ h => h) (Or.inl ⟨by kernel_rfl, ?_⟩) ?_
        rotate_left
        · (intro w hSw; (try dsimp only at hSw); (try go_split_ands); go_simp; (try (with_reducible rfl)))
        simp only [Act.put]
        refine hd_take (i := 28) (v := ?_) ok rfl (by decide) (by kernel_rfl) (by kernel_rfl) (fun _ _ _ h => h) (Or.inl ⟨by kernel_rfl, ?_⟩) ?_
        rotate_left
        · (intro w hSw; (try dsimp only at hSw); (try go_split_ands); go_simp; (try (with_reducible rfl)))
        simp only [Act.put]
        refine hd_take (i := 29) (v := ?_) ok rfl (by decide) (by kernel_rfl) (by kernel_rfl) (fun _ _ _ h => h) (Or.inl ⟨by kernel_rfl, ?_⟩) ?_
        rotate_left
        · (intro w hSw; (try dsimp only at hSw); (try go_split_ands); go_simp; (try (with_reducible rfl)))
        simp only [Act.put]
        refine hd_only (c := 26) rfl (by decide) (by kernel_rfl) (fun K hK => ?_)
        go_simp
        go_at_call 19
        refine (TT.out _ P7v2.out.cub).mono ?_
        rintro e w126 h26
        obtain ⟨ta26, tc26, rfl, ho26, hb26⟩ := StRet.fix h26 TA.out.len
        simp only []
        refine hK _ _ (by refine ⟨?_, ?_, ?_, ?_, ?_, ?_, ?_⟩ <;> (first | exact cell_later hb26 zX70 | exact cell_later hb26 zX71 | exact cell_later hb26 zX72 | exact cell_later hb26 zY70 | exact cell_later hb26 zZ70 | exact cell_later hb26 zP70 | exact cell_later hb26 zQ70)) ?_
        clear hK K
        (try simp only [Act.put, List.setIfInBounds_toArray, List.set_cons_zero, List.set_cons_succ])
        have X7v3 := Lib.hid (X7v2.out.keep (Chg.dk hb26)); have Y7v3 := Lib.hid (Y7v2.out.keep (Chg.dk hb26)); have Z7v3 := Lib.hid (Z7v2.out.keep (Chg.dk hb26)); have P7v3 := Lib.hid (P7v2.out.keep (Chg.dk hb26)); have Q7v3 := Lib.hid (Q7v2.out.keep (Chg.dk hb26))
        have CFv3 := Lib.hid (CFv2.out.tr hb26); have LDv3 := Lib.hid (Nat.lt_of_lt_of_le LDv2.out hb26.size)
        have HO26 := Lib.hid (Cube.k_below (Below.refl _ _) (ho26.nd LDv2.out))
        clear ho26 h26
        clear hb26 zX70 zX71 zX72 zY70 zZ70 zP70 zQ70
        have zX70 := X7v3.out.has.cell 0 _ rfl; have zX71 := X7v3.out.has.cell 1 _ rfl; have zX72 := X7v3.out.has.cell 2 _ rfl; have zY70 := Y7v3.out.has.cell 0 _ rfl; have zZ70 := Z7v3.out.has.cell 0 _ rfl; have zP70 := P7v3.out.has.cell 0 _ rfl; have zQ70 := Q7v3.out.has.cell 0 _ rfl
        refine hd_take (i := 27) (v := .slice ta26 S tc26) ok rfl (by decide) (by kernel_rfl) (by kernel_rfl) (fun _ _ _ h => h) (Or.inl ⟨by kernel_rfl, fun _ _ => by kernel_rfl⟩) ?_
        simp only [Act.put, List.setIfInBounds_toArray]
        refine hd_only (c := 30) rfl (by decide) (by kernel_rfl) (fun K hK => ?_)
        go_simp
        go_at_call 23
        refine (rsame_yes (Nd w.heap.size) (Nd w.heap.size) ta26 j1 S tc26 S k1 M _ HO26.out P7v3.out.cub).mono ?_
        rintro e w130 ⟨rfl, hb30⟩
        simp only []
        refine hK _ _ (by refine ⟨?_, ?_, ?_, ?_, ?_, ?_, ?_⟩ <;> (first | exact cell_later hb30 zX70 | exact cell_later hb30 zX71 | exact cell_later hb30 zX72 | exact cell_later hb30 zY70 | exact cell_later hb30 zZ70 | exact cell_later hb30 zP70 | exact cell_later hb30 zQ70)) ?_
        clear hK K
        (try simp only [Act.put, List.setIfInBounds_toArray, List.set_cons_zero, List.set_cons_succ])
        have X7v4 := Lib.hid (X7v3.out.keep (Chg.dk hb30)); have Y7v4 := Lib.hid (Y7v3.out.keep (Chg.dk hb30)); have Z7v4 := Lib.hid (Z7v3.out.keep (Chg.dk hb30)); have P7v4 := Lib.hid (P7v3.out.keep (Chg.dk hb30)); have Q7v4 := Lib.hid (Q7v3.out.keep (Chg.dk hb30))
        have CFv4 := Lib.hid (CFv3.out.tr hb30); have LDv4 := Lib.hid (Nat.lt_of_lt_of_le LDv3.out hb30.size)
        clear hb30 zX70 zX71 zX72 zY70 zZ70 zP70 zQ70
        have zX70 := X7v4.out.has.cell 0 _ rfl; have zX71 := X7v4.out.has.cell 1 _ rfl; have zX72 := X7v4.out.has.cell 2 _ rfl; have zY70 := Y7v4.out.has.cell 0 _ rfl; have zZ70 := Z7v4.out.has.cell 0 _ rfl; have zP70 := P7v4.out.has.cell 0 _ rfl; have zQ70 := Q7v4.out.has.cell 0 _ rfl
        refine hd_take (i := 31) (v := ?_) ok rfl (by decide) (by kernel_rfl) (by kernel_rfl) (fun _ _ _ h => h) (Or.inl ⟨by kernel_rfl, ?_⟩) ?_
        rotate_left
        · (intro w hSw; (try dsimp only at hSw); (try go_split_ands); go_simp; (try (with_reducible rfl)))
        simp only [Act.put, List.setIfInBounds_toArray]
        refine hd_take (i := 32) (v := ?_) ok rfl (by decide) (by kernel_rfl) (by kernel_rfl) (fun _ _ _ h => h) (Or.inl ⟨by kernel_rfl, ?_⟩) ?_
        rotate_left
        · (intro w hSw; (try dsimp only at hSw); (try go_split_ands); go_simp; (try (with_reducible rfl)))
        simp only [Act.put]
        refine hd_only (c := 33) rfl (by decide) (by kernel_rfl) (fun K hK => ?_)
        go_simp
        go_at_call 17
        refine (awake_any _).mono ?_
        rintro e w133 ⟨rfl, hb33⟩
        simp only []
        refine hK _ _ (by refine ⟨?_, ?_, ?_, ?_, ?_, ?_, ?_⟩ <;> (first | exact cell_later hb33 zX70 | exact cell_later hb33 zX71 | exact cell_later hb33 zX72 | exact cell_later hb33 zY70 | exact cell_later hb33 zZ70 | exact cell_later hb33 zP70 | exact cell_later hb33 zQ70)) ?_
        clear hK K
        (try simp only [Act.put, List.setIfInBounds_toArray, List.set_cons_zero, List.set_cons_succ])
        have X7v5 := Lib.hid (X7v4.out.keep (Chg.dk hb33)); have Y7v5 := Lib.hid (Y7v4.out.keep (Chg.dk hb33)); have Z7v5 := Lib.hid (Z7v4.out.keep (Chg.dk hb33)); have P7v5 := Lib.hid (P7v4.out.keep (Chg.dk hb33)); have Q7v5 := Lib.hid (Q7v4.out.keep (Chg.dk hb33))
        have CFv5 := Lib.hid (CFv4.out.tr hb33); have LDv5 := Lib.hid (Nat.lt_of_lt_of_le LDv4.out hb33.size)
        clear hb33 zX70 zX71 zX72 zY70 zZ70 zP70 zQ70
        have zX70 := X7v5.out.has.cell 0 _ rfl; have zX71 := X7v5.out.has.cell 1 _ rfl; have zX72 := X7v5.out.has.cell 2 _ rfl; have zY70 := Y7v5.out.has.cell 0 _ rfl; have zZ70 := Z7v5.out.has.cell 0 _ rfl; have zP70 := P7v5.out.has.cell 0 _ rfl; have zQ70 := Q7v5.out.has.cell 0 _ rfl
        refine hd_take (i := 34) (v := ?_) ok rfl (by decide) (by kernel_rfl) (by kernel_rfl) (fun _ _ _ h => h) (Or.inl ⟨by kernel_rfl, ?_⟩) ?_
        rotate_left
        · (intro w hSw; (try dsimp only at hSw); (try go_split_ands); go_simp; (try (with_reducible rfl)))
        simp only [Act.put, List.setIfInBounds_toArray]
        clear ok zX70 zX71 zX72 zY70 zZ70 zP70 zQ70
        refine hd_done (by kernel_rfl) ?_
        simp only [List.drop_succ_cons, List.drop_zero]
        go_wp2
        go_ret
        exact ⟨rfl, Chg.below (M := Ge w.heap.size) CFv5.out (fun j hj h => by unfold Ge at h; omega) (Nat.le_refl _)⟩
      · have hS0 : ((S : Int) == 0) = false := by simpa using hS
        have X7v0 := Lib.hid (X7.out.keep (Chg.dkd wv)); have Y7v0 := Lib.hid (Y7.out.keep (Chg.dkd wv)); have Z7v0 := Lib.hid (Z7.out.keep (Chg.dkd wv)); have P7v0 := Lib.hid (P7.out.keep (Chg.dkd wv)); have Q7v0 := Lib.hid (Q7.out.keep (Chg.dkd wv))
        have CFv0 := Lib.hid (C7.out.drew); have LDv0 := Lib.hid (show w.heap.size < wv.drew.heap.size from LD.out)
        have zX70 := X7v0.out.has.cell 0 _ rfl; have zX71 := X7v0.out.has.cell 1 _ rfl; have zX72 := X7v0.out.has.cell 2 _ rfl; have zY70 := Y7v0.out.has.cell 0 _ rfl; have zZ70 := Z7v0.out.has.cell 0 _ rfl; have zP70 := P7v0.out.has.cell 0 _ rfl; have zQ70 := Q7v0.out.has.cell 0 _ rfl
        refine hd_start 35 (fun w' => w'.cell? ⟨w3.heap.size, 0, none⟩ = some (.int .i64 S) ∧ w'.cell? ⟨w3.heap.size, 1, none⟩ = some (.int .i64 W) ∧ w'.cell? ⟨w3.heap.size, 2, none⟩ = some (.int .i64 L) ∧ w'.cell? ⟨w4.heap.size, 0, none⟩ = some (.slice ma S mc) ∧ w'.cell? ⟨bb, 0, none⟩ = some (.slice ja S jc) ∧ w'.cell? ⟨b1, 0, none⟩ = some (.slice j1 S k1) ∧ w'.cell? ⟨b2, 0, none⟩ = some (.slice j2 S k2)) (by kernel_rfl) ⟨by kernel_rfl, by kernel_rfl, by kernel_rfl, by decide⟩ ⟨zX70, zX71, zX72, zY70, zZ70, zP70, zQ70⟩ (fun ok => ?_)
        refine hd_take (i := 0) (v := ?_) ok rfl (by decide) (by kernel_rfl) (by kernel_rfl) (fun _ _ _ h => h) (Or.inl ⟨by kernel_rfl, ?_⟩) ?_
        rotate_left
        · (intro w hSw; (try dsimp only at hSw); (try go_split_ands); go_simp; (try (with_reducible rfl)))
        simp only [Act.put, List.setIfInBounds_toArray]
        refine hd_take (i := 1) (v := ?_) ok rfl (by decide) (by kernel_rfl) (by kernel_rfl) (fun _ _ _ h => h) (Or.inl ⟨by kernel_rfl, ?_⟩) ?_
        rotate_left
        · (intro w hSw; (try dsimp only at hSw); (try go_split_ands); go_simp; (try (with_reducible rfl)))
        simp only [Act.put]
        refine hd_take (i := 2) (v := ?_) ok rfl (by decide) (by kernel_rfl) (by kernel_rfl) (fun _ _ _ h => h) (Or.inl ⟨by kernel_rfl, ?_⟩) ?_
        rotate_left
        · (intro w hSw; (try dsimp only at hSw); (try go_split_ands); go_simp; (try (with_reducible rfl)))
        simp only [Act.put]
        refine hd_only (c := 3) rfl (by decide) (by kernel_rfl) (fun K hK => ?_)
        go_simp
        go_at_call 22
        refine (below_any ((U ++ V) ++ Base) ((U ++ V) ++ Base) S W L hC.out m J HA.out HJ.out (Nd w.heap.size) (Nd w.heap.size) ma S mc ja S jc _ Y7v0.out.cub Z7v0.out.cub).mono ?_
        rintro e w103 h3
        obtain ⟨rfl, hb3⟩ := h3.tt B1.out
        simp only []
        refine hK _ _ (by refine ⟨?_, ?_, ?_, ?_, ?_, ?_, ?_⟩ <;> (first | exact cell_later hb3 zX70 | exact cell_later hb3 zX71 | exact cell_later hb3 zX72 | exact cell_later hb3 zY70 | exact cell_later hb3 zZ70 | exact cell_later hb3 zP70 | exact cell_later hb3 zQ70)) ?_
        clear hK K
        (try simp only [Act.put, List.setIfInBounds_toArray, List.set_cons_zero, List.set_cons_succ])
        have X7v1 := Lib.hid (X7v0.out.keep (Chg.dk hb3)); have Y7v1 := Lib.hid (Y7v0.out.keep (Chg.dk hb3)); have Z7v1 := Lib.hid (Z7v0.out.keep (Chg.dk hb3)); have P7v1 := Lib.hid (P7v0.out.keep (Chg.dk hb3)); have Q7v1 := Lib.hid (Q7v0.out.keep (Chg.dk hb3))
        have CFv1 := Lib.hid (CFv0.out.tr hb3); have LDv1 := Lib.hid (Nat.lt_of_lt_of_le LDv0.out hb3.size)
        clear hb3 zX70 zX71 zX72 zY70 zZ70 zP70 zQ70
        have zX70 := X7v1.out.has.cell 0 _ rfl; have zX71 := X7v1.out.has.cell 1 _ rfl; have zX72 := X7v1.out.has.cell 2 _ rfl; have zY70 := Y7v1.out.has.cell 0 _ rfl; have zZ70 := Z7v1.out.has.cell 0 _ rfl; have zP70 := P7v1.out.has.cell 0 _ rfl; have zQ70 := Q7v1.out.has.cell 0 _ rfl
        refine hd_take (i := 4) (v := ?_) ok rfl (by decide) (by kernel_rfl) (by kernel_rfl) (fun _ _ _ h => h) (Or.inl ⟨by kernel_rfl, ?_⟩) ?_
        rotate_left
        · (intro w hSw; (try dsimp only at hSw); (try go_split_ands); go_simp; (try (with_reducible rfl)))
        simp only [Act.put, List.setIfInBounds_toArray]
        refine hd_take (i := 5) (v := ?_) ok rfl (by decide) (by kernel_rfl) (by kernel_rfl) (fun _ _ _ h => h) (Or.inl ⟨by kernel_rfl, ?_⟩) ?_
        rotate_left
        · (intro w hSw; (try dsimp only at hSw); (try go_split_ands); go_simp; (try (with_reducible rfl)))
        simp only [Act.put]
        refine hd_take (i := 6) (v := ?_) ok rfl (by decide) (by kernel_rfl) (by kernel_rfl) (fun _ _ _ h => h) (Or.inl ⟨by kernel_rfl, ?_⟩) ?_
        rotate_left
        · (intro w hSw; (try dsimp only at hSw); (try go_split_ands); go_simp; (try (with_reducible rfl)))
        simp only [Act.put]
        refine hd_take (i := 7) (v := ?_) ok rfl (by decide) (by kernel_rfl) (by kernel_rfl) (fun _ _ _ h => h) (Or.inl ⟨by kernel_rfl, ?_⟩) ?_
        rotate_left
        · (intro w hSw; (try dsimp only at hSw); (try go_split_ands); go_simp; (try (with_reducible rfl)))
        simp only [Act.put]
        refine hd_only (c := 8) rfl (by decide) (by kernel_rfl) (fun K hK => ?_)
        go_simp
        go_at_call 22
        refine (below_any ((U ++ V) ++ Base) ((U ++ V) ++ Base) S W L hC.out M N TA.out TJ.out (Nd w.heap.size) (Nd w.heap.size) j1 S k1 j2 S k2 _ P7v1.out.cub Q7v1.out.cub).mono ?_
        rintro e w108 h8
        obtain ⟨rfl, hb8⟩ := h8.tt B2.out
        simp only []
        refine hK _ _ (by refine ⟨?_, ?_, ?_, ?_, ?_, ?_, ?_⟩ <;> (first | exact cell_later hb8 zX70 | exact cell_later hb8 zX71 | exact cell_later hb8 zX72 | exact cell_later hb8 zY70 | exact cell_later hb8 zZ70 | exact cell_later hb8 zP70 | exact cell_later hb8 zQ70)) ?_
        clear hK K
        (try simp only [Act.put, List.setIfInBounds_toArray, List.set_cons_zero, List.set_cons_succ])
        have X7v2 := Lib.hid (X7v1.out.keep (Chg.dk hb8)); have Y7v2 := Lib.hid (Y7v1.out.keep (Chg.dk hb8)); have Z7v2 := Lib.hid (Z7v1.out.keep (Chg.dk hb8)); have P7v2 := Lib.hid (P7v1.out.keep (Chg.dk hb8)); have Q7v2 := Lib.hid (Q7v1.out.keep (Chg.dk hb8))
        have CFv2 := Lib.hid (CFv1.out.tr hb8); have LDv2 := Lib.hid (Nat.lt_of_lt_of_le LDv1.out hb8.size)
        clear hb8 zX70 zX71 zX72 zY70 zZ70 zP70 zQ70
        have zX70 := X7v2.out.has.cell 0 _ rfl; have zX71 := X7v2.out.has.cell 1 _ rfl; have zX72 := X7v2.out.has.cell 2 _ rfl; have zY70 := Y7v2.out.has.cell 0 _ rfl; have zZ70 := Z7v2.out.has.cell 0 _ rfl; have zP70 := P7v2.out.has.cell 0 _ rfl; have zQ70 := Q7v2.out.has.cell 0 _ rfl
        refine hd_take (i := 9) (v := ?_) ok rfl (by decide) (by kernel_rfl) (by kernel_rfl) (fun _ _ _ h => h) (Or.inl ⟨by kernel_rfl, ?_⟩) ?_
        rotate_left
        · (intro w hSw; (try dsimp only at hSw); (try go_split_ands); go_simp; (try (with_reducible rfl)))
        simp only [Act.put, List.setIfInBounds_toArray]
        refine hd_take (i := 10) (v := ?_) ok rfl (by decide) (by kernel_rfl) (by kernel_rfl) (fun _ _ _ h => h) (Or.inl ⟨by kernel_rfl, ?_⟩) ?_
        rotate_left
        · (intro w hSw; (try dsimp only at hSw); (try go_split_ands); go_simp; (try (with_reducible rfl)))
        simp only [Act.put]
        refine hd_take (i := 11) (v := ?_) ok rfl (by decide) (by kernel_rfl) (by kernel_rfl) (fun _ _ _ h => h) (Or.inl ⟨by kernel_rfl, ?_⟩) ?_
        rotate_left
        · (intro w hSw; (try dsimp only at hSw); (try go_split_ands); go_simp; (try (with_reducible rfl)))
        simp only [Act.put]
        refine hd_take (i := 12) (v := ?_) ok rfl (by decide) (by kernel_rfl) (by kernel_rfl) (fun _ _ _ h => h) (Or.inl ⟨by kernel_rfl, ?_⟩) ?_
        rotate_left
        · (intro w hSw; (try dsimp only at hSw); (try go_split_ands); go_simp; (try (with_reducible rfl)))
        simp only [Act.put]
        refine hd_take (i := 13) (v := ?_) ok rfl (by decide) (by kernel_rfl) (by kernel_rfl) (fun _ _ _ h => h) (Or.inl ⟨by kernel_rfl, ?_⟩) ?_
        rotate_left
        · (intro w hSw; (try dsimp only at hSw); (try go_split_ands); go_simp; (try (with_reducible rfl)))
        simp only [Act.put]
        refine hd_take (i := 14) (v := ?_) ok rfl (by decide) (by kernel_rfl) (by kernel_rfl) (fun _ _ _ h => h) (Or.inl ⟨by kernel_rfl, ?_⟩) ?_
        rotate_left
        · (intro w hSw; (try dsimp only at hSw); (try go_split_ands); go_simp; (try (with_reducible rfl)))
        simp only [Act.put]
        refine hd_take (i := 15) (v := ?_) ok rfl (by decide) (by kernel_rfl) (by kernel_rfl) (fun _ _ _ h => h) (Or.inl ⟨by kernel_rfl, ?_⟩) ?_
        rotate_left
        · (intro w hSw; (try dsimp only at hSw); (try go_split_ands); go_simp; (try (with_reducible rfl)))
        simp only [Act.put]
        refine hd_take (i := 16) (v := ?_) ok rfl (by decide) (by kernel_rfl) (by kernel_rfl) (fun _ _ _ h => h) (Or.inl ⟨by kernel_rfl, ?_⟩) ?_
        rotate_left
        · (intro w hSw; (try dsimp only at hSw); (try go_split_ands); go_simp; (try (with_reducible rfl)))
        simp only [Act.put]
        refine hd_take (i := 17) (v := ?_) ok rfl (by decide) (by kernel_rfl) (by kernel_rfl) (fun _ _ _ h => h) (Or.inl ⟨by kernel_rfl, ?_⟩) ?_
        rotate_left
        · (intro w hSw; (try dsimp only at hSw); (try go_split_ands); go_simp; (try (with_reducible rfl)))
        simp only [Act.put]
        refine hd_only (c := 18) rfl (by decide) (by kernel_rfl) (fun K hK => ?_)
        go_simp
        go_at_call 20
        refine (age_ret hC.out TA.out (n := x) (v := 0) HO.out.1 (by have := HO.out.2; omega) P7v2.out.cub (AG.out hS)).mono ?_
        rintro e w118 ⟨rfl, hb18⟩
        simp only []
        refine hK _ _ (by refine ⟨?_, ?_, ?_, ?_, ?_, ?_, ?_⟩ <;> (first | exact cell_later hb18 zX70 | exact cell_later hb18 zX71 | exact cell_later hb18 zX72 | exact cell_later hb18 zY70 | exact cell_later hb18 zZ70 | exact cell_later hb18 zP70 | exact cell_later hb18 zQ70)) ?_
        clear hK K
        (try simp only [Act.put, List.setIfInBounds_toArray, List.set_cons_zero, List.set_cons_succ])
        have X7v3 := Lib.hid (X7v2.out.keep (Chg.dk hb18)); have Y7v3 := Lib.hid (Y7v2.out.keep (Chg.dk hb18)); have Z7v3 := Lib.hid (Z7v2.out.keep (Chg.dk hb18)); have P7v3 := Lib.hid (P7v2.out.keep (Chg.dk hb18)); have Q7v3 := Lib.hid (Q7v2.out.keep (Chg.dk hb18))
        have CFv3 := Lib.hid (CFv2.out.tr hb18); have LDv3 := Lib.hid (Nat.lt_of_lt_of_le LDv2.out hb18.size)
        clear hb18 zX70 zX71 zX72 zY70 zZ70 zP70 zQ70
        have zX70 := X7v3.out.has.cell 0 _ rfl; have zX71 := X7v3.out.has.cell 1 _ rfl; have zX72 := X7v3.out.has.cell 2 _ rfl; have zY70 := Y7v3.out.has.cell 0 _ rfl; have zZ70 := Z7v3.out.has.cell 0 _ rfl; have zP70 := P7v3.out.has.cell 0 _ rfl; have zQ70 := Q7v3.out.has.cell 0 _ rfl
        refine hd_take (i := 19) (v := ?_) ok rfl (by decide) (by kernel_rfl) (by kernel_rfl) (fun _ _ _ h => h) (Or.inl ⟨by kernel_rfl, ?_⟩) ?_
        rotate_left
        · (intro w hSw; (try dsimp only at hSw); (try go_split_ands); go_simp; (try (with_reducible rfl)))
        simp only [Act.put, List.setIfInBounds_toArray]
        refine hd_take (i := 20) (v := ?_) ok rfl (by decide) (by kernel_rfl) (by kernel_rfl) (fun _ _ _ h => h) (Or.inl ⟨by kernel_rfl, ?_⟩) ?_
        rotate_left
        · (intro w hSw; (try dsimp only at hSw); (try go_split_ands); go_simp; (try (with_reducible rfl)))
        simp only [Act.put]
        refine hd_take (i := 21) (v := ?_) ok rfl (by decide) (by kernel_rfl) (by kernel_rfl) (fun _ _ _ h => h) (Or.inl ⟨by kernel_rfl, ?_⟩) ?_
        rotate_left
        · (intro w hSw; (try dsimp only at hSw); (try go_split_ands); go_simp; (try (with_reducible rfl)))
        simp only [Act.put]
        refine hd_take (i := 22) (v := ?_) ok rfl (by decide) (by kernel_rfl) (by kernel_rfl) (fun _ _ _ h => h) (Or.inl ⟨by kernel_rfl, ?_⟩) ?_
        rotate_left
        · (intro w hSw; (try dsimp only at hSw); (try go_split_ands); go_simp; (try (with_reducible rfl)))
        simp only [Act.put]
        refine hd_take (i := 23) (v := ?_) ok rfl (by decide) (by kernel_rfl) (by kernel_rfl) (fun _ _ _ h => h) (Or.inl ⟨by kernel_rfl, ?_⟩) ?_
        rotate_left
        · (intro w hSw; (try dsimp only at hSw); (try go_split_ands); go_simp; (try (with_reducible rfl)))
        simp only [Act.put]
        refine hd_take (i := 24) (v := ?_) ok rfl (by decide) (by kernel_rfl) (by kernel_rfl) (fun _ _ _ h => h) (Or.inl ⟨by kernel_rfl, ?_⟩) ?_
        rotate_left
        · (intro w hSw; (try dsimp only at hSw); (try go_split_ands); go_simp; (try (with_reducible rfl)))
        simp only [Act.put]
        refine hd_take (i := 25) (v := ?_) ok rfl (by decide) (by kernel_rfl) (by kernel_rfl) (fun _ _ _ h => h) (Or.inl ⟨by kernel_rfl, ?_⟩) ?_
        rotate_left
        · (intro w hSw; (try dsimp only at hSw); (try go_split_ands); go_simp; (try (with_reducible rfl)))
        simp only [Act.put]
        refine hd_take (i := 28) (v := ?_) ok rfl (by decide) (by kernel_rfl) (by kernel_rfl) (fun _ _ _ h => h) (Or.inl ⟨by kernel_rfl, ?_⟩) ?_
        rotate_left
        · (intro w hSw; (try dsimp only at hSw); (try go_split_ands); go_simp; (try (with_reducible rfl)))
        simp only [Act.put]
        refine hd_take (i := 29) (v := ?_) ok rfl (by decide) (by kernel_rfl) (by kernel_rfl) (fun _ _ _ h => h) (Or.inl ⟨by kernel_rfl, ?_⟩) ?_
        rotate_left
        · (intro w hSw; (try dsimp only at hSw); (try go_split_ands); go_simp; (try (with_reducible rfl)))
        simp only [Act.put]
        refine hd_only (c := 26) rfl (by decide) (by kernel_rfl) (fun K hK => ?_)
        go_simp
        go_at_call 19
        refine (TT.out _ P7v3.out.cub).mono ?_
        rintro e w126 h26
        obtain ⟨ta26, tc26, rfl, ho26, hb26⟩ := StRet.fix h26 TA.out.len
        simp only []
        refine hK _ _ (by refine ⟨?_, ?_, ?_, ?_, ?_, ?_, ?_⟩ <;> (first | exact cell_later hb26 zX70 | exact cell_later hb26 zX71 | exact cell_later hb26 zX72 | exact cell_later hb26 zY70 | exact cell_later hb26 zZ70 | exact cell_later hb26 zP70 | exact cell_later hb26 zQ70)) ?_
        clear hK K
        (try simp only [Act.put, List.setIfInBounds_toArray, List.set_cons_zero, List.set_cons_succ])
        have X7v4 := Lib.hid (X7v3.out.keep (Chg.dk hb26)); have Y7v4 := Lib.hid (Y7v3.out.keep (Chg.dk hb26)); have Z7v4 := Lib.hid (Z7v3.out.keep (Chg.dk hb26)); have P7v4 := Lib.hid (P7v3.out.keep (Chg.dk hb26)); have Q7v4 := Lib.hid (Q7v3.out.keep (Chg.dk hb26))
        have CFv4 := Lib.hid (CFv3.out.tr hb26); have LDv4 := Lib.hid (Nat.lt_of_lt_of_le LDv3.out hb26.size)
        have HO26 := Lib.hid (Cube.k_below (Below.refl _ _) (ho26.nd LDv3.out))
        clear ho26 h26
        clear hb26 zX70 zX71 zX72 zY70 zZ70 zP70 zQ70
        have zX70 := X7v4.out.has.cell 0 _ rfl; have zX71 := X7v4.out.has.cell 1 _ rfl; have zX72 := X7v4.out.has.cell 2 _ rfl; have zY70 := Y7v4.out.has.cell 0 _ rfl; have zZ70 := Z7v4.out.has.cell 0 _ rfl; have zP70 := P7v4.out.has.cell 0 _ rfl; have zQ70 := Q7v4.out.has.cell 0 _ rfl
        refine hd_take (i := 27) (v := .slice ta26 S tc26) ok rfl (by decide) (by kernel_rfl) (by kernel_rfl) (fun _ _ _ h => h) (Or.inl ⟨by kernel_rfl, fun _ _ => by kernel_rfl⟩) ?_
        simp only [Act.put, List.setIfInBounds_toArray]
        refine hd_only (c := 30) rfl (by decide) (by kernel_rfl) (fun K hK => ?_)
        go_simp
        go_at_call 23
        refine (rsame_yes (Nd w.heap.size) (Nd w.heap.size) ta26 j1 S tc26 S k1 M _ HO26.out P7v4.out.cub).mono ?_
        rintro e w130 ⟨rfl, hb30⟩
        simp only []
        refine hK _ _ (by refine ⟨?_, ?_, ?_, ?_, ?_, ?_, ?_⟩ <;> (first | exact cell_later hb30 zX70 | exact cell_later hb30 zX71 | exact cell_later hb30 zX72 | exact cell_later hb30 zY70 | exact cell_later hb30 zZ70 | exact cell_later hb30 zP70 | exact cell_later hb30 zQ70)) ?_
        clear hK K
        (try simp only [Act.put, List.setIfInBounds_toArray, List.set_cons_zero, List.set_cons_succ])
        have X7v5 := Lib.hid (X7v4.out.keep (Chg.dk hb30)); have Y7v5 := Lib.hid (Y7v4.out.keep (Chg.dk hb30)); have Z7v5 := Lib.hid (Z7v4.out.keep (Chg.dk hb30)); have P7v5 := Lib.hid (P7v4.out.keep (Chg.dk hb30)); have Q7v5 := Lib.hid (Q7v4.out.keep (Chg.dk hb30))
        have CFv5 := Lib.hid (CFv4.out.tr hb30); have LDv5 := Lib.hid (Nat.lt_of_lt_of_le LDv4.out hb30.size)
        clear hb30 zX70 zX71 zX72 zY70 zZ70 zP70 zQ70
        have zX70 := X7v5.out.has.cell 0 _ rfl; have zX71 := X7v5.out.has.cell 1 _ rfl; have zX72 := X7v5.out.has.cell 2 _ rfl; have zY70 := Y7v5.out.has.cell 0 _ rfl; have zZ70 := Z7v5.out.has.cell 0 _ rfl; have zP70 := P7v5.out.has.cell 0 _ rfl; have zQ70 := Q7v5.out.has.cell 0 _ rfl
        refine hd_take (i := 31) (v := ?_) ok rfl (by decide) (by kernel_rfl) (by kernel_rfl) (fun _ _ _ h => h) (Or.inl ⟨by kernel_rfl, ?_⟩) ?_
        rotate_left
        · (intro w hSw; (try dsimp only at hSw); (try go_split_ands); go_simp; (try (with_reducible rfl)))
        simp only [Act.put, List.setIfInBounds_toArray]
        refine hd_take (i := 32) (v := ?_) ok rfl (by decide) (by kernel_rfl) (by kernel_rfl) (fun _ _ _ h => h) (Or.inl ⟨by kernel_rfl, ?_⟩) ?_
        rotate_left
        · (intro w hSw; (try dsimp only at hSw); (try go_split_ands); go_simp; (try (with_reducible rfl)))
        simp only [Act.put]
        refine hd_only (c := 33) rfl (by decide) (by kernel_rfl) (fun K hK => ?_)
        go_simp
        go_at_call 17
        refine (awake_any _).mono ?_
        rintro e w133 ⟨rfl, hb33⟩
        simp only []
        refine hK _ _ (by refine ⟨?_, ?_, ?_, ?_, ?_, ?_, ?_⟩ <;> (first | exact cell_later hb33 zX70 | exact cell_later hb33 zX71 | exact cell_later hb33 zX72 | exact cell_later hb33 zY70 | exact cell_later hb33 zZ70 | exact cell_later hb33 zP70 | exact cell_later hb33 zQ70)) ?_
        clear hK K
        (try simp only [Act.put, List.setIfInBounds_toArray, List.set_cons_zero, List.set_cons_succ])
        have X7v6 := Lib.hid (X7v5.out.keep (Chg.dk hb33)); have Y7v6 := Lib.hid (Y7v5.out.keep (Chg.dk hb33)); have Z7v6 := Lib.hid (Z7v5.out.keep (Chg.dk hb33)); have P7v6 := Lib.hid (P7v5.out.keep (Chg.dk hb33)); have Q7v6 := Lib.hid (Q7v5.out.keep (Chg.dk hb33))
        have CFv6 := Lib.hid (CFv5.out.tr hb33); have LDv6 := Lib.hid (Nat.lt_of_lt_of_le LDv5.out hb33.size)
        clear hb33 zX70 zX71 zX72 zY70 zZ70 zP70 zQ70
        have zX70 := X7v6.out.has.cell 0 _ rfl; have zX71 := X7v6.out.has.cell 1 _ rfl; have zX72 := X7v6.out.has.cell 2 _ rfl; have zY70 := Y7v6.out.has.cell 0 _ rfl; have zZ70 := Z7v6.out.has.cell 0 _ rfl; have zP70 := P7v6.out.has.cell 0 _ rfl; have zQ70 := Q7v6.out.has.cell 0 _ rfl
        refine hd_take (i := 34) (v := ?_) ok rfl (by decide) (by kernel_rfl) (by kernel_rfl) (fun _ _ _ h => h) (Or.inl ⟨by kernel_rfl, ?_⟩) ?_
        rotate_left
        · (intro w hSw; (try dsimp only at hSw); (try go_split_ands); go_simp; (try (with_reducible rfl)))
        simp only [Act.put, List.setIfInBounds_toArray]
        clear ok zX70 zX71 zX72 zY70 zZ70 zP70 zQ70
        refine hd_done (by kernel_rfl) ?_
        simp only [List.drop_succ_cons, List.drop_zero]
        go_wp2
        go_ret
        exact ⟨rfl, Chg.below (M := Ge w.heap.size) CFv6.out (fun j hj h => by unfold Ge at h; omega) (Nat.le_refl _)⟩
end Go.Proofs.Ytikhbijobkkhgaa
