/-
  timeboundlaw24.MustLeast returns true, whatever its list is. No condition. Printed by mkLawMu.py.
-/
import Derived.Test.YtikhbijobkkhgaaMuAa
import Derived.Deep.DeepCutAuto
namespace Go.Proofs.Ytikhbijobkkhgaa
open Go.RowKit

set_option maxRecDepth 100000 in
set_option maxHeartbeats 8000000 in
theorem least_law (a0 : Option Addr) (len0 cap0 : Nat) (z0 : List Int) (w : World) (w0 : IsRow .i64 w a0 len0 cap0 z0) :
    Calls Try.prog 6 #[.slice a0 len0 cap0] w fun e w' => e = .returned (.bool true) ∧ Below w.heap.size w w' := by
  have W0 := Lib.hid w0
  clear w0
  go_enter Try.func6, Try.ntmps6
  go_wp2_with fail
  refine (new_any a0 len0 cap0 z0 _ W0.out).mono ?_
  rintro e w2 ⟨rfl, hd2, hb2⟩
  have D2 := Lib.hid hd2; have C2 := Lib.hid (Chg.of_below (M := Ge w.heap.size) hb2); clear hd2 hb2
  go_wp2_with fail
  refine (m2cache_any w.heap.size _ D2.out).mono ?_
  rintro e w3 ⟨S, W, L, rfl, g1, g2, g3, g4, g5, hd3, hc3⟩
  have hC := Lib.hid (show COk S W L from ⟨by omega, by omega, by omega, by omega, by omega, by omega⟩)
  have WP := Lib.hid (show 0 < W by omega)
  have D3 := Lib.hid (Deck.k_alloc (o := .cells #[.int .i64 S, .int .i64 W, .int .i64 L] 26) hd3)
  have C3 := Lib.hid ((C2.out.gt hc3 (Nat.le_refl _)).alloc (.cells #[.int .i64 S, .int .i64 W, .int .i64 L] 26))
  have X3 := Lib.hid (CVar.new (d := w.heap.size) (S := S) (W := W) (L := L) (w := w3) hd3.lt)
  have L3 := Lib.hid hd3.lt
  clear hd3 hc3 D2 C2
  have c0 := X3.out.has.cell 0 _ rfl; have c1 := X3.out.has.cell 1 _ rfl; have c2 := X3.out.has.cell 2 _ rfl; have lx := X3.out.lt
  go_upto_region 3 with fail
  obtain ⟨wv, hwv⟩ : ∃ wv : World, wv = w3.alloc (.cells #[.int .i64 S, .int .i64 W, .int .i64 L] 26) := ⟨_, rfl⟩
  rw [← hwv] at X3 C3 D3 c0 c1 c2 lx ⊢
  clear hwv
  have ld := D3.out.lt
  have D0 := D3
  go_cut [5, 6] (fun s5 s6 wx => ∃ U V m q b1 a1 k1 b2 a2 k2, s5 = .pointer (some ⟨b1, 0, none⟩) ∧ s6 = .pointer (some ⟨b2, 0, none⟩) ∧ MSt U S W m ∧ U.length ≤ 43 ∧ MSt V S W q ∧ V.length ≤ 43 ∧ SVar w.heap.size S b1 a1 k1 m wx ∧ SVar w.heap.size S b2 a2 k2 q wx ∧ Chg (fun k => k = w.heap.size) wv wx ∧ Deck wx w.heap.size)
  case first =>
    as_aux_lemma =>
      have tok1 : True := trivial
      have nx := X3.out.ne
      go_region_held3 (fun w' => w'.cell? ⟨w3.heap.size, 0, none⟩ = some (.int .i64 S) ∧ w'.cell? ⟨w3.heap.size, 1, none⟩ = some (.int .i64 W) ∧ w'.cell? ⟨w3.heap.size, 2, none⟩ = some (.int .i64 L)) (((try dsimp only); (try go_split_ands); (repeat' apply And.intro); all_goals (repeat (first | assumption | (refine hc6.cell (by omega) ?_) | (refine hc5.cell (by omega) ?_) | (refine cell_alloc (by first | assumption | omega | (simp; omega)) ?_) | (refine cell_set (by omega) ?_) | (refine cell_drew ?_)))))
        (first
          | (go_at_call 11; have _t := tok1; ((with_reducible refine (m2must_any S W L hC.out (by omega) (by omega) w.heap.size _ (by repeat (first | (with_reducible exact D0.out) | (with_reducible refine Deck.k_drew ?_) | (with_reducible refine Deck.k_alloc ?_)))).mono ?_); rintro e w5 ⟨V5, ta5, tc5, q5, rfl, ho5, hm5, hU5, hd5, hc5⟩; clear tok1; have s5 := hc5.size; (try simp only [World.size_alloc, World.size_drew] at s5); have ho5 := ho5.bt1; (try simp only [World.size_alloc, World.size_drew] at ho5); (try (refine (have x5_0_0 : Has w5 (wv.heap.size) [.slice none 0 0] := ?_; ?_); (focus ((with_reducible refine Has.k_chg hc5 ?_ ?_ ?_); (focus (first | omega | (simp; done) | (simp; omega))); (focus (first | omega | (simp; done) | (simp; omega))); (repeat (first | (with_reducible refine Has.drew ?_) | ((with_reducible refine Has.k_new ?_); (first | rfl | (simp; done))) | ((with_reducible refine Has.k_old ?_ ?_); (focus (first | omega | (simp; done) | (simp; omega)))))); done)); have x5_0_0c := x5_0_0.cell 0 _ rfl; have x5_0_0f := x5_0_0.free; have x5_0_0l := x5_0_0.lt (by simp))); (try (refine (have x5_0_1 : Has w5 (wv.heap.size + 1) [.slice none 0 0] := ?_; ?_); (focus ((with_reducible refine Has.k_chg hc5 ?_ ?_ ?_); (focus (first | omega | (simp; done) | (simp; omega))); (focus (first | omega | (simp; done) | (simp; omega))); (repeat (first | (with_reducible refine Has.drew ?_) | ((with_reducible refine Has.k_new ?_); (first | rfl | (simp; done))) | ((with_reducible refine Has.k_old ?_ ?_); (focus (first | omega | (simp; done) | (simp; omega)))))); done)); have x5_0_1c := x5_0_1.cell 0 _ rfl; have x5_0_1f := x5_0_1.free; have x5_0_1l := x5_0_1.lt (by simp)))))
          | (go_at_call 11; ((with_reducible refine (m2must_any S W L hC.out (by omega) (by omega) w.heap.size _ (by repeat (first | (with_reducible exact hd5) | (with_reducible refine Deck.k_drew ?_) | (with_reducible refine Deck.k_alloc ?_)))).mono ?_); rintro e w6 ⟨V6, ta6, tc6, q6, rfl, ho6, hm6, hU6, hd6, hc6⟩; have s6 := hc6.size; (try simp only [World.size_alloc] at s6); have ho6 := ho6.bt1; (try simp only [World.size_alloc] at ho6); (try (refine (have x6_0_0 : Has w6 (wv.heap.size) [.slice none 0 0] := ?_; ?_); (focus ((with_reducible refine Has.k_chg hc6 ?_ ?_ ?_); (focus (first | omega | (simp; done) | (simp; omega))); (focus (first | omega | (simp; done) | (simp; omega))); (repeat (first | (with_reducible exact x5_0_0) | (with_reducible refine Has.drew ?_) | ((with_reducible refine Has.k_new ?_); (first | rfl | (simp; done))) | ((with_reducible refine Has.k_old ?_ ?_); (focus (first | omega | (simp; done) | (simp; omega)))))); done)); have x6_0_0c := x6_0_0.cell 0 _ rfl; have x6_0_0f := x6_0_0.free; have x6_0_0l := x6_0_0.lt (by simp))); (try (refine (have x6_0_1 : Has w6 (wv.heap.size + 1) [.slice none 0 0] := ?_; ?_); (focus ((with_reducible refine Has.k_chg hc6 ?_ ?_ ?_); (focus (first | omega | (simp; done) | (simp; omega))); (focus (first | omega | (simp; done) | (simp; omega))); (repeat (first | (with_reducible exact x5_0_1) | (with_reducible refine Has.drew ?_) | ((with_reducible refine Has.k_new ?_); (first | rfl | (simp; done))) | ((with_reducible refine Has.k_old ?_ ?_); (focus (first | omega | (simp; done) | (simp; omega)))))); done)); have x6_0_1c := x6_0_1.cell 0 _ rfl; have x6_0_1f := x6_0_1.free; have x6_0_1l := x6_0_1.lt (by simp))); (try (refine (have x6_1_0 : Has w6 (w5.heap.size) [.slice none 0 0] := ?_; ?_); (focus ((with_reducible refine Has.k_chg hc6 ?_ ?_ ?_); (focus (first | omega | (simp; done) | (simp; omega))); (focus (first | omega | (simp; done) | (simp; omega))); (repeat (first | (with_reducible refine Has.drew ?_) | ((with_reducible refine Has.k_new ?_); (first | rfl | (simp; done))) | ((with_reducible refine Has.k_old ?_ ?_); (focus (first | omega | (simp; done) | (simp; omega)))))); done)); have x6_1_0c := x6_1_0.cell 0 _ rfl; have x6_1_0f := x6_1_0.free; have x6_1_0l := x6_1_0.lt (by simp))); (try (refine (have x6_1_1 : Has w6 (w5.heap.size + 1) [.slice none 0 0] := ?_; ?_); (focus ((with_reducible refine Has.k_chg hc6 ?_ ?_ ?_); (focus (first | omega | (simp; done) | (simp; omega))); (focus (first | omega | (simp; done) | (simp; omega))); (repeat (first | (with_reducible refine Has.drew ?_) | ((with_reducible refine Has.k_new ?_); (first | rfl | (simp; done))) | ((with_reducible refine Has.k_old ?_ ?_); (focus (first | omega | (simp; done) | (simp; omega)))))); done)); have x6_1_1c := x6_1_1.cell 0 _ rfl; have x6_1_1f := x6_1_1.free; have x6_1_1l := x6_1_1.lt (by simp))))))
      all_goals
        clear c0 c1 c2
        go_wp2_with fail
        go_meet
        refine ⟨V5, V6, q5, q6, _, ta5, tc5, _, ta6, tc6, rfl, rfl, hm5, hU5, hm6, hU6, ⟨?_, ?_, ?_, ?_⟩, ⟨?_, ?_, ?_, ?_⟩, ?_, ?_⟩
        · repeat (first | (with_reducible exact x6_0_0) | (with_reducible exact x6_0_1) | (with_reducible exact x6_1_0) | (with_reducible exact x6_1_1) | ((with_reducible refine Has.k_new ?_); (first | rfl | (simp; done))) | (with_reducible refine Has.k_set0 ?_) | ((with_reducible refine Has.k_set ?_ ?_); (focus (first | omega | (simp; done) | (simp; omega)))) | ((with_reducible refine Has.k_old ?_ ?_); (focus (first | omega | (simp; done) | (simp; omega)))))
        · (apply OCub.ndb'; (focus ((repeat (first | (with_reducible exact ho5) | (with_reducible refine OCub.k_alloc ?_) | (with_reducible refine OCub.k_drew ?_) | ((with_reducible refine OCub.k_set ?_ ?_); rotate_left) | ((with_reducible refine OCub.k_chg hc5 ?_ ?_); rotate_left) | ((with_reducible refine OCub.k_chg hc6 ?_ ?_); rotate_left))); (all_goals (intro i hi; have h1 := hi.1; have h2 := hi.2; first | omega | (simp; omega))))); omega)
        · first | omega | (simp; omega)
        · first | omega | (simp; done) | (simp; omega)
        · repeat (first | (with_reducible exact x6_0_0) | (with_reducible exact x6_0_1) | (with_reducible exact x6_1_0) | (with_reducible exact x6_1_1) | ((with_reducible refine Has.k_new ?_); (first | rfl | (simp; done))) | (with_reducible refine Has.k_set0 ?_) | ((with_reducible refine Has.k_set ?_ ?_); (focus (first | omega | (simp; done) | (simp; omega)))) | ((with_reducible refine Has.k_old ?_ ?_); (focus (first | omega | (simp; done) | (simp; omega)))))
        · (apply OCub.ndb'; (focus ((repeat (first | (with_reducible exact ho6) | (with_reducible refine OCub.k_alloc ?_) | (with_reducible refine OCub.k_drew ?_) | ((with_reducible refine OCub.k_set ?_ ?_); rotate_left) | ((with_reducible refine OCub.k_chg hc5 ?_ ?_); rotate_left) | ((with_reducible refine OCub.k_chg hc6 ?_ ?_); rotate_left))); (all_goals (intro i hi; have h1 := hi.1; have h2 := hi.2; first | omega | (simp; omega))))); omega)
        · first | omega | (simp; omega)
        · first | omega | (simp; done) | (simp; omega)
        · repeat (first | (with_reducible exact Chg.refl _) | (with_reducible refine Chg.alloc ?_ _) | (with_reducible refine Chg.drew ?_) | (with_reducible refine Chg.k_set (by first | omega | (simp; omega)) ?_) | (with_reducible refine Chg.k_call hc6 ?_) | (with_reducible refine Chg.k_call hc5 ?_))
        · repeat (first | (with_reducible exact hd6) | (with_reducible exact hd5) | (with_reducible exact D0.out) | (with_reducible refine Deck.k_alloc ?_) | (with_reducible refine Deck.k_drew ?_) | (with_reducible refine Deck.k_set (by first | omega | (simp; omega)) ?_) )
  case rest =>
    obtain ⟨U, V, m, q, b1, a1, k1, b2, a2, k2, rfl, rfl, hm, hU, hq, hV, v1, v2, hcc, hdd⟩ := hcut
    have HA := Lib.hid hm; have HB := Lib.hid hq; have HU := Lib.hid hU; have HV := Lib.hid hV
    have X4 := Lib.hid (X3.out.keep hcc); have Y4 := Lib.hid v1; have Z4 := Lib.hid v2; have C4 := Lib.hid (C3.out.gt hcc (Nat.le_refl _)); have D4 := Lib.hid hdd
    clear hm hq hU hV v1 v2 hcc hdd c0 c1 c2 lx ld D0 X3 C3 D3
    have c0 := X4.out.has.cell 0 _ rfl; have c1 := X4.out.has.cell 1 _ rfl; have c2 := X4.out.has.cell 2 _ rfl; have lx := X4.out.lt; have y0 := Y4.out.has.cell 0 _ rfl; have ly := Y4.out.lt; have z0 := Z4.out.has.cell 0 _ rfl; have lz := Z4.out.lt
    go_wp2_with fail
    refine (join_any U V (by have := HU.out; omega) S W L hC.out m q HA.out HB.out (Nd w.heap.size) (Nd w.heap.size) a1 S k1 a2 S k2 _ Y4.out.cub Z4.out.cub).mono ?_
    rintro e w7 h7
    obtain ⟨ja, jc, rfl, ho7, hb7⟩ := StRet.fix h7 (joinM_len HA.out.len HB.out.len)
    have X5 := Lib.hid ((X4.out.keep (Chg.dk hb7)).keep (Chg.dka w7 (.cells #[.slice ja S jc] 30)))
    have Y5 := Lib.hid ((Y4.out.keep (Chg.dk hb7)).keep (Chg.dka w7 (.cells #[.slice ja S jc] 30)))
    have Z5 := Lib.hid ((Z4.out.keep (Chg.dk hb7)).keep (Chg.dka w7 (.cells #[.slice ja S jc] 30)))
    have P5 := Lib.hid (SVar.new (d := w.heap.size) (w := w7) (Nat.lt_of_lt_of_le D4.out.lt hb7.size) (ho7.nd D4.out.lt))
    have C5 := Lib.hid ((C4.out.tr hb7).alloc (.cells #[.slice ja S jc] 30))
    have D5 := Lib.hid (Deck.k_alloc (o := .cells #[.slice ja S jc] 30) (Deck.k_below hb7 D4.out))
    clear c0 c1 c2 lx y0 ly z0 lz h7 ho7 hb7 X4 Y4 Z4 C4 D4
    have c0 := X5.out.has.cell 0 _ rfl; have c1 := X5.out.has.cell 1 _ rfl; have c2 := X5.out.has.cell 2 _ rfl; have lx := X5.out.lt; have y0 := Y5.out.has.cell 0 _ rfl; have ly := Y5.out.lt; have z0 := Z5.out.has.cell 0 _ rfl; have lz := Z5.out.lt
    go_upto_region 5 with fail
    obtain ⟨wv, hwv⟩ : ∃ wv : World, wv = w7.alloc (.cells #[.slice ja S jc] 30) := ⟨_, rfl⟩
    rw [← hwv] at X5 Y5 Z5 P5 C5 D5 c0 c1 c2 lx y0 ly z0 lz ⊢
    clear hwv
    have ld := D5.out.lt
    have D0 := D5
    go_cut [8] (fun s8 wx => ∃ R r b j k, s8 = .pointer (some ⟨b, 0, none⟩) ∧ MSt R S W r ∧ R.length ≤ 43 ∧ SVar w.heap.size S b j k (joinM W (joinM W m r) q) wx ∧ Chg (fun k => k = w.heap.size) wv wx)
    case first =>
      as_aux_lemma =>
        have HU1 : U.length ≤ 1000 := by have := HU.out; omega
        have nx := X5.out.ne; have ny := Y5.out.ne; have nz := Z5.out.ne
        go_region_held3 (fun w' => w'.cell? ⟨w3.heap.size, 0, none⟩ = some (.int .i64 S) ∧ w'.cell? ⟨w3.heap.size, 1, none⟩ = some (.int .i64 W) ∧ w'.cell? ⟨w3.heap.size, 2, none⟩ = some (.int .i64 L) ∧ w'.cell? ⟨b1, 0, none⟩ = some (.slice a1 S k1) ∧ w'.cell? ⟨b2, 0, none⟩ = some (.slice a2 S k2)) (((try dsimp only); (try go_split_ands); (repeat' apply And.intro); all_goals (repeat (first | assumption | (refine cell_later hb10 ?_) | (refine cell_later hb9 ?_) | (refine hc8.cell (by omega) ?_) | (refine cell_alloc (by first | assumption | omega | (simp; omega)) ?_) | (refine cell_set (by omega) ?_) | (refine cell_drew ?_)))))
          (first
            | (go_at_call 11; ((with_reducible refine (m2must_any S W L hC.out (by omega) (by omega) w.heap.size _ (by repeat (first | (with_reducible exact D0.out) | (with_reducible refine Deck.k_drew ?_) | (with_reducible refine Deck.k_alloc ?_)))).mono ?_); rintro e w8 ⟨V8, ta8, tc8, q8, rfl, ho8, hm8, hU8, hd8, hc8⟩; have s8 := hc8.size; (try simp only [World.size_alloc, World.size_drew] at s8); have ho8 := ho8.bt1; (try simp only [World.size_alloc, World.size_drew] at ho8); (try (refine (have x8_0_0 : Has w8 (wv.heap.size) [.slice none 0 0] := ?_; ?_); (focus ((with_reducible refine Has.k_chg hc8 ?_ ?_ ?_); (focus (first | omega | (simp; done) | (simp; omega))); (focus (first | omega | (simp; done) | (simp; omega))); (repeat (first | (with_reducible refine Has.drew ?_) | ((with_reducible refine Has.k_new ?_); (first | rfl | (simp; done))) | ((with_reducible refine Has.k_old ?_ ?_); (focus (first | omega | (simp; done) | (simp; omega)))))); done)); have x8_0_0c := x8_0_0.cell 0 _ rfl; have x8_0_0f := x8_0_0.free; have x8_0_0l := x8_0_0.lt (by simp)))))
            | (go_at_call 21; ((with_reducible refine (rjoin_any U V8 HU1 S W L hC.out m q8 HA.out hm8 (Nd w.heap.size) (Nd w.heap.size) a1 S k1 ta8 S tc8 _ (by repeat (first | (with_reducible exact Y5.out.cub) | (with_reducible refine Cube.k_chg ?_ (Chg.dkd _)) | (with_reducible refine Cube.k_chg ?_ (Chg.dka _ _)) | (with_reducible refine Cube.k_chg ?_ hc8))) (by repeat (first | (with_reducible exact OCub.ndb (by omega) ho8) | (with_reducible refine Cube.k_chg ?_ (Chg.dkd _)) | (with_reducible refine Cube.k_chg ?_ (Chg.dka _ _)) ))).mono ?_); rintro e w9 h9; obtain ⟨ta9, tc9, rfl, ho9, hb9⟩ := StRet.fix h9 (joinM_len HA.out.len hm8.len); have s9 := hb9.size; (try simp only [World.size_alloc] at s9); have ho9 := ho9.bt1; (try simp only [World.size_alloc] at ho9); (try (refine (have x9_0_0 : Has w9 (wv.heap.size) [.slice none 0 0] := ?_; ?_); (focus ((with_reducible refine Has.k_below hb9 ?_ ?_); (focus (first | omega | (simp; done) | (simp; omega))); (repeat (first | (with_reducible exact x8_0_0) | (with_reducible refine Has.drew ?_) | ((with_reducible refine Has.k_new ?_); (first | rfl | (simp; done))) | ((with_reducible refine Has.k_old ?_ ?_); (focus (first | omega | (simp; done) | (simp; omega)))))); done)); have x9_0_0c := x9_0_0.cell 0 _ rfl; have x9_0_0f := x9_0_0.free; have x9_0_0l := x9_0_0.lt (by simp))); (try (refine (have x9_1_0 : Has w9 (w8.heap.size) [.slice none 0 0] := ?_; ?_); (focus ((with_reducible refine Has.k_below hb9 ?_ ?_); (focus (first | omega | (simp; done) | (simp; omega))); (repeat (first | (with_reducible refine Has.drew ?_) | ((with_reducible refine Has.k_new ?_); (first | rfl | (simp; done))) | ((with_reducible refine Has.k_old ?_ ?_); (focus (first | omega | (simp; done) | (simp; omega)))))); done)); have x9_1_0c := x9_1_0.cell 0 _ rfl; have x9_1_0f := x9_1_0.free; have x9_1_0l := x9_1_0.lt (by simp)))))
            | (go_at_call 21; ((with_reducible refine (rjoin_any U V HU1 S W L hC.out (joinM W m q8) q (join_st HA.out hm8) HB.out (Nd w.heap.size) (Nd w.heap.size) ta9 S tc9 a2 S k2 _ (by repeat (first | (with_reducible exact OCub.ndb (by omega) ho9) | (with_reducible refine Cube.k_chg ?_ (Chg.dkd _)) | (with_reducible refine Cube.k_chg ?_ (Chg.dka _ _)) )) (by repeat (first | (with_reducible exact Z5.out.cub) | (with_reducible refine Cube.k_chg ?_ (Chg.dkd _)) | (with_reducible refine Cube.k_chg ?_ (Chg.dka _ _)) | (with_reducible refine Cube.k_chg ?_ (Chg.dk hb9)) | (with_reducible refine Cube.k_chg ?_ hc8)))).mono ?_); rintro e w10 h10; obtain ⟨ta10, tc10, rfl, ho10, hb10⟩ := StRet.fix h10 (joinM_len (join_st HA.out hm8).len HB.out.len); have s10 := hb10.size; (try simp only [World.size_alloc] at s10); have ho10 := ho10.bt1; (try simp only [World.size_alloc] at ho10); (try (refine (have x10_0_0 : Has w10 (wv.heap.size) [.slice none 0 0] := ?_; ?_); (focus ((with_reducible refine Has.k_below hb10 ?_ ?_); (focus (first | omega | (simp; done) | (simp; omega))); (repeat (first | (with_reducible exact x9_0_0) | (with_reducible refine Has.drew ?_) | ((with_reducible refine Has.k_new ?_); (first | rfl | (simp; done))) | ((with_reducible refine Has.k_old ?_ ?_); (focus (first | omega | (simp; done) | (simp; omega)))))); done)); have x10_0_0c := x10_0_0.cell 0 _ rfl; have x10_0_0f := x10_0_0.free; have x10_0_0l := x10_0_0.lt (by simp))); (try (refine (have x10_1_0 : Has w10 (w8.heap.size) [.slice none 0 0] := ?_; ?_); (focus ((with_reducible refine Has.k_below hb10 ?_ ?_); (focus (first | omega | (simp; done) | (simp; omega))); (repeat (first | (with_reducible exact x9_1_0) | (with_reducible refine Has.drew ?_) | ((with_reducible refine Has.k_new ?_); (first | rfl | (simp; done))) | ((with_reducible refine Has.k_old ?_ ?_); (focus (first | omega | (simp; done) | (simp; omega)))))); done)); have x10_1_0c := x10_1_0.cell 0 _ rfl; have x10_1_0f := x10_1_0.free; have x10_1_0l := x10_1_0.lt (by simp))); (try (refine (have x10_2_0 : Has w10 (w9.heap.size) [.slice none 0 0] := ?_; ?_); (focus ((with_reducible refine Has.k_below hb10 ?_ ?_); (focus (first | omega | (simp; done) | (simp; omega))); (repeat (first | (with_reducible refine Has.drew ?_) | ((with_reducible refine Has.k_new ?_); (first | rfl | (simp; done))) | ((with_reducible refine Has.k_old ?_ ?_); (focus (first | omega | (simp; done) | (simp; omega)))))); done)); have x10_2_0c := x10_2_0.cell 0 _ rfl; have x10_2_0f := x10_2_0.free; have x10_2_0l := x10_2_0.lt (by simp))))))
        all_goals
          clear c0 c1 c2 y0 z0
          go_wp2_with fail
          go_meet
          refine ⟨V8, q8, _, ta10, tc10, rfl, hm8, hU8, ⟨?_, ?_, ?_, ?_⟩, ?_⟩
          · repeat (first | (with_reducible exact x10_0_0) | (with_reducible exact x10_1_0) | (with_reducible exact x10_2_0) | ((with_reducible refine Has.k_new ?_); (first | rfl | (simp; done))) | (with_reducible refine Has.k_set0 ?_) | ((with_reducible refine Has.k_set ?_ ?_); (focus (first | omega | (simp; done) | (simp; omega)))) | ((with_reducible refine Has.k_old ?_ ?_); (focus (first | omega | (simp; done) | (simp; omega)))))
          · (apply OCub.ndb'; (focus ((repeat (first | (with_reducible exact ho10) | (with_reducible refine OCub.k_alloc ?_) | (with_reducible refine OCub.k_drew ?_) | ((with_reducible refine OCub.k_set ?_ ?_); rotate_left) | ((with_reducible refine OCub.k_chg hc8 ?_ ?_); rotate_left) | (with_reducible refine OCub.k_below hb9 ?_) | (with_reducible refine OCub.k_below hb10 ?_))); (all_goals (intro i hi; have h1 := hi.1; have h2 := hi.2; first | omega | (simp; omega))))); omega)
          · first | omega | (simp; omega)
          · first | omega | (simp; done) | (simp; omega)
          · repeat (first | (with_reducible exact Chg.refl _) | (with_reducible refine Chg.alloc ?_ _) | (with_reducible refine Chg.drew ?_) | (with_reducible refine Chg.k_set (by first | omega | (simp; omega)) ?_) | (with_reducible refine Chg.k_tr hb10 ?_) | (with_reducible refine Chg.k_tr hb9 ?_) | (with_reducible refine Chg.k_call hc8 ?_))
    case rest =>
      obtain ⟨R, r, b4, a4, k4, rfl, hr, hR, v4, hcc⟩ := hcut
      have X7 := Lib.hid (X5.out.keep hcc); have Y7 := Lib.hid (Y5.out.keep hcc); have Z7 := Lib.hid (Z5.out.keep hcc); have P7 := Lib.hid (P5.out.keep hcc); have C7 := Lib.hid (C5.out.gt hcc (Nat.le_refl _)); have Q7 := Lib.hid v4
      have LD := Lib.hid (show w.heap.size < wc.heap.size from Nat.lt_of_lt_of_le ld hcc.size)
      have HR := Lib.hid hr
      clear c0 c1 c2 lx y0 ly z0 lz ld D0 X5 Y5 Z5 P5 C5 D5 hr hR v4 hcc
      have HU1 := Lib.hid (show U.length ≤ 1000 by have := HU.out; omega)
      have HV1 := Lib.hid (show V.length ≤ 1000 by have := HV.out; omega)
      have HJ := Lib.hid (join_st HA.out HB.out)
      have HK := Lib.hid (join_st (join_st HA.out HR.out) HB.out)
      have B1 := Lib.hid (below_join HA.out HB.out).1
      have B2 := Lib.hid (below_join HA.out HB.out).2
      have B3 := Lib.hid (BelowM.least HA.out HB.out (BelowM.trans (join_st HA.out HR.out) HK.out.len (below_join HA.out HR.out).1 (below_join (join_st HA.out HR.out) HB.out).1) (below_join (join_st HA.out HR.out) HB.out).2)
      have B4 := Lib.hid (BelowM.top (S := S) (W := W) (joinM W m q))
      have HT := Lib.hid (top_st U S W)
      have JS := Lib.hid (show ∀ (w' : World), Cube (Nd w.heap.size) w' a1 S k1 m → Calls Try.prog 24 #[CV S W L, .agg #[.slice a1 S k1], .agg #[.slice a1 S k1]] w' (StRet m w') from fun w' r => by have h := join_any U U HU1.out S W L hC.out m m HA.out HA.out _ _ a1 S k1 a1 S k1 w' r r; rw [joinM_self HA.out] at h; exact h)
      have JC := Lib.hid (show ∀ (w' : World), Cube (Nd w.heap.size) w' a2 S k2 q → Cube (Nd w.heap.size) w' a1 S k1 m → Calls Try.prog 24 #[CV S W L, .agg #[.slice a2 S k2], .agg #[.slice a1 S k1]] w' (StRet (joinM W m q) w') from fun w' r r' => by have h := join_any V U HV1.out S W L hC.out q m HB.out HA.out _ _ a2 S k2 a1 S k1 w' r r'; rw [joinM_comm HB.out HA.out] at h; exact h)
      generalize joinM W (joinM W m r) q = G at *
      generalize joinM W m q = J at *
      go_upto_region 6 with fail
      obtain ⟨wv, rfl⟩ : ∃ wv : World, wv = wc := ⟨_, rfl⟩
      have X7v0 := Lib.hid (X7.out.keep (Chg.dkd wv)); have Y7v0 := Lib.hid (Y7.out.keep (Chg.dkd wv)); have Z7v0 := Lib.hid (Z7.out.keep (Chg.dkd wv)); have P7v0 := Lib.hid (P7.out.keep (Chg.dkd wv)); have Q7v0 := Lib.hid (Q7.out.keep (Chg.dkd wv))
      have CFv0 := Lib.hid (C7.out.drew); have LDv0 := Lib.hid (show w.heap.size < wv.drew.heap.size from LD.out)
      have zX70 := X7v0.out.has.cell 0 _ rfl; have zX71 := X7v0.out.has.cell 1 _ rfl; have zX72 := X7v0.out.has.cell 2 _ rfl; have zY70 := Y7v0.out.has.cell 0 _ rfl; have zZ70 := Z7v0.out.has.cell 0 _ rfl; have zP70 := P7v0.out.has.cell 0 _ rfl; have zQ70 := Q7v0.out.has.cell 0 _ rfl
      refine hd_start 46 (fun w' => w'.cell? ⟨w3.heap.size, 0, none⟩ = some (.int .i64 S) ∧ w'.cell? ⟨w3.heap.size, 1, none⟩ = some (.int .i64 W) ∧ w'.cell? ⟨w3.heap.size, 2, none⟩ = some (.int .i64 L) ∧ w'.cell? ⟨b1, 0, none⟩ = some (.slice a1 S k1) ∧ w'.cell? ⟨b2, 0, none⟩ = some (.slice a2 S k2) ∧ w'.cell? ⟨w7.heap.size, 0, none⟩ = some (.slice ja S jc) ∧ w'.cell? ⟨b4, 0, none⟩ = some (.slice a4 S k4)) (by kernel_rfl) ⟨by kernel_rfl, by kernel_rfl, by kernel_rfl, by decide⟩ ⟨zX70, zX71, zX72, zY70, zZ70, zP70, zQ70⟩ (fun ok => ?_)
      refine hd_take (i := 0) (v := ?_) ok rfl (by decide) (by kernel_rfl) (by kernel_rfl) (fun _ _ _ h => h) (Or.inl ⟨by kernel_rfl, ?_⟩) ?_
      rotate_left
      · (intro w hSw; (try dsimp only at hSw); (try go_split_ands); go_simp; (try (with_reducible rfl)))
      simp only [Act.put, List.setIfInBounds_toArray]
      refine hd_take (i := 1) (v := ?_) ok rfl (by decide) (by kernel_rfl) (by kernel_rfl) (fun _ _ _ h => h) (Or.inl ⟨by kernel_rfl, ?_⟩) ?_
      rotate_left
      · (intro w hSw; (try dsimp only at hSw); (try go_split_ands); go_simp; (try (with_reducible rfl)))
      simp only [Act.put]
      refine hd_take (i := 2) (v := ?_) ok rfl (by decide) (by kernel_rfl) (by kernel_rfl) (fun _ _ _ h => h) (Or.inl ⟨by kernel_rfl, ?_⟩) ?_
      rotate_left
      · (intro w hSw; (try dsimp only at hSw); (try go_split_ands); go_simp; (try (with_reducible rfl)))
      simp only [Act.put]
      refine hd_only (c := 3) rfl (by decide) (by kernel_rfl) (fun K hK => ?_)
      go_simp
      go_at_call 22
      refine (below_any U U S W L hC.out m J HA.out HJ.out (Nd w.heap.size) (Nd w.heap.size) a1 S k1 ja S jc _ Y7v0.out.cub P7v0.out.cub).mono ?_
      rintro e w103 h3
      obtain ⟨rfl, hb3⟩ := h3.tt B1.out
      simp only []
      refine hK _ _ (by refine ⟨?_, ?_, ?_, ?_, ?_, ?_, ?_⟩ <;> (first | exact cell_later hb3 zX70 | exact cell_later hb3 zX71 | exact cell_later hb3 zX72 | exact cell_later hb3 zY70 | exact cell_later hb3 zZ70 | exact cell_later hb3 zP70 | exact cell_later hb3 zQ70)) ?_
      clear hK K
      (try simp only [Act.put, List.setIfInBounds_toArray, List.set_cons_zero, List.set_cons_succ])
      have X7v1 := Lib.hid (X7v0.out.keep (Chg.dk hb3)); have Y7v1 := Lib.hid (Y7v0.out.keep (Chg.dk hb3)); have Z7v1 := Lib.hid (Z7v0.out.keep (Chg.dk hb3)); have P7v1 := Lib.hid (P7v0.out.keep (Chg.dk hb3)); have Q7v1 := Lib.hid (Q7v0.out.keep (Chg.dk hb3))
      have CFv1 := Lib.hid (CFv0.out.tr hb3); have LDv1 := Lib.hid (Nat.lt_of_lt_of_le LDv0.out hb3.size)
      clear hb3 zX70 zX71 zX72 zY70 zZ70 zP70 zQ70
      have zX70 := X7v1.out.has.cell 0 _ rfl; have zX71 := X7v1.out.has.cell 1 _ rfl; have zX72 := X7v1.out.has.cell 2 _ rfl; have zY70 := Y7v1.out.has.cell 0 _ rfl; have zZ70 := Z7v1.out.has.cell 0 _ rfl; have zP70 := P7v1.out.has.cell 0 _ rfl; have zQ70 := Q7v1.out.has.cell 0 _ rfl
      refine hd_take (i := 4) (v := ?_) ok rfl (by decide) (by kernel_rfl) (by kernel_rfl) (fun _ _ _ h => h) (Or.inl ⟨by kernel_rfl, ?_⟩) ?_
      rotate_left
      · (intro w hSw; (try dsimp only at hSw); (try go_split_ands); go_simp; (try (with_reducible rfl)))
      simp only [Act.put, List.setIfInBounds_toArray]
      refine hd_take (i := 5) (v := ?_) ok rfl (by decide) (by kernel_rfl) (by kernel_rfl) (fun _ _ _ h => h) (Or.inl ⟨by kernel_rfl, ?_⟩) ?_
      rotate_left
      · (intro w hSw; (try dsimp only at hSw); (try go_split_ands); go_simp; (try (with_reducible rfl)))
      simp only [Act.put]
      refine hd_take (i := 6) (v := ?_) ok rfl (by decide) (by kernel_rfl) (by kernel_rfl) (fun _ _ _ h => h) (Or.inl ⟨by kernel_rfl, ?_⟩) ?_
      rotate_left
      · (intro w hSw; (try dsimp only at hSw); (try go_split_ands); go_simp; (try (with_reducible rfl)))
      simp only [Act.put]
      refine hd_take (i := 7) (v := ?_) ok rfl (by decide) (by kernel_rfl) (by kernel_rfl) (fun _ _ _ h => h) (Or.inl ⟨by kernel_rfl, ?_⟩) ?_
      rotate_left
      · (intro w hSw; (try dsimp only at hSw); (try go_split_ands); go_simp; (try (with_reducible rfl)))
      simp only [Act.put]
      refine hd_only (c := 8) rfl (by decide) (by kernel_rfl) (fun K hK => ?_)
      go_simp
      go_at_call 22
      refine (below_any V U S W L hC.out q J HB.out HJ.out (Nd w.heap.size) (Nd w.heap.size) a2 S k2 ja S jc _ Z7v1.out.cub P7v1.out.cub).mono ?_
      rintro e w108 h8
      obtain ⟨rfl, hb8⟩ := h8.tt B2.out
      simp only []
      refine hK _ _ (by refine ⟨?_, ?_, ?_, ?_, ?_, ?_, ?_⟩ <;> (first | exact cell_later hb8 zX70 | exact cell_later hb8 zX71 | exact cell_later hb8 zX72 | exact cell_later hb8 zY70 | exact cell_later hb8 zZ70 | exact cell_later hb8 zP70 | exact cell_later hb8 zQ70)) ?_
      clear hK K
      (try simp only [Act.put, List.setIfInBounds_toArray, List.set_cons_zero, List.set_cons_succ])
      have X7v2 := Lib.hid (X7v1.out.keep (Chg.dk hb8)); have Y7v2 := Lib.hid (Y7v1.out.keep (Chg.dk hb8)); have Z7v2 := Lib.hid (Z7v1.out.keep (Chg.dk hb8)); have P7v2 := Lib.hid (P7v1.out.keep (Chg.dk hb8)); have Q7v2 := Lib.hid (Q7v1.out.keep (Chg.dk hb8))
      have CFv2 := Lib.hid (CFv1.out.tr hb8); have LDv2 := Lib.hid (Nat.lt_of_lt_of_le LDv1.out hb8.size)
      clear hb8 zX70 zX71 zX72 zY70 zZ70 zP70 zQ70
      have zX70 := X7v2.out.has.cell 0 _ rfl; have zX71 := X7v2.out.has.cell 1 _ rfl; have zX72 := X7v2.out.has.cell 2 _ rfl; have zY70 := Y7v2.out.has.cell 0 _ rfl; have zZ70 := Z7v2.out.has.cell 0 _ rfl; have zP70 := P7v2.out.has.cell 0 _ rfl; have zQ70 := Q7v2.out.has.cell 0 _ rfl
      refine hd_take (i := 9) (v := ?_) ok rfl (by decide) (by kernel_rfl) (by kernel_rfl) (fun _ _ _ h => h) (Or.inl ⟨by kernel_rfl, ?_⟩) ?_
      rotate_left
      · (intro w hSw; (try dsimp only at hSw); (try go_split_ands); go_simp; (try (with_reducible rfl)))
      simp only [Act.put, List.setIfInBounds_toArray]
      refine hd_take (i := 10) (v := ?_) ok rfl (by decide) (by kernel_rfl) (by kernel_rfl) (fun _ _ _ h => h) (Or.inl ⟨by kernel_rfl, ?_⟩) ?_
      rotate_left
      · (intro w hSw; (try dsimp only at hSw); (try go_split_ands); go_simp; (try (with_reducible rfl)))
      simp only [Act.put]
      refine hd_take (i := 11) (v := ?_) ok rfl (by decide) (by kernel_rfl) (by kernel_rfl) (fun _ _ _ h => h) (Or.inl ⟨by kernel_rfl, ?_⟩) ?_
      rotate_left
      · (intro w hSw; (try dsimp only at hSw); (try go_split_ands); go_simp; (try (with_reducible rfl)))
      simp only [Act.put]
      refine hd_take (i := 12) (v := ?_) ok rfl (by decide) (by kernel_rfl) (by kernel_rfl) (fun _ _ _ h => h) (Or.inl ⟨by kernel_rfl, ?_⟩) ?_
      rotate_left
      · (intro w hSw; (try dsimp only at hSw); (try go_split_ands); go_simp; (try (with_reducible rfl)))
      simp only [Act.put]
      refine hd_take (i := 13) (v := ?_) ok rfl (by decide) (by kernel_rfl) (by kernel_rfl) (fun _ _ _ h => h) (Or.inl ⟨by kernel_rfl, ?_⟩) ?_
      rotate_left
      · (intro w hSw; (try dsimp only at hSw); (try go_split_ands); go_simp; (try (with_reducible rfl)))
      simp only [Act.put]
      refine hd_only (c := 14) rfl (by decide) (by kernel_rfl) (fun K hK => ?_)
      go_simp
      go_at_call 22
      refine (below_any U U S W L hC.out J G HJ.out HK.out (Nd w.heap.size) (Nd w.heap.size) ja S jc a4 S k4 _ P7v2.out.cub Q7v2.out.cub).mono ?_
      rintro e w114 h14
      obtain ⟨rfl, hb14⟩ := h14.tt B3.out
      simp only []
      refine hK _ _ (by refine ⟨?_, ?_, ?_, ?_, ?_, ?_, ?_⟩ <;> (first | exact cell_later hb14 zX70 | exact cell_later hb14 zX71 | exact cell_later hb14 zX72 | exact cell_later hb14 zY70 | exact cell_later hb14 zZ70 | exact cell_later hb14 zP70 | exact cell_later hb14 zQ70)) ?_
      clear hK K
      (try simp only [Act.put, List.setIfInBounds_toArray, List.set_cons_zero, List.set_cons_succ])
      have X7v3 := Lib.hid (X7v2.out.keep (Chg.dk hb14)); have Y7v3 := Lib.hid (Y7v2.out.keep (Chg.dk hb14)); have Z7v3 := Lib.hid (Z7v2.out.keep (Chg.dk hb14)); have P7v3 := Lib.hid (P7v2.out.keep (Chg.dk hb14)); have Q7v3 := Lib.hid (Q7v2.out.keep (Chg.dk hb14))
      have CFv3 := Lib.hid (CFv2.out.tr hb14); have LDv3 := Lib.hid (Nat.lt_of_lt_of_le LDv2.out hb14.size)
      clear hb14 zX70 zX71 zX72 zY70 zZ70 zP70 zQ70
      have zX70 := X7v3.out.has.cell 0 _ rfl; have zX71 := X7v3.out.has.cell 1 _ rfl; have zX72 := X7v3.out.has.cell 2 _ rfl; have zY70 := Y7v3.out.has.cell 0 _ rfl; have zZ70 := Z7v3.out.has.cell 0 _ rfl; have zP70 := P7v3.out.has.cell 0 _ rfl; have zQ70 := Q7v3.out.has.cell 0 _ rfl
      refine hd_take (i := 15) (v := ?_) ok rfl (by decide) (by kernel_rfl) (by kernel_rfl) (fun _ _ _ h => h) (Or.inl ⟨by kernel_rfl, ?_⟩) ?_
      rotate_left
      · (intro w hSw; (try dsimp only at hSw); (try go_split_ands); go_simp; (try (with_reducible rfl)))
      simp only [Act.put, List.setIfInBounds_toArray]
      refine hd_take (i := 16) (v := ?_) ok rfl (by decide) (by kernel_rfl) (by kernel_rfl) (fun _ _ _ h => h) (Or.inl ⟨by kernel_rfl, ?_⟩) ?_
      rotate_left
      · (intro w hSw; (try dsimp only at hSw); (try go_split_ands); go_simp; (try (with_reducible rfl)))
      simp only [Act.put]
      refine hd_take (i := 17) (v := ?_) ok rfl (by decide) (by kernel_rfl) (by kernel_rfl) (fun _ _ _ h => h) (Or.inl ⟨by kernel_rfl, ?_⟩) ?_
      rotate_left
      · (intro w hSw; (try dsimp only at hSw); (try go_split_ands); go_simp; (try (with_reducible rfl)))
      simp only [Act.put]
      refine hd_take (i := 18) (v := ?_) ok rfl (by decide) (by kernel_rfl) (by kernel_rfl) (fun _ _ _ h => h) (Or.inl ⟨by kernel_rfl, ?_⟩) ?_
      rotate_left
      · (intro w hSw; (try dsimp only at hSw); (try go_split_ands); go_simp; (try (with_reducible rfl)))
      simp only [Act.put]
      refine hd_take (i := 19) (v := ?_) ok rfl (by decide) (by kernel_rfl) (by kernel_rfl) (fun _ _ _ h => h) (Or.inl ⟨by kernel_rfl, ?_⟩) ?_
      rotate_left
      · (intro w hSw; (try dsimp only at hSw); (try go_split_ands); go_simp; (try (with_reducible rfl)))
      simp only [Act.put]
      refine hd_only (c := 20) rfl (by decide) (by kernel_rfl) (fun K hK => ?_)
      go_simp
      go_at_call 25
      refine (mtop_any S W L hC.out _).mono ?_
      rintro e w120 h20
      obtain ⟨ta20, tc20, rfl, ho20, hb20⟩ := StRet.fix h20 (topS_len S W)
      simp only []
      refine hK _ _ (by refine ⟨?_, ?_, ?_, ?_, ?_, ?_, ?_⟩ <;> (first | exact cell_later hb20 zX70 | exact cell_later hb20 zX71 | exact cell_later hb20 zX72 | exact cell_later hb20 zY70 | exact cell_later hb20 zZ70 | exact cell_later hb20 zP70 | exact cell_later hb20 zQ70)) ?_
      clear hK K
      (try simp only [Act.put, List.setIfInBounds_toArray, List.set_cons_zero, List.set_cons_succ])
      have X7v4 := Lib.hid (X7v3.out.keep (Chg.dk hb20)); have Y7v4 := Lib.hid (Y7v3.out.keep (Chg.dk hb20)); have Z7v4 := Lib.hid (Z7v3.out.keep (Chg.dk hb20)); have P7v4 := Lib.hid (P7v3.out.keep (Chg.dk hb20)); have Q7v4 := Lib.hid (Q7v3.out.keep (Chg.dk hb20))
      have CFv4 := Lib.hid (CFv3.out.tr hb20); have LDv4 := Lib.hid (Nat.lt_of_lt_of_le LDv3.out hb20.size)
      have HO20 := Lib.hid (Cube.k_below (Below.refl _ _) (ho20.nd LDv3.out))
      clear ho20 h20
      clear hb20 zX70 zX71 zX72 zY70 zZ70 zP70 zQ70
      have zX70 := X7v4.out.has.cell 0 _ rfl; have zX71 := X7v4.out.has.cell 1 _ rfl; have zX72 := X7v4.out.has.cell 2 _ rfl; have zY70 := Y7v4.out.has.cell 0 _ rfl; have zZ70 := Z7v4.out.has.cell 0 _ rfl; have zP70 := P7v4.out.has.cell 0 _ rfl; have zQ70 := Q7v4.out.has.cell 0 _ rfl
      refine hd_only (c := 21) rfl (by decide) (by kernel_rfl) (fun K hK => ?_)
      go_simp
      go_at_call 22
      refine (below_any U U S W L hC.out J (topS S W) HJ.out HT.out (Nd w.heap.size) (Nd w.heap.size) ja S jc ta20 S tc20 _ P7v4.out.cub HO20.out).mono ?_
      rintro e w121 h21
      obtain ⟨rfl, hb21⟩ := h21.tt B4.out
      simp only []
      refine hK _ _ (by refine ⟨?_, ?_, ?_, ?_, ?_, ?_, ?_⟩ <;> (first | exact cell_later hb21 zX70 | exact cell_later hb21 zX71 | exact cell_later hb21 zX72 | exact cell_later hb21 zY70 | exact cell_later hb21 zZ70 | exact cell_later hb21 zP70 | exact cell_later hb21 zQ70)) ?_
      clear hK K
      (try simp only [Act.put, List.setIfInBounds_toArray, List.set_cons_zero, List.set_cons_succ])
      have X7v5 := Lib.hid (X7v4.out.keep (Chg.dk hb21)); have Y7v5 := Lib.hid (Y7v4.out.keep (Chg.dk hb21)); have Z7v5 := Lib.hid (Z7v4.out.keep (Chg.dk hb21)); have P7v5 := Lib.hid (P7v4.out.keep (Chg.dk hb21)); have Q7v5 := Lib.hid (Q7v4.out.keep (Chg.dk hb21))
      have CFv5 := Lib.hid (CFv4.out.tr hb21); have LDv5 := Lib.hid (Nat.lt_of_lt_of_le LDv4.out hb21.size)
      clear hb21 zX70 zX71 zX72 zY70 zZ70 zP70 zQ70
      have zX70 := X7v5.out.has.cell 0 _ rfl; have zX71 := X7v5.out.has.cell 1 _ rfl; have zX72 := X7v5.out.has.cell 2 _ rfl; have zY70 := Y7v5.out.has.cell 0 _ rfl; have zZ70 := Z7v5.out.has.cell 0 _ rfl; have zP70 := P7v5.out.has.cell 0 _ rfl; have zQ70 := Q7v5.out.has.cell 0 _ rfl
      refine hd_take (i := 22) (v := ?_) ok rfl (by decide) (by kernel_rfl) (by kernel_rfl) (fun _ _ _ h => h) (Or.inl ⟨by kernel_rfl, ?_⟩) ?_
      rotate_left
      · (intro w hSw; (try dsimp only at hSw); (try go_split_ands); go_simp; (try (with_reducible rfl)))
      simp only [Act.put, List.setIfInBounds_toArray]
      refine hd_take (i := 23) (v := ?_) ok rfl (by decide) (by kernel_rfl) (by kernel_rfl) (fun _ _ _ h => h) (Or.inl ⟨by kernel_rfl, ?_⟩) ?_
      rotate_left
      · (intro w hSw; (try dsimp only at hSw); (try go_split_ands); go_simp; (try (with_reducible rfl)))
      simp only [Act.put]
      refine hd_take (i := 24) (v := ?_) ok rfl (by decide) (by kernel_rfl) (by kernel_rfl) (fun _ _ _ h => h) (Or.inl ⟨by kernel_rfl, ?_⟩) ?_
      rotate_left
      · (intro w hSw; (try dsimp only at hSw); (try go_split_ands); go_simp; (try (with_reducible rfl)))
      simp only [Act.put]
      refine hd_take (i := 25) (v := ?_) ok rfl (by decide) (by kernel_rfl) (by kernel_rfl) (fun _ _ _ h => h) (Or.inl ⟨by kernel_rfl, ?_⟩) ?_
      rotate_left
      · (intro w hSw; (try dsimp only at hSw); (try go_split_ands); go_simp; (try (with_reducible rfl)))
      simp only [Act.put]
      refine hd_take (i := 26) (v := ?_) ok rfl (by decide) (by kernel_rfl) (by kernel_rfl) (fun _ _ _ h => h) (Or.inl ⟨by kernel_rfl, ?_⟩) ?_
      rotate_left
      · (intro w hSw; (try dsimp only at hSw); (try go_split_ands); go_simp; (try (with_reducible rfl)))
      simp only [Act.put]
      refine hd_take (i := 29) (v := ?_) ok rfl (by decide) (by kernel_rfl) (by kernel_rfl) (fun _ _ _ h => h) (Or.inl ⟨by kernel_rfl, ?_⟩) ?_
      rotate_left
      · (intro w hSw; (try dsimp only at hSw); (try go_split_ands); go_simp; (try (with_reducible rfl)))
      simp only [Act.put]
      refine hd_take (i := 30) (v := ?_) ok rfl (by decide) (by kernel_rfl) (by kernel_rfl) (fun _ _ _ h => h) (Or.inl ⟨by kernel_rfl, ?_⟩) ?_
      rotate_left
      · (intro w hSw; (try dsimp only at hSw); (try go_split_ands); go_simp; (try (with_reducible rfl)))
      simp only [Act.put]
      refine hd_only (c := 27) rfl (by decide) (by kernel_rfl) (fun K hK => ?_)
      go_simp
      go_at_call 24
      refine (JS.out _ Y7v5.out.cub).mono ?_
      rintro e w127 h27
      obtain ⟨ta27, tc27, rfl, ho27, hb27⟩ := StRet.fix h27 HA.out.len
      simp only []
      refine hK _ _ (by refine ⟨?_, ?_, ?_, ?_, ?_, ?_, ?_⟩ <;> (first | exact cell_later hb27 zX70 | exact cell_later hb27 zX71 | exact cell_later hb27 zX72 | exact cell_later hb27 zY70 | exact cell_later hb27 zZ70 | exact cell_later hb27 zP70 | exact cell_later hb27 zQ70)) ?_
      clear hK K
      (try simp only [Act.put, List.setIfInBounds_toArray, List.set_cons_zero, List.set_cons_succ])
      have X7v6 := Lib.hid (X7v5.out.keep (Chg.dk hb27)); have Y7v6 := Lib.hid (Y7v5.out.keep (Chg.dk hb27)); have Z7v6 := Lib.hid (Z7v5.out.keep (Chg.dk hb27)); have P7v6 := Lib.hid (P7v5.out.keep (Chg.dk hb27)); have Q7v6 := Lib.hid (Q7v5.out.keep (Chg.dk hb27))
      have CFv6 := Lib.hid (CFv5.out.tr hb27); have LDv6 := Lib.hid (Nat.lt_of_lt_of_le LDv5.out hb27.size)
      have HO27 := Lib.hid (Cube.k_below (Below.refl _ _) (ho27.nd LDv5.out))
      clear ho27 h27
      clear hb27 zX70 zX71 zX72 zY70 zZ70 zP70 zQ70
      have zX70 := X7v6.out.has.cell 0 _ rfl; have zX71 := X7v6.out.has.cell 1 _ rfl; have zX72 := X7v6.out.has.cell 2 _ rfl; have zY70 := Y7v6.out.has.cell 0 _ rfl; have zZ70 := Z7v6.out.has.cell 0 _ rfl; have zP70 := P7v6.out.has.cell 0 _ rfl; have zQ70 := Q7v6.out.has.cell 0 _ rfl
      refine hd_take (i := 28) (v := .slice ta27 S tc27) ok rfl (by decide) (by kernel_rfl) (by kernel_rfl) (fun _ _ _ h => h) (Or.inl ⟨by kernel_rfl, fun _ _ => by kernel_rfl⟩) ?_
      simp only [Act.put, List.setIfInBounds_toArray]
      refine hd_only (c := 31) rfl (by decide) (by kernel_rfl) (fun K hK => ?_)
      go_simp
      go_at_call 23
      refine (rsame_yes (Nd w.heap.size) (Nd w.heap.size) ta27 a1 S tc27 S k1 m _ HO27.out Y7v6.out.cub).mono ?_
      rintro e w131 ⟨rfl, hb31⟩
      simp only []
      refine hK _ _ (by refine ⟨?_, ?_, ?_, ?_, ?_, ?_, ?_⟩ <;> (first | exact cell_later hb31 zX70 | exact cell_later hb31 zX71 | exact cell_later hb31 zX72 | exact cell_later hb31 zY70 | exact cell_later hb31 zZ70 | exact cell_later hb31 zP70 | exact cell_later hb31 zQ70)) ?_
      clear hK K
      (try simp only [Act.put, List.setIfInBounds_toArray, List.set_cons_zero, List.set_cons_succ])
      have X7v7 := Lib.hid (X7v6.out.keep (Chg.dk hb31)); have Y7v7 := Lib.hid (Y7v6.out.keep (Chg.dk hb31)); have Z7v7 := Lib.hid (Z7v6.out.keep (Chg.dk hb31)); have P7v7 := Lib.hid (P7v6.out.keep (Chg.dk hb31)); have Q7v7 := Lib.hid (Q7v6.out.keep (Chg.dk hb31))
      have CFv7 := Lib.hid (CFv6.out.tr hb31); have LDv7 := Lib.hid (Nat.lt_of_lt_of_le LDv6.out hb31.size)
      clear hb31 zX70 zX71 zX72 zY70 zZ70 zP70 zQ70
      have zX70 := X7v7.out.has.cell 0 _ rfl; have zX71 := X7v7.out.has.cell 1 _ rfl; have zX72 := X7v7.out.has.cell 2 _ rfl; have zY70 := Y7v7.out.has.cell 0 _ rfl; have zZ70 := Z7v7.out.has.cell 0 _ rfl; have zP70 := P7v7.out.has.cell 0 _ rfl; have zQ70 := Q7v7.out.has.cell 0 _ rfl
      refine hd_take (i := 32) (v := ?_) ok rfl (by decide) (by kernel_rfl) (by kernel_rfl) (fun _ _ _ h => h) (Or.inl ⟨by kernel_rfl, ?_⟩) ?_
      rotate_left
      · (intro w hSw; (try dsimp only at hSw); (try go_split_ands); go_simp; (try (with_reducible rfl)))
      simp only [Act.put, List.setIfInBounds_toArray]
      refine hd_take (i := 33) (v := ?_) ok rfl (by decide) (by kernel_rfl) (by kernel_rfl) (fun _ _ _ h => h) (Or.inl ⟨by kernel_rfl, ?_⟩) ?_
      rotate_left
      · (intro w hSw; (try dsimp only at hSw); (try go_split_ands); go_simp; (try (with_reducible rfl)))
      simp only [Act.put]
      refine hd_take (i := 34) (v := ?_) ok rfl (by decide) (by kernel_rfl) (by kernel_rfl) (fun _ _ _ h => h) (Or.inl ⟨by kernel_rfl, ?_⟩) ?_
      rotate_left
      · (intro w hSw; (try dsimp only at hSw); (try go_split_ands); go_simp; (try (with_reducible rfl)))
      simp only [Act.put]
      refine hd_take (i := 35) (v := ?_) ok rfl (by decide) (by kernel_rfl) (by kernel_rfl) (fun _ _ _ h => h) (Or.inl ⟨by kernel_rfl, ?_⟩) ?_
      rotate_left
      · (intro w hSw; (try dsimp only at hSw); (try go_split_ands); go_simp; (try (with_reducible rfl)))
      simp only [Act.put]
      refine hd_take (i := 36) (v := ?_) ok rfl (by decide) (by kernel_rfl) (by kernel_rfl) (fun _ _ _ h => h) (Or.inl ⟨by kernel_rfl, ?_⟩) ?_
      rotate_left
      · (intro w hSw; (try dsimp only at hSw); (try go_split_ands); go_simp; (try (with_reducible rfl)))
      simp only [Act.put]
      refine hd_take (i := 39) (v := ?_) ok rfl (by decide) (by kernel_rfl) (by kernel_rfl) (fun _ _ _ h => h) (Or.inl ⟨by kernel_rfl, ?_⟩) ?_
      rotate_left
      · (intro w hSw; (try dsimp only at hSw); (try go_split_ands); go_simp; (try (with_reducible rfl)))
      simp only [Act.put]
      refine hd_take (i := 40) (v := ?_) ok rfl (by decide) (by kernel_rfl) (by kernel_rfl) (fun _ _ _ h => h) (Or.inl ⟨by kernel_rfl, ?_⟩) ?_
      rotate_left
      · (intro w hSw; (try dsimp only at hSw); (try go_split_ands); go_simp; (try (with_reducible rfl)))
      simp only [Act.put]
      refine hd_only (c := 37) rfl (by decide) (by kernel_rfl) (fun K hK => ?_)
      go_simp
      go_at_call 24
      refine (JC.out _ Z7v7.out.cub Y7v7.out.cub).mono ?_
      rintro e w137 h37
      obtain ⟨ta37, tc37, rfl, ho37, hb37⟩ := StRet.fix h37 HJ.out.len
      simp only []
      refine hK _ _ (by refine ⟨?_, ?_, ?_, ?_, ?_, ?_, ?_⟩ <;> (first | exact cell_later hb37 zX70 | exact cell_later hb37 zX71 | exact cell_later hb37 zX72 | exact cell_later hb37 zY70 | exact cell_later hb37 zZ70 | exact cell_later hb37 zP70 | exact cell_later hb37 zQ70)) ?_
      clear hK K
      (try simp only [Act.put, List.setIfInBounds_toArray, List.set_cons_zero, List.set_cons_succ])
      have X7v8 := Lib.hid (X7v7.out.keep (Chg.dk hb37)); have Y7v8 := Lib.hid (Y7v7.out.keep (Chg.dk hb37)); have Z7v8 := Lib.hid (Z7v7.out.keep (Chg.dk hb37)); have P7v8 := Lib.hid (P7v7.out.keep (Chg.dk hb37)); have Q7v8 := Lib.hid (Q7v7.out.keep (Chg.dk hb37))
      have CFv8 := Lib.hid (CFv7.out.tr hb37); have LDv8 := Lib.hid (Nat.lt_of_lt_of_le LDv7.out hb37.size)
      have HO37 := Lib.hid (Cube.k_below (Below.refl _ _) (ho37.nd LDv7.out))
      clear ho37 h37
      clear hb37 zX70 zX71 zX72 zY70 zZ70 zP70 zQ70
      have zX70 := X7v8.out.has.cell 0 _ rfl; have zX71 := X7v8.out.has.cell 1 _ rfl; have zX72 := X7v8.out.has.cell 2 _ rfl; have zY70 := Y7v8.out.has.cell 0 _ rfl; have zZ70 := Z7v8.out.has.cell 0 _ rfl; have zP70 := P7v8.out.has.cell 0 _ rfl; have zQ70 := Q7v8.out.has.cell 0 _ rfl
      refine hd_take (i := 38) (v := .slice ta37 S tc37) ok rfl (by decide) (by kernel_rfl) (by kernel_rfl) (fun _ _ _ h => h) (Or.inl ⟨by kernel_rfl, fun _ _ => by kernel_rfl⟩) ?_
      simp only [Act.put, List.setIfInBounds_toArray]
      refine hd_only (c := 41) rfl (by decide) (by kernel_rfl) (fun K hK => ?_)
      go_simp
      go_at_call 23
      refine (rsame_yes (Nd w.heap.size) (Nd w.heap.size) ta37 ja S tc37 S jc J _ HO37.out P7v8.out.cub).mono ?_
      rintro e w141 ⟨rfl, hb41⟩
      simp only []
      refine hK _ _ (by refine ⟨?_, ?_, ?_, ?_, ?_, ?_, ?_⟩ <;> (first | exact cell_later hb41 zX70 | exact cell_later hb41 zX71 | exact cell_later hb41 zX72 | exact cell_later hb41 zY70 | exact cell_later hb41 zZ70 | exact cell_later hb41 zP70 | exact cell_later hb41 zQ70)) ?_
      clear hK K
      (try simp only [Act.put, List.setIfInBounds_toArray, List.set_cons_zero, List.set_cons_succ])
      have X7v9 := Lib.hid (X7v8.out.keep (Chg.dk hb41)); have Y7v9 := Lib.hid (Y7v8.out.keep (Chg.dk hb41)); have Z7v9 := Lib.hid (Z7v8.out.keep (Chg.dk hb41)); have P7v9 := Lib.hid (P7v8.out.keep (Chg.dk hb41)); have Q7v9 := Lib.hid (Q7v8.out.keep (Chg.dk hb41))
      have CFv9 := Lib.hid (CFv8.out.tr hb41); have LDv9 := Lib.hid (Nat.lt_of_lt_of_le LDv8.out hb41.size)
      clear hb41 zX70 zX71 zX72 zY70 zZ70 zP70 zQ70
      have zX70 := X7v9.out.has.cell 0 _ rfl; have zX71 := X7v9.out.has.cell 1 _ rfl; have zX72 := X7v9.out.has.cell 2 _ rfl; have zY70 := Y7v9.out.has.cell 0 _ rfl; have zZ70 := Z7v9.out.has.cell 0 _ rfl; have zP70 := P7v9.out.has.cell 0 _ rfl; have zQ70 := Q7v9.out.has.cell 0 _ rfl
      refine hd_take (i := 42) (v := ?_) ok rfl (by decide) (by kernel_rfl) (by kernel_rfl) (fun _ _ _ h => h) (Or.inl ⟨by kernel_rfl, ?_⟩) ?_
      rotate_left
      · (intro w hSw; (try dsimp only at hSw); (try go_split_ands); go_simp; (try (with_reducible rfl)))
      simp only [Act.put, List.setIfInBounds_toArray]
      refine hd_take (i := 43) (v := ?_) ok rfl (by decide) (by kernel_rfl) (by kernel_rfl) (fun _ _ _ h => h) (Or.inl ⟨by kernel_rfl, ?_⟩) ?_
      rotate_left
      · (intro w hSw; (try dsimp only at hSw); (try go_split_ands); go_simp; (try (with_reducible rfl)))
      simp only [Act.put]
      refine hd_only (c := 44) rfl (by decide) (by kernel_rfl) (fun K hK => ?_)
      go_simp
      go_at_call 17
      refine (awake_any _).mono ?_
      rintro e w144 ⟨rfl, hb44⟩
      simp only []
      refine hK _ _ (by refine ⟨?_, ?_, ?_, ?_, ?_, ?_, ?_⟩ <;> (first | exact cell_later hb44 zX70 | exact cell_later hb44 zX71 | exact cell_later hb44 zX72 | exact cell_later hb44 zY70 | exact cell_later hb44 zZ70 | exact cell_later hb44 zP70 | exact cell_later hb44 zQ70)) ?_
      clear hK K
      (try simp only [Act.put, List.setIfInBounds_toArray, List.set_cons_zero, List.set_cons_succ])
      have X7v10 := Lib.hid (X7v9.out.keep (Chg.dk hb44)); have Y7v10 := Lib.hid (Y7v9.out.keep (Chg.dk hb44)); have Z7v10 := Lib.hid (Z7v9.out.keep (Chg.dk hb44)); have P7v10 := Lib.hid (P7v9.out.keep (Chg.dk hb44)); have Q7v10 := Lib.hid (Q7v9.out.keep (Chg.dk hb44))
      have CFv10 := Lib.hid (CFv9.out.tr hb44); have LDv10 := Lib.hid (Nat.lt_of_lt_of_le LDv9.out hb44.size)
      clear hb44 zX70 zX71 zX72 zY70 zZ70 zP70 zQ70
      have zX70 := X7v10.out.has.cell 0 _ rfl; have zX71 := X7v10.out.has.cell 1 _ rfl; have zX72 := X7v10.out.has.cell 2 _ rfl; have zY70 := Y7v10.out.has.cell 0 _ rfl; have zZ70 := Z7v10.out.has.cell 0 _ rfl; have zP70 := P7v10.out.has.cell 0 _ rfl; have zQ70 := Q7v10.out.has.cell 0 _ rfl
      refine hd_take (i := 45) (v := ?_) ok rfl (by decide) (by kernel_rfl) (by kernel_rfl) (fun _ _ _ h => h) (Or.inl ⟨by kernel_rfl, ?_⟩) ?_
      rotate_left
      · (intro w hSw; (try dsimp only at hSw); (try go_split_ands); go_simp; (try (with_reducible rfl)))
      simp only [Act.put, List.setIfInBounds_toArray]
      clear ok zX70 zX71 zX72 zY70 zZ70 zP70 zQ70
      refine hd_done (by kernel_rfl) ?_
      simp only [List.drop_succ_cons, List.drop_zero]
      go_wp2
      go_ret
      exact ⟨rfl, Chg.below (M := Ge w.heap.size) CFv10.out (fun j hj h => by unfold Ge at h; omega) (Nat.le_refl _)⟩
end Go.Proofs.Ytikhbijobkkhgaa
