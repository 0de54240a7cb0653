/-
  timeboundlaw24.MustApart returns true, whatever its list is. No condition.
-/
import Derived.Test.YtikhbijobkkhgaaMuY
import Derived.Deep.DeepCutAuto
namespace Go.Proofs.Ytikhbijobkkhgaa
open Go.RowKit

set_option maxRecDepth 100000 in
set_option maxHeartbeats 2000000 in
theorem apart_law (a0 : Option Addr) (len0 cap0 : Nat) (z0 : List Int) (w : World) (w0 : IsRow .i64 w a0 len0 cap0 z0) :
    Calls Try.prog 4 #[.slice a0 len0 cap0] w fun e w' => e = .returned (.bool true) ∧ Below w.heap.size w w' := by
  have W0 := Lib.hid w0
  clear w0
  go_enter Try.func4, Try.ntmps4
  go_wp2_with fail
  refine (new_any a0 len0 cap0 z0 _ W0.out).mono ?_
  rintro e w2 ⟨rfl, hd2, hb2⟩
  have D2 := Lib.hid hd2; have C2 := Lib.hid (Chg.of_below (M := Ge w.heap.size) hb2); clear hd2 hb2
  go_wp2_with fail
  refine (m2cache_any w.heap.size _ D2.out).mono ?_
  rintro e w3 ⟨S, W, L, rfl, g1, g2, g3, g4, g5, hd3, hc3⟩
  have hC := Lib.hid (show COk S W L from ⟨by omega, by omega, by omega, by omega, by omega, by omega⟩)
  have WP := Lib.hid (show 0 < W by omega)
  have D3 := Lib.hid (Deck.k_alloc (o := .cells #[.int .i64 S, .int .i64 W, .int .i64 L] 26) hd3)
  have C3 := Lib.hid ((C2.out.gt hc3 (Nat.le_refl _)).alloc (.cells #[.int .i64 S, .int .i64 W, .int .i64 L] 26))
  have X3 := Lib.hid (CVar.new (d := w.heap.size) (S := S) (W := W) (L := L) (w := w3) hd3.lt)
  clear hd3 hc3 D2 C2
  have c0 := X3.out.has.cell 0 _ rfl; have c1 := X3.out.has.cell 1 _ rfl; have c2 := X3.out.has.cell 2 _ rfl; have lx := X3.out.lt
  go_wp2_with fail
  refine (m2must_any S W L hC.out (by omega) (by omega) w.heap.size _ D3.out).mono ?_
  rintro e w4 ⟨U, ma, mc, m, rfl, ho4, hm4, hU4, hd4, hc4⟩
  have HM := Lib.hid (hm4.mono (V := U ++ Base) (fun x hx => List.mem_append_left _ hx))
  have HU := Lib.hid (show (U ++ Base).length ≤ 1000 by rw [List.length_append]; have : Base.length = 31 := rfl; omega)
  have X4 := Lib.hid ((X3.out.keep hc4).keep (Chg.dka w4 (.cells #[.slice ma S mc] 30)))
  have Y4 := Lib.hid (SVar.new (d := w.heap.size) hd4.lt (ho4.nd D3.out.lt))
  have C4 := Lib.hid ((C3.out.gt hc4 (Nat.le_refl _)).alloc (.cells #[.slice ma S mc] 30))
  have D4 := Lib.hid (Deck.k_alloc (o := .cells #[.slice ma S mc] 30) hd4)
  clear c0 c1 c2 lx ho4 hm4 hU4 hd4 hc4 X3 C3 D3
  have y0 := Y4.out.has.cell 0 _ rfl; have ly := Y4.out.lt
  go_wp2_with fail
  refine (m2line_any w.heap.size _ D4.out).mono ?_
  rintro e w5 ⟨x, rfl, hx5, hd5, hc5⟩
  have HX := Lib.hid (List.mem_append_right U hx5)
  have HO := Lib.hid (base_ok hx5)
  have X5 := Lib.hid (X4.out.keep hc5); have Y5 := Lib.hid (Y4.out.keep hc5); have C5 := Lib.hid (C4.out.gt hc5 (Nat.le_refl _))
  have LD := Lib.hid hd5.lt
  clear hx5 hd5 hc5 y0 ly X4 Y4 C4 D4
  have c0 := X5.out.has.cell 0 _ rfl; have c1 := X5.out.has.cell 1 _ rfl; have c2 := X5.out.has.cell 2 _ rfl; have lx := X5.out.lt; have y0 := Y5.out.has.cell 0 _ rfl; have ly := Y5.out.lt
  go_wp2_with fail
  refine (touch_any (U ++ Base) HU.out S W L hC.out m HM.out (Nd w.heap.size) ma S mc x HO.out.1 HO.out.2 HX.out _ Y5.out.cub).mono ?_
  rintro e w6 h6
  have HT := Lib.hid (touch_st HM.out WP.out HO.out.1 HO.out.2 HX.out)
  obtain ⟨ta, tc, rfl, ho6, hb6⟩ := StRet.fix h6 HT.out.len
  have X6 := Lib.hid ((X5.out.keep (Chg.dk hb6)).keep (Chg.dka w6 (.cells #[.slice ta S tc] 30)))
  have Y6 := Lib.hid ((Y5.out.keep (Chg.dk hb6)).keep (Chg.dka w6 (.cells #[.slice ta S tc] 30)))
  have Z6 := Lib.hid (SVar.new (d := w.heap.size) (w := w6) (Nat.lt_of_lt_of_le LD.out hb6.size) (ho6.nd LD.out))
  have C6 := Lib.hid ((C5.out.tr hb6).alloc (.cells #[.slice ta S tc] 30))
  clear c0 c1 c2 lx y0 ly h6 ho6 hb6 X5 Y5 C5
  go_wp2
  obtain ⟨wd, hwd⟩ : ∃ wd : World, wd = w6.alloc (.cells #[.slice ta S tc] 30) := ⟨_, rfl⟩
  rw [← hwd] at X6 Y6 Z6 C6 ⊢
  clear hwd
  go_loopw [8] (fun i wr => ∃ k : Nat, k ≤ 40 ∧ i = .int .i64 k ∧ Chg (fun k => k = w.heap.size) wd wr) (fun i _ => 40 - (intOf i).toNat)
  case atStart => exact ⟨0, Nat.zero_le _, rfl, Chg.refl _⟩
  case round =>
    obtain ⟨n, hn, rfl, n1⟩ := hrel
    have N1 := Lib.hid n1; clear n1
    by_cases hlt : n < 40
    · have X7 := Lib.hid (X6.out.keep N1.out); have Y7 := Lib.hid (Y6.out.keep N1.out); have Z7 := Lib.hid (Z6.out.keep N1.out)
      have q0 : (0 : Int) ≤ (n : Int) := by omega
      have q1 : (n : Int) < 40 := by omega
      go_upto_region 9 with fail
      go_cut [50] (fun s50 wx => s50 = .bool false ∧ Chg (fun k => k = w.heap.size) wd wx)
      case first =>
        have x0 := fun s : BelowW wr => ((X7.out.keep (Chg.dk s.ok)).has).cell 0 _ rfl; have x1 := fun s : BelowW wr => ((X7.out.keep (Chg.dk s.ok)).has).cell 1 _ rfl; have x2 := fun s : BelowW wr => ((X7.out.keep (Chg.dk s.ok)).has).cell 2 _ rfl
        have y1 := fun s : BelowW wr => ((Y7.out.keep (Chg.dk s.ok)).has).cell 0 _ rfl; have z1 := fun s : BelowW wr => ((Z7.out.keep (Chg.dk s.ok)).has).cell 0 _ rfl
        by_cases hS : S = 0
        · subst hS
          refine wp_region_below (by kernel_rfl) (by kernel_rfl) ?_
          repeat (go_big_quiet_step (fail))
          refine wpQuiet_nil ?_
          rintro w' ⟨s, rfl⟩
          have N3 := Lib.hid (N1.out.dt (Chg.dk s.ok))
          clear x0 x1 x2 y1 z1
          go_wp2_with fail
          go_meet
          exact ⟨rfl, N3.out⟩
        · have e1 : (n : Int).tmod (S : Int) = ((setN S n : Nat) : Int) := by rw [setN_int (by omega)]; exact Int.tmod_eq_emod_of_nonneg q0
          have e2 : x.tmod (S : Int) = ((setN S x : Nat) : Int) := by rw [setN_int (by omega)]; exact Int.tmod_eq_emod_of_nonneg HO.out.1
          have e3 : IntKind.i64.wrap ((setN S n : Nat) : Int) = (setN S n : Nat) := IntWalk.i64_in _ (by have := setN_lt (S := S) (by omega) (n : Int); omega)
          have e4 : IntKind.i64.wrap ((setN S x : Nat) : Int) = (setN S x : Nat) := IntWalk.i64_in _ (by have := setN_lt (S := S) (by omega) x; omega)
          have p0 : (0 : Int) < (S : Int) := by omega
          have p1 : 0 < S := by omega
          by_cases hs : setN S n = setN S x
          · have hne : (((setN S n : Nat) : Int) != ((setN S x : Nat) : Int)) = false := by rw [hs]; simp
            refine wp_region_below (by kernel_rfl) (by kernel_rfl) ?_
            repeat (go_big_quiet_step (fail))
            refine wpQuiet_nil ?_
            rintro w' ⟨s, rfl⟩
            have N3 := Lib.hid (N1.out.dt (Chg.dk s.ok))
            clear x0 x1 x2 y1 z1
            go_wp2_with fail
            go_meet
            exact ⟨rfl, N3.out⟩
          · have hne : (((setN S n : Nat) : Int) != ((setN S x : Nat) : Int)) = true := by simp; omega
            have AX := Lib.hid (fun s : BelowW wr => age_ret hC.out HT.out (n := (n : Int)) (v := (ageN S W m n : Nat)) q0 (by omega) (Z7.out.keep (Chg.dk s.ok)).cub (by rw [age_apart hs]))
            have AM := Lib.hid (fun s : BelowW wr => age_ret hC.out HM.out (n := (n : Int)) (v := (ageN S W m n : Nat)) q0 (by omega) (Y7.out.keep (Chg.dk s.ok)).cub rfl)
            generalize (ageN S W m n : Nat) = v at *
            have hvv : ((v : Int) != (v : Int)) = false := by simp
            refine wp_region_below (by kernel_rfl) (by kernel_rfl) ?_
            repeat (go_big_quiet_step ((go_at_call 20; first | (with_reducible exact calls_below _ (AX.out _)) | (with_reducible exact calls_below _ (AM.out _)))))
            refine wpQuiet_nil ?_
            rintro w' ⟨s, rfl⟩
            have N3 := Lib.hid (N1.out.dt (Chg.dk s.ok))
            clear x0 x1 x2 y1 z1
            go_wp2_with fail
            go_meet
            exact ⟨rfl, N3.out⟩
      case rest =>
        obtain ⟨rfl, n2⟩ := hcut
        have N2 := Lib.hid n2
        clear n2 X7 Y7 Z7
        have X7 := Lib.hid (X6.out.keep N2.out); have Y7 := Lib.hid (Y6.out.keep N2.out); have Z7 := Lib.hid (Z6.out.keep N2.out)
        go_upto_region 11 with fail
        obtain ⟨wr, rfl⟩ : ∃ wr : World, wr = wc := ⟨_, rfl⟩
        go_cut [64] (fun s64 wx => s64 = .bool false ∧ Chg (fun k => k = w.heap.size) wd wx)
        case first =>
          have x0 := fun s : BelowW wr => ((X7.out.keep (Chg.dk s.ok)).has).cell 0 _ rfl; have x1 := fun s : BelowW wr => ((X7.out.keep (Chg.dk s.ok)).has).cell 1 _ rfl; have x2 := fun s : BelowW wr => ((X7.out.keep (Chg.dk s.ok)).has).cell 2 _ rfl
          have y1 := fun s : BelowW wr => ((Y7.out.keep (Chg.dk s.ok)).has).cell 0 _ rfl; have z1 := fun s : BelowW wr => ((Z7.out.keep (Chg.dk s.ok)).has).cell 0 _ rfl
          by_cases hx : (n : Int) = x
          · have hne : ((n : Int) != x) = false := by simpa using hx
            refine wp_region_below (by kernel_rfl) (by kernel_rfl) ?_
            repeat (go_big_quiet_step (fail))
            refine wpQuiet_nil ?_
            rintro w' ⟨s, rfl⟩
            have N3 := Lib.hid (N2.out.dt (Chg.dk s.ok))
            clear x0 x1 x2 y1 z1
            go_wp2_with fail
            go_meet
            exact ⟨rfl, N3.out⟩
          · have hne : ((n : Int) != x) = true := by simpa using hx
            have AX := Lib.hid (fun s : BelowW wr => age_ret hC.out HT.out (n := (n : Int)) q0 (by omega) (Z7.out.keep (Chg.dk s.ok)).cub rfl)
            have AM := Lib.hid (fun s : BelowW wr => age_ret hC.out HM.out (n := (n : Int)) q0 (by omega) (Y7.out.keep (Chg.dk s.ok)).cub rfl)
            have hle := age_older HM.out WP.out HO.out.1 HO.out.2 HX.out hx
            generalize ageN S W (touchM S W m x) n = v at *
            generalize ageN S W m n = u at *
            have hvv : ¬ (v : Int) < (u : Int) := by omega
            refine wp_region_below (by kernel_rfl) (by kernel_rfl) ?_
            repeat (go_big_quiet_step ((go_at_call 20; first | (with_reducible exact calls_below _ (AX.out _)) | (with_reducible exact calls_below _ (AM.out _)))))
            refine wpQuiet_nil ?_
            rintro w' ⟨s, rfl⟩
            have N3 := Lib.hid (N2.out.dt (Chg.dk s.ok))
            clear x0 x1 x2 y1 z1
            go_wp2_with fail
            go_meet
            exact ⟨rfl, N3.out⟩
        case rest =>
          obtain ⟨rfl, n3⟩ := hcut
          have N3 := Lib.hid n3
          clear n3
          go_wp2
          go_roundw
          case rel => exact ⟨n + 1, by omega, by go_num, N3.out⟩
          case measure => simp [intOf]; omega
    · obtain rfl : n = 40 := by omega
      go_wp2_with fail
      refine (awake_any _).mono ?_
      rintro e wz ⟨rfl, hbz⟩
      go_wp2
      go_ret
      exact ⟨rfl, ((C6.out.gt N1.out (Nat.le_refl _)).tr hbz).below (fun j hj h => by unfold Ge at h; omega) (Nat.le_refl _)⟩
end Go.Proofs.Ytikhbijobkkhgaa
