/-
  timeboundlaw22.CacheDiffers returns true, whatever its lists are. No condition.
-/
import Derived.Test.YtdkpfifnegndmaaCacheN
import Derived.Test.YtdkpfifnegndmaaKeep2
import Derived.Test.YtdkpfifnegndmaaCacheO
import Derived.Test.YtdkpfifnegndmaaCacheP
import Derived.Test.YtdkpfifnegndmaaGrow2
import Derived.Test.YtdkpfifnegndmaaCacheQ
import Derived.Deep.DeepCutAuto
namespace Go.Proofs.Ytdkpfifnegndmaa
open Go.RowKit

set_option maxRecDepth 100000 in
set_option maxHeartbeats 8000000 in
theorem differs_law (a0 : Option Addr) (len0 cap0 : Nat) (z0 : List Int) (a1 : Option Addr) (len1 cap1 : Nat) (z1 : List Int) (w : World) (w0 : IsRow .i64 w a0 len0 cap0 z0) (w1 : IsRow .u8 w a1 len1 cap1 z1) :
    Calls Try.prog 4 #[.slice a0 len0 cap0, .slice a1 len1 cap1] w fun e w' => e = .returned (.bool true) ∧ Below w.heap.size w w' := by
  have hl0 := w0.lens
  have hl1 := w1.lens
  by_cases hf : len0 ≤ 400
  · have FEW := Lib.hid ((few_any a0 len0 cap0 w hl0).1 hf)
    by_cases h100 : len1 ≤ 100
    · have hb1 := w1.bytes (by omega)
      have HB1 := Lib.hid hb1; have W0 := Lib.hid w0
      obtain ⟨bs, hbs⟩ : ∃ bs, bs = z1.take len1 := ⟨_, rfl⟩
      rw [← hbs] at HB1
      clear w0 w1 hb1 hbs hf
      go_enter Try.func4, Try.ntmps4
      go_wp2_with fail
      refine FEW.out.mono ?_
      rintro e w' ⟨rfl, rfl⟩
      go_wp2_with fail
      refine (new_any a0 len0 cap0 z0 _ W0.out).mono ?_
      rintro e w2 ⟨rfl, hd2, hb2⟩
      have D2 := Lib.hid hd2; have C2 := Lib.hid (Chg.of_below (M := Ge w'.heap.size) hb2); clear hd2 hb2
      go_wp2_with fail
      refine (mcache_any w'.heap.size _ D2.out).mono ?_
      rintro e w3 ⟨S, W, L, rfl, g1, g2, g3, g4, g5, hd3, hc3⟩
      have hC := Lib.hid (show COk S W L from ⟨by omega, by omega, by omega, by omega, by omega, by omega⟩)
      have D3 := Lib.hid (hd3.chg (M := Non) ((Chg.refl w3).alloc (.cells #[.int .i64 S, .int .i64 W, .int .i64 L] 29)) (fun _ _ _ h => h))
      have C3 := Lib.hid ((C2.out.trans hc3 (fun k hk e => by omega)).alloc (.cells #[.int .i64 S, .int .i64 W, .int .i64 L] 29))
      have X3 := Lib.hid (Has.new w3 [.int .i64 S, .int .i64 W, .int .i64 L] 29)
      have l3 : w'.heap.size < w3.heap.size := by have := hd3.lt; omega
      clear hd3 hc3 C2 D2
      have c0 := X3.out.cell 0 _ rfl; have c1 := X3.out.cell 1 _ rfl; have c2 := X3.out.cell 2 _ rfl; have lx := X3.out.lt (by simp)
      go_upto_region 5 with fail
      obtain ⟨wv, hwv⟩ : ∃ wv, wv = w3.alloc (.cells #[.int .i64 S, .int .i64 W, .int .i64 L] 29) := ⟨_, rfl⟩
      have hvs : wv.heap.size = w3.heap.size + 1 := by rw [hwv]; simp
      rw [← hwv] at D3 C3 X3 c0 c1 c2 lx ⊢
      have HVS := Lib.hid hvs
      clear hwv hvs
      go_cut [7, 8] (fun s7 s8 wx => TwoLines wv w'.heap.size w3.heap.size S W s7 s8 wx)
      case first =>
        have tok1 : True := trivial
        have ld := D3.out.lt
        go_region_held3 (fun w' => w'.cell? ⟨w3.heap.size, 0, none⟩ = some (.int .i64 S) ∧ w'.cell? ⟨w3.heap.size, 1, none⟩ = some (.int .i64 W) ∧ w'.cell? ⟨w3.heap.size, 2, none⟩ = some (.int .i64 L)) (((try dsimp only); (try go_split_ands); (repeat' apply And.intro); all_goals (repeat (first | assumption | (refine hc5.cell (by omega) ?_) | (refine hc4.cell (by omega) ?_) | (refine cell_alloc (by first | assumption | omega | (simp; omega)) ?_) | (refine cell_set (by omega) ?_) | (refine cell_drew ?_)))))
          (first
            | (go_at_call 13; have _t := tok1; refine (mlines2_any S W L hC.out w'.heap.size _ (by repeat (first | exact D3.out | refine Deck.k_alloc ?_ | refine Deck.k_drew ?_))).mono ?_; rintro e w4 ⟨oa, on, oc, ss, rfl, ho4, hv4, hd4, hc4⟩; have s4 := hc4.size; simp only [World.size_alloc, World.size_drew] at s4; have ho4 := ho4.bt; simp only [World.size_alloc, World.size_drew] at ho4; have V4 := Lib.hid hv4; clear tok1 hv4; (try (have x41 := (Has.k_chg hc4 (by first | (simp; done) | (simp; omega)) (by first | omega | (simp; omega)) (Has.new wv.drew [.slice none 0 0] 33)).at' (show _ = wv.heap.size from by simp); have x41c := x41.cell 0 _ rfl; have x41f := x41.free; have x41l := x41.lt (by simp))); (try (have x41 := (Has.k_chg hc4 (by first | (simp; done) | (simp; omega)) (by first | omega | (simp; omega)) ((Has.new wv.drew [.slice none 0 0] 33).old (o := .cells [Value.slice none 0 0].toArray 33) (by simp))).at' (show _ = wv.heap.size from by simp); have x41c := x41.cell 0 _ rfl; have x41f := x41.free; have x41l := x41.lt (by simp))); (try (have x42 := (Has.k_chg hc4 (by first | (simp; done) | (simp; omega)) (by first | omega | (simp; omega)) (Has.new (wv.drew.alloc (.cells [Value.slice none 0 0].toArray 33)) [.slice none 0 0] 33)).at' (show _ = wv.heap.size + 1 from by simp); have x42c := x42.cell 0 _ rfl; have x42f := x42.free; have x42l := x42.lt (by simp))))
            | (go_at_call 13; refine (mlines2_any S W L hC.out w'.heap.size _ (by repeat (first | exact hd4 | refine Deck.k_alloc ?_ | refine Deck.k_drew ?_))).mono ?_; rintro e w5 ⟨pa, pn, pc, tt, rfl, ho5, hv5, hd5, hc5⟩; have s5 := hc5.size; (try simp only [World.size_alloc, World.size_drew] at s5); have ho5 := ho5.bt; (try simp only [World.size_alloc, World.size_drew] at ho5); have V5 := Lib.hid hv5; clear hv5; (try (have y51 := Has.k_chg hc5 x41l (by omega) x41; have y51c := y51.cell 0 _ rfl; have y51f := y51.free; have y51l := y51.lt (by simp))); (try (have y51 := Has.k_chg hc5 (by first | omega | (simp; omega)) (by omega) (x41.old (o := .cells [Value.slice none 0 0].toArray 33) x41l); have y51c := y51.cell 0 _ rfl; have y51f := y51.free; have y51l := y51.lt (by simp))); (try (have y52 := Has.k_chg hc5 x42l (by omega) x42; have y52c := y52.cell 0 _ rfl; have y52f := y52.free; have y52l := y52.lt (by simp))); (try (have y52 := Has.k_chg hc5 (by first | omega | (simp; omega)) (by omega) (x42.old (o := .cells [Value.slice none 0 0].toArray 33) x42l); have y52c := y52.cell 0 _ rfl; have y52f := y52.free; have y52l := y52.lt (by simp))); (try (have y53 := (Has.k_chg hc5 (by first | (simp; done) | (simp; omega)) (by first | omega | (simp; omega)) (Has.new w4 [.slice none 0 0] 33)).at' (show _ = w4.heap.size from by simp); have y53c := y53.cell 0 _ rfl; have y53f := y53.free; have y53l := y53.lt (by simp))); (try (have y53 := (Has.k_chg hc5 (by first | (simp; done) | (simp; omega)) (by first | omega | (simp; omega)) ((Has.new w4 [.slice none 0 0] 33).old (o := .cells [Value.slice none 0 0].toArray 33) (by simp))).at' (show _ = w4.heap.size from by simp); have y53c := y53.cell 0 _ rfl; have y53f := y53.free; have y53l := y53.lt (by simp))); (try (have y54 := (Has.k_chg hc5 (by first | (simp; done) | (simp; omega)) (by first | omega | (simp; omega)) (Has.new (w4.alloc (.cells [Value.slice none 0 0].toArray 33)) [.slice none 0 0] 33)).at' (show _ = w4.heap.size + 1 from by simp); have y54c := y54.cell 0 _ rfl; have y54f := y54.free; have y54l := y54.lt (by simp)))))
        all_goals
          have hvs := HVS.out
          clear c0 c1 c2
          go_wp2_with fail
          go_meet
          refine ⟨_, _, oa, pa, on, oc, pn, pc, ss, tt, ⟨rfl, rfl, ?_, ?_, ?_, ?_, ?_, ?_, ?_, V4.out, V5.out, ?_, ?_⟩⟩
          · repeat (first | (with_reducible refine Has.k_new (by first | (simp; done) | rfl)) | (with_reducible refine Has.k_set0 ?_) | (with_reducible refine Has.k_set (by omega) ?_) | (with_reducible refine Has.old ?_ (by first | omega | (simp; done) | (simp; omega))) | (with_reducible exact y51) | (with_reducible exact y52) | (with_reducible exact y53) | (with_reducible exact y54))
          · repeat (first | (with_reducible refine Has.k_new (by first | (simp; done) | rfl)) | (with_reducible refine Has.k_set0 ?_) | (with_reducible refine Has.k_set (by omega) ?_) | (with_reducible refine Has.old ?_ (by first | omega | (simp; done) | (simp; omega))) | (with_reducible exact y51) | (with_reducible exact y52) | (with_reducible exact y53) | (with_reducible exact y54))
          · omega
          · omega
          · omega
          · apply OMat.off
            · repeat (first | (with_reducible exact ho4) | (with_reducible refine OMat.k_alloc ?_) | (with_reducible refine OMat.k_set ?_ ?_) | (with_reducible refine OMat.k_chg hc5 ?_ ?_))
              all_goals exact (fun h => by have := h.1; have := h.2; omega)
            all_goals omega
          · apply OMat.off
            · repeat (first | (with_reducible exact ho5) | (with_reducible refine OMat.k_alloc ?_) | (with_reducible refine OMat.k_set ?_ ?_))
              all_goals exact (fun h => by have := h.1; have := h.2; omega)
            all_goals omega
          · repeat (first | (with_reducible exact hd5) | (with_reducible refine Deck.k_alloc ?_) | (with_reducible refine Deck.k_set (by omega) ?_))
          · repeat (first | (with_reducible exact Chg.refl _) | (with_reducible refine Chg.alloc ?_ _) | (with_reducible refine Chg.drew ?_) | (with_reducible refine Chg.k_set (by omega) ?_) | (with_reducible refine Chg.k_call hc5 ?_) | (with_reducible refine Chg.k_call hc4 ?_))
      case rest =>
        obtain ⟨bx, by_, xa, ya, xn, xc, yn, yc, ss, tt, h⟩ := hcut
        have hvs := HVS.out
        have e7 := h.e7; have e8 := h.e8
        subst e7 e8
        have lbx := h.lx; have lby := h.ly; have hnexy := h.ne
        have HX := Lib.hid h.hx; have HY := Lib.hid h.hy; have MX := Lib.hid h.mx; have MY := Lib.hid h.my; have VX := Lib.hid h.vx; have VY := Lib.hid h.vy; have D5 := Lib.hid h.dk
        have X5 := Lib.hid (h.chg.has X3.out lx (by omega))
        have C5 := Lib.hid (C3.out.trans h.chg (fun k hk e => by unfold Ge; omega))
        clear h X3 C3 D3 c0 c1 c2 lx HVS FEW W0
        go_wp2_with fail
        refine (next_any w'.heap.size 2 (by omega) (by omega) _ D5.out).mono ?_
        rintro e w6 ⟨r, rfl, r0, r1, hd6, hb6⟩
        have HX6 := Lib.hid (hb6.chg.has HX.out (HX.out.lt (by simp)) (by omega)); have HY6 := Lib.hid (hb6.chg.has HY.out (HY.out.lt (by simp)) (by omega)); have X6 := Lib.hid (hb6.chg.has X5.out (X5.out.lt (by simp)) (by omega))
        have MX6 := Lib.hid (MX.out.chg hb6.chg (fun k hk e => hk (by subst e; simp))); have MY6 := Lib.hid (MY.out.chg hb6.chg (fun k hk e => hk (by subst e; simp)))
        have C6 := Lib.hid (C5.out.trans hb6.chg (fun k hk e => by unfold Ge; omega))
        clear hd6 hb6 HX HY X5 MX MY C5 D5
        go_upto_if 43 with fail
        go_cut [9] (fun s9 wx => ∃ M : Nat, 12 ≤ M ∧ M ≤ 120 ∧ s9 = .int .i64 M ∧ w6 = wx)
        case first =>
          by_cases hr : r = 1
          · subst hr
            go_wp2
            go_meet
            exact ⟨12, by omega, by omega, rfl, rfl⟩
          · have hrb : (r == 1) = false := by simp [hr]
            go_wp2
            go_meet
            exact ⟨120, by omega, by omega, rfl, rfl⟩
        case rest =>
        obtain ⟨M, m0, m1, rfl, rfl⟩ := hcut
        go_wp2
        go_loopw [10, 11] (fun v i wr => ∃ (k N : Nat) (vs : List Value) (fps : Nat → Nat → Prop), k ≤ len1 ∧ i = .int .i64 k ∧ Chg Non w6 wr ∧ Grw OInt 3 wr w6.heap.size N v vs fps ((bs.take k).map (· % (M : Int)))) (fun _ i _ => len1 - (intOf i).toNat)
        case atStart => exact ⟨0, _, _, _, Nat.zero_le _, rfl, Chg.refl _, Grw.nil _ _ _ _ (Nat.le_refl _)⟩
        case round =>
          obtain ⟨k, N, vs, fps, hk, rfl, n5, q5⟩ := hrel
          obtain ⟨za, zc, rfl⟩ := q5.form (n := k) (by rw [List.length_map, List.length_take, HB1.out.hlen]; omega)
          have N5 := Lib.hid n5; have Q5 := Lib.hid q5; clear n5 q5
          by_cases hlt : k < len1
          · obtain ⟨b, o, z, rfl, hz, hcz0, hz0, hz1, _, hbw⟩ := Bytes.get HB1.out hlt
            have hcz := N5.out.cell (fun h => h) (C6.out.cell (fun h => by unfold Ge at h; omega) hcz0)
            have hbw5 := Nat.lt_of_lt_of_le hbw (Nat.le_trans C6.out.size N5.out.size)
            have HZ := Lib.hid hz; clear hz hcz0
            have q0 : 0 ≤ z % (M : Int) := Int.emod_nonneg _ (by omega)
            have q1 : z % (M : Int) < (M : Int) := Int.emod_lt_of_pos _ (by omega)
            have q2 : z.tmod (M : Int) = z % (M : Int) := Int.tmod_eq_emod_of_nonneg hz0
            have q3 : IntKind.i64.wrap (z % (M : Int)) = z % (M : Int) := IntWalk.i64_in _ (by omega)
            have q4 : IntKind.i64.wrap z = z := IntWalk.i64_in _ (by omega)
            have q5 : ¬ M = 0 := by omega
            have Q6 := Lib.hid (Q5.out.alloc OInt.loc (.cells #[.int .i64 (z % (M : Int))] 3))
            have B6 := Lib.hid (Blk.new wr [.int .i64 (z % (M : Int))] 3)
            have HL := Lib.hid (show ((bs.take k).map (· % (M : Int))).length = k by rw [List.length_map, List.length_take, HB1.out.hlen]; omega)
            go_wp2_with (at_builtin; refine wpList_append_n k rfl _ _ 22 rfl 3 Try.underlying22 info_int rfl OInt.loc Q6.out rfl wr.heap.size (.int .i64 (z % (M : Int))) 3 B6.out rfl (f := fun _ => False) (x := z % (M : Int)) ⟨rfl, by omega, by omega⟩ (fun _ h => h.elim) rfl HL.out (by omega) (by decide) ?_; intro g cap w7 hap)
            have N6 := Lib.hid (hap.out.non Q6.out (N5.out.alloc _) (Nat.le_refl _))
            have Q7 := Lib.hid hap.out.grw
            clear hap
            go_roundw
            case rel => exact ⟨k + 1, _, _, _, by omega, by go_num, N6.out, by rw [take_map_mod HZ.out]; exact Q7.out⟩
            case measure => simp [intOf]; omega
          · obtain ⟨al, hal⟩ : ∃ al, al = bs.map (· % (M : Int)) := ⟨_, rfl⟩
            have hkk : k = len1 := by omega
            subst hkk
            rw [List.take_of_length_le (by rw [HB1.out.hlen]; omega), ← hal] at Q5
            have hall : al.length = k := by rw [hal, List.length_map, HB1.out.hlen]
            have halr : ∀ z ∈ al, 0 ≤ z ∧ z ≤ 1048576 := fun z hz => by
              rw [hal] at hz
              obtain ⟨y, _, rfl⟩ := List.mem_map.1 hz
              have := Int.emod_nonneg y (show (M : Int) ≠ 0 by omega)
              have := Int.emod_lt_of_pos y (show 0 < (M : Int) by omega)
              omega
            have HALL := Lib.hid hall; have HALR := Lib.hid halr
            have HX7 := Lib.hid (N5.out.has HX6.out (HX6.out.lt (by simp)) id); have HY7 := Lib.hid (N5.out.has HY6.out (HY6.out.lt (by simp)) id); have X7 := Lib.hid (N5.out.has X6.out (X6.out.lt (by simp)) id)
            have MX7 := Lib.hid (MX6.out.chg N5.out (fun _ _ h => h)); have MY7 := Lib.hid (MY6.out.chg N5.out (fun _ _ h => h))
            have C7 := Lib.hid (C6.out.trans N5.out (fun _ _ h => h.elim))
            have A7 := Lib.hid (show Ints (fun _ => True) wr za k zc al from Q5.out.read (K := fun _ => True) OInt.reads (by rw [HALL.out]; omega) (fun _ _ => trivial))
            have hdw : w'.heap.size < w6.heap.size := by have := X6.out.lt (by simp); omega
            obtain ⟨wa, rfl⟩ : ∃ wa : World, wa = wr := ⟨_, rfl⟩
            clear hall halr hal hlt hk Q5 N5 HX6 HY6 X6 MX6 MY6 C6 m0 m1 HB1
            have LX := HX7.out.lt (by simp); have LY := HY7.out.lt (by simp); have LC := X7.out.lt (by simp)
            obtain ⟨n, hn⟩ : ∃ n, n = msn S L ss al := ⟨_, rfl⟩
            obtain ⟨m, hm⟩ : ∃ m, m = msn S L tt al := ⟨_, rfl⟩
            have hn1 : n ≤ m + S * W := by rw [hn, hm]; exact msn_near (by omega) VX.out VY.out al
            have hm1 : m ≤ n + S * W := by rw [hn, hm]; exact msn_near (by omega) VY.out VX.out al
            have hnk : n ≤ k := by rw [hn]; exact Nat.le_trans (msn_le S L ss al) (by rw [HALL.out]; exact Nat.le_refl _)
            have hmk : m ≤ k := by rw [hm]; exact Nat.le_trans (msn_le S L tt al) (by rw [HALL.out]; exact Nat.le_refl _)
            have hn0 : S = 0 → n = k := fun h => by rw [hn]; unfold msn; rw [if_pos h, HALL.out]
            have M1 := Lib.hid (fun w r ra => hn ▸ misses_ok S W L hC.out (Off [bx, by_, w3.heap.size, w'.heap.size]) (fun _ => True) xa xn xc ss w r za k zc al ra VX.out HALR.out)
            have M2 := Lib.hid (fun w r ra => hm ▸ misses_ok S W L hC.out (Off [bx, by_, w3.heap.size, w'.heap.size]) (fun _ => True) ya yn yc tt w r za k zc al ra VY.out HALR.out)
            clear hn hm
            have c0 := X7.out.cell 0 _ rfl; have c1 := X7.out.cell 1 _ rfl; have c2 := X7.out.cell 2 _ rfl; have x0 := HX7.out.cell 0 _ rfl; have y0 := HY7.out.cell 0 _ rfl
            go_wp2_with fail
            refine (M1.out _ MX7.out A7.out).mono ?_
            rintro e w8 ⟨rfl, hb8⟩
            have HX8 := Lib.hid (HX7.out.below hb8 LX); have HY8 := Lib.hid (HY7.out.below hb8 LY); have X8 := Lib.hid (X7.out.below hb8 LC); have MX8 := Lib.hid (MX7.out.below hb8); have MY8 := Lib.hid (MY7.out.below hb8); have A8 := Lib.hid (A7.out.below hb8); have C8 := Lib.hid (C7.out.tr hb8)
            clear c0 c1 c2 x0 y0 LX LY LC hb8 HX7 HY7 X7 MX7 MY7 A7 C7
            have LX := HX8.out.lt (by simp); have LY := HY8.out.lt (by simp); have LC := X8.out.lt (by simp)
            have c0 := X8.out.cell 0 _ rfl; have c1 := X8.out.cell 1 _ rfl; have c2 := X8.out.cell 2 _ rfl; have y0 := HY8.out.cell 0 _ rfl
            go_wp2_with fail
            refine (M2.out _ MY8.out A8.out).mono ?_
            rintro e w9 ⟨rfl, hb9⟩
            have HX9 := Lib.hid (HX8.out.below hb9 LX); have X9 := Lib.hid (X8.out.below hb9 LC); have MX9 := Lib.hid (MX8.out.below hb9); have A9 := Lib.hid (A8.out.below hb9); have C9 := Lib.hid (C8.out.tr hb9)
            clear c0 c1 c2 y0 LX LY LC hb9 HX8 HY8 X8 MX8 MY8 A8 C8 M1 M2 VY
            have LX := HX9.out.lt (by simp); have LC := X9.out.lt (by simp)
            have c0 := X9.out.cell 0 _ rfl; have c1 := X9.out.cell 1 _ rfl; have c2 := X9.out.cell 2 _ rfl; have x0 := HX9.out.cell 0 _ rfl
            obtain ⟨g1', g2', g3', g4', g5', g6'⟩ := hC.out
            have hP : ((S * W : Nat) : Int) = (S : Int) * (W : Int) := Int.natCast_mul S W
            have hP1 : S * W ≤ 12 := Nat.le_trans (Nat.mul_le_mul (show S ≤ 4 by omega) (show W ≤ 3 by omega)) (by decide)
            have p1 : IntKind.i64.wrap ((n : Int) - (m : Int)) = (n : Int) - (m : Int) := IntWalk.i64_in _ (by omega)
            have p2 : IntKind.i64.wrap ((m : Int) - (n : Int)) = (m : Int) - (n : Int) := IntWalk.i64_in _ (by omega)
            have p3 : IntKind.i64.wrap ((S : Int) * (W : Int)) = (S : Int) * (W : Int) := IntWalk.i64_in _ (by omega)
            have p4 : ¬ (S : Int) * (W : Int) < (n : Int) - (m : Int) := by omega
            have p5 : ¬ (S : Int) * (W : Int) < (m : Int) - (n : Int) := by omega
            by_cases hS : S = 0
            · have hnk' := hn0 hS
              subst hnk'
              subst hS
              have hne : ((n : Int) != (n : Int)) = false := by simp
              by_cases hk0 : n = 0
              · have hkz : ((n : Int) == 0) = true := by simp; omega
                go_wp2_with fail
                refine (awake_any _).mono ?_
                rintro e wz ⟨rfl, hbz⟩
                go_wp2
                go_ret
                exact ⟨rfl, (C9.out.tr hbz).below (fun j hj h => by unfold Ge at h; omega) (Nat.le_refl _)⟩
              · have hkz : ((n : Int) == 0) = false := by simp; omega
                go_wp2_with fail
                refine (awake_any _).mono ?_
                rintro e wz ⟨rfl, hbz⟩
                go_wp2
                go_ret
                exact ⟨rfl, (C9.out.tr hbz).below (fun j hj h => by unfold Ge at h; omega) (Nat.le_refl _)⟩
            · have hz : ((S : Int) == 0) = false := by simp; omega
              by_cases hk0 : k = 0
              · have hkz : ((k : Int) == 0) = true := by simp; omega
                go_wp2_with fail
                refine (awake_any _).mono ?_
                rintro e wz ⟨rfl, hbz⟩
                go_wp2
                go_ret
                exact ⟨rfl, (C9.out.tr hbz).below (fun j hj h => by unfold Ge at h; omega) (Nat.le_refl _)⟩
              · have hkz : ((k : Int) == 0) = false := by simp; omega
                obtain ⟨b, o, z, rfl, hz', hcz, _, _, _, hbw⟩ := Ints.get A9.out (show 0 < k by omega)
                have hcz0 : w9.cell? ⟨b, o, none⟩ = some (.int .i64 z) := hcz
                clear hcz
                obtain ⟨z0, z1⟩ := HALR.out z (List.mem_of_getElem? hz')
                have ag := tch_again (L := L) (show 1 ≤ S by omega) VX.out z
                obtain ⟨uu, huu⟩ : ∃ uu, uu = tch S L ss z := ⟨_, rfl⟩
                obtain ⟨hit, hhit⟩ : ∃ hit, hit = thit S L ss z := ⟨_, rfl⟩
                have VU := Lib.hid (huu ▸ tch_valid (n := z) hC.out VX.out z0 z1 : ValidP S W uu)
                have t1 := fun w r => touch_ok S W L hC.out (Off [bx, by_, w3.heap.size, w'.heap.size]) xa xn xc ss w r VX.out z z0 z1
                have t2 := fun ua un uc w r => touch_ok S W L hC.out (fun _ => True) ua un uc uu w r VU.out z z0 z1
                rw [← huu, ← hhit] at t1
                rw [← huu] at ag
                rw [ag.1, ag.2] at t2
                have T1 := Lib.hid t1; have T2 := Lib.hid t2
                clear t1 t2 ag huu hhit hz' z0 z1 HALR HALL A9 hn0 hn1 hm1 hnk hmk
                have k0 : (0 : Int) < (k : Int) := by omega
                have k1 : 0 < k := by omega
                go_upto_region 20 with fail
                obtain ⟨wv, hwv⟩ : ∃ wv : World, wv = w9 := ⟨_, rfl⟩
                have LB : b < wv.heap.size := by rw [hwv]; exact hbw
                rw [← hwv] at HX9 X9 MX9 C9 LX LC c0 c1 c2 x0 hcz0 ⊢
                clear hwv hbw
                go_cut [16, 17, 18] (fun s16 s17 s18 wx => ∃ g ua un uc, s16 = .pointer (some ⟨g, 0, none⟩) ∧ s17 = .bool hit ∧ s18 = .int .i64 0 ∧ Has wx g [.slice ua un uc] ∧ Mat (fun _ => True) wx ua un uc uu ∧ Chg Non wv wx)
                case first =>
                  go_region_held3 (fun w' => w'.cell? ⟨w3.heap.size, 0, none⟩ = some (.int .i64 S) ∧ w'.cell? ⟨w3.heap.size, 1, none⟩ = some (.int .i64 W) ∧ w'.cell? ⟨w3.heap.size, 2, none⟩ = some (.int .i64 L) ∧ w'.cell? ⟨bx, 0, none⟩ = some (.slice xa xn xc) ∧ w'.cell? ⟨b, o, none⟩ = some (.int .i64 z)) (((try dsimp only); (try go_split_ands); (repeat' apply And.intro); all_goals (repeat (first | assumption | (refine cell_later hb8 ?_) | (refine cell_alloc (by first | assumption | omega) ?_) | (refine cell_set (by omega) ?_) | (refine cell_drew ?_)))))
                    (first
                      | (go_at_call 16; refine (T1.out _ (by first | exact MX9.out.below ((Below.refl _ _).drew) | exact MX9.out.below (((Below.refl _ _).drew).alloc (Nat.le_refl _) _))).mono ?_; rintro e w8 ⟨ua, un, uc, rfl, ho8, hb8⟩; have l8 := Nat.lt_of_lt_of_le LX (Nat.le_trans (by first | exact Nat.le_refl _ | (simp; done)) hb8.size); have m8 := Nat.lt_of_lt_of_le LC (Nat.le_trans (by first | exact Nat.le_refl _ | (simp; done)) hb8.size); have p8 := Nat.lt_of_lt_of_le LB (Nat.le_trans (by first | exact Nat.le_refl _ | (simp; done)) hb8.size); try (have x8 := ((Has.new wv.drew [.slice none 0 0] 33).below hb8 (by simp)).at' (show _ = wv.heap.size from rfl); have e8 := x8.cell 0 _ rfl; have f8 := x8.free; have n8 := x8.lt (by simp))))
                  all_goals
                    go_wp2_with fail
                    go_meet
                    first
                      | exact ⟨w8.heap.size, ua, un, uc, rfl, rfl, rfl, Has.new w8 _ _, OMat.read (fun _ _ => trivial) (OMat.loc.below ho8 ((Below.refl _ _).alloc (Nat.le_refl _) _)), ((Chg.refl wv).drew.tr hb8).alloc _⟩
                      | exact ⟨wv.heap.size, ua, un, uc, rfl, rfl, rfl, x8.set0 _, OMat.read (fun _ _ => trivial) (OMat.loc.chg (M := fun j => j = wv.heap.size) ho8 (Chg.setCell (M := fun j => j = wv.heap.size) (Chg.refl _) (fun _ => rfl) _) (fun j hj _ e => by unfold Ge at hj; simp at hj; omega)), (((Chg.refl wv).drew.alloc _).tr hb8).setCell (fun h => by simp at h) _⟩
                case rest =>
                obtain ⟨g, ua, un, uc, rfl, rfl, rfl, hg, mu, hcc⟩ := hcut
                have HG := Lib.hid hg; have MU := Lib.hid mu
                have XA := Lib.hid (hcc.has X9.out LC id); have CA := Lib.hid (C9.out.trans hcc (fun _ _ h => h.elim))
                have hcz := hcc.cell (fun h => h) hcz0
                have lb := Nat.lt_of_lt_of_le LB hcc.size
                clear c0 c1 c2 x0 LX LC LB hcz0 hg mu hcc X9 C9 HX9 MX9 T1
                have LG := HG.out.lt (by simp); have LC := XA.out.lt (by simp)
                have c0 := XA.out.cell 0 _ rfl; have c1 := XA.out.cell 1 _ rfl; have c2 := XA.out.cell 2 _ rfl; have x0 := HG.out.cell 0 _ rfl
                go_upto_region 21 with fail
                obtain ⟨wu, hwu⟩ : ∃ wu : World, wu = wc := ⟨_, rfl⟩
                rw [← hwu] at HG XA MU CA LG LC c0 c1 c2 x0 hcz lb ⊢
                clear hwu
                go_cut [19, 20, 21] (fun s19 s20 s21 wx => ∃ q va vn vc, s19 = .pointer (some ⟨q, 0, none⟩) ∧ s20 = .bool true ∧ s21 = .int .i64 0 ∧ Has wx q [.slice va vn vc] ∧ Mat (fun _ => True) wx va vn vc uu ∧ Chg Non wu wx)
                case first =>
                  go_region_held3 (fun w' => w'.cell? ⟨w3.heap.size, 0, none⟩ = some (.int .i64 S) ∧ w'.cell? ⟨w3.heap.size, 1, none⟩ = some (.int .i64 W) ∧ w'.cell? ⟨w3.heap.size, 2, none⟩ = some (.int .i64 L) ∧ w'.cell? ⟨g, 0, none⟩ = some (.slice ua un uc) ∧ w'.cell? ⟨b, o, none⟩ = some (.int .i64 z)) (((try dsimp only); (try go_split_ands); (repeat' apply And.intro); all_goals (repeat (first | assumption | (refine cell_later hb8 ?_) | (refine cell_alloc (by first | assumption | omega) ?_) | (refine cell_set (by omega) ?_) | (refine cell_drew ?_)))))
                    (first
                      | (go_at_call 16; refine (T2.out ua un uc _ (by first | exact MU.out.below ((Below.refl _ _).drew) | exact MU.out.below (((Below.refl _ _).drew).alloc (Nat.le_refl _) _))).mono ?_; rintro e w8 ⟨va, vn, vc, rfl, ho8, hb8⟩; have l8 := Nat.lt_of_lt_of_le LG (Nat.le_trans (by first | exact Nat.le_refl _ | (simp; done)) hb8.size); have m8 := Nat.lt_of_lt_of_le LC (Nat.le_trans (by first | exact Nat.le_refl _ | (simp; done)) hb8.size); have p8 := Nat.lt_of_lt_of_le lb (Nat.le_trans (by first | exact Nat.le_refl _ | (simp; done)) hb8.size); try (have x8 := ((Has.new wu.drew [.slice none 0 0] 33).below hb8 (by simp)).at' (show _ = wu.heap.size from rfl); have e8 := x8.cell 0 _ rfl; have f8 := x8.free; have n8 := x8.lt (by simp))))
                  all_goals
                    go_wp2_with fail
                    go_meet
                    first
                      | exact ⟨w8.heap.size, va, vn, vc, rfl, rfl, rfl, Has.new w8 _ _, OMat.read (fun _ _ => trivial) (OMat.loc.below ho8 ((Below.refl _ _).alloc (Nat.le_refl _) _)), ((Chg.refl wu).drew.tr hb8).alloc _⟩
                      | exact ⟨wu.heap.size, va, vn, vc, rfl, rfl, rfl, x8.set0 _, OMat.read (fun _ _ => trivial) (OMat.loc.chg (M := fun j => j = wu.heap.size) ho8 (Chg.setCell (M := fun j => j = wu.heap.size) (Chg.refl _) (fun _ => rfl) _) (fun j hj _ e => by unfold Ge at hj; simp at hj; omega)), (((Chg.refl wu).drew.alloc _).tr hb8).setCell (fun h => by simp at h) _⟩
                case rest =>
                obtain ⟨q, va, vn, vc, rfl, rfl, rfl, hq, mv, hcc⟩ := hcut
                have HQ := Lib.hid hq; have MV := Lib.hid mv
                have XB := Lib.hid (hcc.has XA.out LC id); have HG2 := Lib.hid (hcc.has HG.out LG id); have MU2 := Lib.hid (MU.out.chg hcc (fun _ _ h => h)); have CB := Lib.hid (CA.out.trans hcc (fun _ _ h => h.elim))
                clear c0 c1 c2 x0 LC LG hcz lb hq mv hcc XA HG MU CA T2
                have LG := HG2.out.lt (by simp); have LC := XB.out.lt (by simp); have LQ := HQ.out.lt (by simp)
                have x0 := HG2.out.cell 0 _ rfl; have q0 := HQ.out.cell 0 _ rfl
                go_wp2_with fail
                refine (same_yes (fun _ => True) (fun _ => True) _ _ _ _ _ _ uu _ MU2.out MV.out).mono ?_
                rintro e wf ⟨rfl, hbf⟩
                have XC := Lib.hid (XB.out.below hbf LC); have HQ2 := Lib.hid (HQ.out.below hbf LQ); have MV2 := Lib.hid (MV.out.below hbf); have CC := Lib.hid (CB.out.tr hbf)
                clear x0 q0 LG LC LQ hbf
                have LC := XC.out.lt (by simp)
                have c0 := XC.out.cell 0 _ rfl; have c1 := XC.out.cell 1 _ rfl; have c2 := XC.out.cell 2 _ rfl; have q0 := HQ2.out.cell 0 _ rfl
                go_wp2_with fail
                refine (valid_any S W L hC.out (fun _ => True) va vn vc uu _ MV2.out).mono ?_
                rintro e wg ⟨vb, rfl, hvb, hbg⟩
                obtain rfl : vb = true := hvb.2 VU.out
                have CD := Lib.hid (CC.out.tr hbg)
                clear c0 c1 c2 q0 LC hbg hvb
                go_wp2_with fail
                refine (awake_any _).mono ?_
                rintro e wz ⟨rfl, hbz⟩
                go_wp2
                go_ret
                exact ⟨rfl, (CD.out.tr hbz).below (fun j hj h => by unfold Ge at h; omega) (Nat.le_refl _)⟩
    · clear w0 w1 hf
      go_enter Try.func4, Try.ntmps4
      go_wp2_with fail
      refine FEW.out.mono ?_
      rintro e w' ⟨rfl, rfl⟩
      go_wp2_with fail
      refine (awake_any _).mono ?_
      rintro e w9 ⟨rfl, hb9⟩
      go_wp2
      go_ret
      exact ⟨rfl, hb9⟩
  · have FEW := Lib.hid ((few_any a0 len0 cap0 w hl0).2 hf)
    clear w0 w1 hf
    go_enter Try.func4, Try.ntmps4
    go_wp2_with fail
    refine FEW.out.mono ?_
    rintro e w' ⟨rfl, rfl⟩
    go_wp2_with fail
    refine (awake_any _).mono ?_
    rintro e w9 ⟨rfl, hb9⟩
    go_wp2
    go_ret
    exact ⟨rfl, hb9⟩
end Go.Proofs.Ytdkpfifnegndmaa
