/-
  timeboundlaw22.CacheForgets returns true, whatever its lists are. No condition.
-/
import Derived.Test.YtdkpfifnegndmaaCacheN
import Derived.Test.YtdkpfifnegndmaaKeep3
import Derived.Test.YtdkpfifnegndmaaCacheO
import Derived.Test.YtdkpfifnegndmaaLru2
import Derived.Test.YtdkpfifnegndmaaGrow2
import Derived.Test.YtdkpfifnegndmaaQuiet
import Derived.Deep.DeepCutAuto
namespace Go.Proofs.Ytdkpfifnegndmaa
open Go.RowKit

set_option maxRecDepth 100000 in
set_option maxHeartbeats 8000000 in
theorem forgets_law (a0 : Option Addr) (len0 cap0 : Nat) (z0 : List Int) (a1 : Option Addr) (len1 cap1 : Nat) (z1 : List Int) (w : World) (w0 : IsRow .i64 w a0 len0 cap0 z0) (w1 : IsRow .u8 w a1 len1 cap1 z1) :
    Calls Try.prog 5 #[.slice a0 len0 cap0, .slice a1 len1 cap1] w fun e w' => e = .returned (.bool true) ∧ Below w.heap.size w w' := by
  have hl0 := w0.lens
  have hl1 := w1.lens
  by_cases hf : len0 ≤ 400
  · have FEW := Lib.hid ((few_any a0 len0 cap0 w hl0).1 hf)
    by_cases h100 : len1 ≤ 50
    · have hb1 := w1.bytes (by omega)
      have HB1 := Lib.hid hb1; have W0 := Lib.hid w0
      obtain ⟨bs, hbs⟩ : ∃ bs, bs = z1.take len1 := ⟨_, rfl⟩
      rw [← hbs] at HB1
      clear w0 w1 hb1 hbs hf
      go_enter Try.func5, Try.ntmps5
      go_wp2_with fail
      refine FEW.out.mono ?_
      rintro e w' ⟨rfl, rfl⟩
      go_wp2_with fail
      refine (new_any a0 len0 cap0 z0 _ W0.out).mono ?_
      rintro e w2 ⟨rfl, hd2, hb2⟩
      have D2 := Lib.hid hd2; have C2 := Lib.hid (Chg.of_below (M := Ge w'.heap.size) hb2); clear hd2 hb2
      go_wp2_with fail
      refine (mcache_any w'.heap.size _ D2.out).mono ?_
      rintro e w3 ⟨S, W, L, rfl, g1, g2, g3, g4, g5, hd3, hc3⟩
      have hC := Lib.hid (show COk S W L from ⟨by omega, by omega, by omega, by omega, by omega, by omega⟩)
      have D3 := Lib.hid (hd3.chg (M := Non) ((Chg.refl w3).alloc (.cells #[.int .i64 S, .int .i64 W, .int .i64 L] 29)) (fun _ _ _ h => h))
      have C3 := Lib.hid ((C2.out.trans hc3 (fun k hk e => by omega)).alloc (.cells #[.int .i64 S, .int .i64 W, .int .i64 L] 29))
      have X3 := Lib.hid (Has.new w3 [.int .i64 S, .int .i64 W, .int .i64 L] 29)
      have l3 : w'.heap.size < w3.heap.size := by have := hd3.lt; omega
      clear hd3 hc3 C2 D2 FEW W0
      have c0 := X3.out.cell 0 _ rfl; have c1 := X3.out.cell 1 _ rfl; have c2 := X3.out.cell 2 _ rfl; have lx := X3.out.lt (by simp)
      by_cases hS : S = 0
      · subst hS
        go_wp2_with fail
        refine (awake_any _).mono ?_
        rintro e w9 ⟨rfl, hb9⟩
        go_wp2
        go_ret
        exact ⟨rfl, (C3.out.tr hb9).below (fun j hj h => by unfold Ge at h; omega) (Nat.le_refl _)⟩
      · have hz : ((S : Int) == 0) = false := by simp; omega
        go_upto_region 7 with fail
        obtain ⟨wv, hwv⟩ : ∃ wv, wv = w3.alloc (.cells #[.int .i64 S, .int .i64 W, .int .i64 L] 29) := ⟨_, rfl⟩
        have hvs : wv.heap.size = w3.heap.size + 1 := by rw [hwv]; simp
        rw [← hwv] at D3 C3 X3 c0 c1 c2 lx ⊢
        have HVS := Lib.hid hvs
        clear hwv hvs
        go_cut [7, 8] (fun s7 s8 wx => TwoLines wv w'.heap.size w3.heap.size S W s7 s8 wx)
        case first =>
          have tok1 : True := trivial
          have ld := D3.out.lt
          go_region_held3 (fun w' => w'.cell? ⟨w3.heap.size, 0, none⟩ = some (.int .i64 S) ∧ w'.cell? ⟨w3.heap.size, 1, none⟩ = some (.int .i64 W) ∧ w'.cell? ⟨w3.heap.size, 2, none⟩ = some (.int .i64 L)) (((try dsimp only); (try go_split_ands); (repeat' apply And.intro); all_goals (repeat (first | assumption | (refine hc5.cell (by omega) ?_) | (refine hc4.cell (by omega) ?_) | (refine cell_alloc (by first | assumption | omega | (simp; omega)) ?_) | (refine cell_set (by omega) ?_) | (refine cell_drew ?_)))))
            (first
              | (go_at_call 13; have _t := tok1; refine (mlines2_any S W L hC.out w'.heap.size _ (by repeat (first | exact D3.out | refine Deck.k_alloc ?_ | refine Deck.k_drew ?_))).mono ?_; rintro e w4 ⟨oa, on, oc, ss, rfl, ho4, hv4, hd4, hc4⟩; have s4 := hc4.size; simp only [World.size_alloc, World.size_drew] at s4; have ho4 := ho4.bt; simp only [World.size_alloc, World.size_drew] at ho4; have V4 := Lib.hid hv4; clear tok1 hv4; (try (have x41 := (Has.k_chg hc4 (by first | (simp; done) | (simp; omega)) (by first | omega | (simp; omega)) (Has.new wv.drew [.slice none 0 0] 33)).at' (show _ = wv.heap.size from by simp); have x41c := x41.cell 0 _ rfl; have x41f := x41.free; have x41l := x41.lt (by simp))); (try (have x41 := (Has.k_chg hc4 (by first | (simp; done) | (simp; omega)) (by first | omega | (simp; omega)) ((Has.new wv.drew [.slice none 0 0] 33).old (o := .cells [Value.slice none 0 0].toArray 33) (by simp))).at' (show _ = wv.heap.size from by simp); have x41c := x41.cell 0 _ rfl; have x41f := x41.free; have x41l := x41.lt (by simp))); (try (have x42 := (Has.k_chg hc4 (by first | (simp; done) | (simp; omega)) (by first | omega | (simp; omega)) (Has.new (wv.drew.alloc (.cells [Value.slice none 0 0].toArray 33)) [.slice none 0 0] 33)).at' (show _ = wv.heap.size + 1 from by simp); have x42c := x42.cell 0 _ rfl; have x42f := x42.free; have x42l := x42.lt (by simp))))
              | (go_at_call 13; refine (mlines2_any S W L hC.out w'.heap.size _ (by repeat (first | exact hd4 | refine Deck.k_alloc ?_ | refine Deck.k_drew ?_))).mono ?_; rintro e w5 ⟨pa, pn, pc, tt, rfl, ho5, hv5, hd5, hc5⟩; have s5 := hc5.size; (try simp only [World.size_alloc, World.size_drew] at s5); have ho5 := ho5.bt; (try simp only [World.size_alloc, World.size_drew] at ho5); have V5 := Lib.hid hv5; clear hv5; (try (have y51 := Has.k_chg hc5 x41l (by omega) x41; have y51c := y51.cell 0 _ rfl; have y51f := y51.free; have y51l := y51.lt (by simp))); (try (have y51 := Has.k_chg hc5 (by first | omega | (simp; omega)) (by omega) (x41.old (o := .cells [Value.slice none 0 0].toArray 33) x41l); have y51c := y51.cell 0 _ rfl; have y51f := y51.free; have y51l := y51.lt (by simp))); (try (have y52 := Has.k_chg hc5 x42l (by omega) x42; have y52c := y52.cell 0 _ rfl; have y52f := y52.free; have y52l := y52.lt (by simp))); (try (have y52 := Has.k_chg hc5 (by first | omega | (simp; omega)) (by omega) (x42.old (o := .cells [Value.slice none 0 0].toArray 33) x42l); have y52c := y52.cell 0 _ rfl; have y52f := y52.free; have y52l := y52.lt (by simp))); (try (have y53 := (Has.k_chg hc5 (by first | (simp; done) | (simp; omega)) (by first | omega | (simp; omega)) (Has.new w4 [.slice none 0 0] 33)).at' (show _ = w4.heap.size from by simp); have y53c := y53.cell 0 _ rfl; have y53f := y53.free; have y53l := y53.lt (by simp))); (try (have y53 := (Has.k_chg hc5 (by first | (simp; done) | (simp; omega)) (by first | omega | (simp; omega)) ((Has.new w4 [.slice none 0 0] 33).old (o := .cells [Value.slice none 0 0].toArray 33) (by simp))).at' (show _ = w4.heap.size from by simp); have y53c := y53.cell 0 _ rfl; have y53f := y53.free; have y53l := y53.lt (by simp))); (try (have y54 := (Has.k_chg hc5 (by first | (simp; done) | (simp; omega)) (by first | omega | (simp; omega)) (Has.new (w4.alloc (.cells [Value.slice none 0 0].toArray 33)) [.slice none 0 0] 33)).at' (show _ = w4.heap.size + 1 from by simp); have y54c := y54.cell 0 _ rfl; have y54f := y54.free; have y54l := y54.lt (by simp)))))
          all_goals
            have hvs := HVS.out
            clear c0 c1 c2
            go_wp2_with fail
            go_meet
            refine ⟨_, _, oa, pa, on, oc, pn, pc, ss, tt, ⟨rfl, rfl, ?_, ?_, ?_, ?_, ?_, ?_, ?_, V4.out, V5.out, ?_, ?_⟩⟩
            · repeat (first | (with_reducible refine Has.k_new (by first | (simp; done) | rfl)) | (with_reducible refine Has.k_set0 ?_) | (with_reducible refine Has.k_set (by omega) ?_) | (with_reducible refine Has.old ?_ (by first | omega | (simp; done) | (simp; omega))) | (with_reducible exact y51) | (with_reducible exact y52) | (with_reducible exact y53) | (with_reducible exact y54))
            · repeat (first | (with_reducible refine Has.k_new (by first | (simp; done) | rfl)) | (with_reducible refine Has.k_set0 ?_) | (with_reducible refine Has.k_set (by omega) ?_) | (with_reducible refine Has.old ?_ (by first | omega | (simp; done) | (simp; omega))) | (with_reducible exact y51) | (with_reducible exact y52) | (with_reducible exact y53) | (with_reducible exact y54))
            · omega
            · omega
            · omega
            · apply OMat.off
              · repeat (first | (with_reducible exact ho4) | (with_reducible refine OMat.k_alloc ?_) | (with_reducible refine OMat.k_set ?_ ?_) | (with_reducible refine OMat.k_chg hc5 ?_ ?_))
                all_goals exact (fun h => by have := h.1; have := h.2; omega)
              all_goals omega
            · apply OMat.off
              · repeat (first | (with_reducible exact ho5) | (with_reducible refine OMat.k_alloc ?_) | (with_reducible refine OMat.k_set ?_ ?_))
                all_goals exact (fun h => by have := h.1; have := h.2; omega)
              all_goals omega
            · repeat (first | (with_reducible exact hd5) | (with_reducible refine Deck.k_alloc ?_) | (with_reducible refine Deck.k_set (by omega) ?_))
            · repeat (first | (with_reducible exact Chg.refl _) | (with_reducible refine Chg.alloc ?_ _) | (with_reducible refine Chg.drew ?_) | (with_reducible refine Chg.k_set (by omega) ?_) | (with_reducible refine Chg.k_call hc5 ?_) | (with_reducible refine Chg.k_call hc4 ?_))
        case rest =>
          obtain ⟨bx, by_, xa, ya, xn, xc, yn, yc, ss, tt, h⟩ := hcut
          have hvs := HVS.out
          have e7 := h.e7; have e8 := h.e8
          subst e7 e8
          have b1 : w3.heap.size < bx := by have := h.lx; omega
          have b2 : w3.heap.size < by_ := by have := h.ly; omega
          have b3 := h.ne
          have TW := Lib.hid (show Two w' w'.heap.size w3.heap.size bx by_ S W L wc xa ya xn xc yn yc ss tt from ⟨h.chg.has X3.out lx (by omega), h.hx, h.hy, h.mx, h.my, h.vx, h.vy, h.dk, C3.out.trans h.chg (fun k hk e => by unfold Ge; omega)⟩)
          clear h X3 C3 D3 c0 c1 c2 lx HVS hvs hz
          have p0 : 0 ≤ (L : Int) * (S : Int) := Int.mul_nonneg (by omega) (by omega)
          have p1 : (L : Int) * (S : Int) ≤ 16 := Int.le_trans (Int.mul_le_mul (show (L : Int) ≤ 4 by omega) (show (S : Int) ≤ 4 by omega) (by omega) (by omega)) (by omega)
          have p2 : IntKind.i64.wrap ((L : Int) * (S : Int)) = (L : Int) * (S : Int) := IntWalk.i64_in _ (by omega)
          go_wp2
          go_loopw [9] (fun i wr => ∃ (k : Nat) (xa ya : Option Addr) (xn xc yn yc : Nat) (ss tt : List (List Int)), k ≤ W ∧ i = .int .i64 k ∧ Two w' w'.heap.size w3.heap.size bx by_ S W L wr xa ya xn xc yn yc ss tt ∧ Alike S k ss tt) (fun i _ => W - (intOf i).toNat)
          case atStart => exact ⟨0, _, _, _, _, _, _, _, _, Nat.zero_le _, rfl, TW.out, alike_zero _ _ _⟩
          case round =>
            clear TW
            obtain ⟨k, xa, ya, xn, xc, yn, yc, ss, tt, hk, rfl, tw, al⟩ := hrel
            have TW := Lib.hid tw; have AL := Lib.hid al; clear tw al
            have c0 := TW.out.hc.cell 0 _ rfl; have c1 := TW.out.hc.cell 1 _ rfl; have c2 := TW.out.hc.cell 2 _ rfl; have lc := TW.out.hc.lt (by simp)
            by_cases hlt : k < W
            · go_upto_region 11 with fail
              go_cut [10] (fun s10 wx => ∃ (r : Nat) (m : Int), r ≤ 1 ∧ m = (L : Int) * (S : Int) * ((k : Int) + (r : Int) * 40) ∧ s10 = .int .i64 m ∧ Two w' w'.heap.size w3.heap.size bx by_ S W L wx xa ya xn xc yn yc ss tt)
              case first =>
                go_region_held3 (fun w' => w'.cell? ⟨w3.heap.size, 0, none⟩ = some (.int .i64 S) ∧ w'.cell? ⟨w3.heap.size, 2, none⟩ = some (.int .i64 L)) (((try dsimp only); (try go_split_ands); (repeat' apply And.intro); all_goals (repeat (first | assumption | (refine hb8.chg.cell (by omega) ?_) | (refine cell_drew ?_)))))
                  (first
                    | (go_at_call 15; refine (next_any w'.heap.size 2 (by omega) (by omega) _ (by repeat (first | exact TW.out.dk | refine Deck.k_drew ?_))).mono ?_; rintro e w8 ⟨r, rfl, r0, r1, hd8, hb8⟩; obtain ⟨r, rfl⟩ := Int.eq_ofNat_of_zero_le r0; have q1 : IntKind.i64.wrap ((r : Int) * 40) = (r : Int) * 40 := IntWalk.i64_in _ (by omega); have q2 : IntKind.i64.wrap ((k : Int) + (r : Int) * 40) = (k : Int) + (r : Int) * 40 := IntWalk.i64_in _ (by omega); have q3 : 0 ≤ (L : Int) * (S : Int) * ((k : Int) + (r : Int) * 40) := Int.mul_nonneg p0 (by omega); have q4 : (L : Int) * (S : Int) * ((k : Int) + (r : Int) * 40) ≤ 16 * 82 := Int.mul_le_mul p1 (by omega) (by omega) (by omega); have q5 : IntKind.i64.wrap ((L : Int) * (S : Int) * ((k : Int) + (r : Int) * 40)) = (L : Int) * (S : Int) * ((k : Int) + (r : Int) * 40) := IntWalk.i64_in _ (by omega)))
                all_goals
                  go_wp2_with fail
                  go_meet
                  exact ⟨r, _, by omega, rfl, rfl, Two.next (TW.out.below ((Below.refl _ _).drew)) hb8.chg hd8 (by omega) (by omega) (by omega)⟩
              case rest =>
              obtain ⟨r, m, hr, hm, rfl, tw⟩ := hcut
              have TV := Lib.hid tw
              clear tw TW c0 c1 c2 lc
              have q3 : 0 ≤ (L : Int) * (S : Int) * ((k : Int) + (r : Int) * 40) := Int.mul_nonneg p0 (by omega)
              have q4 : (L : Int) * (S : Int) * ((k : Int) + (r : Int) * 40) ≤ 16 * 82 := Int.mul_le_mul p1 (by omega) (by omega) (by omega)
              have AL2 := Lib.hid (alike_step (W := W) (L := L) (by omega) (by omega) TV.out.vx TV.out.vy hlt (by omega) hr AL.out)
              rw [← hm] at q3 q4 AL2
              clear hm
              have c0 := TV.out.hc.cell 0 _ rfl; have c1 := TV.out.hc.cell 1 _ rfl; have c2 := TV.out.hc.cell 2 _ rfl; have x0 := TV.out.hx.cell 0 _ rfl
              go_wp2_with fail
              refine (touch_ok S W L hC.out _ xa xn xc ss _ TV.out.mx TV.out.vx m q3 (by omega)).mono ?_
              rintro e w8 ⟨ua, un, uc, rfl, ho8, hb8⟩
              have TU := Lib.hid (TV.out.setx hb8 ho8 (tch_valid hC.out TV.out.vx q3 (by omega)) l3 b1 b2 b3)
              have hx8 := TV.out.hx.below hb8 (TV.out.hx.lt (by simp))
              clear c0 c1 c2 x0
              have x0 := hx8.cell 0 _ rfl; have xf := hx8.free; have lx := hx8.lt (by simp)
              go_upto_region 13 with fail
              clear x0 xf lx hx8 ho8 hb8 TV
              have c0 := TU.out.hc.cell 0 _ rfl; have c1 := TU.out.hc.cell 1 _ rfl; have c2 := TU.out.hc.cell 2 _ rfl; have x0 := TU.out.hy.cell 0 _ rfl
              go_wp2_with fail
              refine (touch_ok S W L hC.out _ ya yn yc tt _ TU.out.my TU.out.vy m q3 (by omega)).mono ?_
              rintro e w9 ⟨va, vn, vc, rfl, ho9, hb9⟩
              have TT := Lib.hid (TU.out.sety hb9 ho9 (tch_valid hC.out TU.out.vy q3 (by omega)) l3 b1 b2 b3)
              have hy9 := TU.out.hy.below hb9 (TU.out.hy.lt (by simp))
              clear c0 c1 c2 x0
              have x0 := hy9.cell 0 _ rfl; have xf := hy9.free; have lx := hy9.lt (by simp)
              go_wp2
              go_roundw
              case rel => exact ⟨k + 1, _, _, _, _, _, _, _, _, by omega, by go_num, TT.out, AL2.out⟩
              case measure => simp [intOf]; omega
            · obtain rfl : k = W := by omega
              have FU := Lib.hid (full_of (by omega) TW.out.vx TW.out.vy AL.out)
              clear AL hlt hk
              go_wp2
              clear c0 c1 c2 lc
              go_loopw [11] (fun i wr => ∃ (j : Nat) (xa ya : Option Addr) (xn xc yn yc : Nat) (ss tt : List (List Int)), j ≤ len1 ∧ i = .int .i64 j ∧ Two w' w'.heap.size w3.heap.size bx by_ S k L wr xa ya xn xc yn yc ss tt ∧ Full ss tt) (fun i _ => len1 - (intOf i).toNat)
              case atStart => exact ⟨0, _, _, _, _, _, _, _, _, Nat.zero_le _, rfl, TW.out, FU.out⟩
              case round =>
                clear TW FU
                obtain ⟨j, xa, ya, xn, xc, yn, yc, ss, tt, hj, rfl, tw, fu⟩ := hrel
                have TW := Lib.hid tw; have FU := Lib.hid fu; clear tw fu
                by_cases hlt : j < len1
                · obtain ⟨b, o, z, rfl, hz, hcz0, hz0, hz1, _, hbw⟩ := Bytes.get HB1.out hlt
                  have hcz := TW.out.chg.cell (fun h => by unfold Ge at h; omega) hcz0
                  clear hz hcz0
                  have c0 := TW.out.hc.cell 0 _ rfl; have c1 := TW.out.hc.cell 1 _ rfl; have c2 := TW.out.hc.cell 2 _ rfl
                  have q0 : 0 ≤ z % 9 := Int.emod_nonneg _ (by omega)
                  have q1 : z % 9 < 9 := Int.emod_lt_of_pos _ (by omega)
                  have q3 : 0 ≤ (L : Int) * (S : Int) * (z % 9) := Int.mul_nonneg p0 q0
                  have q4 : (L : Int) * (S : Int) * (z % 9) ≤ 16 * 9 := Int.mul_le_mul p1 (by omega) (by omega) (by omega)
                  have q5 : IntKind.i64.wrap ((L : Int) * (S : Int) * (z % 9)) = (L : Int) * (S : Int) * (z % 9) := IntWalk.i64_in _ (by omega)
                  have q6 : z.tmod 9 = z % 9 := Int.tmod_eq_emod_of_nonneg hz0
                  have q7 : IntKind.i64.wrap z = z := IntWalk.i64_in _ (by omega)
                  have q8 : IntKind.i64.wrap (z % 9) = z % 9 := IntWalk.i64_in _ (by omega)
                  go_upto_region 17 with fail
                  go_cut [12] (fun s12 wx => ∃ (m : Int) (n : Nat), m = (L : Int) * (S : Int) * (z % 9) ∧ s12 = .int .i64 m ∧ wx = wr.drewN n)
                  case first =>
                    go_quiet (fail)
                    go_wp2
                    go_meet
                    exact ⟨_, nq, rfl, rfl, rfl⟩
                  case rest =>
                  obtain ⟨m, nq, hm, rfl, rfl⟩ := hcut
                  have FU2 := Lib.hid (full_step (L := L) (by omega) (by omega) TW.out.vx TW.out.vy q0 FU.out)
                  have TV := Lib.hid (TW.out.drewN nq)
                  clear TW c0 c1 c2 hcz hbw hz0 hz1 q5 q6 q7 q8
                  rw [← hm] at q3 q4 FU2
                  clear hm
                  have c0 := TV.out.hc.cell 0 _ rfl; have c1 := TV.out.hc.cell 1 _ rfl; have c2 := TV.out.hc.cell 2 _ rfl; have x0 := TV.out.hx.cell 0 _ rfl
                  go_wp2_with fail
                  refine (touch_ok S k L hC.out _ xa xn xc ss _ TV.out.mx TV.out.vx m q3 (by omega)).mono ?_
                  rintro e w8 ⟨ua, un, uc, rfl, ho8, hb8⟩
                  have TU := Lib.hid (TV.out.setx hb8 ho8 (tch_valid hC.out TV.out.vx q3 (by omega)) l3 b1 b2 b3)
                  have hx8 := TV.out.hx.below hb8 (TV.out.hx.lt (by simp))
                  clear c0 c1 c2 x0
                  have x0 := hx8.cell 0 _ rfl; have xf := hx8.free; have lx := hx8.lt (by simp)
                  go_upto_region 19 with fail
                  clear x0 xf lx hx8 ho8 hb8 TV
                  have c0 := TU.out.hc.cell 0 _ rfl; have c1 := TU.out.hc.cell 1 _ rfl; have c2 := TU.out.hc.cell 2 _ rfl; have x0 := TU.out.hy.cell 0 _ rfl
                  go_wp2_with fail
                  refine (touch_ok S k L hC.out _ ya yn yc tt _ TU.out.my TU.out.vy m q3 (by omega)).mono ?_
                  rintro e w9 ⟨va, vn, vc, rfl, ho9, hb9⟩
                  have TT := Lib.hid (TU.out.sety hb9 ho9 (tch_valid hC.out TU.out.vy q3 (by omega)) l3 b1 b2 b3)
                  have hy9 := TU.out.hy.below hb9 (TU.out.hy.lt (by simp))
                  clear c0 c1 c2 x0
                  have x0 := hy9.cell 0 _ rfl; have xf := hy9.free; have lx := hy9.lt (by simp)
                  go_wp2
                  go_roundw
                  case rel => exact ⟨j + 1, _, _, _, _, _, _, _, _, by omega, by go_num, TT.out, FU2.out⟩
                  case measure => simp [intOf]; omega
                · have xl : xn = S := by have := TW.out.mx.hlen; have := TW.out.vx.1; omega
                  have yl : yn = S := by have := TW.out.my.hlen; have := TW.out.vy.1; omega
                  subst xl
                  subst yl
                  obtain ⟨e1, o1, x, ra, rl, rc, rfl, hx, hcx0, hrx, _, hbx⟩ := Rows.get TW.out.mx (show 0 < yn by omega)
                  obtain ⟨e2, o2, y, sa, sl, sc, rfl, hy, hcy0, hry, _, hby⟩ := Rows.get TW.out.my (show 0 < yn by omega)
                  have hgx : ss.getD 0 [] = x := by rw [List.getD_eq_getElem?_getD, hx]; rfl
                  have hgy : tt.getD 0 [] = y := by rw [List.getD_eq_getElem?_getD, hy]; rfl
                  have hxy : x = y := by rw [← hgx, ← hgy]; exact FU.out.1
                  have hpos := FU.out.2
                  rw [hgx] at hpos
                  have hxW := (TW.out.vx.2 0 x hx).1
                  subst hxy
                  obtain rfl : rl = k := by have := hrx.hlen; omega
                  obtain rfl : sl = rl := by have := hry.hlen; have := hrx.hlen; omega
                  have hcx : wr.cell? ⟨e1, o1, none⟩ = some (.slice ra sl rc) := hcx0
                  have hcy : wr.cell? ⟨e2, o2, none⟩ = some (.slice sa sl sc) := hcy0
                  have HPO := Lib.hid hpos; have RX := Lib.hid hrx; have RY := Lib.hid hry; have HCX := Lib.hid hcx; have HCY := Lib.hid hcy
                  have c0 := TW.out.hc.cell 0 _ rfl; have c1 := TW.out.hc.cell 1 _ rfl; have x0 := TW.out.hx.cell 0 _ rfl; have y0 := TW.out.hy.cell 0 _ rfl
                  have n1 : ((yn : Int) != (yn : Int)) = false := by simp
                  have n2 : ((sl : Int) != (sl : Int)) = false := by simp
                  have n3 : (0 : Int) < (yn : Int) := by omega
                  have n4 : 0 < yn := by omega
                  clear hx hy hgx hgy hpos hrx hry hcx0 hcy0 FU hbx hby hxW HB1
                  go_wp2
                  go_quiet (fail)
                  have TV := Lib.hid (TW.out.drewN nq)
                  have HCX2 := Lib.hid (show (wr.drewN nq).cell? ⟨e1, o1, none⟩ = some (.slice ra sl rc) from hcx)
                  have HCY2 := Lib.hid (show (wr.drewN nq).cell? ⟨e2, o2, none⟩ = some (.slice sa sl sc) from hcy)
                  have RX2 := Lib.hid (Ints.below RX.out (below_drewN (Below.refl _ _) nq)); have RY2 := Lib.hid (Ints.below RY.out (below_drewN (Below.refl _ _) nq))
                  clear c0 c1 x0 y0 hcx hcy HCX HCY RX RY TW
                  obtain ⟨wd, hwd⟩ : ∃ wd : World, wd = wr.drewN nq := ⟨_, rfl⟩
                  rw [← hwd] at TV HCX2 HCY2 RX2 RY2 ⊢
                  clear hwd
                  go_wp2
                  go_loopw [13] (fun i wr => ∃ m : Nat, m ≤ sl ∧ i = .int .i64 m ∧ Chg Non wd wr) (fun i _ => sl - (intOf i).toNat)
                  case atStart => exact ⟨0, Nat.zero_le _, rfl, Chg.refl _⟩
                  case round =>
                    obtain ⟨m, hm, rfl, nn⟩ := hrel
                    obtain ⟨wo, rfl⟩ : ∃ wo : World, wo = wr := ⟨_, rfl⟩
                    have NN := Lib.hid nn; clear nn
                    have c1 := NN.out.cell id (TV.out.hc.cell 1 _ rfl); have x0 := NN.out.cell id (TV.out.hx.cell 0 _ rfl); have y0 := NN.out.cell id (TV.out.hy.cell 0 _ rfl)
                    have hcx := NN.out.cell id HCX2.out; have hcy := NN.out.cell id HCY2.out
                    by_cases hml : m < sl
                    · obtain ⟨e3, o3, z, rfl, hz, hcz, _, _, _, hb3⟩ := Ints.get RX2.out hml
                      obtain ⟨e4, o4, z', rfl, hz', hcz', _, _, _, hb4⟩ := Ints.get RY2.out hml
                      obtain rfl : z = z' := by rw [hz] at hz'; cases hz'; rfl
                      have hzz : (z != z) = false := by simp
                      have hz0 : 0 ≤ z := HPO.out z (List.mem_of_getElem? hz)
                      have d1 := NN.out.cell id hcz; have d2 := NN.out.cell id hcz'
                      clear hz hz' hcz hcz' hb3 hb4
                      go_wp2
                      go_quiet (fail)
                      have N3 := Lib.hid (NN.out.drewN nq)
                      clear c1 x0 y0 hcx hcy d1 d2
                      go_wp2
                      go_roundw
                      case rel => exact ⟨m + 1, by omega, by go_num, N3.out⟩
                      case measure => simp [intOf]; omega
                    · clear x0 y0 hcx hcy
                      go_wp2_with fail
                      refine (awake_any _).mono ?_
                      rintro e wz ⟨rfl, hbz⟩
                      go_wp2
                      go_ret
                      exact ⟨rfl, ((TV.out.chg.trans NN.out (fun _ _ h => h.elim)).tr hbz).below (fun j hj h => by unfold Ge at h; omega) (Nat.le_refl _)⟩
    · clear w0 w1 hf
      go_enter Try.func5, Try.ntmps5
      go_wp2_with fail
      refine FEW.out.mono ?_
      rintro e w' ⟨rfl, rfl⟩
      go_wp2_with fail
      refine (awake_any _).mono ?_
      rintro e w9 ⟨rfl, hb9⟩
      go_wp2
      go_ret
      exact ⟨rfl, hb9⟩
  · have FEW := Lib.hid ((few_any a0 len0 cap0 w hl0).2 hf)
    clear w0 w1 hf
    go_enter Try.func5, Try.ntmps5
    go_wp2_with fail
    refine FEW.out.mono ?_
    rintro e w' ⟨rfl, rfl⟩
    go_wp2_with fail
    refine (awake_any _).mono ?_
    rintro e w9 ⟨rfl, hb9⟩
    go_wp2
    go_ret
    exact ⟨rfl, hb9⟩
end Go.Proofs.Ytdkpfifnegndmaa
