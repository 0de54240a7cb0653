/-
  The document's Best.
-/
import Derived.Deep.CutBlock
import Derived.Test.YtdegpgonphgbcaaZSyF
namespace Go.Proofs.Ytdegpgonphgbcaa
open Go.RowKit
def BestRet (code x y : Int) (w : World) (e : Ending) (w' : World) : Prop := e = .returned (.tuple #[.agg #[.int .i64 x, .int .i64 y], .int .i64 code]) ∧ Below w.heap.size w w'
theorem info_fsl2 : (Try.prog.info? 32).map (fun i => (i.zero, i.size, i.bytes)) = some (some (.slice none 0 0), 1, 24) := by kernel_rfl
set_option maxRecDepth 100000 in
set_option maxHeartbeats 64000000 in
theorem best_any (K : Nat → Prop) (n : Nat) (rows : List MRow) (goal : List (Int × Int)) (c0 : Int) (hs : SmallP n rows goal c0) (hbf : BuildFit n rows.length (n + rows.length + rows.length + 1) rows) (code x y : Int) (hbp : BestP n rows goal c0 code x y)
    (ra : Option Addr) (rn rc : Nat) (ga : Option Addr) (gn gc : Nat) (w : World) (R : Row RRw 2 K w ra rn rc rows) (G : Row RTm 2 K w ga gn gc goal) :
    Calls Try.prog 12 #[MdV n (.slice ra rn rc) ga gn gc c0] w (BestRet code x y w) := by
  obtain ⟨wa, hwa⟩ : ∃ wa, wa = (w.alloc (.cells (MdC n (.slice ra rn rc) ga gn gc c0).toArray 28)).alloc (.cells #[.int .i64 0, .int .i64 0] 31) := ⟨_, rfl⟩
  have BA := Lib.hid (show Below w.heap.size w wa by rw [hwa]; exact ((Below.refl _ _).alloc (Nat.le_refl _) _).alloc (by simp) _)
  have MA := Lib.hid (show Blk wa w.heap.size 28 (MdC n (.slice ra rn rc) ga gn gc c0) by rw [hwa]; exact (Blk.new w _ _).old _)
  have TA := Lib.hid (show Blk wa (w.heap.size + 1) 31 [.int .i64 0, .int .i64 0] by rw [hwa]; exact (Blk.new (w.alloc _) [.int .i64 0, .int .i64 0] 31).at' (by simp))
  have HWA := Lib.hid hwa; have HR := Lib.hid R; have HG := Lib.hid G; have HRL := Lib.hid R.hlen; have HGL := Lib.hid G.hlen; have HS := Lib.hid hs; have HBF := Lib.hid hbf; have HBP0 := Lib.hid hbp; have HBPK := Lib.hid hbp
  have SM := Lib.hid (rsmall_any K n rows goal c0 ra rn rc ga gn gc wa (R.keeps RRw.stays (fun y _ hl => BA.out.block y hl) BA.out.size) (G.keeps RTm.stays (fun y _ hl => BA.out.block y hl) BA.out.size))
  have hn6 : n ≤ 6 := by have := hs.2.1; omega
  have hrn6 : rn ≤ 6 := by have := hs.2.2.1; have := R.hlen; omega
  obtain ⟨N, hN⟩ : ∃ N, N = n + rn := ⟨_, rfl⟩
  obtain ⟨V, hV⟩ : ∃ V, V = N + rn := ⟨_, rfl⟩
  obtain ⟨L, hL⟩ : ∃ L, L = V + 1 := ⟨_, rfl⟩
  have wk1 : IntKind.i64.wrap ((n : Int) + (rn : Int)) = (N : Int) := by rw [Go.IntWalk.i64_in _ ⟨by omega, by omega⟩]; omega
  have wk2 : IntKind.i64.wrap ((N : Int) + (rn : Int)) = (V : Int) := by rw [Go.IntWalk.i64_in _ ⟨by omega, by omega⟩]; omega
  have wk3 : IntKind.i64.wrap ((V : Int) + 1) = (L : Int) := by rw [Go.IntWalk.i64_in _ ⟨by omega, by omega⟩]; omega
  have HN := Lib.hid hN; have HV := Lib.hid hV; have HL := Lib.hid hL
  have hL20 : 0 < L ∧ L ≤ 20 := ⟨by omega, by omega⟩
  have HBP := Lib.hid (show BestQ n rn N V L rows goal c0 code x y by
    have h := HBP0.out
    unfold BestP at h
    rw [show rows.length = rn from HRL.out] at h
    rw [hL, hV, hN]; exact h)
  have m0 := MA.out.cell (i := 0) rfl; have m1 := MA.out.cell (i := 1) rfl; have m2 := MA.out.cell (i := 2) rfl; have m3 := MA.out.cell (i := 3) rfl
  clear hwa R G hs hbf hbp hN hV hL
  go_enter Try.func12, Try.ntmps12
  go_upto_region 1 with fail
  rw [← HWA.out]
  go_wp2_with fail
  refine SM.out.mono ?_
  rintro e w1 ⟨r, rfl, hr, hb⟩
  obtain rfl : r = true := hr.2 HS.out
  have B1 := Lib.hid (BA.out.trans (hb.mono BA.out.size))
  have M1 := Lib.hid (MA.out.below hb MA.out.lt)
  have T1 := Lib.hid (TA.out.below hb TA.out.lt)
  clear hr hb m0 m1 m2 m3 SM MA TA BA
  have m0 := M1.out.cell (i := 0) rfl; have m1 := M1.out.cell (i := 1) rfl
  go_wp2_with fail
  refine (rzeros_any L hL20.1 (by omega) _).mono ?_
  rintro e w2 ⟨v, rfl, hnew⟩
  obtain ⟨g, cG, sG, rfl, hbG, hcG, hcG2, hgB, hb⟩ := hnew
  have B2 := Lib.hid (B1.out.trans (hb.mono B1.out.size))
  have M2 := Lib.hid (M1.out.below hb M1.out.lt)
  have T2 := Lib.hid (T1.out.below hb T1.out.lt)
  rw [List.length_replicate]
  rw [List.length_replicate] at hcG
  have GB := Lib.hid (show RowAt w2 w1.heap.size (.slice (some ⟨g, 0, none⟩) L cG) (List.replicate L 0) g from ⟨cG, sG, by rw [List.length_replicate], hbG, by rw [List.length_replicate]; exact hcG, hcG2, hgB⟩)
  clear hb m0 m1 hbG hcG hcG2 hgB
  obtain ⟨w3, hw3⟩ : ∃ w3, w3 = w2.alloc (.cells #[.slice none 0 0, .slice none 0 0, .slice (some ⟨g, 0, none⟩) L cG] 75) := ⟨_, rfl⟩
  have A3 := Lib.hid (show Below w2.heap.size w2 w3 by rw [hw3]; exact (Below.refl _ _).alloc (Nat.le_refl _) _)
  have B3 := Lib.hid (B2.out.trans (A3.out.mono B2.out.size))
  have M3 := Lib.hid (M2.out.below A3.out M2.out.lt)
  have T3 := Lib.hid (T2.out.below A3.out T2.out.lt)
  obtain ⟨B, hB⟩ : ∃ B, B = w1.heap.size := ⟨_, rfl⟩
  obtain ⟨q, hq⟩ : ∃ q, q = w2.heap.size := ⟨_, rfl⟩
  have LB := Lib.hid (show w.heap.size + 2 ≤ B ∧ B ≤ q from ⟨by rw [hB]; exact T1.out.lt, by rw [hB, hq]; have := M2.out.lt; have := GB.out; obtain ⟨_, _, _, h, _, _, h2⟩ := this; have := h.lt; omega⟩)
  have BT3 := Lib.hid (show BtAt w3 B q (tabAt n rows.length L rows 0) (.slice none 0 0) (.slice none 0 0) (.slice (some ⟨g, 0, none⟩) L cG) [] [] g from
    ⟨by rw [hq, hw3]; exact Blk.new w2 _ _, LB.out.2, World.ownsRow_nil _ _ _ _, World.ownsRow_nil _ _ _ _, BegRows.nil _ _, by rw [hB]; exact GB.out.below A3.out, by simp⟩)
  have HW3 := Lib.hid hw3; have HQ := Lib.hid hq
  have m1 := M3.out.cell (i := 1) rfl
  clear hw3 hB hq M2 T2 A3 GB M1 T1
  go_upto_region 6 with fail
  rw [← HW3.out, ← HQ.out]
  have HBW3 := Lib.hid (show B ≤ w3.heap.size by have := BT3.out.hq.lt; have := LB.out; omega)
  go_upto_block 0 with fail
  go_cut [42] (fun _ wx => Tbl wx B q (tabAt n rn L rows rn) ∧ Below B w3 wx)
  case first =>
    as_aux_lemma =>
      clear m1
      go_wp2
      go_loopw [42] (fun s wr => ∃ k : Nat, k ≤ rn ∧ s = .int .i64 k ∧ (∃ vR vB us gs, BtAt wr B q (tabAt n rows.length L rows k) vR vB (.slice (some ⟨g, 0, none⟩) L cG) us gs g) ∧ Below B w3 wr) (fun s _ => rn - (intOf s).toNat)
      case atStart => exact ⟨0, Nat.zero_le _, rfl, ⟨_, _, _, _, BT3.out⟩, Below.refl _ _⟩
      case round =>
        clear BT3
        obtain ⟨i, hi, rfl, ⟨vR, vB, us, gs, hbt⟩, hbw⟩ := hrel
        obtain ⟨wo, rfl⟩ : ∃ wo : World, wo = wr := ⟨_, rfl⟩
        have BT := Lib.hid hbt; have BR := Lib.hid hbw
        have HB3 := Lib.hid (show B ≤ wo.heap.size by have := BT.out.hq.lt; have := LB.out; omega)
        clear hbt hbw
        have BW := Lib.hid (show Below w.heap.size w wo from B3.out.trans (BR.out.mono (by have := LB.out; omega)))
        have MO := Lib.hid (M3.out.below BR.out (by have := LB.out; omega))
        have TO := Lib.hid (T3.out.below BR.out (by have := LB.out; omega))
        by_cases hlt : i < rn
        · obtain ⟨⟨tm, mo⟩, hx⟩ : ∃ t, rows[i]? = some t := ⟨_, List.getElem?_eq_getElem (by have := HRL.out; omega)⟩
          obtain ⟨b, o, rfl, kb, lb, ⟨ta, tn, tc, t0, htm⟩, t1⟩ := (HR.out.keeps RRw.stays (fun y _ hl => BW.out.block y hl) BW.out.size).row i (tm, mo) hx
          dsimp only at t0 t1 htm
          obtain ⟨tok, mx0, mx1⟩ := small_rows HS.out (tm, mo) (List.mem_of_getElem? hx)
          dsimp only at tok mx0 mx1
          have HTM := Lib.hid htm; have HTOK := Lib.hid tok; have HTL := Lib.hid htm.hlen
          have HX := Lib.hid (show rowD rows i = (tm, mo) by unfold rowD; rw [List.getD_eq_getElem?_getD, hx]; rfl)
          have hin : (i : Int) < (rn : Int) := by omega
          have htn : tn ≤ 17592186044416 := htm.hsz
          clear hx htm kb tok
          go_upto_region 9 with fail
          obtain ⟨w4, hw4⟩ : ∃ w4, w4 = wo.alloc (.cells #[.slice ta tn tc, .int .i64 mo] 50) := ⟨_, rfl⟩
          have A4 := Lib.hid (show Below wo.heap.size wo w4 by rw [hw4]; exact (Below.refl _ _).alloc (Nat.le_refl _) _)
          have X4 := Lib.hid (show Blk w4 wo.heap.size 50 [.slice ta tn tc, .int .i64 mo] by rw [hw4]; exact Blk.new wo _ _)
          rw [← hw4]
          obtain ⟨X, hX⟩ : ∃ X, X = wo.heap.size := ⟨_, rfl⟩
          have HX8 := Lib.hid hX
          rw [← hX] at X4 ⊢
          clear hw4 hX t0 t1
          go_wp2_with fail
          refine (rzeros_any L hL20.1 (by omega) _).mono ?_
          rintro e w5 ⟨v, rfl, hnew⟩
          obtain ⟨k, cK, sK, rfl, hbK, hcK, hcK2, hkB, hb⟩ := hnew
          rw [List.length_replicate]
          rw [List.length_replicate] at hcK
          have A5 := Lib.hid (show Below wo.heap.size wo w5 from A4.out.trans (hb.mono A4.out.size))
          have X5 := Lib.hid (X4.out.below hb X4.out.lt)
          have K5 := Lib.hid (show RowAt w5 B (.slice (some ⟨k, 0, none⟩) L cK) (trow1 L (tm, mo) 0) k from ⟨cK, sK, by rw [trow1_length], hbK, by rw [trow1_length]; exact hcK, hcK2, by have := HB3.out; have := A4.out.size; omega⟩)
          have FRK := Lib.hid (BT.out.fresh (k := k) (by have := A4.out.size; omega))
          have BT5 := Lib.hid (BT.out.below A5.out)
          have LK := Lib.hid (show X < k ∧ k < w5.heap.size ∧ wo.heap.size ≤ k from ⟨by have := X4.out.lt; omega, hbK.lt, by have := A4.out.size; omega⟩)
          clear hb hbK hcK hcK2 hkB X4 A4
          obtain ⟨sg, hsg⟩ : ∃ sg, sg = sgI (tm, mo) := ⟨_, rfl⟩
          have HSG := Lib.hid hsg
          have sg2 : (mo < 0 → sg = -1) ∧ (¬ mo < 0 → sg = 1) := by rw [hsg]; unfold sgI; exact ⟨fun h => if_pos h, fun h => if_neg h⟩
          have SG2 := Lib.hid sg2
          clear hsg sg2
          have x1 := X5.out.cell (i := 1) rfl
          go_upto_if 54 with fail
          go_cut [10] (fun s wx => s = .int .i64 sg ∧ w5 = wx)
          case first =>
            by_cases hneg : mo < 0
            · have e := SG2.out.1 hneg
              subst e
              go_wp2
              go_meet
              exact ⟨rfl, rfl⟩
            · have e := SG2.out.2 (by omega)
              subst e
              go_wp2
              go_meet
              exact ⟨rfl, rfl⟩
          case rest =>
            obtain ⟨rfl, rfl⟩ := hcut
            have x0 := X5.out.cell (i := 0) rfl
            go_wp2
            clear x0 x1
            go_loopw [58] (fun s wr => ∃ j : Nat, j ≤ tn ∧ s = .int .i64 j ∧ RowAt wr B (.slice (some ⟨k, 0, none⟩) L cK) (trow1 L (tm, mo) j) k ∧ Chg (fun y => y = k) w5 wr) (fun s _ => tn - (intOf s).toNat)
            case atStart => exact ⟨0, Nat.zero_le _, rfl, K5.out, Chg.refl _⟩
            case round =>
              obtain ⟨j, hj, rfl, hra, hch⟩ := hrel
              obtain ⟨wi, rfl⟩ : ∃ wi : World, wi = wr := ⟨_, rfl⟩
              have RA := Lib.hid hra; have CH := Lib.hid hch
              clear hra hch
              have BI := Lib.hid (show Below wo.heap.size wo wi from A5.out.trans (CH.out.below (fun y hy e => by have := LK.out; have e : y = k := e; omega) A5.out.size))
              by_cases hjt : j < tn
              · obtain ⟨bt, ot, ⟨of_, co⟩, rfl, ht, t0, t1, -, lbt⟩ := RTm.get (HTM.out.keeps RTm.stays (fun y _ hl => BI.out.block y hl) BI.out.size) hjt
                dsimp only at t0 t1
                obtain ⟨ho0, ho1, -, -, hc0, hc1⟩ := HTOK.out j _ (List.getElem?_eq_some_iff.1 ht).1 ht
                dsimp only at ho0 ho1 hc0 hc1
                obtain ⟨c, rfl⟩ : ∃ c : Nat, of_ = (c : Int) := ⟨of_.toNat, by omega⟩
                obtain ⟨p, hp⟩ : ∃ p, p = sg * co := ⟨_, rfl⟩
                have hpb : -9 ≤ p ∧ p ≤ 9 := by
                  by_cases hneg : mo < 0
                  · have := SG2.out.1 hneg; subst this; omega
                  · have := SG2.out.2 (by omega); subst this; omega
                have wm : IntKind.i64.wrap (sg * co) = p := by rw [← hp]; exact Go.IntWalk.i64_in _ ⟨by omega, by omega⟩
                obtain ⟨z, hz⟩ : ∃ z : Rat, z = ((p : Int) : Rat) := ⟨_, rfl⟩
                have WH := Lib.hid (show ∀ w, Calls Try.prog 39 #[.int .i64 p] w (FrRet z w) from fun w => by rw [hz]; exact rwhole_any p w)
                have HSU := Lib.hid (show trow1 L (tm, mo) (j + 1) = (trow1 L (tm, mo) j).set c z by rw [trow1_succ ht, hz, hp, HSG.out, Int.toNat_natCast])
                have hcL : (c : Int) < (L : Int) := by have := HL.out; have := HV.out; have := HN.out; omega
                have hcL2 : c < L := by omega
                have hc00 : 0 ≤ (c : Int) := by omega
                have hjn : (j : Int) < (tn : Int) := by omega
                clear ht hp hpb hz ho0 ho1 hc0 hc1
                go_upto_region 16 with fail
                obtain ⟨w6, hw6⟩ : ∃ w6, w6 = wi.alloc (.cells #[.int .i64 c, .int .i64 co] 56) := ⟨_, rfl⟩
                have A6 := Lib.hid (show Below wi.heap.size wi w6 by rw [hw6]; exact (Below.refl _ _).alloc (Nat.le_refl _) _)
                have Y6 := Lib.hid (show Blk w6 wi.heap.size 56 [.int .i64 c, .int .i64 co] by rw [hw6]; exact Blk.new wi _ _)
                rw [← hw6]
                obtain ⟨Y, hY⟩ : ∃ Y, Y = wi.heap.size := ⟨_, rfl⟩
                rw [← hY] at Y6 ⊢
                have R6 := Lib.hid (RA.out.below A6.out)
                have C6 := Lib.hid (CH.out.tr A6.out)
                have y0 := Y6.out.cell (i := 0) rfl; have y1 := Y6.out.cell (i := 1) rfl
                clear hw6 hY t0 t1
                refine hr_start 9 (fun w' => w'.cell? ⟨Y, 0, none⟩ = some (.int .i64 c) ∧ w'.cell? ⟨Y, 1, none⟩ = some (.int .i64 co)) (by kernel_rfl) (by kernel_rfl) (by refine ⟨y0, y1⟩) (fun ok => ?_)
                refine hr_t 0 ok rfl ?_
                go_frame
                refine hr_t 1 ok rfl ?_
                go_frame
                refine hr_t 2 ok rfl ?_
                go_frame
                refine hr_t 3 ok rfl ?_
                go_frame
                refine hr_t 4 ok rfl ?_
                go_frame
                refine hr_t 5 ok rfl ?_
                go_frame
                refine hr_t 6 ok rfl ?_
                go_frame
                refine hr_only (c := 7) rfl (by kernel_rfl) (fun K hK => ?_)
                go_simp
                refine (WH.out _).mono ?_
                rintro e w7 ⟨rfl, hb⟩
                have R7 := Lib.hid (show RowAt w7 B (.slice (some ⟨k, 0, none⟩) L cK) (trow1 L (tm, mo) j) k from RowAt.below (w := w6.drew) R6.out hb)
                have C7 := Lib.hid (C6.out.drew.tr hb)
                (try simp only [])
                refine hK _ _ (fun _ => by refine ⟨?_, ?_⟩ <;> (first | exact cell_later hb y0 | exact cell_later hb y1)) ?_
                clear hK K
                (try go_frame)
                refine hr_t 8 ok rfl ?_
                go_frame
                clear y0 y1 hb
                obtain ⟨cK', sK', e1, hbK, e3, e4, e5⟩ := R7.out
                obtain ⟨c0', c1'⟩ := FBlk.get hbK (List.getElem?_eq_getElem (show c < (trow1 L (tm, mo) j).length by rw [trow1_length]; exact hcL2))
                have cf := hbK.free
                clear e1 e3 e4 e5
                refine hr_only (c := 9) rfl (by kernel_rfl) (fun K hK => ?_)
                go_simp
                (try simp only [])
                refine hK _ _ (pend_no (by kernel_rfl)) ?_
                clear hK K
                (try go_frame)
                refine hr_end (by kernel_rfl) ?_
                have R8 := Lib.hid (show RowAt ((w7.setCell ⟨k, c * 2, none⟩ (.int .i64 z.num)).setCell ⟨k, c * 2 + 1, none⟩ (.int .i64 (z.den : Int))) B (.slice (some ⟨k, 0, none⟩) L cK) (trow1 L (tm, mo) (j + 1)) k by
                  rw [HSU.out]; exact R7.out.put (by rw [trow1_length]; exact hcL2) z)
                have C8 := Lib.hid (chg_put (b := k) C7.out (fun _ => rfl) c (.int .i64 z.num) (.int .i64 (z.den : Int)))
                clear c0' c1' cf hbK
                go_wp2
                go_roundw
                case rel => exact ⟨j + 1, by omega, by go_num, R8.out, C8.out⟩
                case measure => simp [intOf]; omega
              · obtain rfl : tn = j := by omega
                have K6 := Lib.hid (show RowAt wi B (.slice (some ⟨k, 0, none⟩) L cK) (trow1 L (tm, mo) tm.length) k by have h := RA.out; rw [← HTL.out] at h; exact h)
                have X6 := Lib.hid (X5.out.chg CH.out (by have := LK.out; omega))
                have M6 := Lib.hid (MO.out.below BI.out MO.out.lt)
                have TO6 := Lib.hid (TO.out.below BI.out TO.out.lt)
                have BT6 := Lib.hid (show ∃ cs, Blk w5 k 31 cs from by obtain ⟨_, h, _⟩ := K5.out.blk; exact ⟨_, h⟩)
                have BT7 := Lib.hid (show BtAt wi B q (tabAt n rows.length L rows i) vR vB (.slice (some ⟨g, 0, none⟩) L cG) us gs g from by obtain ⟨cs, h⟩ := BT6.out; exact BT5.out.side h FRK.out.1 FRK.out.2 CH.out)
                have SGB : -1 ≤ sg ∧ sg ≤ 1 := by
                  by_cases hneg : mo < 0
                  · have := SG2.out.1 hneg; omega
                  · have := SG2.out.2 (by omega); omega
                obtain ⟨p, hp⟩ : ∃ p, p = sg * mo := ⟨_, rfl⟩
                have hpb : -50 ≤ p ∧ p ≤ 50 := by
                  by_cases hneg : mo < 0
                  · have := SG2.out.1 hneg; subst this; omega
                  · have := SG2.out.2 (by omega); subst this; omega
                have wm : IntKind.i64.wrap (sg * mo) = p := by rw [← hp]; exact Go.IntWalk.i64_in _ ⟨by omega, by omega⟩
                obtain ⟨z1, hz1⟩ : ∃ z : Rat, z = ((sg : Int) : Rat) := ⟨_, rfl⟩
                obtain ⟨z2, hz2⟩ : ∃ z : Rat, z = ((p : Int) : Rat) := ⟨_, rfl⟩
                have WH1 := Lib.hid (show ∀ w, Calls Try.prog 39 #[.int .i64 sg] w (FrRet z1 w) from fun w => by rw [hz1]; exact rwhole_any sg w)
                have WH2 := Lib.hid (show ∀ w, Calls Try.prog 39 #[.int .i64 p] w (FrRet z2 w) from fun w => by rw [hz2]; exact rwhole_any p w)
                have HT2 := Lib.hid (show trow2 n rows.length L (tm, mo) i = ((trow1 L (tm, mo) tm.length).set (n + i) z1).set V z2 by unfold trow2; rw [hz1, hz2, hp, HSG.out, HV.out, HN.out, HRL.out])
                obtain ⟨ni, hni⟩ : ∃ ni, ni = n + i := ⟨_, rfl⟩
                have wni : IntKind.i64.wrap ((n : Int) + (i : Int)) = (ni : Int) := by rw [Go.IntWalk.i64_in _ ⟨by omega, by omega⟩]; omega
                have HNI := Lib.hid hni
                have hniL2 : ni < L := by have := HL.out; have := HV.out; have := HN.out; omega
                have hniL : (ni : Int) < (L : Int) := by omega
                have hni0 : 0 ≤ (ni : Int) := by omega
                have hVL2 : V < L := by have := HL.out; omega
                have hVL : (V : Int) < (L : Int) := by omega
                have hV0 : 0 ≤ (V : Int) := by omega
                have m0 := M6.out.cell (i := 0) rfl
                have x1 := X6.out.cell (i := 1) rfl
                clear hp hpb hz1 hz2 SGB hni RA CH BT5 K5 BT6 hj hjt htn
                go_upto_region 18 with fail
                refine hr_start 17 (fun w' => w'.cell? ⟨w.heap.size, 0, none⟩ = some (.int .i64 n) ∧ w'.cell? ⟨X, 1, none⟩ = some (.int .i64 mo)) (by kernel_rfl) (by kernel_rfl) (by refine ⟨m0, x1⟩) (fun ok => ?_)
                refine hr_t 0 ok rfl ?_
                go_frame
                refine hr_t 1 ok rfl ?_
                go_frame
                refine hr_t 2 ok rfl ?_
                go_frame
                refine hr_t 3 ok rfl ?_
                go_frame
                refine hr_t 4 ok rfl ?_
                go_frame
                refine hp_t 5 ok rfl ?_
                go_frame
                refine hp_t 6 ok rfl ?_
                go_frame
                refine hp_t 7 ok rfl ?_
                go_frame
                refine hp_t 8 ok rfl ?_
                go_frame
                refine hr_t 9 ok rfl ?_
                go_frame
                refine hr_t 11 ok rfl ?_
                go_frame
                refine hr_t 12 ok rfl ?_
                go_frame
                refine hr_t 13 ok rfl ?_
                go_frame
                refine hr_t 14 ok rfl ?_
                go_frame
                refine hr_only (c := 10) rfl (by kernel_rfl) (fun K hK => ?_)
                go_simp
                refine (WH1.out _).mono ?_
                rintro e w7 ⟨rfl, hb7⟩
                (try simp only [])
                refine hK _ _ (fun _ => by refine ⟨?_, ?_⟩ <;> (first | exact cell_later hb7 m0 | exact cell_later hb7 x1)) ?_
                clear hK K
                (try go_frame)
                refine hr_only (c := 15) rfl (by kernel_rfl) (fun K hK => ?_)
                go_simp
                refine (WH2.out _).mono ?_
                rintro e w8 ⟨rfl, hb8⟩
                have B68 := Lib.hid (show Below wi.heap.size wi w8 from ((Below.refl _ _).drew.trans hb7).trans (hb8.mono hb7.size))
                (try simp only [])
                refine hK _ _ (fun _ => by refine ⟨?_, ?_⟩ <;> (first | exact cell_later hb8 (cell_later hb7 m0) | exact cell_later hb8 (cell_later hb7 x1))) ?_
                clear hK K
                (try go_frame)
                refine hr_t 16 ok rfl ?_
                go_frame
                clear m0 x1 hb7 hb8
                have K8 := Lib.hid (K6.out.below B68.out)
                obtain ⟨cK', sK', e1, hbK, e3, e4, e5⟩ := K8.out
                obtain ⟨c0', c1'⟩ := FBlk.get hbK (List.getElem?_eq_getElem (show ni < (trow1 L (tm, mo) tm.length).length by rw [trow1_length]; exact hniL2))
                have cf := hbK.free
                clear e1 e3 e4 e5
                refine hr_only (c := 17) rfl (by kernel_rfl) (fun K hK => ?_)
                go_simp
                (try simp only [])
                refine hK _ _ (pend_no (by kernel_rfl)) ?_
                clear hK K
                (try go_frame)
                refine hp_t 18 ok rfl ?_
                go_frame
                have K9 := Lib.hid (K8.out.put (by rw [trow1_length]; exact hniL2) z1 (j := ni))
                clear c0' c1' cf hbK
                obtain ⟨cK', sK', e1, hbK, e3, e4, e5⟩ := K9.out
                obtain ⟨c0', c1'⟩ := FBlk.get hbK (List.getElem?_eq_getElem (show V < ((trow1 L (tm, mo) tm.length).set ni z1).length by rw [List.length_set, trow1_length]; exact hVL2))
                have cf := hbK.free
                clear e1 e3 e4 e5
                refine hr_only (c := 19) rfl (by kernel_rfl) (fun K hK => ?_)
                go_simp
                (try simp only [])
                refine hK _ _ (pend_no (by kernel_rfl)) ?_
                clear hK K
                (try go_frame)
                refine hr_end (by kernel_rfl) ?_
                obtain ⟨w9, hw9⟩ : ∃ w9, w9 = ((((w8.setCell ⟨k, ni * 2, none⟩ (.int .i64 z1.num)).setCell ⟨k, ni * 2 + 1, none⟩ (.int .i64 (z1.den : Int))).setCell ⟨k, V * 2, none⟩ (.int .i64 z2.num)).setCell ⟨k, V * 2 + 1, none⟩ (.int .i64 (z2.den : Int))) := ⟨_, rfl⟩
                have K10 := Lib.hid (show RowAt w9 B (.slice (some ⟨k, 0, none⟩) L cK) (trow2 n rows.length L (tm, mo) i) k by
                  rw [hw9, HT2.out, ← HNI.out]; exact K9.out.put (by rw [List.length_set, trow1_length]; exact hVL2) z2)
                have C9 := Lib.hid (show Chg (fun y => y = k) w8 w9 by
                  rw [hw9]; exact chg_put (M := fun y => y = k) (b := k) (chg_put (M := fun y => y = k) (b := k) (Chg.refl w8) (fun _ => rfl) ni _ _) (fun _ => rfl) V _ _)
                have B9 := Lib.hid (show Below wo.heap.size wo w9 from (BI.out.trans (B68.out.mono BI.out.size)).trans ((C9.out.below (B := wo.heap.size) (fun y hy e => by have := LK.out; have e : y = k := e; omega) (by have := BI.out.size; have := B68.out.size; omega))))
                have BT9 := Lib.hid (show BtAt w9 B q (tabAt n rows.length L rows i) vR vB (.slice (some ⟨g, 0, none⟩) L cG) us gs g from by
                  obtain ⟨cs, h, _⟩ := K8.out.blk
                  exact (BT7.out.below B68.out).side h FRK.out.1 FRK.out.2 C9.out)
                have M9 := Lib.hid (MO.out.below B9.out MO.out.lt)
                have TO9 := Lib.hid (TO.out.below B9.out TO.out.lt)
                rw [← hw9]
                clear hw9 c0' c1' cf hbK K9 K8 C9 BT7 B68 M6 TO6 X6 K6 WH1 WH2 HT2
                obtain ⟨T, hT⟩ : ∃ T, T = tabAt n rows.length L rows i := ⟨_, rfl⟩
                have TLN := Lib.hid (show T.rows.length = i ∧ T.basis.length = i ∧ T.goal.length = L by rw [hT]; exact tabAt_len n rows.length L rows i)
                have HBF2 := Lib.hid (show mo < 0 → ∀ c, c < L → Fit (gR T.goal c) ∧ Fit (gR (trow n rows.length L (tm, mo) i) c) ∧ Fit (gR T.goal c - gR (trow n rows.length L (tm, mo) i) c) by
                  intro hneg c hc
                  have h := HBF.out i (by rw [HRL.out]; exact hlt) (by rw [HX.out]; exact hneg) c (by have := HL.out; have := HV.out; have := HN.out; have := HRL.out; omega)
                  rw [HX.out] at h
                  rw [hT, show L = n + rows.length + rows.length + 1 by have := HL.out; have := HV.out; have := HN.out; have := HRL.out; omega]
                  exact h)
                have HTN := Lib.hid (show tabAt n rows.length L rows (i + 1) = ⟨T.rows ++ [trow n rows.length L (tm, mo) i], T.basis ++ [tbas n rows.length (tm, mo) i], if mo < 0 then tgoal n rows.length T.goal (trow n rows.length L (tm, mo) i) else T.goal⟩ by rw [hT]; conv => lhs; unfold tabAt; rw [HX.out])
                rw [← hT] at BT9
                clear hT
                obtain ⟨aB, cB, hvB⟩ := flat_form BT9.out.hB
                rw [TLN.out.2.1] at hvB
                subst hvB
                have OB9 := Lib.hid (show w9.ownsRow B 3 1 (.slice aB i cB) i (bvs T.basis) by have h := BT9.out.hB; rw [TLN.out.2.1] at h; exact h)
                go_upto_if 91 with fail
                go_cut [93] (fun _ wx => ∃ vB', BtAt wx B q ⟨T.rows, T.basis ++ [tbas n rows.length (tm, mo) i], if mo < 0 then tgoal n rows.length T.goal (trow n rows.length L (tm, mo) i) else T.goal⟩ vR vB' (.slice (some ⟨g, 0, none⟩) L cG) us gs g ∧ RowAt wx B (.slice (some ⟨k, 0, none⟩) L cK) (trow n rows.length L (tm, mo) i) k ∧ Below B wo wx)
                case first =>
                  as_aux_lemma =>
                    by_cases hneg : mo < 0
                    · have HNEG := Lib.hid hneg
                      have e := SG2.out.1 hneg
                      subst e
                      obtain ⟨Ni, hNi⟩ : ∃ z, z = N + i := ⟨_, rfl⟩
                      have wNi : IntKind.i64.wrap ((N : Int) + (i : Int)) = (Ni : Int) := by rw [Go.IntWalk.i64_in _ ⟨by have := HL.out; have := HV.out; omega, by have := HL.out; have := HV.out; omega⟩]; omega
                      have hNiL2 : Ni < L := by have := HL.out; have := HV.out; omega
                      have hNiL : (Ni : Int) < (L : Int) := by omega
                      have hNi0 : 0 ≤ (Ni : Int) := by omega
                      obtain ⟨z, hz⟩ : ∃ z : Rat, z = 1 := ⟨_, rfl⟩
                      have W1 := Lib.hid (show ∀ w, Calls Try.prog 39 #[.int .i64 1] w (FrRet z w) from fun w => by rw [hz]; exact rwhole_any 1 w)
                      have HTR := Lib.hid (show trow n rows.length L (tm, mo) i = (trow2 n rows.length L (tm, mo) i).set Ni z by unfold trow; rw [if_pos HNEG.out, hz, hNi, HN.out, HRL.out])
                      have HTB := Lib.hid (show tbas n rows.length (tm, mo) i = Ni by unfold tbas; rw [if_pos HNEG.out, hNi, HN.out, HRL.out])
                      clear hz hNi
                      go_wp2_with fail
                      refine (W1.out _).mono ?_
                      rintro e wB ⟨rfl, hb⟩
                      have KB := Lib.hid (K10.out.below hb)
                      have BTB := Lib.hid (BT9.out.below hb)
                      have BB := Lib.hid (B9.out.trans (hb.mono B9.out.size))
                      have OB := Lib.hid (owns_chg OB9.out (M := Non) (Chg.of_below hb) (fun _ _ _ _ h => h))
                      clear hb
                      obtain ⟨cK', sK', e1, hbK, e3, e4, e5⟩ := KB.out
                      obtain ⟨c0', c1'⟩ := FBlk.get hbK (List.getElem?_eq_getElem (show Ni < (trow2 n rows.length L (tm, mo) i).length by rw [trow2_length]; exact hNiL2))
                      have cf := hbK.free
                      clear e1 e3 e4 e5
                      go_upto_region 22 with fail
                      obtain ⟨wC, hwC⟩ : ∃ wC, wC = (wB.setCell ⟨k, Ni * 2, none⟩ (.int .i64 z.num)).setCell ⟨k, Ni * 2 + 1, none⟩ (.int .i64 (z.den : Int)) := ⟨_, rfl⟩
                      have KC := Lib.hid (show RowAt wC B (.slice (some ⟨k, 0, none⟩) L cK) (trow n rows.length L (tm, mo) i) k by
                        rw [hwC, HTR.out]; exact KB.out.put (by rw [trow2_length]; exact hNiL2) z)
                      have CC := Lib.hid (show Chg (fun y => y = k) wB wC by rw [hwC]; exact chg_put (M := fun y => y = k) (b := k) (Chg.refl wB) (fun _ => rfl) Ni _ _)
                      have BTC := Lib.hid (BTB.out.side hbK FRK.out.1 FRK.out.2 CC.out)
                      have OC := Lib.hid (owns_chg OB.out CC.out (fun b cs _ kb e => blk_tag kb hbK (by decide) e))
                      have BC := Lib.hid (show Below wo.heap.size wo wC from BB.out.trans (CC.out.below (B := wo.heap.size) (fun y hy e => by have := LK.out; have e : y = k := e; omega) BB.out.size))
                      rw [← hwC]
                      clear hwC c0' c1' cf hbK KB BTB BB OB CC
                      obtain ⟨wD, hwD⟩ : ∃ wD, wD = wC.alloc (.cells #[.int .i64 Ni] 3) := ⟨_, rfl⟩
                      have AD := Lib.hid (show Below wC.heap.size wC wD by rw [hwD]; exact (Below.refl _ _).alloc (Nat.le_refl _) _)
                      have ND := Lib.hid (show Blk wD wC.heap.size 3 [.int .i64 Ni] by rw [hwD]; exact Blk.new wC _ _)
                      have OD := Lib.hid (owns_chg OC.out (M := Non) (Chg.of_below AD.out) (fun _ _ _ _ h => h))
                      have BTD := Lib.hid (BTC.out.below AD.out)
                      have HWD := Lib.hid hwD
                      have HBS := Lib.hid (show B ≤ wD.heap.size by have := HB3.out; have := BC.out.size; have := AD.out.size; omega)
                      have q1 := BTC.out.hq.cell (i := 1) rfl
                      clear hwD
                      go_wp2_with (at_builtin; rw [← HWD.out]; refine wpList_append_flat rfl (.tmp 108) (.tmp 112) 22 rfl 3 Try.underlying22 info_int rfl (by decide) OD.out rfl HBS.out ⟨wC.heap.size, 0, none⟩ 1 1 [.int .i64 Ni] rfl rfl (fun j u hu => by rw [Addr.add_lit, Nat.zero_add]; exact ND.out.cell hu) (by simp [Value.oneCell']) (by decide) (by omega) (by decide) ?_; intro G capG wE hap; have BE0 := Lib.hid (BTD.out.addBasis (z := Ni) (by rw [TLN.out.2.1]; exact hap.out)); have HQC := Lib.hid (BTD.out.hq.chg hap.out.chg (fun e => by obtain ⟨_, hx, _⟩ := owns_tag OD.out e; exact blk_tag hx BTD.out.hq (by decide) rfl)); have q1 := HQC.out.cell (i := 1) rfl; have q2 := HQC.out.cell (i := 2) rfl; have qf := HQC.out.free; have GS := Lib.hid (grow_side (o := 1) (v' := .slice (some ⟨G, 0, none⟩) (i + 1) capG) OD.out (by decide) BTD.out.hq (by decide) BTD.out.qB (KC.out.below AD.out) hap.out.chg HBS.out))
                      obtain ⟨wF, hwF⟩ : ∃ wF, wF = wE.setCell ⟨q, 1, none⟩ (.slice (some ⟨G, 0, none⟩) (i + 1) capG) := ⟨_, rfl⟩
                      have BTF := Lib.hid (show BtAt wF B q ⟨T.rows, T.basis ++ [Ni], T.goal⟩ vR (.slice (some ⟨G, 0, none⟩) (i + 1) capG) (.slice (some ⟨g, 0, none⟩) L cG) us gs g by rw [hwF]; exact BE0.out)
                      have KF := Lib.hid (show RowAt wF B (.slice (some ⟨k, 0, none⟩) L cK) (trow n rows.length L (tm, mo) i) k by rw [hwF]; exact GS.out.1)
                      have BF := Lib.hid (show Below B wo wF by rw [hwF]; exact ((BC.out.mono HB3.out).trans (AD.out.mono (Nat.le_trans HB3.out BC.out.size))).trans GS.out.2)
                      rw [← hwF]
                      clear hwF BE0 HQC q1 q2 qf GS hap OD BTD ND AD HWD KC BTC OC BC HBS W1
                      go_loopw [118] (fun s wr => ∃ c : Nat, c ≤ L ∧ s = .int .i64 c ∧ BtAt wr B q ⟨T.rows, T.basis ++ [Ni], part (tgoal n rows.length T.goal (trow n rows.length L (tm, mo) i)) T.goal c⟩ vR (.slice (some ⟨G, 0, none⟩) (i + 1) capG) (.slice (some ⟨g, 0, none⟩) L cG) us gs g ∧ RowAt wr B (.slice (some ⟨k, 0, none⟩) L cK) (trow n rows.length L (tm, mo) i) k ∧ Below B wo wr) (fun s _ => L - (intOf s).toNat)
                      case atStart => exact ⟨0, Nat.zero_le _, rfl, by rw [part_zero]; exact BTF.out, KF.out, BF.out⟩
                      case round =>
                        clear BTF KF BF
                        obtain ⟨c, hc, rfl, hbt, hka, hbl⟩ := hrel
                        obtain ⟨wi, rfl⟩ : ∃ wi : World, wi = wr := ⟨_, rfl⟩
                        have BTI := Lib.hid hbt; have KI := Lib.hid hka; have BI2 := Lib.hid hbl
                        clear hbt hka hbl
                        by_cases hcl : c < L
                        · obtain ⟨x, hx⟩ : ∃ x, T.goal[c]? = some x := ⟨_, List.getElem?_eq_getElem (by rw [TLN.out.2.2]; exact hcl)⟩
                          obtain ⟨y, hy⟩ : ∃ y, (trow n rows.length L (tm, mo) i)[c]? = some y := ⟨_, List.getElem?_eq_getElem (by rw [trow_length]; exact hcl)⟩
                          have hnew := tgoal_get (n := n) (m := rows.length) (r := trow n rows.length L (tm, mo) i) hx
                          rw [gR_of hy] at hnew
                          have hcL : (c : Int) < (L : Int) := by omega
                          have hc0 : 0 ≤ (c : Int) := by omega
                          go_upto_region 26 with fail
                          go_cut [130] (fun s wx => s = .bool (decide (c < N) || decide (c = V)) ∧ wi = wx)
                          case first =>
                            by_cases h1 : c < N
                            · have e1 : (c : Int) < (N : Int) := by omega
                              go_wp2
                              go_meet
                              exact ⟨by simp [h1], rfl⟩
                            · have e1 : ¬ (c : Int) < (N : Int) := by omega
                              by_cases h2 : c = V
                              · have e2 : ((c : Int) == (V : Int)) = true := by rw [h2]; simp
                                have h3 := Lib.hid h2
                                clear h2
                                go_wp2
                                go_meet
                                exact ⟨by simp [h3.out], rfl⟩
                              · have e2 : ((c : Int) == (V : Int)) = false := by simp; omega
                                go_wp2
                                go_meet
                                exact ⟨by simp [h1, h2], rfl⟩
                          case rest =>
                            obtain ⟨rfl, rfl⟩ := hcut
                            by_cases hcond : c < N ∨ c = V
                            · rw [show (decide (c < N) || decide (c = V)) = true by simpa using hcond]
                              have hcond2 : c < n + rows.length ∨ c = n + rows.length + rows.length := by have := HN.out; have := HV.out; have := HRL.out; omega
                              rw [if_pos hcond2] at hnew
                              obtain ⟨z, hz⟩ : ∃ z, z = x - y := ⟨_, rfl⟩
                              rw [← hz] at hnew
                              have hf := HBF2.out HNEG.out c hcl
                              rw [gR_of hx, gR_of hy, ← hz] at hf
                              have SUB := Lib.hid (rsub x y hf.1 hf.2.1 (by rw [← hz]; exact hf.2.2))
                              rw [← hz] at SUB
                              obtain ⟨cG', sG', e1, hbG, e3, e4, e5⟩ := BTI.out.goal
                              dsimp only at hbG
                              obtain ⟨g0, g1⟩ := FBlk.get hbG (show (part (tgoal n rows.length T.goal (trow n rows.length L (tm, mo) i)) T.goal c)[c]? = some x by rw [part_get (tgoal_length _ _ _ _) (by rw [TLN.out.2.2]; exact hcl)]; exact hx)
                              obtain ⟨cK', sK', k1, hbK, k3, k4, k5⟩ := KI.out
                              obtain ⟨y0, y1⟩ := FBlk.get hbK hy
                              have q2 := BTI.out.hq.cell (i := 2) rfl
                              have HGX := Lib.hid hbG; have HNEW := Lib.hid hnew; have HXX := Lib.hid hx
                              clear e1 e3 e4 e5 k1 k3 k4 k5 hbG hbK hnew hx hy hz hf hcond hcond2
                              go_upto_region 27 with fail
                              refine hr_start 17 (fun w' => w'.cell? ⟨q, 2, none⟩ = some (.slice (some ⟨g, 0, none⟩) L cG) ∧ w'.cell? ⟨g, c * 2, none⟩ = some (.int .i64 x.num) ∧ w'.cell? ⟨g, c * 2 + 1, none⟩ = some (.int .i64 (x.den : Int)) ∧ w'.cell? ⟨k, c * 2, none⟩ = some (.int .i64 y.num) ∧ w'.cell? ⟨k, c * 2 + 1, none⟩ = some (.int .i64 (y.den : Int))) (by kernel_rfl) (by kernel_rfl) (by refine ⟨q2, g0, g1, y0, y1⟩) (fun ok => ?_)
                              refine hr_t 0 ok rfl ?_
                              go_frame
                              refine hr_t 1 ok rfl ?_
                              go_frame
                              refine hr_t 2 ok rfl ?_
                              go_frame
                              refine hr_t 3 ok rfl ?_
                              go_frame
                              refine hr_t 4 ok rfl ?_
                              go_frame
                              refine hr_t 5 ok rfl ?_
                              go_frame
                              refine hr_t 6 ok rfl ?_
                              go_frame
                              refine hr_t 7 ok rfl ?_
                              go_frame
                              refine hr_t 8 ok rfl ?_
                              go_frame
                              refine hr_t 9 ok rfl ?_
                              go_frame
                              refine hr_t 10 ok rfl ?_
                              go_frame
                              refine hr_t 11 ok rfl ?_
                              go_frame
                              refine hr_only (c := 12) rfl (by kernel_rfl) (fun K hK => ?_)
                              go_simp
                              refine (SUB.out _).mono ?_
                              rintro e w' ⟨rfl, hb⟩
                              have BT' := Lib.hid (BTI.out.drew.below hb)
                              have K' := Lib.hid (show RowAt w' B (.slice (some ⟨k, 0, none⟩) L cK) (trow n rows.length L (tm, mo) i) k from RowAt.below (w := wi.drew) KI.out hb)
                              have G' := Lib.hid (HGX.out.drew.below hb HGX.out.lt)
                              have B' := Lib.hid (show Below B wo w' from (BI2.out.drew).trans (hb.mono (Nat.le_trans HB3.out BI2.out.size)))
                              (try simp only [])
                              refine hK _ _ (fun _ => by refine ⟨?_, ?_, ?_, ?_, ?_⟩ <;> (first | exact cell_later hb q2 | exact cell_later hb g0 | exact cell_later hb g1 | exact cell_later hb y0 | exact cell_later hb y1)) ?_
                              clear hK K
                              (try go_frame)
                              refine hr_t 13 ok rfl ?_
                              go_frame
                              refine hr_t 14 ok rfl ?_
                              go_frame
                              refine hp_t 15 ok rfl ?_
                              go_frame
                              refine hr_t 16 ok rfl ?_
                              go_frame
                              clear q2 g0 g1 y0 y1 hb
                              obtain ⟨g0, g1⟩ := FBlk.get G'.out (show (part (tgoal n rows.length T.goal (trow n rows.length L (tm, mo) i)) T.goal c)[c]? = some x by rw [part_get (tgoal_length _ _ _ _) (by rw [TLN.out.2.2]; exact hcl)]; exact HXX.out)
                              have gf := G'.out.free
                              refine hr_only (c := 17) rfl (by kernel_rfl) (fun K hK => ?_)
                              go_simp
                              (try simp only [])
                              refine hK _ _ (pend_no (by kernel_rfl)) ?_
                              clear hK K
                              (try go_frame)
                              refine hr_end (by kernel_rfl) ?_
                              have C1 := Lib.hid (show Chg (fun y => y = g) w' ((w'.setCell ⟨g, c * 2, none⟩ (.int .i64 z.num)).setCell ⟨g, c * 2 + 1, none⟩ (.int .i64 (z.den : Int))) from chg_put (M := fun y => y = g) (b := g) (Chg.refl w') (fun _ => rfl) c _ _)
                              have F1 := Lib.hid (show BtAt ((w'.setCell ⟨g, c * 2, none⟩ (.int .i64 z.num)).setCell ⟨g, c * 2 + 1, none⟩ (.int .i64 (z.den : Int))) B q ⟨T.rows, T.basis ++ [Ni], part (tgoal n rows.length T.goal (trow n rows.length L (tm, mo) i)) T.goal (c + 1)⟩ vR (.slice (some ⟨G, 0, none⟩) (i + 1) capG) (.slice (some ⟨g, 0, none⟩) L cG) us gs g from BT'.out.inGoal C1.out (by
                                rw [← part_succ (tgoal_length _ _ _ _) HNEW.out]
                                exact RowAt.put BT'.out.goal (by show c < (part _ _ c).length; rw [part_length (tgoal_length _ _ _ _) (by rw [TLN.out.2.2]; exact hc), TLN.out.2.2]; exact hcl) z))
                              have F2 := Lib.hid (show RowAt ((w'.setCell ⟨g, c * 2, none⟩ (.int .i64 z.num)).setCell ⟨g, c * 2 + 1, none⟩ (.int .i64 (z.den : Int))) B (.slice (some ⟨k, 0, none⟩) L cK) (trow n rows.length L (tm, mo) i) k from K'.out.chg C1.out (fun e => FRK.out.2 e))
                              have F3 := Lib.hid (show Below B wo ((w'.setCell ⟨g, c * 2, none⟩ (.int .i64 z.num)).setCell ⟨g, c * 2 + 1, none⟩ (.int .i64 (z.den : Int))) from (B'.out.setCell (by obtain ⟨_, _, h⟩ := BT'.out.goal.blk; exact h) _).setCell (by obtain ⟨_, _, h⟩ := BT'.out.goal.blk; exact h) _)
                              clear g0 g1 gf
                              go_wp2
                              go_roundw
                              case rel => exact ⟨c + 1, by omega, by go_num, F1.out, F2.out, F3.out⟩
                              case measure => simp [intOf]; omega
                            · rw [show (decide (c < N) || decide (c = V)) = false by simpa using hcond]
                              have hcond2 : ¬ (c < n + rows.length ∨ c = n + rows.length + rows.length) := by have := HN.out; have := HV.out; have := HRL.out; omega
                              rw [if_neg hcond2] at hnew
                              have F1 := Lib.hid (show BtAt wi B q ⟨T.rows, T.basis ++ [Ni], part (tgoal n rows.length T.goal (trow n rows.length L (tm, mo) i)) T.goal (c + 1)⟩ vR (.slice (some ⟨G, 0, none⟩) (i + 1) capG) (.slice (some ⟨g, 0, none⟩) L cG) us gs g by
                                rw [← part_same (tgoal_length _ _ _ _) hnew hx]; exact BTI.out)
                              clear hcond hcond2 hnew hx hy
                              go_wp2
                              go_roundw
                              case rel => exact ⟨c + 1, by omega, by go_num, F1.out, KI.out, BI2.out⟩
                              case measure => simp [intOf]; omega
                        · obtain rfl : L = c := by omega
                          have RES := Lib.hid (show BtAt wi B q ⟨T.rows, T.basis ++ [tbas n rows.length (tm, mo) i], if mo < 0 then tgoal n rows.length T.goal (trow n rows.length L (tm, mo) i) else T.goal⟩ vR (.slice (some ⟨G, 0, none⟩) (i + 1) capG) (.slice (some ⟨g, 0, none⟩) L cG) us gs g by
                            have h := BTI.out
                            have e := part_all (new := tgoal n rows.length T.goal (trow n rows.length L (tm, mo) i)) (old := T.goal) (tgoal_length _ _ _ _)
                            rw [TLN.out.2.2] at e
                            rw [e] at h
                            rw [if_pos HNEG.out, HTB.out]
                            exact h)
                          go_wp2
                          go_meet
                          exact ⟨_, RES.out, KI.out, BI2.out⟩
                    · have e := SG2.out.2 (by omega)
                      have HNEG := Lib.hid hneg
                      subst e
                      have m0 := M9.out.cell (i := 0) rfl
                      have q1 := BT9.out.hq.cell (i := 1) rfl
                      obtain ⟨wB, hwB⟩ : ∃ wB, wB = w9.alloc (.cells #[.int .i64 ni] 3) := ⟨_, rfl⟩
                      have AB := Lib.hid (show Below w9.heap.size w9 wB by rw [hwB]; exact (Below.refl _ _).alloc (Nat.le_refl _) _)
                      have NB := Lib.hid (show Blk wB w9.heap.size 3 [.int .i64 ni] by rw [hwB]; exact Blk.new w9 _ _)
                      have OBB := Lib.hid (owns_chg OB9.out (M := Non) (Chg.of_below AB.out) (fun _ _ _ _ h => h))
                      have BTB := Lib.hid (BT9.out.below AB.out)
                      have HWB := Lib.hid hwB
                      have HBS := Lib.hid (show B ≤ wB.heap.size by have := HB3.out; have := B9.out.size; have := AB.out.size; omega)
                      clear hwB
                      go_wp2_with (at_builtin; rw [← HWB.out]; refine wpList_append_flat rfl (.tmp 93) (.tmp 98) 22 rfl 3 Try.underlying22 info_int rfl (by decide) OBB.out rfl HBS.out ⟨w9.heap.size, 0, none⟩ 1 1 [.int .i64 ni] rfl rfl (fun j u hu => by rw [Addr.add_lit, Nat.zero_add]; exact NB.out.cell hu) (by simp [Value.oneCell']) (by decide) (by omega) (by decide) ?_; intro G capG wC hap; have BB := Lib.hid (BTB.out.addBasis (z := ni) (by rw [TLN.out.2.1]; exact hap.out)); have HQC := BTB.out.hq.chg hap.out.chg (fun e => by obtain ⟨_, hx, _⟩ := owns_tag OBB.out e; exact blk_tag hx BTB.out.hq (by decide) rfl); have q1 := HQC.cell (i := 1) rfl; have qf := HQC.free; have HAP := hap)
                      go_meet
                      have hnn : ¬ mo < 0 := by have := HNEG.out; omega
                      have htb : tbas n rows.length (tm, mo) i = ni := by unfold tbas; rw [if_neg hnn, HNI.out]
                      have htr : trow n rows.length L (tm, mo) i = trow2 n rows.length L (tm, mo) i := by unfold trow; rw [if_neg hnn]
                      rw [if_neg hnn, htb, htr]
                      have GS := grow_side (o := 1) (v' := .slice (some ⟨G, 0, none⟩) (i + 1) capG) OBB.out (by decide) BTB.out.hq (by decide) BTB.out.qB (K10.out.below AB.out) HAP.out.chg HBS.out
                      exact ⟨_, BB.out, GS.1, ((B9.out.mono HB3.out).trans (AB.out.mono (Nat.le_trans HB3.out B9.out.size))).trans GS.2⟩
                case rest =>
                  as_aux_lemma =>
                    obtain ⟨vB', hbt, hka, hbl⟩ := hcut
                    obtain ⟨w10, hw10⟩ : ∃ w10 : World, w10 = wc := ⟨_, rfl⟩
                    rw [← hw10] at hbt hka hbl ⊢
                    clear hw10
                    obtain ⟨aR, cR, hvR⟩ := flat_form hbt.hR
                    dsimp only at hvR
                    rw [TLN.out.1] at hvR
                    subst hvR
                    have OR0 := hbt.hR
                    dsimp only at OR0
                    rw [TLN.out.1] at OR0
                    obtain ⟨wA, hwA⟩ : ∃ wA, wA = w10.alloc (.cells #[.slice (some ⟨k, 0, none⟩) L cK] 32) := ⟨_, rfl⟩
                    have AA := Lib.hid (show Below w10.heap.size w10 wA by rw [hwA]; exact (Below.refl _ _).alloc (Nat.le_refl _) _)
                    have NA := Lib.hid (show Blk wA w10.heap.size 32 [.slice (some ⟨k, 0, none⟩) L cK] by rw [hwA]; exact Blk.new w10 _ _)
                    have OA := Lib.hid (owns_chg OR0 (M := Non) (Chg.of_below AA.out) (fun _ _ _ _ h => h))
                    have BTA := Lib.hid (hbt.below AA.out)
                    have KA := Lib.hid (hka.below AA.out)
                    have BLA := Lib.hid (show Below B wo wA from hbl.trans (AA.out.mono (Nat.le_trans HB3.out hbl.size)))
                    have HWA2 := Lib.hid hwA
                    have HBS := Lib.hid (show B ≤ wA.heap.size from Nat.le_trans HB3.out BLA.out.size)
                    have q0 := hbt.hq.cell (i := 0) rfl
                    clear hwA hbt hka hbl OR0
                    go_wp2_with (at_builtin; rw [← HWA2.out]; refine wpList_append_flat rfl (.tmp 150) (.tmp 152) 69 rfl 32 Try.underlying69 info_fsl2 rfl (by decide) OA.out rfl HBS.out ⟨w10.heap.size, 0, none⟩ 1 1 [.slice (some ⟨k, 0, none⟩) L cK] rfl rfl (fun j u hu => by rw [Addr.add_lit, Nat.zero_add]; exact NA.out.cell hu) (by simp [Value.oneCell']) (by decide) (by omega) (by decide) ?_; intro G capG wE hap; have BE := Lib.hid (BTA.out.addRow KA.out FRK.out.1 FRK.out.2 (by dsimp only; rw [TLN.out.1]; exact hap.out)); have HQC := Lib.hid (BTA.out.hq.chg hap.out.chg (fun e => by obtain ⟨_, hx, _⟩ := owns_tag OA.out e; exact blk_tag hx BTA.out.hq (by decide) rfl)); have q0 := HQC.out.cell (i := 0) rfl; have qf := HQC.out.free; have GS := Lib.hid (grow_side (o := 0) (v' := .slice (some ⟨G, 0, none⟩) (i + 1) capG) OA.out (by decide) BTA.out.hq (by decide) BTA.out.qB KA.out hap.out.chg HBS.out))
                    go_roundw
                    case rel => exact ⟨i + 1, by omega, by go_num, ⟨_, _, _, _, by rw [HTN.out]; exact BE.out⟩, (BR.out.trans BLA.out).trans GS.out.2⟩
                    case measure => simp [intOf]; omega
        · obtain rfl : rn = i := by omega
          have FIN := Lib.hid (show Tbl wo B q (tabAt n rn L rows rn) ∧ Below B w3 wo from ⟨by have h := BT.out.tb; rw [show rows.length = rn from HRL.out] at h; exact ⟨_, _, _, _, _, _, h⟩, BR.out⟩)
          go_wp2
          go_meet
          exact FIN.out
  case rest =>
    obtain ⟨htb0, hbl0⟩ := hcut
    obtain ⟨wo, hwo⟩ : ∃ wo : World, wo = wc := ⟨_, rfl⟩
    rw [← hwo] at htb0 hbl0 ⊢
    clear hwo m1
    have TBO := Lib.hid htb0; have BR := Lib.hid hbl0
    have TLN := Lib.hid (tabAt_tlen n rows.length L rows rn)
    have HB3 := Lib.hid (show B ≤ wo.heap.size from Nat.le_trans HBW3.out BR.out.size)
    clear htb0 hbl0 BT3
    obtain ⟨k1, b1, T1, hrun, hrest⟩ := HBP.out
    have HREST := Lib.hid hrest
    clear hrest HBP HBP0
    have hN1 : N ≤ V := by have := HV.out; omega
    have hV1 : V ≤ 500 := by have := HL.out; omega
    have TLN1 := Lib.hid (show TabLen T1 rn L from hrun.len (by have h := TLN.out; rw [show rows.length = rn from HRL.out] at h; exact h))
    have RUN := Lib.hid (trun_any wo B q (tabAt n rn L rows rn) T1 rn V N k1 b1 TBO.out (by have h := TLN.out; rw [show rows.length = rn from HRL.out, HL.out] at h; rw [HL.out]; exact h) (by omega) hV1 hN1 hrun HB3.out)
    clear hrun TLN TBO
    go_wp2_with fail
    refine RUN.out.mono ?_
    rintro e w10 ⟨rfl, htb, hbl⟩
    have TB1 := Lib.hid htb; have BL1 := Lib.hid (BR.out.trans hbl)
    have BW1 := Lib.hid (show Below w.heap.size w w10 from B3.out.trans (BL1.out.mono (by have := LB.out; omega)))
    have M10 := Lib.hid (M3.out.below BL1.out (by have := LB.out; omega))
    have TO10 := Lib.hid (T3.out.below BL1.out (by have := LB.out; omega))
    have HB10 := Lib.hid (show B ≤ w10.heap.size from Nat.le_trans HB3.out hbl.size)
    clear htb hbl RUN BR HB3 M3 T3
    have x2 : ∃ g cG sG, w10.cell? ⟨q, 2, none⟩ = some (.slice (some ⟨g, 0, none⟩) L cG) ∧ FBlk w10 g T1.goal sG := by
      obtain ⟨vR, vB, vG, us, gs, g, tb⟩ := TB1.out
      obtain ⟨cG, sG, hvG, hbG, _⟩ := tb.goal
      have := tb.hq.cell (i := 2) (v := vG) rfl
      rw [hvG, TLN1.out.goal] at this
      exact ⟨_, _, _, this, hbG⟩
    obtain ⟨g1, cG1, sG1, x2, hbG⟩ := x2
    have hVL2 : V < L := by have := HL.out; omega
    have hVL : (V : Int) < (L : Int) := by omega
    have hV0 : 0 ≤ (V : Int) := by omega
    obtain ⟨z, hz⟩ : ∃ z, T1.goal[V]? = some z := ⟨_, List.getElem?_eq_getElem (by rw [TLN1.out.goal]; exact hVL2)⟩
    obtain ⟨z0, z1⟩ := FBlk.get hbG hz
    rcases HREST.out with ⟨hne, hcode, hx0, hy0⟩ | ⟨heq, T2, hdr, hcf, k2, b2, T3, hrun2, hend⟩
    · rw [gR_of hz] at hne
      have hnum : z.num ≠ 0 := fun e => hne (Rat.num_eq_zero.1 e)
      have hnumb : (z.num != 0) = true := by simpa using hnum
      have CODE := Lib.hid (show code = 34 ∧ x = 0 ∧ y = 0 from ⟨hcode, hx0, hy0⟩)
      have BPX := Lib.hid (show BestP n rows goal c0 code x y from HBPK.out)
      have BF := Lib.hid (show Below w.heap.size w ((w10.setCell ⟨w.heap.size + 1, 0, none⟩ (.int .i64 0)).setCell ⟨w.heap.size + 1, 1, none⟩ (.int .i64 0)) from (BW1.out.setCell (Nat.le_succ _) _).setCell (Nat.le_succ _) _)
      have TF := Lib.hid ((TO10.out.set 0 (.int .i64 0)).set 1 (.int .i64 0))
      have t0 := TO10.out.cell (i := 0) rfl; have t1 := TO10.out.cell (i := 1) rfl; have tf := TO10.out.free
      clear hne hcode hx0 hy0 hz hbG HREST
      go_upto_region 33 with fail
      repeat go_step
      have r0 := TF.out.cell (i := 0) rfl; have r1 := TF.out.cell (i := 1) rfl
      refine bodyPost_ret (v := .tuple #[.agg #[.int .i64 0, .int .i64 0], .int .i64 34]) (by simp [results, Try.results12, go_sem, r0, r1]) rfl ⟨by rw [CODE.out.1, CODE.out.2.1, CODE.out.2.2], BF.out⟩
    · rw [gR_of hz] at heq
      have hnum : z.num = 0 := by rw [heq]; rfl
      have HDR := Lib.hid hdr; have HCF := Lib.hid hcf; have HRUN2 := Lib.hid hrun2; have HEND := Lib.hid hend
      have hnum2 : (z.num != 0) = false := by rw [hnum]; rfl
      clear hnum heq hdr hcf hrun2 hend hz hbG HREST
      have q0 : ∃ aR cR, w10.cell? ⟨q, 0, none⟩ = some (.slice aR rn cR) := by
        obtain ⟨vR, vB, vG, us, gs, g, tb⟩ := TB1.out
        obtain ⟨aR, cR, hvR⟩ := tb.hR.form
        rw [tb.rows.hu, TLN1.out.rows] at hvR
        exact ⟨aR, cR, by rw [← hvR]; exact tb.hq.cell (i := 0) rfl⟩
      obtain ⟨aR, cR, q0⟩ := q0
      go_upto_block 6 with fail
      clear q0 x2 z0 z1 hnum2
      go_cut [171] (fun _ wx => (Tbl wx B q T2 ∧ TabLen T2 rn L) ∧ Below B w10 wx)
      case first =>
        as_aux_lemma =>
          go_wp2
          go_loopw [171] (fun s wr => ∃ j : Nat, j ≤ rn ∧ s = .int .i64 j ∧ (∃ T, DriveT N rn j T T2 ∧ TabLen T rn L ∧ Tbl wr B q T) ∧ Below B w10 wr) (fun s _ => rn - (intOf s).toNat)
          case atStart => exact ⟨0, Nat.zero_le _, rfl, ⟨T1, HDR.out, TLN1.out, TB1.out⟩, Below.refl _ _⟩
          case round =>
            clear TB1 TLN1 HDR
            obtain ⟨j, hj, rfl, ⟨T, hd, htl, htb⟩, hbl⟩ := hrel
            obtain ⟨wi, rfl⟩ : ∃ wi : World, wi = wr := ⟨_, rfl⟩
            have HD := Lib.hid hd; have TL := Lib.hid htl; have TB := Lib.hid htb; have BI := Lib.hid hbl
            clear hd htl htb hbl
            by_cases hlt : j < rn
            · have hjn : (j : Int) < (rn : Int) := by omega
              have hj0 : 0 ≤ (j : Int) := by omega
              have q1 : ∃ bB cB, wi.cell? ⟨q, 1, none⟩ = some (.slice (some ⟨bB, 0, none⟩) rn cB) ∧ wi.cell? ⟨bB, j, none⟩ = some (.int .i64 (T.basis.getD j 0 : Nat)) := by
                obtain ⟨vR, vB, vG, us, gs, g, tb⟩ := TB.out
                obtain ⟨bB, cB, hvB, _, hc⟩ := tb.basisAt (by rw [TL.out.basis]; omega)
                rw [TL.out.basis] at hvB
                exact ⟨bB, cB, by rw [← hvB]; exact tb.hq.cell (i := 1) rfl, hc j (by rw [TL.out.basis]; exact hlt)⟩
              obtain ⟨bB, cB, q1, qb⟩ := q1
              obtain ⟨bj, hbj⟩ : ∃ z, z = T.basis.getD j 0 := ⟨_, rfl⟩
              rw [← hbj] at qb
              rcases HD.out.inv with ⟨e, _⟩ | ⟨_, hb, hd⟩ | ⟨c, _, hb, hcN, hzr, hpf, hd⟩
              · omega
              · rw [← hbj] at hb
                have HD2 := Lib.hid hd
                have hbN : (bj : Int) < (N : Int) := by omega
                clear hb hd hbj
                go_wp2
                go_roundw
                case rel => exact ⟨j + 1, by omega, by go_num, ⟨T, HD2.out, TL.out, TB.out⟩, BI.out⟩
                case measure => simp [intOf]; omega
              · rw [← hbj] at hb
                have HD2 := Lib.hid hd; have HZR := Lib.hid hzr; have HPF := Lib.hid hpf; have HCN := Lib.hid hcN
                have hbN : ¬ (bj : Int) < (N : Int) := by omega
                clear hb hd hbj hzr hpf hcN
                go_wp2
                clear q1 qb
                have TRW := Lib.hid (show ∃ bR cR gi ci si, wi.cell? ⟨q, 0, none⟩ = some (.slice (some ⟨bR, 0, none⟩) rn cR) ∧ wi.cell? ⟨bR, j, none⟩ = some (.slice (some ⟨gi, 0, none⟩) L ci) ∧ FBlk wi gi (T.row j) si from by
                  obtain ⟨vR, vB, vG, us, gs, g, tb⟩ := TB.out
                  obtain ⟨bR, cR, sR, gi, ci, si, hvR, -, -, -, -, -, -, hbi, -, -, cu, x0⟩ := tb.at (i := j) (by rw [TL.out.rows]; exact hlt)
                  rw [TL.out.rows] at x0
                  rw [TL.out.len j hlt] at cu
                  exact ⟨_, _, _, _, _, x0, cu, hbi⟩)
                go_loopw [15] (fun s wr => ∃ c' : Nat, c' ≤ c ∧ s = .int .i64 c' ∧ wi = wr) (fun s _ => c - (intOf s).toNat)
                case atStart => exact ⟨0, Nat.zero_le _, rfl, rfl⟩
                case round =>
                  obtain ⟨c', hc', rfl, rfl⟩ := hrel
                  obtain ⟨bR, cR, gi, ci, si, x0, cu, hbi⟩ := TRW.out
                  obtain ⟨u, hu⟩ : ∃ u, (T.row j)[c']? = some u := ⟨_, List.getElem?_eq_getElem (by rw [TL.out.len j hlt]; have := HCN.out; omega)⟩
                  obtain ⟨u0, u1⟩ := FBlk.get hbi hu
                  have hcN : (c' : Int) < (N : Int) := by have := HCN.out; omega
                  have hcL : (c' : Int) < (L : Int) := by omega
                  have hc0 : 0 ≤ (c' : Int) := by omega
                  by_cases hcc : c' < c
                  · have hu0 : u = 0 := by have := HZR.out c' hcc; rwa [gR_of hu] at this
                    have hn2 : (u.num != 0) = false := by rw [hu0]; rfl
                    clear hu0 hu hbi
                    go_wp2
                    go_roundw
                    case rel => exact ⟨c' + 1, by omega, by go_num, by first | rfl | trivial⟩
                    case measure => simp [intOf]; omega
                  · obtain rfl : c' = c := by omega
                    have hu0 : u ≠ 0 := by have := HPF.out.ne; rwa [gR_of hu] at this
                    have hn2 : (u.num != 0) = true := by simpa using fun e => hu0 (Rat.num_eq_zero.1 e)
                    have PIV := Lib.hid (tpivot_any wi B q T rn L TB.out TL.out (by omega) (by omega) j c' hlt (by omega) HPF.out (Nat.le_trans HB10.out BI.out.size))
                    clear hu0 hu hbi
                    go_wp2_with fail
                    refine PIV.out.mono ?_
                    rintro e w11 ⟨rfl, htb, hbl⟩
                    have FIN := Lib.hid (show (∃ T, DriveT N rn (j + 1) T T2 ∧ TabLen T rn L ∧ Tbl w11 B q T) ∧ Below B w10 w11 from ⟨⟨_, HD2.out, TL.out.piv j c' hlt, htb⟩, BI.out.trans hbl⟩)
                    clear htb hbl x0 cu u0 u1 hn2
                    go_wp2
                    go_roundw
                    case rel => exact ⟨j + 1, by omega, by go_num, FIN.out.1, FIN.out.2⟩
                    case measure => simp [intOf]; omega
            · obtain rfl : rn = j := by omega
              obtain rfl : T = T2 := by
                rcases HD.out.inv with ⟨_, e⟩ | ⟨h, _⟩ | ⟨_, h, _⟩
                · exact e
                · omega
                · omega
              have FIN := Lib.hid (show (Tbl wi B q T ∧ TabLen T rn L) ∧ Below B w10 wi from ⟨⟨TB.out, TL.out⟩, BI.out⟩)
              go_wp2
              go_meet
              exact FIN.out
      case rest =>
        obtain ⟨⟨htb1, htl1⟩, hbl1⟩ := hcut
        obtain ⟨wi, hwi⟩ : ∃ wi : World, wi = wc := ⟨_, rfl⟩
        rw [← hwi] at htb1 hbl1 ⊢
        clear hwi
        obtain ⟨T, rfl⟩ : ∃ T, T = T2 := ⟨_, rfl⟩
        have TB := Lib.hid htb1; have TL := Lib.hid htl1; have BI := Lib.hid hbl1
        clear htb1 htl1 hbl1 TB1 TLN1 HDR
        have BL2 := Lib.hid (BL1.out.trans BI.out)
        have HBI := Lib.hid (show B ≤ wi.heap.size from Nat.le_trans HB10.out BI.out.size)
        have BW2 := Lib.hid (show Below w.heap.size w wi from BW1.out.trans (BI.out.mono (by have := LB.out; omega)))
        have MI := Lib.hid (M10.out.below BI.out (by have := LB.out; omega))
        have TOI := Lib.hid (TO10.out.below BI.out (by have := LB.out; omega))
        clear BI M10 TO10 BW1 HB10 BL1
        go_wp2_with fail
        refine (rzeros_any L hL20.1 (by omega) _).mono ?_
        rintro e w11 ⟨v, rfl, hnew⟩
        have HNW := Lib.hid (hnew.at (B := B) HBI.out)
        obtain ⟨g2, cG2, sG2, rfl, -, -, -, hg2, hb⟩ := hnew
        rw [List.length_replicate] at HNW ⊢
        obtain ⟨vR, vB, vG, us, gs, g', tb⟩ := TB.out
        have TB11 := Lib.hid (tb.below hb)
        have FR11 := Lib.hid (tb.fresh hg2)
        have M11 := Lib.hid (MI.out.below hb MI.out.lt)
        have TO11 := Lib.hid (TOI.out.below hb TOI.out.lt)
        have BL11 := Lib.hid (show Below B wi w11 from hb.mono HBI.out)
        have qf := TB11.out.hq.free
        have q2 := TB11.out.hq.cell (i := 2) rfl
        have m2 := M11.out.cell (i := 2) rfl
        have NEW := Lib.hid (show ∃ g3, TbAt (w11.setCell ⟨q, 2, none⟩ (.slice (some ⟨g2, 0, none⟩) L cG2)) B q ⟨T.rows, T.basis, ogoal L goal 0⟩ vR vB (.slice (some ⟨g2, 0, none⟩) L cG2) us gs g3 from by
          obtain ⟨kn, hkn, hkl⟩ := HNW.out
          exact ⟨kn, TB11.out.putGoal hkn (tb.fresh hkl).1⟩)
        have M12 := Lib.hid (show Blk (w11.setCell ⟨q, 2, none⟩ (.slice (some ⟨g2, 0, none⟩) L cG2)) w.heap.size 28 (MdC n (.slice ra rn rc) ga gn gc c0) from M11.out.other (by have := LB.out; dsimp only; omega) _)
        have TO12 := Lib.hid (show Blk (w11.setCell ⟨q, 2, none⟩ (.slice (some ⟨g2, 0, none⟩) L cG2)) (w.heap.size + 1) 31 [.int .i64 0, .int .i64 0] from TO11.out.other (by have := LB.out; dsimp only; omega) _)
        have BL12 := Lib.hid (show Below B wi (w11.setCell ⟨q, 2, none⟩ (.slice (some ⟨g2, 0, none⟩) L cG2)) from BL11.out.setCell tb.qB _)
        obtain ⟨g3, new⟩ := NEW.out
        obtain ⟨w12, hw12⟩ : ∃ w12, w12 = w11.setCell ⟨q, 2, none⟩ (.slice (some ⟨g2, 0, none⟩) L cG2) := ⟨_, rfl⟩
        rw [← hw12] at new M12 TO12 BL12
        have TB12 := Lib.hid new
        have HW12 := Lib.hid hw12
        have QB := Lib.hid tb.qB
        clear hw12 new NEW tb hb hg2 HNW TB11 M11 TO11 BL11 FR11 MI TOI
        go_upto_region 45 with fail
        rw [← HW12.out]
        clear q2 qf m2
        have m2 := M12.out.cell (i := 2) rfl
        have hgn6 : gn ≤ 17592186044416 := HG.out.hsz
        have GOK := Lib.hid HS.out.2.2.2.1
        go_upto_block 10 with fail
        clear m2
        go_cut [209] (fun _ wx => Tbl wx B q ⟨T.rows, T.basis, ogoal L goal gn⟩ ∧ Below B w12 wx)
        case first =>
          as_aux_lemma =>
            go_wp2
            go_loopw [209] (fun s wr => ∃ j : Nat, j ≤ gn ∧ s = .int .i64 j ∧ TbAt wr B q ⟨T.rows, T.basis, ogoal L goal j⟩ vR vB (.slice (some ⟨g2, 0, none⟩) L cG2) us gs g3 ∧ Below B w12 wr) (fun s _ => gn - (intOf s).toNat)
            case atStart => exact ⟨0, Nat.zero_le _, rfl, TB12.out, Below.refl _ _⟩
            case round =>
              clear TB12
              obtain ⟨j, hj, rfl, htb, hbl⟩ := hrel
              obtain ⟨wj, rfl⟩ : ∃ wj : World, wj = wr := ⟨_, rfl⟩
              have TBJ := Lib.hid htb; have BJ := Lib.hid hbl
              have BWJ := Lib.hid (show Below w.heap.size w wj from BW2.out.trans ((BL12.out.trans hbl).mono (by have := LB.out; omega)))
              have HBJ := Lib.hid (show B ≤ wj.heap.size from Nat.le_trans HBI.out (BL12.out.trans hbl).size)
              clear htb hbl
              by_cases hlt : j < gn
              · obtain ⟨bt, ot, ⟨of_, co⟩, rfl, ht, t0, t1, -, lbt⟩ := RTm.get (HG.out.keeps RTm.stays (fun y _ hl => BWJ.out.block y hl) BWJ.out.size) hlt
                dsimp only at t0 t1
                obtain ⟨ho0, ho1, -, -, hc0, hc1⟩ := GOK.out j _ (List.getElem?_eq_some_iff.1 ht).1 ht
                dsimp only at ho0 ho1 hc0 hc1
                obtain ⟨c, rfl⟩ : ∃ c : Nat, of_ = (c : Int) := ⟨of_.toNat, by omega⟩
                obtain ⟨p, hp⟩ : ∃ p, p = -co := ⟨_, rfl⟩
                have wm : IntKind.i64.wrap (-co) = p := by rw [← hp]; exact Go.IntWalk.i64_in _ ⟨by omega, by omega⟩
                obtain ⟨z, hz⟩ : ∃ z : Rat, z = ((p : Int) : Rat) := ⟨_, rfl⟩
                have WH := Lib.hid (show ∀ w, Calls Try.prog 39 #[.int .i64 p] w (FrRet z w) from fun w => by rw [hz]; exact rwhole_any p w)
                have HSU := Lib.hid (show ogoal L goal (j + 1) = (ogoal L goal j).set c z by rw [ogoal_succ ht, hz, hp, Int.toNat_natCast])
                have hcL : (c : Int) < (L : Int) := by have := HL.out; have := HV.out; have := HN.out; omega
                have hcL2 : c < L := by omega
                have hc00 : 0 ≤ (c : Int) := by omega
                have hjn : (j : Int) < (gn : Int) := by omega
                clear ht hp hz ho0 ho1 hc0 hc1
                go_upto_region 48 with fail
                obtain ⟨w13, hw13⟩ : ∃ w13, w13 = wj.alloc (.cells #[.int .i64 c, .int .i64 co] 56) := ⟨_, rfl⟩
                have A13 := Lib.hid (show Below wj.heap.size wj w13 by rw [hw13]; exact (Below.refl _ _).alloc (Nat.le_refl _) _)
                have Y13 := Lib.hid (show Blk w13 wj.heap.size 56 [.int .i64 c, .int .i64 co] by rw [hw13]; exact Blk.new wj _ _)
                rw [← hw13]
                obtain ⟨Y, hY⟩ : ∃ Y, Y = wj.heap.size := ⟨_, rfl⟩
                rw [← hY] at Y13 ⊢
                have TB13 := Lib.hid (TBJ.out.below A13.out)
                have B13 := Lib.hid (show Below B w12 w13 from BJ.out.trans (A13.out.mono HBJ.out))
                have HB13 := Lib.hid (show B ≤ w13.heap.size from Nat.le_trans HBJ.out A13.out.size)
                have y0 := Y13.out.cell (i := 0) rfl; have y1 := Y13.out.cell (i := 1) rfl
                have q2 := TB13.out.hq.cell (i := 2) rfl
                clear hw13 hY t0 t1
                refine hr_start 9 (fun w' => w'.cell? ⟨q, 2, none⟩ = some (.slice (some ⟨g2, 0, none⟩) L cG2) ∧ w'.cell? ⟨Y, 0, none⟩ = some (.int .i64 c) ∧ w'.cell? ⟨Y, 1, none⟩ = some (.int .i64 co)) (by kernel_rfl) (by kernel_rfl) (by refine ⟨q2, y0, y1⟩) (fun ok => ?_)
                refine hr_t 0 ok rfl ?_
                go_frame
                refine hr_t 1 ok rfl ?_
                go_frame
                refine hr_t 2 ok rfl ?_
                go_frame
                refine hr_t 3 ok rfl ?_
                go_frame
                refine hr_t 4 ok rfl ?_
                go_frame
                refine hr_t 5 ok rfl ?_
                go_frame
                refine hr_t 6 ok rfl ?_
                go_frame
                refine hr_only (c := 7) rfl (by kernel_rfl) (fun K hK => ?_)
                go_simp
                refine (WH.out _).mono ?_
                rintro e w14 ⟨rfl, hb⟩
                have TB14 := Lib.hid (TB13.out.drew.below hb)
                have B14 := Lib.hid (show Below B w12 w14 from B13.out.drew.trans (hb.mono HB13.out))
                (try simp only [])
                refine hK _ _ (fun _ => by refine ⟨?_, ?_, ?_⟩ <;> (first | exact cell_later hb q2 | exact cell_later hb y0 | exact cell_later hb y1)) ?_
                clear hK K
                (try go_frame)
                refine hr_t 8 ok rfl ?_
                go_frame
                clear q2 y0 y1 hb
                obtain ⟨cG', sG', e1, hbG, e3, e4, e5⟩ := TB14.out.goal
                dsimp only at e1 hbG
                have hgg : g3 = g2 := by injection e1 with a1; injection a1 with a1; injection a1 with a1; exact a1.symm
                subst hgg
                obtain ⟨c0', c1'⟩ := FBlk.get hbG (List.getElem?_eq_getElem (show c < (ogoal L goal j).length by rw [ogoal_length]; exact hcL2))
                have cf := hbG.free
                clear e1 e3 e4 e5
                refine hr_only (c := 9) rfl (by kernel_rfl) (fun K hK => ?_)
                go_simp
                (try simp only [])
                refine hK _ _ (pend_no (by kernel_rfl)) ?_
                clear hK K
                (try go_frame)
                refine hr_end (by kernel_rfl) ?_
                have C1 := Lib.hid (show Chg (fun y => y = g3) w14 ((w14.setCell ⟨g3, c * 2, none⟩ (.int .i64 z.num)).setCell ⟨g3, c * 2 + 1, none⟩ (.int .i64 (z.den : Int))) from chg_put (M := fun y => y = g3) (b := g3) (Chg.refl w14) (fun _ => rfl) c _ _)
                have F1 := Lib.hid (show TbAt ((w14.setCell ⟨g3, c * 2, none⟩ (.int .i64 z.num)).setCell ⟨g3, c * 2 + 1, none⟩ (.int .i64 (z.den : Int))) B q ⟨T.rows, T.basis, ogoal L goal (j + 1)⟩ vR vB (.slice (some ⟨g3, 0, none⟩) L cG2) us gs g3 from TB14.out.inGoal C1.out (by
                  rw [HSU.out]
                  exact RowAt.put TB14.out.goal (by show c < (ogoal L goal j).length; rw [ogoal_length]; exact hcL2) z))
                have F3 := Lib.hid (show Below B w12 ((w14.setCell ⟨g3, c * 2, none⟩ (.int .i64 z.num)).setCell ⟨g3, c * 2 + 1, none⟩ (.int .i64 (z.den : Int))) from (B14.out.setCell (by obtain ⟨_, _, h⟩ := TB14.out.goal.blk; exact h) _).setCell (by obtain ⟨_, _, h⟩ := TB14.out.goal.blk; exact h) _)
                clear c0' c1' cf hbG
                go_wp2
                go_roundw
                case rel => exact ⟨j + 1, by omega, by go_num, F1.out, F3.out⟩
                case measure => simp [intOf]; omega
              · obtain rfl : gn = j := by omega
                have FIN := Lib.hid (show Tbl wj B q ⟨T.rows, T.basis, ogoal L goal gn⟩ ∧ Below B w12 wj from ⟨⟨_, _, _, _, _, _, TBJ.out⟩, BJ.out⟩)
                go_wp2
                go_meet
                exact FIN.out
        case rest =>
          obtain ⟨htb2, hbl2⟩ := hcut
          obtain ⟨wj, hwj⟩ : ∃ wj : World, wj = wc := ⟨_, rfl⟩
          rw [← hwj] at htb2 hbl2 ⊢
          clear hwj
          have BJ := Lib.hid hbl2
          have BWJ := Lib.hid (show Below w.heap.size w wj from BW2.out.trans ((BL12.out.trans hbl2).mono (by have := LB.out; omega)))
          have HBJ := Lib.hid (show B ≤ wj.heap.size from Nat.le_trans HBI.out (BL12.out.trans hbl2).size)
          obtain ⟨vR, vB, vG2, us, gs, g3, tbj⟩ := htb2
          have TBJ := Lib.hid tbj
          clear hbl2 TB12
          have GL := Lib.hid (show goal.length = gn from HGL.out)
          have TL2 := Lib.hid (show ∀ j, TabLen ⟨T.rows, T.basis, clrs T (ogoal L goal gn) j⟩ rn L from fun j => ⟨TL.out.rows, TL.out.basis, fun r hr => TL.out.len r hr, by show (clrs T (ogoal L goal gn) j).length = L; rw [clrs_length, ogoal_length]⟩)
          have CF := Lib.hid (show ClrFit T (ogoal L goal gn) rn L by have h := HCF.out; rw [GL.out] at h; exact h)
          have RN2 := Lib.hid (show RunT N V k2 ⟨T.rows, T.basis, clrs T (ogoal L goal gn) rn⟩ b2 T3 by have h := HRUN2.out; rw [GL.out] at h; exact h)
          have MJ := Lib.hid (M12.out.below BJ.out (by have := LB.out; omega))
          have TOJ := Lib.hid (TO12.out.below BJ.out (by have := LB.out; omega))
          obtain ⟨aB, cB, hvB⟩ := TBJ.out.hB.form
          have HVB := Lib.hid hvB
          dsimp only at hvB
          rw [bvs_length, TL.out.basis] at hvB
          subst hvB
          have TBK := Lib.hid (show TbAt wj B q ⟨T.rows, T.basis, clrs T (ogoal L goal gn) 0⟩ vR (.slice aB rn cB) vG2 us gs g3 from TBJ.out)
          have q1 := TBK.out.hq.cell (i := 1) rfl
          clear HCF HRUN2 M12 TO12 TBJ BJ HVB BW2 BL12 HBI TB tbj
          go_upto_block 12 with fail
          clear q1
          go_cut [226] (fun _ wx => Tbl wx B q ⟨T.rows, T.basis, clrs T (ogoal L goal gn) rn⟩ ∧ Below B wj wx)
          case first =>
            as_aux_lemma =>
              go_wp2
              go_loopw [226] (fun s wr => ∃ j : Nat, j ≤ rn ∧ s = .int .i64 j ∧ (∃ vG g, TbAt wr B q ⟨T.rows, T.basis, clrs T (ogoal L goal gn) j⟩ vR (.slice aB rn cB) vG us gs g) ∧ Below B wj wr) (fun s _ => rn - (intOf s).toNat)
              case atStart => exact ⟨0, Nat.zero_le _, rfl, ⟨_, _, TBK.out⟩, Below.refl _ _⟩
              case round =>
                clear TBK
                obtain ⟨j, hj, rfl, ⟨vG, g, htb⟩, hbl⟩ := hrel
                obtain ⟨wk, rfl⟩ : ∃ wk : World, wk = wr := ⟨_, rfl⟩
                have TBL := Lib.hid htb; have BK := Lib.hid hbl
                have HBK := Lib.hid (show B ≤ wk.heap.size from Nat.le_trans HBJ.out hbl.size)
                clear htb hbl
                obtain ⟨cG, sG, hvG, hbG, -, -, -⟩ := TBL.out.goal
                dsimp only at hvG hbG
                rw [clrs_length, ogoal_length] at hvG
                subst hvG
                have x2 := TBL.out.hq.cell (i := 2) rfl
                by_cases hlt : j < rn
                · have hjn : (j : Int) < (rn : Int) := by omega
                  have hj0 : 0 ≤ (j : Int) := by omega
                  obtain ⟨bB, cB', hvB, -, hcell⟩ := TBL.out.basisAt (by show 0 < T.basis.length; rw [TL.out.basis]; omega)
                  dsimp only at hvB hcell
                  rw [TL.out.basis] at hvB
                  injection hvB with a1 a2 a3
                  subst a1; subst a3
                  clear a2
                  have qb := hcell j (by rw [TL.out.basis]; exact hlt)
                  obtain ⟨bR, cR, sR, gi, ci, si, hvR, -, -, -, -, -, -, hbi, -, -, cu, x0⟩ := TBL.out.at (i := j) (by show j < T.rows.length; rw [TL.out.rows]; exact hlt)
                  dsimp only at x0
                  rw [TL.out.rows] at x0
                  have hrj : (Tab.mk T.rows T.basis (clrs T (ogoal L goal gn) j)).row j = T.row j := rfl
                  rw [hrj] at cu hbi
                  rw [TL.out.len j hlt] at cu
                  obtain ⟨bj, hbj⟩ : ∃ z, z = T.basis.getD j 0 := ⟨_, rfl⟩
                  have hbL : bj < L := by rw [hbj]; exact CF.out.bas j hlt
                  have CLG := Lib.hid (clear_any wk.drew g gi cG ci L (clrs T (ogoal L goal gn) j) (T.row j) sG si hbG.drew hbi.drew (by rw [clrs_length, ogoal_length]) (TL.out.len j hlt) (by omega) bj hbL (CF.out.goal j (by omega)) (CF.out.row j hlt) (fun c hc => by rw [hbj]; exact CF.out.mul j hlt c hc) (by have := CF.out.goal (j + 1) (by omega); unfold clrs at this; rw [hbj]; exact this))
                  have HNX := Lib.hid (show clrs T (ogoal L goal gn) (j + 1) = clr (clrs T (ogoal L goal gn) j) (T.row j) bj by rw [hbj]; rfl)
                  rw [← hbj] at qb
                  clear hcell hvR hbi hbG hrj hbj
                  go_upto_region 53 with fail
                  refine hr_start 10 (fun w' => w'.cell? ⟨q, 2, none⟩ = some (.slice (some ⟨g, 0, none⟩) L cG) ∧ w'.cell? ⟨q, 0, none⟩ = some (.slice (some ⟨bR, 0, none⟩) rn cR) ∧ w'.cell? ⟨bR, j, none⟩ = some (.slice (some ⟨gi, 0, none⟩) L ci)) (by kernel_rfl) (by kernel_rfl) (by refine ⟨x2, x0, cu⟩) (fun ok => ?_)
                  refine hr_t 0 ok rfl ?_
                  go_frame
                  refine hr_t 1 ok rfl ?_
                  go_frame
                  refine hr_t 2 ok rfl ?_
                  go_frame
                  refine hr_t 3 ok rfl ?_
                  go_frame
                  refine hr_t 4 ok rfl ?_
                  go_frame
                  refine hr_t 5 ok rfl ?_
                  go_frame
                  refine hr_t 6 ok rfl ?_
                  go_frame
                  refine hr_t 7 ok rfl ?_
                  go_frame
                  refine hr_only (c := 8) rfl (by kernel_rfl) (fun K hK => ?_)
                  go_simp
                  refine CLG.out.mono ?_
                  rintro e w' ⟨v, rfl, hnew⟩
                  have HNW := Lib.hid (hnew.at (B := B) (show B ≤ wk.drew.heap.size from HBK.out))
                  obtain ⟨gn', capn, spn, rfl, -, -, -, hgn, hbel⟩ := hnew
                  have HBEL := Lib.hid (show Below wk.drew.heap.size wk.drew w' from hbel)
                  clear hbel hgn
                  (try simp only [])
                  refine hK _ _ (fun _ => by refine ⟨?_, ?_, ?_⟩ <;> (first | exact cell_later HBEL.out x2 | exact cell_later HBEL.out x0 | exact cell_later HBEL.out cu)) ?_
                  clear hK K
                  (try go_frame)
                  refine hr_t 9 ok rfl ?_
                  go_frame
                  clear x0 x2 cu qb
                  have TB' := Lib.hid (TBL.out.drew.below HBEL.out)
                  have qf := TB'.out.hq.free
                  have x2 := TB'.out.hq.cell (i := 2) rfl
                  refine hr_only (c := 10) rfl (by kernel_rfl) (fun K hK => ?_)
                  go_simp
                  (try simp only [])
                  refine hK _ _ (pend_no (by kernel_rfl)) ?_
                  clear hK K
                  (try go_frame)
                  refine hr_end (by kernel_rfl) ?_
                  have F1 := Lib.hid (show ∃ vG kn, TbAt (w'.setCell ⟨q, 2, none⟩ (.slice (some ⟨gn', 0, none⟩) (clr (clrs T (ogoal L goal gn) j) (T.row j) bj).length capn)) B q ⟨T.rows, T.basis, clrs T (ogoal L goal gn) (j + 1)⟩ vR (.slice (some ⟨bB, 0, none⟩) rn cB) vG us gs kn by
                    obtain ⟨kn, hkn, hkl⟩ := HNW.out
                    have fr := TBL.out.fresh (k := kn) hkl
                    rw [HNX.out]
                    exact ⟨_, kn, TB'.out.putGoal hkn fr.1⟩)
                  have F3 := Lib.hid (show Below B wj (w'.setCell ⟨q, 2, none⟩ (.slice (some ⟨gn', 0, none⟩) (clr (clrs T (ogoal L goal gn) j) (T.row j) bj).length capn)) from (BK.out.trans ((Below.refl B wk).drew.trans (HBEL.out.mono HBK.out))).setCell TBL.out.qB _)
                  clear qf x2
                  go_wp2
                  go_roundw
                  case rel => exact ⟨j + 1, by omega, by go_num, F1.out, F3.out⟩
                  case measure => simp [intOf]; omega
                · obtain rfl : rn = j := by omega
                  have FIN := Lib.hid (show Tbl wk B q ⟨T.rows, T.basis, clrs T (ogoal L goal gn) rn⟩ ∧ Below B wj wk from ⟨⟨_, _, _, _, _, _, TBL.out⟩, BK.out⟩)
                  clear x2 hbG
                  go_wp2
                  go_meet
                  exact FIN.out
          case rest =>
            obtain ⟨htb3, hbl3⟩ := hcut
            obtain ⟨wk, hwk⟩ : ∃ wk : World, wk = wc := ⟨_, rfl⟩
            rw [← hwk] at htb3 hbl3 ⊢
            clear hwk
            have TBL := Lib.hid htb3; have BK := Lib.hid hbl3
            have HBK := Lib.hid (show B ≤ wk.heap.size from Nat.le_trans HBJ.out hbl3.size)
            clear htb3 hbl3 TBK
            have MK := Lib.hid (MJ.out.below BK.out (by have := LB.out; omega))
            have TOK := Lib.hid (TOJ.out.below BK.out (by have := LB.out; omega))
            have BWK := Lib.hid (show Below w.heap.size w wk from BWJ.out.trans (BK.out.mono (by have := LB.out; omega)))
            have RUN := Lib.hid (trun_any wk B q ⟨T.rows, T.basis, clrs T (ogoal L goal gn) rn⟩ T3 rn V N k2 b2 TBL.out (by have h := TL2.out rn; rw [HL.out] at h; rw [HL.out]; exact h) (by omega) hV1 hN1 RN2.out HBK.out)
            have TL3 := Lib.hid (show TabLen T3 rn L from RN2.out.len (TL2.out rn))
            clear TBL MJ TOJ BWJ BK
            go_wp2_with fail
            refine RUN.out.mono ?_
            rintro e w20 ⟨rfl, htb, hbl⟩
            have TBZ := Lib.hid htb
            have BWZ := Lib.hid (show Below w.heap.size w w20 from BWK.out.trans (hbl.mono (by have := LB.out; omega)))
            have MZ := Lib.hid (MK.out.below hbl (by have := LB.out; omega))
            have TOZ := Lib.hid (TOK.out.below hbl (by have := LB.out; omega))
            have BPX := Lib.hid (show BestP n rows goal c0 code x y from HBPK.out)
            clear htb hbl RUN MK TOK BWK HBPK
            rcases HEND.out with ⟨hb2, hcode, hx0, hy0⟩ | ⟨hb2, hcode, hf1, hf2, hx0, hy0⟩
            · subst hb2
              have CODE := Lib.hid (show code = 35 ∧ x = 0 ∧ y = 0 from ⟨hcode, hx0, hy0⟩)
              have BF := Lib.hid (show Below w.heap.size w ((w20.setCell ⟨w.heap.size + 1, 0, none⟩ (.int .i64 0)).setCell ⟨w.heap.size + 1, 1, none⟩ (.int .i64 0)) from (BWZ.out.setCell (Nat.le_succ _) _).setCell (Nat.le_succ _) _)
              have TF := Lib.hid ((TOZ.out.set 0 (.int .i64 0)).set 1 (.int .i64 0))
              have t0 := TOZ.out.cell (i := 0) rfl; have t1 := TOZ.out.cell (i := 1) rfl; have tf := TOZ.out.free
              clear hcode hx0 hy0 HEND
              go_upto_region 56 with fail
              repeat go_step
              have r0 := TF.out.cell (i := 0) rfl; have r1 := TF.out.cell (i := 1) rfl
              refine bodyPost_ret (v := .tuple #[.agg #[.int .i64 0, .int .i64 0], .int .i64 35]) (by simp [results, Try.results12, go_sem, r0, r1]) rfl ⟨by rw [CODE.out.1, CODE.out.2.1, CODE.out.2.2], BF.out⟩
            · subst hb2
              obtain ⟨vR3, vB3, vG3, us3, gs3, g4, tb3⟩ := TBZ.out
              obtain ⟨cG4, sG4, hvG4, hbG4, -, -, -⟩ := tb3.goal
              rw [TL3.out.goal] at hvG4
              subst hvG4
              obtain ⟨z, hz⟩ : ∃ z, T3.goal[V]? = some z := ⟨_, List.getElem?_eq_getElem (by rw [TL3.out.goal]; exact hVL2)⟩
              rw [gR_of hz] at hf1 hf2 hx0 hy0
              obtain ⟨z0, z1⟩ := FBlk.get hbG4 hz
              have x2 := tb3.hq.cell (i := 2) rfl
              have m3 := MZ.out.cell (i := 3) rfl
              obtain ⟨vF, hv⟩ : ∃ vF, vF = z + (c0 : Rat) := ⟨_, rfl⟩
              rw [← hv] at hf2 hx0 hy0
              have hcb := HS.out.2.2.2.2
              have ADD := Lib.hid (radd z (c0 : Rat) hf1 ((Sm.int (C := 50) (by omega) (by omega)).fit (by decide)) (by rw [← hv]; exact hf2))
              rw [← hv] at ADD
              have CODE := Lib.hid (show code = 0 ∧ x = vF.num ∧ y = (vF.den : Int) from ⟨hcode, hx0, hy0⟩)
              clear hcode hx0 hy0 HEND hf1 hf2 hv hz hbG4 tb3 hcb
              go_upto_region 57 with fail
              have lb0 := World.block_lt_of_cell? _ _ x2
              have lb1 := World.block_lt_of_cell? _ _ z0
              have lb2 := World.block_lt_of_cell? _ _ z1
              have lb3 := World.block_lt_of_cell? _ _ m3
              dsimp only at lb0 lb1 lb2 lb3
              go_cut [20] (fun s wx => ∃ B10 : Nat, s = .pointer (some ⟨B10, 0, none⟩) ∧ w20.heap.size ≤ B10 ∧ Blk wx B10 31 (FrC (vF)) ∧ Below w20.heap.size w20 wx)
              case first =>
                as_aux_lemma =>
                  refine hd_start_e 17 (fun w' => w'.cell? ⟨q, 2, none⟩ = some (.slice (some ⟨g4, 0, none⟩) L cG4) ∧ w'.cell? ⟨g4, V * 2, none⟩ = some (.int .i64 z.num) ∧ w'.cell? ⟨g4, V * 2 + 1, none⟩ = some (.int .i64 (z.den : Int)) ∧ w'.cell? ⟨w.heap.size, 3, none⟩ = some (.int .i64 c0)) (by kernel_rfl) ⟨by kernel_rfl, by rfl⟩ (by refine ⟨x2, z0, z1, m3⟩) (fun ok => ?_)
                  refine he_t 0 ok rfl ?_
                  go_frame
                  refine he_t 1 ok rfl ?_
                  go_frame
                  refine he_t 2 ok rfl ?_
                  go_frame
                  refine he_t 3 ok rfl ?_
                  go_frame
                  refine he_t 4 ok rfl ?_
                  go_frame
                  refine he_t 5 ok rfl ?_
                  go_frame
                  refine he_t 6 ok rfl ?_
                  go_frame
                  refine he_t 7 ok rfl ?_
                  go_frame
                  refine he_t 8 ok rfl ?_
                  go_frame
                  refine hd_inv_s [(256, 9), (257, 10), (246, 11), (258, 12), (259, 13), (21, 16), (20, 14)] [15] (fun _ => undef) (fun b v w' => Below w20.heap.size w20 w' ∧ (b 9 = true → v 9 = FrV (c0 : Rat)) ∧ (b 10 = true → v 10 = .tuple #[FrV vF, .int .i64 0]) ∧ (b 11 = true → v 11 = .tuple #[FrV vF, .int .i64 0]) ∧ (b 12 = true → v 12 = FrV vF) ∧ (b 13 = true → v 13 = .int .i64 0) ∧ (b 16 = true → v 16 = .int .i64 0) ∧ ∃ q7, (b 14 = true → v 14 = .pointer (some ⟨q7, 0, none⟩) ∧ w20.heap.size ≤ q7) ∧ (b 14 = true → b 15 = false → Blk w' q7 31 [.int .i64 0, .int .i64 0]) ∧ (b 15 = true → b 14 = true ∧ Blk w' q7 31 (FrC (vF)))) (.inr ok) ⟨by decide, by decide, by kernel_rfl, rfl⟩ (by kernel_rfl) (by kernel_rfl) (by kernel_rfl) (by decide) ⟨(Below.refl _ _).drew, (fun h => by cases h), (fun h => by cases h), (fun h => by cases h), (fun h => by cases h), (fun h => by cases h), (fun h => by cases h), 0, (fun h => by cases h), (fun h => by cases h), (fun h => by cases h)⟩ ?_ ?_
                  · intro iA oj hi ho bb vA aA w' hJ hv hr hb hdep hS K hK
                    obtain ⟨hB, j9, j10, j11, j12, j13, j16, q7, jal, jz, jst⟩ := hJ
                    have hBs := hB.size
                    have hi4 : iA = 9 ∨ iA = 10 ∨ iA = 11 ∨ iA = 12 ∨ iA = 13 ∨ iA = 16 ∨ iA = 14 ∨ iA = 15 := by simpa using hi
                    try dsimp only at hS
                    obtain ⟨s0, s1, s2, s3⟩ := hS
                    rcases hi4 with rfl | rfl | rfl | rfl | rfl | rfl | rfl | rfl
                    · obtain rfl := Option.some.inj ho
                      have e255 : aA.tmps[255]?.getD undef = .int .i64 c0 := (get_eval aA 255).trans (hr 255 (by decide))
                      go_simp
                      go_at_call 39
                      refine (rwhole_any c0 _).mono ?_
                      rintro e u ⟨rfl, hu⟩
                      exact hK _ _ ⟨cell_later hu s0, cell_later hu s1, cell_later hu s2, cell_later hu s3⟩ ⟨hB.trans (hu.mono hBs), fun _ => rfl, j10, j11, j12, j13, j16, q7, jal, fun h1 h2 => (jz h1 h2).below hu (jz h1 h2).lt, fun h => ⟨(jst h).1, (jst h).2.below hu (jst h).2.lt⟩⟩
                    · obtain rfl := Option.some.inj ho
                      have e253 : aA.tmps[253]?.getD undef = FrV z := (get_eval aA 253).trans (hr 253 (by decide))
                      have d9 := hdep 9 (by kernel_rfl)
                      have e256 : aA.tmps[256]?.getD undef = FrV (c0 : Rat) := (get_eval aA 256).trans ((hv 256 9 (by decide) d9).trans (j9 d9))
                      go_simp
                      go_at_call 16
                      refine (ADD.out _).mono ?_
                      rintro e u ⟨rfl, hu⟩
                      exact hK _ _ ⟨cell_later hu s0, cell_later hu s1, cell_later hu s2, cell_later hu s3⟩ ⟨hB.trans (hu.mono hBs), j9, fun _ => rfl, j11, j12, j13, j16, q7, jal, fun h1 h2 => (jz h1 h2).below hu (jz h1 h2).lt, fun h => ⟨(jst h).1, (jst h).2.below hu (jst h).2.lt⟩⟩
                    · obtain rfl := Option.some.inj ho
                      have d10 := hdep 10 (by kernel_rfl)
                      have e257 : aA.tmps[257]?.getD undef = .tuple #[FrV vF, .int .i64 0] := (get_eval aA 257).trans ((hv 257 10 (by decide) d10).trans (j10 d10))
                      go_simp
                      exact hK _ _ ⟨s0, s1, s2, s3⟩ ⟨hB, j9, j10, fun _ => rfl, j12, j13, j16, q7, jal, jz, jst⟩
                    · obtain rfl := Option.some.inj ho
                      have d11 := hdep 11 (by kernel_rfl)
                      have e246 : aA.tmps[246]?.getD undef = .tuple #[FrV vF, .int .i64 0] := (get_eval aA 246).trans ((hv 246 11 (by decide) d11).trans (j11 d11))
                      go_simp
                      exact hK _ _ ⟨s0, s1, s2, s3⟩ ⟨hB, j9, j10, j11, fun _ => rfl, j13, j16, q7, jal, jz, jst⟩
                    · obtain rfl := Option.some.inj ho
                      have d11 := hdep 11 (by kernel_rfl)
                      have e246 : aA.tmps[246]?.getD undef = .tuple #[FrV vF, .int .i64 0] := (get_eval aA 246).trans ((hv 246 11 (by decide) d11).trans (j11 d11))
                      go_simp
                      exact hK _ _ ⟨s0, s1, s2, s3⟩ ⟨hB, j9, j10, j11, j12, fun _ => rfl, j16, q7, jal, jz, jst⟩
                    · obtain rfl := Option.some.inj ho
                      have d13 := hdep 13 (by kernel_rfl)
                      have e259 : aA.tmps[259]?.getD undef = .int .i64 0 := (get_eval aA 259).trans ((hv 259 13 (by decide) d13).trans (j13 d13))
                      go_simp
                      exact hK _ _ ⟨s0, s1, s2, s3⟩ ⟨hB, j9, j10, j11, j12, j13, fun _ => rfl, q7, jal, jz, jst⟩
                    · obtain rfl := Option.some.inj ho
                      go_simp
                      have hu : Below w'.heap.size w' (w'.alloc (.cells #[.int .i64 0, .int .i64 0] 31)) := (Below.refl _ _).alloc (Nat.le_refl _) _
                      exact hK _ _ ⟨cell_later hu s0, cell_later hu s1, cell_later hu s2, cell_later hu s3⟩ ⟨hB.trans (hu.mono hBs), j9, j10, j11, j12, j13, j16, w'.heap.size, fun _ => ⟨rfl, hBs⟩, fun _ _ => Blk.new w' [.int .i64 0, .int .i64 0] 31, fun h => by have := (jst h).1; rw [hb] at this; cases this⟩
                    · obtain rfl := Option.some.inj ho
                      have dal := hdep 14 (by kernel_rfl)
                      obtain ⟨val, lal⟩ := jal dal
                      have bz := jz dal hb
                      have e20 : aA.tmps[20]?.getD undef = .pointer (some ⟨q7, 0, none⟩) := (get_eval aA 20).trans ((hv 20 14 (by decide) dal).trans val)
                      have d12 := hdep 12 (by kernel_rfl)
                      have e258 : aA.tmps[258]?.getD undef = FrV vF := (get_eval aA 258).trans ((hv 258 12 (by decide) d12).trans (j12 d12))
                      have z0 := bz.cell (i := 0) rfl; have z1 := bz.cell (i := 1) rfl; have zf := bz.free
                      go_simp
                      have hc2 : Below w20.heap.size w20 ((w'.setCell ⟨q7, 0, none⟩ (.int .i64 (vF).num)).setCell ⟨q7, 1, none⟩ (.int .i64 ((vF).den : Int))) := (hB.setCell lal _).setCell lal _
                      exact hK (.int .i64 0) _ ⟨cell_set (by omega) (cell_set (by omega) s0), cell_set (by omega) (cell_set (by omega) s1), cell_set (by omega) (cell_set (by omega) s2), cell_set (by omega) (cell_set (by omega) s3)⟩ ⟨hc2, j9, j10, j11, j12, j13, j16, q7, jal, (fun _ h => by cases h), fun _ => ⟨dal, ((bz.set 0 _).set 1 _).at rfl⟩⟩
                  · intro bb vA w' hall hJ hS
                    obtain ⟨hB, j9, j10, j11, j12, j13, j16, q7, jal, jz, jst⟩ := hJ
                    have v9 := j9 (hall 9 (by decide))
                    have v10 := j10 (hall 10 (by decide))
                    have v11 := j11 (hall 11 (by decide))
                    have v12 := j12 (hall 12 (by decide))
                    have v13 := j13 (hall 13 (by decide))
                    have v16 := j16 (hall 16 (by decide))
                    obtain ⟨val, lal⟩ := jal (hall 14 (by decide))
                    have R := Lib.hid (show ∃ B10 : Nat, Value.pointer (some ⟨q7, 0, none⟩) = .pointer (some ⟨B10, 0, none⟩) ∧ w20.heap.size ≤ B10 ∧ Blk w' B10 31 (FrC (vF)) ∧ Below w20.heap.size w20 w' from ⟨q7, rfl, lal, (jst (hall 15 (by decide))).2, hB⟩)
                    simp only [putP, v9, v10, v11, v12, v13, v16, val]
                    clear hB j9 j10 j11 j12 j13 j16 jal jz jst v9 v10 v11 v12 v13 v16 val lal hS hall ok
                    go_frame
                    refine hd_end (by kernel_rfl) rfl ?_
                    go_wp2_with fail
                    go_meet
                    exact R.out
              case rest =>
                obtain ⟨B20, rfl, lB20, b20, hB⟩ := hcut
                obtain ⟨w21, hw21⟩ : ∃ w21 : World, w21 = wc := ⟨_, rfl⟩
                rw [← hw21] at b20 hB ⊢
                clear hw21 x2 z0 z1 m3
                have TO21 := Lib.hid (TOZ.out.below hB TOZ.out.lt)
                have NE := Lib.hid (show w.heap.size + 1 ≠ B20 by have := TOZ.out.lt; omega)
                have s0 := b20.cell (i := 0) rfl; have s1 := b20.cell (i := 1) rfl
                have t0 := TO21.out.cell (i := 0) rfl; have t1 := TO21.out.cell (i := 1) rfl; have tf := TO21.out.free
                have TF := Lib.hid ((TO21.out.set 0 (.int .i64 vF.num)).set 1 (.int .i64 (vF.den : Int)))
                have BF := Lib.hid (show Below w.heap.size w ((w21.setCell ⟨w.heap.size + 1, 0, none⟩ (.int .i64 vF.num)).setCell ⟨w.heap.size + 1, 1, none⟩ (.int .i64 (vF.den : Int))) from ((BWZ.out.trans (hB.mono BWZ.out.size)).setCell (Nat.le_succ _) _).setCell (Nat.le_succ _) _)
                clear hB lB20 b20
                repeat go_step
                have r0 := TF.out.cell (i := 0) rfl; have r1 := TF.out.cell (i := 1) rfl
                refine bodyPost_ret (v := .tuple #[FrV vF, .int .i64 0]) (by simp [results, Try.results12, go_sem, r0, r1]) rfl ⟨by rw [CODE.out.1, CODE.out.2.1, CODE.out.2.2], BF.out⟩
end Go.Proofs.Ytdegpgonphgbcaa
