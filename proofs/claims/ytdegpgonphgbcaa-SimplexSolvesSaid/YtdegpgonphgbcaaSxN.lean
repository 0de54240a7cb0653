/-
  simplex.
-/
import Derived.Deep.DeepCutAuto
import Derived.Deep.RegionHeld3
import Derived.Test.YtdegpgonphgbcaaZSxM
namespace Go.Proofs.Ytdegpgonphgbcaa
open Go.RowKit
set_option maxRecDepth 100000 in
set_option maxHeartbeats 8000000 in
theorem begin_any (w : World) (cols : Nat) (hc6 : cols ≤ 6) (ra : Option Addr) (rn rc : Nat) (rows : List (List (Int × Int) × Int)) (_gv : Value) (ga : Option Addr) (gn gc : Nat) (c0 : Int) (K : Nat → Prop) (hR : Row RRw 2 K w ra rn rc rows) (hK : ∀ x, K x → x < w.heap.size) (hrn : rn ≤ 6) (hT : ∀ x ∈ rows, ∀ t ∈ x.1, 0 ≤ t.1 ∧ t.1 < cols ∧ -1000000 ≤ t.2 ∧ t.2 ≤ 1000000) :
    Calls Try.prog 32 #[MdV cols (.slice ra rn rc) ga gn gc c0] w (BegRet w (begD cols rows)) := by
  have HR := Lib.hid hR; have HK := Lib.hid hK; have HT := Lib.hid hT
  clear hR hK hT
  obtain ⟨w1, hw1⟩ : ∃ w1, w1 = (w.alloc (.cells (MdC cols (.slice ra rn rc) ga gn gc c0).toArray 28)).alloc (.cells #[.slice none 0 0, .slice none 0 0, .slice none 0 0] 71) := ⟨_, rfl⟩
  have B1 := Lib.hid (show Below w.heap.size w w1 by rw [hw1]; exact ((Below.refl _ _).alloc (Nat.le_refl _) _).alloc (by simp) _)
  have M1 := Lib.hid (show Blk w1 w.heap.size 28 (MdC cols (.slice ra rn rc) ga gn gc c0) by rw [hw1]; exact (Blk.new w _ _).old _)
  have Q1 := Lib.hid (show Blk w1 (w.heap.size + 1) 71 [.slice none 0 0, .slice none 0 0, .slice none 0 0] by rw [hw1]; exact (Blk.new _ [.slice none 0 0, .slice none 0 0, .slice none 0 0] _).at' (by simp))
  have hsz : w1.heap.size = w.heap.size + 2 := by rw [hw1]; simp
  have HSZ := Lib.hid hsz
  have HW := Lib.hid hw1
  have m0 := M1.out.cell (i := 0) rfl
  obtain ⟨c1, hc1⟩ : ∃ c1, c1 = cols + 1 := ⟨_, rfl⟩
  have wc : IntKind.i64.wrap ((cols : Int) + 1) = (c1 : Int) := by rw [Go.IntWalk.i64_in _ ⟨by omega, by omega⟩]; omega
  have hc7 : c1 ≤ 7 := by omega
  have HC1 := Lib.hid hc1
  clear hw1 hsz hc1
  go_enter Try.func32, Try.ntmps32
  go_upto_region 2 with fail
  rw [← HW.out]
  clear HW
  go_wp2
  clear m0
  go_loopw [15] (fun s wr => ∃ k : Nat, k ≤ c1 ∧ s = .int .i64 k ∧ ∃ vO, wr.ownsRow w1.heap.size 3 1 vO k (ivs (upTo k)) ∧ Blk wr (w.heap.size + 1) 71 [.slice none 0 0, vO, .slice none 0 0] ∧ Chg (fun x => x = w.heap.size + 1) w1 wr) (fun s _ => c1 - (intOf s).toNat)
  case atStart => exact ⟨0, Nat.zero_le _, rfl, _, World.ownsRow_nil _ _ _ _, Q1.out, Chg.refl _⟩
  case round =>
    obtain ⟨k, hk, rfl, vO, hown, hq, hch⟩ := hrel
    have OW := Lib.hid hown; have QR := Lib.hid hq; have CR := Lib.hid hch
    obtain ⟨aO, cO, hvO⟩ := flat_form hown
    clear hown hq hch
    by_cases hlt : k < c1
    · have q1 := QR.out.cell (i := 1) rfl
      subst hvO
      have qf := QR.out.free 1
      have lq : w.heap.size + 1 < wr.heap.size := QR.out.lt
      have lw : w1.heap.size ≤ wr.heap.size := CR.out.size
      obtain ⟨w2, hw2⟩ : ∃ w2, w2 = wr.alloc (.cells #[.int .i64 k] 3) := ⟨_, rfl⟩
      have O2 := Lib.hid (show w2.ownsRow w1.heap.size 3 1 (.slice aO k cO) k (ivs (upTo k)) by rw [hw2]; exact flat_below OW.out ((Below.refl _ _).alloc (Nat.le_refl _) _))
      have Q2 := Lib.hid (show Blk w2 (w.heap.size + 1) 71 [.slice none 0 0, .slice aO k cO, .slice none 0 0] by rw [hw2]; exact QR.out.old _)
      have N2 := Lib.hid (show Blk w2 wr.heap.size 3 [.int .i64 k] by rw [hw2]; exact Blk.new wr _ _)
      have C2 := Lib.hid (show Chg (fun x => x = w.heap.size + 1) w1 w2 by rw [hw2]; exact CR.out.alloc _)
      have HW2 := Lib.hid hw2
      have NQ := Lib.hid (show ¬ (Value.slice aO k cO).ownBlock = some (w.heap.size + 1) from fun e => by have := (OW.out.lt _ e).1; have := HSZ.out; omega)
      clear hw2
      go_wp2_with (at_builtin; rw [← HW2.out]; refine wpList_append_flat rfl (.tmp 22) (.tmp 24) 22 rfl 3 Try.underlying22 info_int rfl (by decide) O2.out rfl C2.out.size ⟨wr.heap.size, 0, none⟩ 1 1 [.int .i64 k] rfl rfl (news_one N2.out) (by simp [Value.oneCell']) (by decide) (by omega) (by decide) ?_; intro g cap w3 hap; have Q3 := Lib.hid (Q2.out.chg hap.out.chg NQ.out); have q3 := Q3.out.cell (i := 1) rfl; have qf3 := Q3.out.free 1)
      have P := Lib.hid (show ∃ vO, (w3.setCell ⟨w.heap.size + 1, 1, none⟩ (.slice (some ⟨g, 0, none⟩) (k + 1) cap)).ownsRow w1.heap.size 3 1 vO (k + 1) (ivs (upTo (k + 1))) ∧ Blk (w3.setCell ⟨w.heap.size + 1, 1, none⟩ (.slice (some ⟨g, 0, none⟩) (k + 1) cap)) (w.heap.size + 1) 71 [.slice none 0 0, vO, .slice none 0 0] ∧ Chg (fun x => x = w.heap.size + 1) w1 (w3.setCell ⟨w.heap.size + 1, 1, none⟩ (.slice (some ⟨g, 0, none⟩) (k + 1) cap)) from by
        have ho := hap.out.owns
        rw [upTo_succ] at ho
        refine ⟨_, ownsRow_of ho (fun x hx => ?_), Q3.out.set 1 _, (C2.out.trans hap.out.chg (fun x hx e => ?_)).setCell (fun _ => rfl) _⟩
        · have := (ho.lt x hx).1; have := HSZ.out
          exact Below.heap_setCell w3 _ _ x (fun e => by simp at e; omega)
        · have := (O2.out.lt x e).1; omega)
      clear hap q3 qf3 Q3 Q2 O2 N2 C2 OW QR CR
      go_roundw
      case rel => exact ⟨k + 1, by omega, by go_num, P.out⟩
      case measure => simp [intOf]; omega
    · have hk2 : c1 = k := by omega
      subst hk2
      obtain ⟨w4, rfl⟩ : ∃ w4 : World, w4 = wr := ⟨_, rfl⟩
      subst hvO
      have NQ := Lib.hid (show w.heap.size ≠ w.heap.size + 1 ∧ w.heap.size + 1 < w4.heap.size from ⟨by omega, QR.out.lt⟩)
      have M4 := Lib.hid (M1.out.chg CR.out NQ.out.1)
      have B4 := Lib.hid (show Below w.heap.size w w4 from B1.out.trans (CR.out.below (fun x hx e => by omega) (by have := HSZ.out; omega)))
      have R4 := Lib.hid (HR.out.keeps RRw.stays (fun x hx hl => B4.out.block x hl) B4.out.size)
      have m1 := M4.out.cell (i := 1) rfl
      have O4 := Lib.hid (OW.out)
      clear OW M1 Q1
      go_wp2
      clear m1
      go_loopw [32] (fun s wr => ∃ i : Nat, i ≤ rn ∧ s = .int .i64 i ∧ ∃ vI vR us gs, wr.ownsRow w4.heap.size 3 1 vI i (ivs (insOf cols i)) ∧ wr.ownsRow w4.heap.size 32 1 vR i us ∧ BegRows wr w4.heap.size us gs ((rows.take i).map (rowOf cols)) ∧ Blk wr (w.heap.size + 1) 71 [vI, .slice aO c1 cO, vR] ∧ Chg (fun x => x = w.heap.size + 1) w4 wr) (fun s _ => rn - (intOf s).toNat)
      case atStart => exact ⟨0, Nat.zero_le _, rfl, _, _, [], [], World.ownsRow_nil _ _ _ _, World.ownsRow_nil _ _ _ _, BegRows.nil _ _, QR.out, Chg.refl _⟩
      case round =>
        obtain ⟨i, hi, rfl, vI, vR, us, gs, hoI, hoR, hbr, hq, hch⟩ := hrel
        obtain ⟨aI, cI, hvI⟩ := flat_form hoI
        obtain ⟨aR, cR, hvR⟩ := flat_form hoR
        subst hvI hvR
        have OI := Lib.hid hoI; have OR := Lib.hid hoR; have BR := Lib.hid hbr; have QI := Lib.hid hq; have CI := Lib.hid hch
        clear hoI hoR hbr hq hch
        by_cases hlt : i < rn
        · obtain ⟨⟨tm, most⟩, htt⟩ : ∃ tt, rows[i]? = some tt := ⟨_, List.getElem?_eq_getElem (by have := R4.out.hlen; omega)⟩
          obtain ⟨bt, ot, hra, kbt, lbt, ⟨ta, tn, tc, t0, htm⟩, t1⟩ := R4.out.row i (tm, most) htt
          subst hra
          have TM := Lib.hid htm; have HTT := Lib.hid htt
          dsimp only at t0 t1
          have nbt : bt ≠ w.heap.size + 1 := fun e => by have := HK.out bt kbt; omega
          have t0 := CI.out.cell nbt t0
          have t1 := CI.out.cell nbt t1
          clear htt htm nbt
          go_upto_region 10 with fail
          obtain ⟨w5, hw5⟩ : ∃ w5, w5 = wr.alloc (.cells #[.slice ta tn tc, .int .i64 most] 50) := ⟨_, rfl⟩
          have A5 := Lib.hid (show Below wr.heap.size wr w5 by rw [hw5]; exact (Below.refl _ _).alloc (Nat.le_refl _) _)
          have X5 := Lib.hid (show Blk w5 wr.heap.size 50 [.slice ta tn tc, .int .i64 most] by rw [hw5]; exact Blk.new wr _ _)
          rw [← hw5]
          clear hw5 t0 t1
          have LX := Lib.hid (show wr.heap.size < w5.heap.size ∧ w4.heap.size ≤ wr.heap.size from ⟨X5.out.lt, CI.out.size⟩)
          obtain ⟨X, hX⟩ : ∃ X, X = wr.heap.size := ⟨_, rfl⟩
          rw [← hX] at X5 LX ⊢
          have HX := Lib.hid hX
          clear hX
          obtain ⟨ci, hci⟩ : ∃ ci : Nat, ci = cols + 1 + i := ⟨_, rfl⟩
          have wci : IntKind.i64.wrap ((c1 : Int) + (i : Int)) = (ci : Int) := by have := HC1.out; rw [Go.IntWalk.i64_in _ ⟨by omega, by omega⟩]; omega
          have HCI := Lib.hid hci
          clear hci
          obtain ⟨w6, hw6⟩ : ∃ w6, w6 = (w5.alloc (.cells #[.int .i64 ci] 3)).drew := ⟨_, rfl⟩
          have A6 := Lib.hid (show Below wr.heap.size wr w6 by rw [hw6]; exact (A5.out.alloc A5.out.size _).drew)
          have O6 := Lib.hid (flat_below OI.out A6.out)
          have N6 := Lib.hid (show Blk w6 w5.heap.size 3 [.int .i64 ci] by rw [hw6]; exact (Blk.new w5 [.int .i64 (ci : Int)] _).drew)
          have Q6 := Lib.hid (QI.out.below A6.out QI.out.lt)
          have A6b := (A5.out.alloc A5.out.size (.cells #[.int .i64 (ci : Int)] 3))
          have q0a := (QI.out.below A6b QI.out.lt).cell (i := 0) rfl
          have m0a := ((M4.out.chg CI.out NQ.out.1).below A6b (by have := (M4.out.chg CI.out NQ.out.1).lt; exact this)).cell (i := 0) rfl
          clear A6b
          have HW6 := Lib.hid hw6
          clear hw6
          have q0 := (QI.out.below A5.out QI.out.lt).cell (i := 0) rfl
          have M5 := Lib.hid ((M4.out.chg CI.out NQ.out.1).below A5.out (by have := (M4.out.chg CI.out NQ.out.1).lt; exact this))
          have m0 := M5.out.cell (i := 0) rfl
          have NI := Lib.hid (show ¬ (Value.slice aI i cI).ownBlock = some (w.heap.size + 1) from fun e => by have := (OI.out.lt _ e).1; have := NQ.out.2; omega)
          have X6 := Lib.hid (show Blk w6 X 50 [.slice ta tn tc, .int .i64 most] by rw [HW6.out]; exact (X5.out.old _).drew)
          have XQ := Lib.hid (show X ≠ w.heap.size + 1 by have := NQ.out.2; have := LX.out.2; omega)
          have C6 := Lib.hid (show Chg (fun x => x = w.heap.size + 1) w4 w6 from CI.out.tr A6.out)
          go_cut [] (fun wx => BegP wx w4 (w.heap.size + 1) X (i + 1) (insOf cols (i + 1)) (.slice aO c1 cO) (.slice aR i cR) us gs i ((rows.take i).map (rowOf cols)) [.slice ta tn tc, .int .i64 most])
          case first =>
            as_aux_lemma =>
              go_region_law (rw [← HW6.out]; refine step_append_flat rfl (.tmp 41) (.tmp 47) 22 rfl 3 Try.underlying22 info_int rfl (by decide) O6.out (by go_simp) (by have := A6.out.size; have := CI.out.size; omega) ⟨w5.heap.size, 0, none⟩ 1 1 [.int .i64 ci] (by go_simp) rfl (news_one N6.out) (by simp [Value.oneCell']) (by decide) (by omega) (by decide) ?_; intro g cap w7 hap; have Q7 := Lib.hid (Q6.out.chg hap.out.chg NI.out); have q7 := Q7.out.cell (i := 0) rfl; have qf7 := Q7.out.free 0; have P7 := begP_mk hap.out O6.out (flat_below OR.out A6.out) (BR.out.below A6.out) Q6.out NI.out trivial NQ.out.2 X6.out XQ.out C6.out (insOf_succ HCI.out))
              all_goals (go_wp2; go_meet; exact P7)
          case rest =>
            have HP := Lib.hid hcut
            obtain ⟨wd, hwd⟩ : ∃ wd : World, wd = wc := ⟨_, rfl⟩
            rw [← hwd] at HP ⊢
            clear hwd hcut q0a m0a q0 m0 X6 Q6 O6 N6 A6 A5 M5 X5 HW6 C6 OI OR QI BR
            have MC := Lib.hid (M4.out.chg HP.out.chg NQ.out.1)
            have x1 := HP.out.hX.cell (i := 1) rfl
            have m0 := MC.out.cell (i := 0) rfl
            go_upto_region 11 with fail
            go_cut [7] (fun s wx => RowNew wd wx ([(most : Rat), 1] ++ List.replicate cols 0) s)
            case first =>
              as_aux_lemma =>
                refine hd_start 9 (fun w' => w'.cell? ⟨X, 1, none⟩ = some (.int .i64 most) ∧ w'.cell? ⟨w.heap.size, 0, none⟩ = some (.int .i64 cols)) (by kernel_rfl) ⟨by kernel_rfl, by kernel_rfl, by kernel_rfl, by decide⟩ (by refine ⟨x1, m0⟩) (fun ok => ?_)
                refine hd_t 0 ok rfl ?_
                go_frame
                refine hd_t 1 ok rfl ?_
                go_frame
                refine hd_t 5 ok rfl ?_
                go_frame
                refine hd_t 6 ok rfl ?_
                go_frame
                refine hd_inv_p [(53, 2), (54, 3), (55, 4), (58, 7), (59, 8)] (fun _ => undef) (fun b v w' => Below wd.heap.size wd w' ∧ (b 2 = true → v 2 = FrV (most : Rat)) ∧ (b 3 = true → v 3 = FrV 1) ∧ RowJ wd w' (most : Rat) 1 cols (b 4) (b 7) (b 8) (v 4) (v 7) (v 8)) (.inl ok) ⟨by decide, by decide, by kernel_rfl, rfl⟩ (by kernel_rfl) (by kernel_rfl) (by decide) ⟨(Below.refl _ _).drew, (fun h => by cases h), (fun h => by cases h), (fun h => by cases h), fun _ => ⟨0, 0, (fun h => by cases h), (fun h => by cases h)⟩⟩ ?_ ?_
                · intro j oj hj ho bb v a w' hJ hv hr hb hdep hS K hK
                  obtain ⟨hB, j2, j3, jg⟩ := hJ
                  have hBs := hB.size
                  have hj5 : j = 2 ∨ j = 3 ∨ j = 4 ∨ j = 7 ∨ j = 8 := by simpa using hj
                  try dsimp only at hS
                  obtain ⟨s0, s1⟩ := hS
                  rcases hj5 with rfl | rfl | rfl | rfl | rfl
                  · obtain rfl := Option.some.inj ho
                    have e52 : a.tmps[52]?.getD undef = .int .i64 most := (get_eval a 52).trans (hr 52 (by decide))
                    go_simp
                    go_at_call 58
                    refine (whole_any most _).mono ?_
                    rintro e u ⟨rfl, hu⟩
                    exact hK _ _ ⟨cell_later hu s0, cell_later hu s1⟩ ⟨hB.trans (hu.mono hBs), fun _ => rfl, j3, jg.call hu⟩
                  · obtain rfl := Option.some.inj ho
                    go_simp
                    go_at_call 58
                    refine (whole_any 1 _).mono ?_
                    rintro e u ⟨rfl, hu⟩
                    exact hK _ _ ⟨cell_later hu s0, cell_later hu s1⟩ ⟨hB.trans (hu.mono hBs), j2, fun _ => rfl, jg.call hu⟩
                  · obtain rfl := Option.some.inj ho
                    have d0 := hdep 2 (by kernel_rfl)
                    have d1 := hdep 3 (by kernel_rfl)
                    have e53 : a.tmps[53]?.getD undef = FrV (most : Rat) := (get_eval a 53).trans ((hv 53 2 (by decide) d0).trans (j2 d0))
                    have e54 : a.tmps[54]?.getD undef = FrV 1 := (get_eval a 54).trans ((hv 54 3 (by decide) d1).trans (j3 d1))
                    go_simp
                    have hu : Below w'.heap.size w' (w'.alloc (.cells (frs [(most : Rat), 1]).toArray 31)) := (Below.refl _ _).alloc (Nat.le_refl _) _
                    exact hK _ _ ⟨cell_later hu s0, cell_later hu s1⟩ ⟨hB.trans (hu.mono hBs), j2, j3, jg.four hb hBs⟩
                  · obtain rfl := Option.some.inj ho
                    have e57 : a.tmps[57]?.getD undef = .int .i64 cols := (get_eval a 57).trans (hr 57 (by decide))
                    go_simp
                    go_at_call 36
                    refine (zeros_any cols (by omega) _).mono ?_
                    rintro e u ⟨g, rfl, _, hg, hu⟩
                    exact hK _ _ ⟨cell_later hu s0, cell_later hu s1⟩ ⟨hB.trans (hu.mono hBs), j2, j3, jg.seven hb hu hg⟩
                  · obtain rfl := Option.some.inj ho
                    have d4 := hdep 4 (by kernel_rfl)
                    have d7 := hdep 7 (by kernel_rfl)
                    obtain ⟨g4, g7, h4, h7⟩ := jg.2 hb
                    obtain ⟨h4, f4, l4⟩ := h4 d4
                    obtain ⟨h7, f7⟩ := h7 d7
                    refine step_append_frs (w0 := wd) rfl (.tmp 55) (.tmp 58) rfl g4 g7 cols [(most : Rat), 1] rfl (by omega) f4 f7 l4 hB ((hv 55 4 (by decide) d4).trans h4) ((hv 58 7 (by decide) d7).trans h7) ?_
                    intro v8 u hR
                    obtain ⟨g, cap, sp, r1, r2, r3, r4, r5, r6⟩ := hR.out
                    refine hK _ _ ⟨?_, ?_⟩ ⟨r6, j2, j3, fun _ => ⟨⟨d4, d7⟩, hR.out⟩, fun h => by cases h⟩
                    · exact cell_low r6 HP.out.hX.lt x1
                    · exact cell_low r6 MC.out.lt m0
                · intro bb v w' hall hJ hS
                  obtain ⟨hB, j2, j3, jg⟩ := hJ
                  have R := Lib.hid (jg.1 (hall 8 (by decide))).2
                  have v2 := j2 (hall 2 (by decide))
                  have v3 := j3 (hall 3 (by decide))
                  simp only [putP, v2, v3]
                  clear hB j2 j3 jg v2 v3 hS hall ok
                  go_frame
                  refine hd_done (by kernel_rfl) ?_
                  simp only [List.drop_succ_cons, List.drop_zero]
                  go_wp2_with fail
                  go_meet
                  exact R.out
            case rest =>
              obtain ⟨g, cap, sp, rfl, fg, hcp, hcm, hgB, hgw⟩ := hcut
              obtain ⟨we, hwe⟩ : ∃ we : World, we = wc := ⟨_, rfl⟩
              rw [← hwe] at fg hgw ⊢
              clear hwe
              have FG := Lib.hid fg; have GW := Lib.hid hgw; have HCP := Lib.hid hcp; have HCM := Lib.hid hcm; have HGB := Lib.hid hgB
              have PE := Lib.hid (HP.out.below hgw)
              obtain ⟨c2, hc2⟩ : ∃ c2, c2 = ([(most : Rat), 1] ++ List.replicate cols 0).length := ⟨_, rfl⟩
              rw [← hc2]
              have hc2' : c2 = cols + 2 := by rw [hc2]; simp
              have HC2 := Lib.hid hc2'; have HC2L := Lib.hid hc2
              have x0 := PE.out.hX.cell (i := 0) rfl
              clear fg hgw hcp hcm hgB x1 m0 hc2 hc2'
              obtain ⟨wo, rfl⟩ : ∃ wo : World, wo = wr := ⟨_, rfl⟩
              have TE := Lib.hid (TM.out.keeps RTm.stays (fun x hx hl => PE.out.chg.block x hl (fun e => by have := HK.out x hx; omega)) PE.out.chg.size)
              have TT := Lib.hid (HT.out (tm, most) (List.mem_of_getElem? HTT.out))
              have htn : tn ≤ 17592186044416 := TE.out.hsz
              go_wp2
              clear x0
              go_loopw [63] (fun s wr => ∃ j : Nat, j ≤ tn ∧ s = .int .i64 j ∧ FBlk wr g (rowTo tm ([(most : Rat), 1] ++ List.replicate cols 0) j) sp ∧ Chg (fun x => x = g) we wr) (fun s _ => tn - (intOf s).toNat)
              case atStart => exact ⟨0, Nat.zero_le _, rfl, FG.out, Chg.refl _⟩
              case round =>
                obtain ⟨j, hj, rfl, hfg, hcg⟩ := hrel
                have FJ := Lib.hid hfg; have CJ := Lib.hid hcg
                clear hfg hcg
                have LG := Lib.hid (show (∀ x, K x → x ≠ g) from fun x hx e => by have h1 := HK.out x hx; have h2 := HGB.out; have h3 := HP.out.chg.size; have h4 := NQ.out.2; omega)
                by_cases hlt2 : j < tn
                · obtain ⟨⟨tof, tco⟩, htj⟩ : ∃ tt, tm[j]? = some tt := ⟨_, List.getElem?_eq_getElem (by have := TE.out.hlen; omega)⟩
                  have TJ := TE.out.keeps RTm.stays (fun x hx hl => CJ.out.block x hl (LG.out x hx)) CJ.out.size
                  obtain ⟨b2, o2, hta, kb2, lb2, r0, r1⟩ := TJ.row j (tof, tco) htj
                  subst hta
                  dsimp only at r0 r1
                  obtain ⟨n0, n1, n2, n3⟩ := TT.out (tof, tco) (List.mem_of_getElem? htj)
                  dsimp only at n0 n1 n2 n3
                  have HTJ := Lib.hid htj
                  clear TJ htj
                  obtain ⟨k2, hk2⟩ : ∃ k2 : Nat, (k2 : Int) = tof + 2 := ⟨(tof + 2).toNat, by omega⟩
                  have wk2 : IntKind.i64.wrap (tof + 2) = (k2 : Int) := by rw [Go.IntWalk.i64_in _ ⟨by omega, by omega⟩]; omega
                  obtain ⟨z, hz⟩ : ∃ z, z = -tco := ⟨_, rfl⟩
                  obtain ⟨x, hx⟩ : ∃ x : Rat, x = (z : Rat) := ⟨_, rfl⟩
                  have SW := Lib.hid (show ∀ wq : World, Calls Try.prog 58 #[.int .i64 z] wq (FrRet x wq) from fun wq => by rw [hx]; exact whole_any z wq)
                  have HX2 := Lib.hid hx
                  clear hx
                  have wz : IntKind.i64.wrap (-tco) = z := by rw [Go.IntWalk.i64_in _ ⟨by omega, by omega⟩]; omega
                  have hk2c : (k2 : Int) < (c2 : Int) := by have := HC2.out; omega
                  have hk20 : (0 : Int) ≤ (k2 : Int) := by omega
                  have HZ := Lib.hid hz; have HK2 := Lib.hid hk2
                  clear hz hk2
                  go_upto_region 15 with fail
                  obtain ⟨w9, hw9⟩ : ∃ w9, w9 = wr.alloc (.cells #[.int .i64 tof, .int .i64 tco] 56) := ⟨_, rfl⟩
                  have Y9 := Lib.hid (show Blk w9 wr.heap.size 56 [.int .i64 tof, .int .i64 tco] by rw [hw9]; exact Blk.new wr _ _)
                  have A9 := Lib.hid (show Below wr.heap.size wr w9 by rw [hw9]; exact (Below.refl _ _).alloc (Nat.le_refl _) _)
                  rw [← hw9]
                  have FJ9 := Lib.hid (FJ.out.below A9.out FJ.out.lt)
                  have CJ9 := Lib.hid (CJ.out.tr A9.out)
                  obtain ⟨y, hy⟩ : ∃ y, y = wr.heap.size := ⟨_, rfl⟩
                  have Y9' := Lib.hid (show Blk w9 y 56 [.int .i64 tof, .int .i64 tco] by rw [hy]; exact Y9.out)
                  rw [← hy]
                  clear hw9 hy Y9 r0 r1
                  have y0 := Y9'.out.cell (i := 0) rfl
                  have y1 := Y9'.out.cell (i := 1) rfl
                  refine hd_start 9 (fun w' => w'.cell? ⟨y, 0, none⟩ = some (.int .i64 tof) ∧ w'.cell? ⟨y, 1, none⟩ = some (.int .i64 tco)) (by kernel_rfl) ⟨by kernel_rfl, by kernel_rfl, by kernel_rfl, by decide⟩ (by refine ⟨y0, y1⟩) (fun ok => ?_)
                  refine hd_t 0 ok rfl ?_
                  go_frame
                  refine hd_t 1 ok rfl ?_
                  go_frame
                  refine hd_t 2 ok rfl ?_
                  go_frame
                  refine hd_t 3 ok rfl ?_
                  go_frame
                  refine hd_t 4 ok rfl ?_
                  go_frame
                  refine hd_t 5 ok rfl ?_
                  go_frame
                  refine hd_t 6 ok rfl ?_
                  go_frame
                  refine hd_only_l (c := 7) rfl (by decide) (by kernel_rfl) (fun K hK => ?_)
                  go_simp
                  refine (SW.out _).mono ?_
                  rintro e w' ⟨rfl, hb⟩
                  have FJ10 := Lib.hid (FJ9.out.drew.below hb FJ9.out.lt)
                  have CJ10 := Lib.hid (CJ9.out.drew.tr hb)
                  (try simp only [])
                  refine hK _ _ (by refine ⟨?_, ?_⟩ <;> (first | exact cell_later hb y0 | exact cell_later hb y1)) ?_
                  clear hK K
                  (try go_frame)
                  refine hd_t 8 ok rfl ?_
                  go_frame
                  have hlen := rowTo_length tm ([(most : Rat), 1] ++ List.replicate cols 0) j
                  have HKL := Lib.hid (show k2 < (rowTo tm ([(most : Rat), 1] ++ List.replicate cols 0) j).length by rw [hlen, ← HC2L.out]; omega)
                  obtain ⟨xo, hxo⟩ : ∃ xo, (rowTo tm ([(most : Rat), 1] ++ List.replicate cols 0) j)[k2]? = some xo := ⟨_, List.getElem?_eq_getElem HKL.out⟩
                  obtain ⟨c0', c1'⟩ := FBlk.get FJ10.out hxo
                  have cf := FJ10.out.free
                  have PS := Lib.hid (show FBlk ((w'.setCell ⟨g, k2 * 2, none⟩ (.int .i64 x.num)).setCell ⟨g, k2 * 2 + 1, none⟩ (.int .i64 (x.den : Int))) g (rowTo tm ([(most : Rat), 1] ++ List.replicate cols 0) (j + 1)) sp by
                    rw [rowTo_succ HTJ.out]
                    unfold rowSet
                    dsimp only
                    rw [← HK2.out, Int.toNat_natCast, ← HZ.out, ← HX2.out]
                    exact FBlk.put FJ10.out HKL.out _)
                  have PC := Lib.hid (chg_put (b := g) CJ10.out (fun _ => rfl) k2 (.int .i64 x.num) (.int .i64 (x.den : Int)))
                  clear hb hlen hxo y0 y1
                  refine hd_done (by kernel_rfl) ?_
                  simp only [List.drop_succ_cons, List.drop_zero]
                  go_wp2
                  clear c0' c1' cf
                  go_roundw
                  case rel => exact ⟨j + 1, by omega, by go_num, PS.out, PC.out⟩
                  case measure => simp [intOf]; omega
                · have hj2 : tn = j := by omega
                  subst hj2
                  obtain ⟨wf, rfl⟩ : ∃ wf : World, wf = wr := ⟨_, rfl⟩
                  have GX := Lib.hid (show ∀ x, x < wd.heap.size → x ≠ g from fun x hx e => by have := HGB.out; omega)
                  have BF := Lib.hid (show Below wd.heap.size wd wf from GW.out.trans (CJ.out.below GX.out GW.out.size))
                  have PF := Lib.hid (HP.out.below BF.out)
                  have FF := Lib.hid (show FBlk wf g (rowOf cols (tm, most)) sp by
                    have h := FJ.out
                    rw [TE.out.hlen.symm] at h
                    unfold rowTo at h
                    rw [List.take_length] at h
                    exact h)
                  have L4 := Lib.hid (show w4.heap.size ≤ g from Nat.le_trans HP.out.chg.size HGB.out)
                  have GN := Lib.hid (show g ∉ gs from fun h => by
                    obtain ⟨ys, hy, _⟩ := HP.out.bR.tag h
                    have := hy.lt; have := HGB.out; omega)
                  have RL := Lib.hid (show c2 = (rowOf cols (tm, most)).length by
                    have := rowTo_length tm ([(most : Rat), 1] ++ List.replicate cols 0) tm.length
                    unfold rowTo at this
                    rw [List.take_length] at this
                    rw [HC2L.out, ← this]; rfl)
                  obtain ⟨vI', hoI', hQ'⟩ := PF.out.ex
                  have QF := Lib.hid hQ'
                  clear hoI' hQ' FJ CJ PE TE TT FG
                  have q2 := QF.out.cell (i := 2) rfl
                  go_upto_region 17 with fail
                  obtain ⟨wg, hwg⟩ : ∃ wg, wg = wf.alloc (.cells #[.slice (some ⟨g, 0, none⟩) c2 cap] 32) := ⟨_, rfl⟩
                  have AG := Lib.hid (show Below wf.heap.size wf wg by rw [hwg]; exact (Below.refl _ _).alloc (Nat.le_refl _) _)
                  have PG := Lib.hid (PF.out.below AG.out)
                  have FG := Lib.hid (FF.out.below AG.out FF.out.lt)
                  have NG := Lib.hid (show Blk wg wf.heap.size 32 [.slice (some ⟨g, 0, none⟩) c2 cap] by rw [hwg]; exact Blk.new wf _ _)
                  have HWG := Lib.hid hwg
                  have qf : ∀ o, wf.frozen? ⟨w.heap.size + 1, o, none⟩ = false := QF.out.free
                  clear hwg
                  go_wp2_with (at_builtin; rw [← HWG.out]; refine wpList_append_flat rfl (.tmp 81) (.tmp 83) 69 rfl 32 Try.underlying69 info_fsl rfl (by decide) PG.out.oR rfl (by have := PG.out.chg.size; exact this) ⟨wf.heap.size, 0, none⟩ 1 1 [.slice (some ⟨g, 0, none⟩) c2 cap] rfl rfl (news_one NG.out) (by simp [Value.oneCell']) (by decide) (by omega) (by decide) ?_; intro g2 cap2 w3 hap; have Q3 := Lib.hid ((QF.out.below AG.out QF.out.lt).chg hap.out.chg (fun e => by have := (PG.out.oR.lt _ e).1; have := NQ.out.2; omega)); have q3 := Q3.out.cell (i := 2) rfl; have qf3 := Q3.out.free 2; have EX := Lib.hid (begR_mk PG.out NQ.out.2 FG.out (by rw [← RL.out, HC2L.out]; exact HCP.out) HCM.out L4.out GN.out (RL.out ▸ hap.out)))
                  have TK := Lib.hid (show (rows.take i).map (rowOf cols) ++ [rowOf cols (tm, most)] = (rows.take (i + 1)).map (rowOf cols) by rw [List.take_add_one, HTT.out, List.map_append]; rfl)
                  clear q2 q3 qf3 Q3 hap qf
                  go_roundw
                  case rel =>
                    obtain ⟨vI2, us2, gs2, e1, e2, e3, e4, e5⟩ := EX.out
                    rw [TK.out] at e3
                    exact ⟨i + 1, by omega, by go_num, vI2, _, us2, gs2, e1, e2, e3, e4, e5⟩
                  case measure => simp [intOf]; omega
        · have hi2 : rn = i := by omega
          subst hi2
          obtain ⟨wd, hwd⟩ : ∃ wd : World, wd = wr := ⟨_, rfl⟩
          rw [← hwd] at OI OR BR QI CI ⊢
          clear hwd
          have TK := Lib.hid (show (rows.take rn).map (rowOf cols) = rows.map (rowOf cols) by rw [← R4.out.hlen, List.take_length])
          have MC := Lib.hid (M4.out.chg CI.out NQ.out.1)
          have x2 := QI.out.cell (i := 2) rfl
          have m0 := MC.out.cell (i := 0) rfl
          have NR := Lib.hid (show ¬ (Value.slice aR rn cR).ownBlock = some (w.heap.size + 1) ∧ ¬ (Value.slice aR rn cR).ownBlock = some w.heap.size from ⟨fun e => by have := (OR.out.lt _ e).1; have := NQ.out.2; omega, fun e => by have := (OR.out.lt _ e).1; have := NQ.out.2; omega⟩)
          go_upto_region 19 with fail
          refine hd_start 14 (fun w' => w'.cell? ⟨w.heap.size + 1, 2, none⟩ = some (.slice aR rn cR) ∧ w'.cell? ⟨w.heap.size, 0, none⟩ = some (.int .i64 cols)) (by kernel_rfl) ⟨by kernel_rfl, by kernel_rfl, by kernel_rfl, by decide⟩ (by refine ⟨x2, m0⟩) (fun ok => ?_)
          refine hd_t 0 ok rfl ?_
          go_frame
          refine hd_t 1 ok rfl ?_
          go_frame
          refine hd_t 2 ok rfl ?_
          go_frame
          refine hd_t 3 ok rfl ?_
          go_frame
          refine hd_t 4 ok rfl ?_
          go_frame
          refine hd_t 8 ok rfl ?_
          go_frame
          refine hd_t 9 ok rfl ?_
          go_frame
          refine hd_inv_p [(93, 5), (94, 6), (95, 7), (98, 10), (99, 11), (100, 12), (101, 13)] (fun _ => undef) (fun b v w' => (b 13 = true → EndJ wd w' w4.heap.size (.slice aR rn cR) rn us [0, -1] cols (v 13)) ∧ (b 13 = true → b 5 = true ∧ b 6 = true ∧ b 7 = true ∧ b 10 = true ∧ b 11 = true ∧ b 12 = true) ∧ (b 13 = false → Below wd.heap.size wd w' ∧ (b 5 = true → v 5 = FrV 0) ∧ (b 6 = true → v 6 = FrV (-1)) ∧ RowJ wd w' 0 (-1) cols (b 7) (b 10) (b 11) (v 7) (v 10) (v 11) ∧ (b 7 = true → b 5 = true ∧ b 6 = true) ∧ (b 12 = true → b 11 = true ∧ ∃ gb, v 12 = .slice (some ⟨gb, 0, none⟩) 1 1 ∧ Blk w' gb 32 [v 11]))) (.inl ok) ⟨by decide, by decide, by kernel_rfl, rfl⟩ (by kernel_rfl) (by kernel_rfl) (by decide) ⟨(fun h => by cases h), (fun h => by cases h), fun _ => ⟨(Below.refl _ _).drew, (fun h => by cases h), (fun h => by cases h), ⟨(fun h => by cases h), fun _ => ⟨0, 0, (fun h => by cases h), (fun h => by cases h)⟩⟩, (fun h => by cases h), (fun h => by cases h)⟩⟩ ?_ ?_
          · intro j oj hj ho bb v a w' hJ hv hr hb hdep hS K hK
            obtain ⟨jE, jA, jB⟩ := hJ
            have hj7 : j = 5 ∨ j = 6 ∨ j = 7 ∨ j = 10 ∨ j = 11 ∨ j = 12 ∨ j = 13 := by simpa using hj
            have b13 : bb 13 = false := by
              cases h13 : bb 13 with
              | false => rfl
              | true =>
                obtain ⟨a5, a6, a7, a10, a11, a12⟩ := jA h13
                rcases hj7 with rfl | rfl | rfl | rfl | rfl | rfl | rfl
                · exact absurd (a5.symm.trans hb) (by decide)
                · exact absurd (a6.symm.trans hb) (by decide)
                · exact absurd (a7.symm.trans hb) (by decide)
                · exact absurd (a10.symm.trans hb) (by decide)
                · exact absurd (a11.symm.trans hb) (by decide)
                · exact absurd (a12.symm.trans hb) (by decide)
                · exact absurd (h13.symm.trans hb) (by decide)
            obtain ⟨hB, j5, j6, jg, j7, j12⟩ := jB b13
            have hBs := hB.size
            clear jE jA jB
            try dsimp only at hS
            obtain ⟨s0, s1⟩ := hS
            rcases hj7 with rfl | rfl | rfl | rfl | rfl | rfl | rfl
            · obtain rfl := Option.some.inj ho
              go_simp
              go_at_call 58
              refine (whole_any 0 _).mono ?_
              rintro e u ⟨rfl, hu⟩
              exact hK _ _ ⟨cell_later hu s0, cell_later hu s1⟩ ⟨fun h => absurd (b13.symm.trans h) (by decide), fun h => absurd (b13.symm.trans h) (by decide), fun _ => ⟨hB.trans (hu.mono hBs), fun _ => rfl, j6, jg.call hu, fun h => ⟨rfl, (j7 h).2⟩, fun h => ⟨(j12 h).1, (j12 h).2.imp fun gb k => ⟨k.1, k.2.below hu k.2.lt⟩⟩⟩⟩
            · obtain rfl := Option.some.inj ho
              go_simp
              go_at_call 58
              refine (whole_any (-1) _).mono ?_
              rintro e u ⟨rfl, hu⟩
              exact hK _ _ ⟨cell_later hu s0, cell_later hu s1⟩ ⟨fun h => absurd (b13.symm.trans h) (by decide), fun h => absurd (b13.symm.trans h) (by decide), fun _ => ⟨hB.trans (hu.mono hBs), j5, fun _ => rfl, jg.call hu, fun h => ⟨(j7 h).1, rfl⟩, fun h => ⟨(j12 h).1, (j12 h).2.imp fun gb k => ⟨k.1, k.2.below hu k.2.lt⟩⟩⟩⟩
            · obtain rfl := Option.some.inj ho
              have d0 := hdep 5 (by kernel_rfl)
              have d1 := hdep 6 (by kernel_rfl)
              have e93 : a.tmps[93]?.getD undef = FrV 0 := (get_eval a 93).trans ((hv 93 5 (by decide) d0).trans (j5 d0))
              have e94 : a.tmps[94]?.getD undef = FrV (-1) := (get_eval a 94).trans ((hv 94 6 (by decide) d1).trans (j6 d1))
              go_simp
              have hu : Below w'.heap.size w' (w'.alloc (.cells (frs [0, -1]).toArray 31)) := (Below.refl _ _).alloc (Nat.le_refl _) _
              exact hK _ _ ⟨cell_later hu s0, cell_later hu s1⟩ ⟨fun h => absurd (b13.symm.trans h) (by decide), fun h => absurd (b13.symm.trans h) (by decide), fun _ => ⟨hB.trans (hu.mono hBs), j5, j6, jg.four hb hBs, fun _ => ⟨d0, d1⟩, fun h => ⟨(j12 h).1, (j12 h).2.imp fun gb k => ⟨k.1, k.2.below hu k.2.lt⟩⟩⟩⟩
            · obtain rfl := Option.some.inj ho
              have e97 : a.tmps[97]?.getD undef = .int .i64 cols := (get_eval a 97).trans (hr 97 (by decide))
              go_simp
              go_at_call 36
              refine (zeros_any cols (by omega) _).mono ?_
              rintro e u ⟨g, rfl, _, hg, hu⟩
              exact hK _ _ ⟨cell_later hu s0, cell_later hu s1⟩ ⟨fun h => absurd (b13.symm.trans h) (by decide), fun h => absurd (b13.symm.trans h) (by decide), fun _ => ⟨hB.trans (hu.mono hBs), j5, j6, jg.seven hb hu hg, j7, fun h => ⟨(j12 h).1, (j12 h).2.imp fun gb k => ⟨k.1, k.2.below hu k.2.lt⟩⟩⟩⟩
            · obtain rfl := Option.some.inj ho
              have d4 := hdep 7 (by kernel_rfl)
              have d7 := hdep 10 (by kernel_rfl)
              obtain ⟨g4, g7, h4, h7⟩ := jg.2 hb
              obtain ⟨h4, f4, l4⟩ := h4 d4
              obtain ⟨h7, f7⟩ := h7 d7
              refine step_append_frs (w0 := wd) rfl (.tmp 95) (.tmp 98) rfl g4 g7 cols [0, -1] rfl (by omega) f4 f7 l4 hB ((hv 95 7 (by decide) d4).trans h4) ((hv 98 10 (by decide) d7).trans h7) ?_
              intro v8 u hR
              obtain ⟨g, cap, sp, r1, r2, r3, r4, r5, r6⟩ := hR.out
              refine hK _ _ ⟨cell_low r6 QI.out.lt x2, cell_low r6 MC.out.lt m0⟩ ⟨fun h => absurd (b13.symm.trans h) (by decide), fun h => absurd (b13.symm.trans h) (by decide), fun _ => ⟨r6, j5, j6, ⟨fun _ => ⟨⟨d4, d7⟩, hR.out⟩, fun h => by cases h⟩, j7, fun h => absurd (((j12 h).1).symm.trans hb) (by decide)⟩⟩
            · obtain rfl := Option.some.inj ho
              have d11 := hdep 11 (by kernel_rfl)
              have e99 : a.tmps[99]?.getD undef = v 11 := (get_eval a 99).trans (hv 99 11 (by decide) d11)
              obtain ⟨g, cap, sp, r1, r2, r3, r4, r5, r6⟩ := (jg.1 d11).2
              rw [r1] at e99
              go_simp
              have hu : Below w'.heap.size w' (w'.alloc (.cells #[.slice (some ⟨g, 0, none⟩) (cols + 1 + 1) cap] 32)) := (Below.refl _ _).alloc (Nat.le_refl _) _
              refine hK _ _ ⟨cell_later hu s0, cell_later hu s1⟩ ⟨fun h => absurd (b13.symm.trans h) (by decide), fun h => absurd (b13.symm.trans h) (by decide), fun _ => ⟨hB.trans (hu.mono hBs), j5, j6, jg.call hu, j7, fun _ => ⟨d11, w'.heap.size, rfl, ?_⟩⟩⟩
              show Blk _ _ _ [v 11]
              rw [r1]
              exact (Blk.new w' _ _).at (by simp)
            · obtain rfl := Option.some.inj ho
              have d12 := hdep 12 (by kernel_rfl)
              obtain ⟨d11, gb, h12, b12⟩ := j12 d12
              obtain ⟨⟨d7, d10⟩, hRN⟩ := jg.1 d11
              have one : ∀ u ∈ [v 11], u.oneCell' = true := by
                obtain ⟨g, cap, sp, r1, _⟩ := hRN
                intro u hu
                rw [List.mem_singleton] at hu
                rw [hu, r1]; rfl
              refine step_append_flat rfl (.tmp 92) (.tmp 100) 69 rfl 32 Try.underlying69 info_fsl rfl (by decide) (flat_below OR.out hB) (hr 92 (by decide)) (by have := CI.out.size; omega) ⟨gb, 0, none⟩ 1 1 [v 11] ((hv 100 12 (by decide) d12).trans h12) rfl (news_one b12) one (by decide) (by omega) (by decide) ?_
              intro g2 cap2 u hap
              exact hK _ _ ⟨hap.out.chg.cell NR.out.1 s0, hap.out.chg.cell NR.out.2 s1⟩ ⟨fun _ => ⟨w', v 11, g2, cap2, hRN, hap.out, rfl⟩, fun _ => ⟨(j7 d7).1, (j7 d7).2, d7, d10, d11, d12⟩, fun h => by cases h⟩
          · intro bb v w' hall hJ hS
            obtain ⟨wm, u, g2, cap2, hRN, hap, h13⟩ := hJ.1 (hall 13 (by decide))
            have HAP := Lib.hid hap
            obtain ⟨g, cap, sp, r1, r2, r3, r4, r5, r6⟩ := hRN
            have QM := Lib.hid (QI.out.below r6 QI.out.lt)
            have Q13 := Lib.hid (QM.out.chg hap.chg NR.out.1)
            have IM := Lib.hid (flat_below OI.out r6)
            have RM := Lib.hid (flat_below OR.out r6)
            have BM := Lib.hid (BR.out.below r6)
            have CM := Lib.hid (CI.out.tr r6)
            have GN := Lib.hid (show g ∉ gs from fun h => by
              obtain ⟨ys, hy, _⟩ := BR.out.tag h
              have := hy.lt; omega)
            have EX := Lib.hid (begR_mk0 IM.out QM.out RM.out BM.out CM.out NQ.out.2 r2 r3 r4 (Nat.le_trans CI.out.size r5) GN.out (r1 ▸ hap))
            have q2 := Q13.out.cell (i := 2) rfl
            have qf := Q13.out.free
            clear hap r1 r2 r3 r4 r5 r6 hall hJ hS ok QM IM RM BM CM x2 m0
            simp only [putP, h13]
            go_frame
            refine hd_done (by kernel_rfl) ?_
            simp only [List.drop_succ_cons, List.drop_zero]
            go_wp2
            go_ret
            obtain ⟨us', gs', e1, e2, e3, e4, e5⟩ := EX.out
            have hl := R4.out.hlen
            have hB1 : w1.heap.size ≤ w4.heap.size := CR.out.size
            have hs1 := HSZ.out
            rw [TK.out] at e3
            have e6 := flat_of O4.out e5 (fun k h1 _ e => by omega)
            have D := dic_made (flat_ge e1 hB1) e6 (flat_ge e2 hB1) (e3.ge hB1) e4 (fun k h1 h2 => by have h3 := (OI.out.lt k h1).1; have h4 := (O4.out.lt k h2).2; omega) (by omega) (by simp [insOf]) (by simp [upTo]) (by rw [List.length_append, List.length_map, hl]; rfl) ⟨by simp [insOf]; omega, by simp [upTo]; omega, by rw [List.length_append, List.length_map, hl]; show rn + 1 ≤ 100; omega⟩ (fun z hz => by
              unfold insOf at hz
              obtain ⟨x, hx, rfl⟩ := List.mem_map.1 hz
              have := List.mem_range.1 hx
              omega) (fun z hz => by
              unfold upTo at hz
              obtain ⟨x, hx, rfl⟩ := List.mem_map.1 hz
              have := List.mem_range.1 hx
              show _ ≤ (x : Int) ∧ (x : Int) ≤ _
              omega) (by rw [List.length_append]; exact Nat.succ_pos _)
            have e9 : begD cols rows = ⟨insOf cols rn, upTo c1, rows.map (rowOf cols) ++ [[0, -1] ++ List.replicate cols 0]⟩ := by unfold begD; rw [hl, HC1.out]; rfl
            unfold BegRet
            rw [e9]
            refine ⟨_, _, _, _, _, _, _, _, rfl, D, ?_, B4.out.trans (e5.below (fun x hx e => by omega) (by have := B4.out.size; omega))⟩
            rintro x (rfl | h)
            · exact ⟨by omega, e4.lt⟩
            · exact ⟨by have := h.1; omega, h.2⟩
end Go.Proofs.Ytdegpgonphgbcaa
