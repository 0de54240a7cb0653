/-
  The document's Sub and Cmp.
  The document's Cmp.
-/
import Derived.Test.YtdegpgonphgbcaaZFxX
import Derived.Test.YtdegpgonphgbcaaHeadc
namespace Go.Proofs.Ytdegpgonphgbcaa
open Go.RowKit
theorem cmp_law (xn yn : Int) (xd yd : Nat) (hs : decide (xn < 0) = decide (yn < 0)) : cmpI (xn * (yd : Int)) (yn * (xd : Int)) = if xn < 0 then cmpI ((yn.natAbs * xd : Nat) : Int) ((xn.natAbs * yd : Nat) : Int) else cmpI ((xn.natAbs * yd : Nat) : Int) ((yn.natAbs * xd : Nat) : Int) := by
  have e1 := sv_scale xn.natAbs yd (decide (xn < 0))
  have e2 := sv_scale yn.natAbs xd (decide (yn < 0))
  rw [sv_abs] at e1 e2
  rw [← e1, ← e2, ← hs]
  generalize xn.natAbs * yd = A
  generalize yn.natAbs * xd = B
  unfold sv cmpI
  by_cases h : xn < 0 <;> simp [h] <;> (repeat' split) <;> omega
theorem wd_eq {A B : Nat} (h1 : wh A = wh B) (h2 : wl A = wl B) : A = B := by unfold wh wl at *; omega
theorem cmpI_lt {A B : Nat} (h : A < B) : cmpI (A : Int) (B : Int) = -1 := by unfold cmpI; rw [if_pos (by omega)]
theorem cmpI_eq {A B : Nat} (h : A = B) : cmpI (A : Int) (B : Int) = 0 := by subst h; unfold cmpI; rw [if_neg (by omega), if_pos rfl]
theorem cmpI_gt {A B : Nat} (h : ¬ A < B) (h' : A ≠ B) : cmpI (A : Int) (B : Int) = 1 := by unfold cmpI; rw [if_neg (by omega), if_neg (by omega)]
set_option maxRecDepth 100000 in
set_option maxHeartbeats 16000000 in
theorem rcmp_same (xn yn : Int) (xd yd : Nat) (hx : -1152921504606846976 ≤ xn) (hx1 : xn ≤ 1152921504606846976) (hy : -1152921504606846976 ≤ yn) (hy1 : yn ≤ 1152921504606846976) (kx : 1 ≤ xd) (kx1 : xd ≤ 1152921504606846976) (ky : 1 ≤ yd) (ky1 : yd ≤ 1152921504606846976) (hs : decide (xn < 0) = decide (yn < 0)) (w : World) :
    Calls Try.prog 21 #[.agg #[.int .i64 xn, .int .i64 (xd : Int)], .agg #[.int .i64 yn, .int .i64 (yd : Int)]] w fun e w' => e = .returned (.int .i64 (cmpI (xn * (yd : Int)) (yn * (xd : Int)))) ∧ Below w.heap.size w w' := by
  have m1 := Lib.hid (fun w => mul_any xn.natAbs yd (by omega) (by omega) w); have m2 := Lib.hid (fun w => mul_any yn.natAbs xd (by omega) (by omega) w)
  have b1 := big_mul (A := xn.natAbs) (B := yd) (by omega) ky1
  have b2 := big_mul (A := yn.natAbs) (B := xd) (by omega) kx1
  have LS := Lib.hid (fun w => less_any (xn.natAbs * yd) (yn.natAbs * xd) (by omega) (by omega) w)
  have LT := Lib.hid (fun w => less_any (yn.natAbs * xd) (xn.natAbs * yd) (by omega) (by omega) w)
  clear b1 b2
  have hsb : (decide (xn < 0) == decide (yn < 0)) = true := by simp [hs]
  have CL := Lib.hid (cmp_law xn yn xd yd hs)
  have HS := Lib.hid hs
  clear hs
  have q1 : IntKind.u64.wrap (xd : Int) = (xd : Int) := IntWalk.u64_in _ (by omega)
  have q2 : IntKind.u64.wrap (yd : Int) = (yd : Int) := IntWalk.u64_in _ (by omega)
  have F0 := Lib.hid (Fr.new (Fr.new (Fr.refl w) rfl [.int .i64 xn, .int .i64 (xd : Int)] 31) (by simp) [.int .i64 yn, .int .i64 (yd : Int)] 31)
  go_enter Try.func21, Try.ntmps21
  go_upto_region 5 with fail
  obtain ⟨w0, hw0⟩ : ∃ w0, w0 = (w.alloc (.cells #[.int .i64 xn, .int .i64 (xd : Int)] 31)).alloc (.cells #[.int .i64 yn, .int .i64 (yd : Int)] 31) := ⟨_, rfl⟩
  have F1 := Lib.hid (show Fr w w0 [[.int .i64 xn, .int .i64 (xd : Int)], [.int .i64 yn, .int .i64 (yd : Int)]] from by rw [hw0]; exact F0.out)
  rw [← hw0]
  clear hw0 F0
  have c0 := F1.out.h0.cell 0 _ rfl; have c1 := F1.out.h0.cell 1 _ rfl; have d0 := F1.out.h1.cell 0 _ rfl; have d1 := F1.out.h1.cell 1 _ rfl
  have FF := Lib.hid F1.out.drew
  have g0 := FF.out.h0.cell 0 _ rfl; have g1 := FF.out.h0.cell 1 _ rfl; have g2 := FF.out.h1.cell 0 _ rfl; have g3 := FF.out.h1.cell 1 _ rfl
  have hw0 : w.heap.size + 2 ≤ w0.heap.size := by have := F1.out.size; simpa using this
  go_cut [5, 6] (fun s6 s7 wx => TwoW w [[.int .i64 xn, .int .i64 (xd : Int)], [.int .i64 yn, .int .i64 (yd : Int)]] (xn.natAbs * yd) (yn.natAbs * xd) s6 s7 wx)
  case first => as_aux_lemma =>
    have lw0 : w.heap.size < w0.heap.size := by omega
    have lw1 : w.heap.size + 1 < w0.heap.size := by omega
    have SX := Lib.hid (fun wq => size_any xn (by omega) (by omega) wq); have SY := Lib.hid (fun wq => size_any yn (by omega) (by omega) wq)
    have A0 := Lib.hid (AJ.start (base := w0.heap.size) (w0 := w0) (val := fun _ q => .pointer (some ⟨q, 0, none⟩)) (ty := fun _ => 85) (cs := fun _ => [.int .u64 0, .int .u64 0]) (al := fun i => i = 14 ∨ i = 15) rfl (Below.refl _ w0).drew (fun _ => undef))
    refine hd_start 16 (fun w' => w'.cell? ⟨w.heap.size, 0, none⟩ = some (.int .i64 xn) ∧ w'.cell? ⟨w.heap.size, 1, none⟩ = some (.int .i64 (xd : Int)) ∧ w'.cell? ⟨w.heap.size + 1, 0, none⟩ = some (.int .i64 yn) ∧ w'.cell? ⟨w.heap.size + 1, 1, none⟩ = some (.int .i64 (yd : Int))) (by kernel_rfl) ⟨by kernel_rfl, by kernel_rfl, by kernel_rfl, by decide⟩ (by refine ⟨c0, c1, d0, d1⟩) (fun ok => ?_)
    refine hd_t 0 ok rfl ?_
    go_frame
    refine hd_t 1 ok rfl ?_
    go_frame
    refine hd_t 3 ok rfl ?_
    go_frame
    refine hd_t 4 ok rfl ?_
    go_frame
    refine hd_t 5 ok rfl ?_
    go_frame
    refine hd_t 7 ok rfl ?_
    go_frame
    refine hd_t 8 ok rfl ?_
    go_frame
    refine hd_t 10 ok rfl ?_
    go_frame
    refine hd_t 11 ok rfl ?_
    go_frame
    refine hd_t 12 ok rfl ?_
    go_frame
    refine hd_inv_p [(19, 2), (23, 6), (26, 9), (30, 13), (5, 14), (6, 15)] (fun _ => undef) (fun b v w' => (b 2 = true → v 2 = .int .u64 xn.natAbs) ∧ (b 6 = true → v 6 = .agg #[.int .u64 (wh (xn.natAbs * yd)), .int .u64 (wl (xn.natAbs * yd))]) ∧ (b 9 = true → v 9 = .int .u64 yn.natAbs) ∧ (b 13 = true → v 13 = .agg #[.int .u64 (wh (yn.natAbs * xd)), .int .u64 (wl (yn.natAbs * xd))]) ∧ ∃ q, AJ w0.heap.size w0 (fun _ q => .pointer (some ⟨q, 0, none⟩)) (fun _ => 85) (fun _ => [.int .u64 0, .int .u64 0]) (fun i => i = 14 ∨ i = 15) b v q w') (.inl ok) ⟨by decide, by decide, by kernel_rfl, rfl⟩ (by kernel_rfl) (by kernel_rfl) (by decide) ⟨(fun h => by cases h), (fun h => by cases h), (fun h => by cases h), (fun h => by cases h), _, A0.out⟩ ?_ ?_
    · intro j oj hj ho bb v a w' hJ hv hr hb hdep hS K hK
      obtain ⟨j2, j6, j9, j13, q, jq⟩ := hJ
      have hj6 : j = 2 ∨ j = 6 ∨ j = 9 ∨ j = 13 ∨ j = 14 ∨ j = 15 := by simpa using hj
      try dsimp only at hS
      obtain ⟨s0, s1, s2, s3⟩ := hS
      rcases hj6 with rfl | rfl | rfl | rfl | rfl | rfl
      · obtain rfl := Option.some.inj ho
        have e : a.tmps[18]?.getD undef = .int .i64 xn := (get_eval a 18).trans (hr 18 (by decide))
        go_simp
        go_at_call 48
        refine (SX.out _).mono ?_
        rintro e u ⟨rfl, rfl⟩
        exact hK _ _ ⟨s0, s1, s2, s3⟩ ⟨fun _ => rfl, j6, j9, j13, q, jq.keep (by omega) _⟩
      · obtain rfl := Option.some.inj ho
        have d2 := hdep 2 (by kernel_rfl)
        have e : a.tmps[19]?.getD undef = .int .u64 xn.natAbs := (get_eval a 19).trans ((hv 19 2 (by decide) d2).trans (j2 d2))
        have e' : a.tmps[22]?.getD undef = .int .u64 yd := (get_eval a 22).trans (hr 22 (by decide))
        go_simp
        go_at_call 47
        refine (m1.out _).mono ?_
        rintro e u ⟨rfl, hu⟩
        exact hK _ _ ⟨cell_later hu s0, cell_later hu s1, cell_later hu s2, cell_later hu s3⟩ ⟨j2, fun _ => rfl, j9, j13, q, (jq.call hu).keep (by omega) _⟩
      · obtain rfl := Option.some.inj ho
        have e : a.tmps[25]?.getD undef = .int .i64 yn := (get_eval a 25).trans (hr 25 (by decide))
        go_simp
        go_at_call 48
        refine (SY.out _).mono ?_
        rintro e u ⟨rfl, rfl⟩
        exact hK _ _ ⟨s0, s1, s2, s3⟩ ⟨j2, j6, fun _ => rfl, j13, q, jq.keep (by omega) _⟩
      · obtain rfl := Option.some.inj ho
        have d9 := hdep 9 (by kernel_rfl)
        have e : a.tmps[26]?.getD undef = .int .u64 yn.natAbs := (get_eval a 26).trans ((hv 26 9 (by decide) d9).trans (j9 d9))
        have e' : a.tmps[29]?.getD undef = .int .u64 xd := (get_eval a 29).trans (hr 29 (by decide))
        go_simp
        go_at_call 47
        refine (m2.out _).mono ?_
        rintro e u ⟨rfl, hu⟩
        exact hK _ _ ⟨cell_later hu s0, cell_later hu s1, cell_later hu s2, cell_later hu s3⟩ ⟨j2, j6, j9, fun _ => rfl, q, (jq.call hu).keep (by omega) _⟩
      · obtain rfl := Option.some.inj ho
        go_simp
        have hu : Below w'.heap.size w' (w'.alloc (.cells #[.int .u64 0, .int .u64 0] 85)) := (Below.refl _ _).alloc (Nat.le_refl _) _
        exact hK _ _ ⟨cell_later hu s0, cell_later hu s1, cell_later hu s2, cell_later hu s3⟩ ⟨j2, j6, j9, j13, _, jq.step hb rfl⟩
      · obtain rfl := Option.some.inj ho
        go_simp
        have hu : Below w'.heap.size w' (w'.alloc (.cells #[.int .u64 0, .int .u64 0] 85)) := (Below.refl _ _).alloc (Nat.le_refl _) _
        exact hK _ _ ⟨cell_later hu s0, cell_later hu s1, cell_later hu s2, cell_later hu s3⟩ ⟨j2, j6, j9, j13, _, jq.step hb rfl⟩
    · intro bb v w' hall hJ hS
      obtain ⟨j2, j6, j9, j13, q, jq⟩ := hJ
      have v2 := j2 (hall 2 (by decide)); have v6 := j6 (hall 6 (by decide)); have v9 := j9 (hall 9 (by decide)); have v13 := j13 (hall 13 (by decide))
      obtain ⟨v14, b14, l14⟩ := jq.have_ 14 (.inl rfl) (hall 14 (by decide))
      obtain ⟨v15, b15, l15⟩ := jq.have_ 15 (.inr rfl) (hall 15 (by decide))
      have hne := jq.apart 14 15 (.inl rfl) (.inr rfl) (hall 14 (by decide)) (hall 15 (by decide)) (by decide)
      have FW := Lib.hid (Fr.call (show Below w0.heap.size w0 w' from jq.below) F1.out)
      generalize q 14 = bx at *
      generalize q 15 = by_ at *
      have HX := Lib.hid b14.has; have HY := Lib.hid b15.has
      have x0 := b14.cell (i := 0) rfl; have x1 := b14.cell (i := 1) rfl; have y0 := b15.cell (i := 0) rfl; have y1 := b15.cell (i := 1) rfl
      have xf := b14.free; have yf := b15.free
      have NE := Lib.hid hne; have LB := Lib.hid (show w0.heap.size ≤ bx ∧ w0.heap.size ≤ by_ from ⟨l14, l15⟩)
      have hne' : by_ ≠ bx := fun e => NE.out e.symm
      simp only [putP, v2, v6, v9, v13, v14, v15]
      clear j2 j6 j9 j13 jq v2 v6 v9 v13 v14 v15 b14 b15 l14 l15 hall hS ok A0
      go_frame
      refine hd_done (by kernel_rfl) ?_
      simp only [List.drop_succ_cons, List.drop_zero]
      go_wp2
      go_meet
      refine ⟨bx, by_, rfl, rfl, ?_, ?_, ?_, by have := LB.out; simp; omega, by have := LB.out; simp; omega, NE.out⟩
      · exact Has.other (Has.other ((HX.out.set0 _).set1 _) NE.out) NE.out
      · exact Has.set1 (Has.set0 (Has.other (Has.other HY.out hne') hne') _) _
      · exact Fr.k_set (by have := LB.out; simp; omega) (Fr.k_set (by have := LB.out; simp; omega) (Fr.k_set (by have := LB.out; simp; omega) (Fr.k_set (by have := LB.out; simp; omega) FW.out)))
  case rest =>
    obtain ⟨bx, by_, rfl, rfl, hX, hY, fr, hbx, hby, hne⟩ := hcut
    simp only [List.length_cons, List.length_nil, Nat.zero_add] at hbx hby
    clear c0 c1 d0 d1 g0 g1 g2 g3 FF F1 m1 m2
    have c0 := fr.h0.cell 0 _ rfl
    have x0 := hX.cell 0 _ rfl; have x1 := hX.cell 1 _ rfl; have y0 := hY.cell 0 _ rfl; have y1 := hY.cell 1 _ rfl
    have xf := hX.free; have yf := hY.free
    have hbel := Lib.hid fr.below
    have k0 : bx ≠ w.heap.size := by omega
    have k1 : by_ ≠ w.heap.size := by omega
    have hne' : by_ ≠ bx := Ne.symm hne
    generalize xn.natAbs * yd = A at *
    generalize yn.natAbs * xd = B at *
    have xl := hX.lt (by simp); have yl := hY.lt (by simp)
    by_cases hn : xn < 0
    · have CL' := CL.out
      rw [if_pos hn] at CL'
      have CL := Lib.hid CL'
      clear CL'
      have HX2 : Has ((((wc.setCell ⟨bx, 0, none⟩ (.int .u64 (wh B))).setCell ⟨bx, 1, none⟩ (.int .u64 (wl B))).setCell ⟨by_, 0, none⟩ (.int .u64 (wh A))).setCell ⟨by_, 1, none⟩ (.int .u64 (wl A))) bx [.int .u64 (wh B), .int .u64 (wl B)] := by refine Has.other (Has.other ((hX.set0 _).set1 _) ?_) ?_ <;> simpa using hne
      have HY2 : Has ((((wc.setCell ⟨bx, 0, none⟩ (.int .u64 (wh B))).setCell ⟨bx, 1, none⟩ (.int .u64 (wl B))).setCell ⟨by_, 0, none⟩ (.int .u64 (wh A))).setCell ⟨by_, 1, none⟩ (.int .u64 (wl A))) by_ [.int .u64 (wh A), .int .u64 (wl A)] := by refine Has.set1 (Has.set0 (Has.other (Has.other hY ?_) ?_) _) _ <;> simpa using hne'
      have X0 := Lib.hid (HX2.cell 0 _ rfl); have X1 := Lib.hid (HX2.cell 1 _ rfl); have Y0 := Lib.hid (HY2.cell 0 _ rfl); have Y1 := Lib.hid (HY2.cell 1 _ rfl)
      clear HX2 HY2
      have HB := Lib.hid (show ∀ w9, Below ((((wc.setCell ⟨bx, 0, none⟩ (.int .u64 (wh B))).setCell ⟨bx, 1, none⟩ (.int .u64 (wl B))).setCell ⟨by_, 0, none⟩ (.int .u64 (wh A))).setCell ⟨by_, 1, none⟩ (.int .u64 (wl A))).heap.size ((((wc.setCell ⟨bx, 0, none⟩ (.int .u64 (wh B))).setCell ⟨bx, 1, none⟩ (.int .u64 (wl B))).setCell ⟨by_, 0, none⟩ (.int .u64 (wh A))).setCell ⟨by_, 1, none⟩ (.int .u64 (wl A))) w9 → Below w.heap.size w w9 from fun w9 hb => ((((hbel.out.setCell (by simp; omega) _).setCell (by simp; omega) _).setCell (by simp; omega) _).setCell (by simp; omega) _).trans (hb.mono (by simpa using hbel.out.size)))
      by_cases hl : B < A
      · have hd : decide (B < A) = true := by simpa using hl
        rw [hd] at LT
        have HL := Lib.hid hl; clear hl hd
        go_wp2_with fail
        refine (LT.out _).mono ?_
        rintro e w9 ⟨rfl, hb9⟩
        go_wp2
        go_ret
        exact ⟨ret_int (by rw [CL.out, cmpI_lt HL.out]), HB.out _ hb9⟩
      · have hd : decide (B < A) = false := by simpa using hl
        rw [hd] at LT
        have HL := Lib.hid hl; clear hl hd
        go_wp2_with fail
        refine (LT.out _).mono ?_
        rintro e w9 ⟨rfl, hb9⟩
        have x0 := cell_later hb9 X0.out; have x1 := cell_later hb9 X1.out; have y0 := cell_later hb9 Y0.out; have y1 := cell_later hb9 Y1.out
        go_wp2
        all_goals go_ret
        all_goals refine ⟨ret_int ?_, HB.out _ hb9⟩
        · rw [CL.out, cmpI_eq (wd_eq (by assumption) (by assumption))]
        · rw [CL.out, cmpI_gt HL.out (fun h => (by assumption : ¬ wl B = wl A) (by rw [h]))]
        · rw [CL.out, cmpI_gt HL.out (fun h => (by assumption : ¬ wh B = wh A) (by rw [h]))]
    · have CL' := CL.out
      rw [if_neg hn] at CL'
      have CL := Lib.hid CL'
      clear CL'
      have X0 := Lib.hid x0; have X1 := Lib.hid x1; have Y0 := Lib.hid y0; have Y1 := Lib.hid y1
      have HB := Lib.hid (show ∀ w9, Below wc.heap.size wc w9 → Below w.heap.size w w9 from fun w9 hb => hbel.out.trans (hb.mono hbel.out.size))
      by_cases hl : A < B
      · have hd : decide (A < B) = true := by simpa using hl
        rw [hd] at LS
        have HL := Lib.hid hl; clear hl hd
        go_wp2_with fail
        refine (LS.out _).mono ?_
        rintro e w9 ⟨rfl, hb9⟩
        go_wp2
        go_ret
        exact ⟨ret_int (by rw [CL.out, cmpI_lt HL.out]), HB.out _ hb9⟩
      · have hd : decide (A < B) = false := by simpa using hl
        rw [hd] at LS
        have HL := Lib.hid hl; clear hl hd
        go_wp2_with fail
        refine (LS.out _).mono ?_
        rintro e w9 ⟨rfl, hb9⟩
        have x0 := cell_later hb9 X0.out; have x1 := cell_later hb9 X1.out; have y0 := cell_later hb9 Y0.out; have y1 := cell_later hb9 Y1.out
        go_wp2
        all_goals go_ret
        all_goals refine ⟨ret_int ?_, HB.out _ hb9⟩
        · rw [CL.out, cmpI_eq (wd_eq (by assumption) (by assumption))]
        · rw [CL.out, cmpI_gt HL.out (fun h => (by assumption : ¬ wl A = wl B) (by rw [h]))]
        · rw [CL.out, cmpI_gt HL.out (fun h => (by assumption : ¬ wh A = wh B) (by rw [h]))]
set_option maxRecDepth 100000 in
theorem rcmp_any (xn yn : Int) (xd yd : Nat) (hx : -1152921504606846976 ≤ xn) (hx1 : xn ≤ 1152921504606846976) (hy : -1152921504606846976 ≤ yn) (hy1 : yn ≤ 1152921504606846976) (kx : 1 ≤ xd) (kx1 : xd ≤ 1152921504606846976) (ky : 1 ≤ yd) (ky1 : yd ≤ 1152921504606846976) (w : World) :
    Calls Try.prog 21 #[.agg #[.int .i64 xn, .int .i64 (xd : Int)], .agg #[.int .i64 yn, .int .i64 (yd : Int)]] w fun e w' => e = .returned (.int .i64 (cmpI (xn * (yd : Int)) (yn * (xd : Int)))) ∧ Below w.heap.size w w' := by
  by_cases h : decide (xn < 0) = decide (yn < 0)
  · exact rcmp_same xn yn xd yd hx hx1 hy hy1 kx kx1 ky ky1 h w
  · have hb : (decide (xn < 0) == decide (yn < 0)) = false := by simpa using h
    by_cases hn : xn < 0
    · have hy0 : 0 ≤ yn := by
        rcases (by omega : yn < 0 ∨ 0 ≤ yn) with h1 | h1
        · exact absurd (by simp [hn, h1]) h
        · exact h1
      have e1 : xn * (yd : Int) < 0 := Int.mul_neg_of_neg_of_pos hn (by omega)
      have e2 : 0 ≤ yn * (xd : Int) := Int.mul_nonneg hy0 (by omega)
      have e3 : cmpI (xn * (yd : Int)) (yn * (xd : Int)) = -1 := by unfold cmpI; rw [if_pos (by omega)]
      have E := Lib.hid e3
      have hyn : ¬ yn < 0 := by omega
      clear e1 e2 e3 h hb
      go_enter Try.func21, Try.ntmps21
      go_wp2
      go_returns
      exact ⟨ret_int E.out.symm, by go_grown⟩
    · have hy0 : yn < 0 := by
        rcases (by omega : yn < 0 ∨ 0 ≤ yn) with h1 | h1
        · exact h1
        · exact absurd (by simp [hn]; omega) h
      have e1 : yn * (xd : Int) < 0 := Int.mul_neg_of_neg_of_pos hy0 (by omega)
      have e2 : 0 ≤ xn * (yd : Int) := Int.mul_nonneg (by omega) (by omega)
      have e3 : cmpI (xn * (yd : Int)) (yn * (xd : Int)) = 1 := by unfold cmpI; rw [if_neg (by omega), if_neg (by omega)]
      have E := Lib.hid e3
      clear e1 e2 e3 h hb
      go_enter Try.func21, Try.ntmps21
      go_wp2
      go_returns
      exact ⟨ret_int E.out.symm, by go_grown⟩
end Go.Proofs.Ytdegpgonphgbcaa
