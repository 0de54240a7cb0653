/-
  The document's Add.
  The document's Sub.
  The document's functions on fractions.
  Sums of small fractions (plain).
-/
import Derived.Test.YtdegpgonphgbcaaZFxX
import Derived.Test.YtdegpgonphgbcaaHeadc
import Derived.Test.YtdegpgonphgbcaaZFxR
import Derived.Test.YtdegpgonphgbcaaZFyDe
import Derived.Test.YtdegpgonphgbcaaZSxP
namespace Go.Proofs.Ytdegpgonphgbcaa
open Go.RowKit
set_option maxRecDepth 100000 in
set_option maxHeartbeats 16000000 in
theorem radd_any (xn yn : Int) (xd yd : Nat) (hx : -1152921504606846976 ≤ xn) (hx1 : xn ≤ 1152921504606846976) (hy : -1152921504606846976 ≤ yn) (hy1 : yn ≤ 1152921504606846976) (kx : 1 ≤ xd) (kx1 : xd ≤ 1152921504606846976) (ky : 1 ≤ yd) (ky1 : yd ≤ 1152921504606846976) (w : World) :
    Calls Try.prog 16 #[.agg #[.int .i64 xn, .int .i64 (xd : Int)], .agg #[.int .i64 yn, .int .i64 (yd : Int)]] w (Red (xn * (yd : Int) + yn * (xd : Int)) ((xd : Int) * (yd : Int)) w) := by
  have m1 := Lib.hid (fun w => mul_any xn.natAbs yd (by omega) (by omega) w); have m2 := Lib.hid (fun w => mul_any yn.natAbs xd (by omega) (by omega) w)
  have M3 := Lib.hid (fun w => mul_any xd yd (by omega) (by omega) w)
  have b1 := big_mul (A := xn.natAbs) (B := yd) (by omega) ky1
  have b2 := big_mul (A := yn.natAbs) (B := xd) (by omega) kx1
  have b3 := big_mul kx1 ky1
  have b4 := Nat.mul_pos (show 0 < xd by omega) (show 0 < yd by omega)
  have AD := Lib.hid (fun w => add_any (xn.natAbs * yd) (yn.natAbs * xd) (by omega) w)
  have SB := Lib.hid (fun h w => sub_any (yn.natAbs * xd) (xn.natAbs * yd) (by omega) h w)
  have SA := Lib.hid (fun h w => sub_any (xn.natAbs * yd) (yn.natAbs * xd) (by omega) h w)
  have LS := Lib.hid (fun w => less_any (xn.natAbs * yd) (yn.natAbs * xd) (by omega) (by omega) w)
  have bn : plN (xn.natAbs * yd) (yn.natAbs * xd) (decide (xn < 0)) (decide (yn < 0)) < 170141183460469231731687303715884105728 := by unfold plN; (repeat' split) <;> omega
  have RD := Lib.hid (show ∀ w, Calls Try.prog 49 #[.bool (plS (xn.natAbs * yd) (yn.natAbs * xd) (decide (xn < 0)) (decide (yn < 0))), .agg #[.int .u64 (wh (plN (xn.natAbs * yd) (yn.natAbs * xd) (decide (xn < 0)) (decide (yn < 0)))), .int .u64 (wl (plN (xn.natAbs * yd) (yn.natAbs * xd) (decide (xn < 0)) (decide (yn < 0))))], .agg #[.int .u64 (wh (xd * yd)), .int .u64 (wl (xd * yd))]] w (Red (xn * (yd : Int) + yn * (xd : Int)) ((xd : Int) * (yd : Int)) w) from fun w => by
    have := reduce_any (plS (xn.natAbs * yd) (yn.natAbs * xd) (decide (xn < 0)) (decide (yn < 0))) (plN (xn.natAbs * yd) (yn.natAbs * xd) (decide (xn < 0)) (decide (yn < 0))) (xd * yd) bn b4 (by omega) w
    rwa [add_law, Int.natCast_mul] at this)
  clear b1 b2 b3 b4 bn
  have q1 : IntKind.u64.wrap (xd : Int) = (xd : Int) := IntWalk.u64_in _ (by omega)
  have q2 : IntKind.u64.wrap (yd : Int) = (yd : Int) := IntWalk.u64_in _ (by omega)
  have F0 := Lib.hid (Fr.new (Fr.new (Fr.new (Fr.refl w) rfl [.int .i64 xn, .int .i64 (xd : Int)] 31) (by simp) [.int .i64 yn, .int .i64 (yd : Int)] 31) (by simp) [.int .i64 0, .int .i64 0] 31)
  go_enter Try.func16, Try.ntmps16
  go_upto_region 1 with fail
  obtain ⟨w0, hw0⟩ : ∃ w0, w0 = ((w.alloc (.cells #[.int .i64 xn, .int .i64 (xd : Int)] 31)).alloc (.cells #[.int .i64 yn, .int .i64 (yd : Int)] 31)).alloc (.cells #[.int .i64 0, .int .i64 0] 31) := ⟨_, rfl⟩
  have F1 := Lib.hid (show Fr w w0 [[.int .i64 xn, .int .i64 (xd : Int)], [.int .i64 yn, .int .i64 (yd : Int)], [.int .i64 0, .int .i64 0]] from by rw [hw0]; exact F0.out)
  rw [← hw0]
  clear hw0 F0
  have c0 := F1.out.h0.cell 0 _ rfl; have c1 := F1.out.h0.cell 1 _ rfl; have d0 := F1.out.h1.cell 0 _ rfl; have d1 := F1.out.h1.cell 1 _ rfl
  have FF := Lib.hid F1.out.drew
  have g0 := FF.out.h0.cell 0 _ rfl; have g1 := FF.out.h0.cell 1 _ rfl; have g2 := FF.out.h1.cell 0 _ rfl; have g3 := FF.out.h1.cell 1 _ rfl
  have hw0 : w.heap.size + 3 ≤ w0.heap.size := by have := F1.out.size; simpa using this
  go_cut [6, 7] (fun s6 s7 wx => TwoW w [[.int .i64 xn, .int .i64 (xd : Int)], [.int .i64 yn, .int .i64 (yd : Int)], [.int .i64 0, .int .i64 0]] (xn.natAbs * yd) (yn.natAbs * xd) s6 s7 wx)
  case first => as_aux_lemma =>
    have lw0 : w.heap.size < w0.heap.size := by omega
    have lw1 : w.heap.size + 1 < w0.heap.size := by omega
    have SX := Lib.hid (fun wq => size_any xn (by omega) (by omega) wq); have SY := Lib.hid (fun wq => size_any yn (by omega) (by omega) wq)
    have A0 := Lib.hid (AJ.start (base := w0.heap.size) (w0 := w0) (val := fun _ q => .pointer (some ⟨q, 0, none⟩)) (ty := fun _ => 85) (cs := fun _ => [.int .u64 0, .int .u64 0]) (al := fun i => i = 14 ∨ i = 15) rfl (Below.refl _ w0).drew (fun _ => undef))
    refine hd_start 16 (fun w' => w'.cell? ⟨w.heap.size, 0, none⟩ = some (.int .i64 xn) ∧ w'.cell? ⟨w.heap.size, 1, none⟩ = some (.int .i64 (xd : Int)) ∧ w'.cell? ⟨w.heap.size + 1, 0, none⟩ = some (.int .i64 yn) ∧ w'.cell? ⟨w.heap.size + 1, 1, none⟩ = some (.int .i64 (yd : Int))) (by kernel_rfl) ⟨by kernel_rfl, by kernel_rfl, by kernel_rfl, by decide⟩ (by refine ⟨c0, c1, d0, d1⟩) (fun ok => ?_)
    refine hd_t 0 ok rfl ?_
    go_frame
    refine hd_t 1 ok rfl ?_
    go_frame
    refine hd_t 3 ok rfl ?_
    go_frame
    refine hd_t 4 ok rfl ?_
    go_frame
    refine hd_t 5 ok rfl ?_
    go_frame
    refine hd_t 7 ok rfl ?_
    go_frame
    refine hd_t 8 ok rfl ?_
    go_frame
    refine hd_t 10 ok rfl ?_
    go_frame
    refine hd_t 11 ok rfl ?_
    go_frame
    refine hd_t 12 ok rfl ?_
    go_frame
    refine hd_inv_p [(11, 2), (15, 6), (18, 9), (22, 13), (6, 14), (7, 15)] (fun _ => undef) (fun b v w' => (b 2 = true → v 2 = .int .u64 xn.natAbs) ∧ (b 6 = true → v 6 = .agg #[.int .u64 (wh (xn.natAbs * yd)), .int .u64 (wl (xn.natAbs * yd))]) ∧ (b 9 = true → v 9 = .int .u64 yn.natAbs) ∧ (b 13 = true → v 13 = .agg #[.int .u64 (wh (yn.natAbs * xd)), .int .u64 (wl (yn.natAbs * xd))]) ∧ ∃ q, AJ w0.heap.size w0 (fun _ q => .pointer (some ⟨q, 0, none⟩)) (fun _ => 85) (fun _ => [.int .u64 0, .int .u64 0]) (fun i => i = 14 ∨ i = 15) b v q w') (.inl ok) ⟨by decide, by decide, by kernel_rfl, rfl⟩ (by kernel_rfl) (by kernel_rfl) (by decide) ⟨(fun h => by cases h), (fun h => by cases h), (fun h => by cases h), (fun h => by cases h), _, A0.out⟩ ?_ ?_
    · intro j oj hj ho bb v a w' hJ hv hr hb hdep hS K hK
      obtain ⟨j2, j6, j9, j13, q, jq⟩ := hJ
      have hj6 : j = 2 ∨ j = 6 ∨ j = 9 ∨ j = 13 ∨ j = 14 ∨ j = 15 := by simpa using hj
      try dsimp only at hS
      obtain ⟨s0, s1, s2, s3⟩ := hS
      rcases hj6 with rfl | rfl | rfl | rfl | rfl | rfl
      · obtain rfl := Option.some.inj ho
        have e : a.tmps[10]?.getD undef = .int .i64 xn := (get_eval a 10).trans (hr 10 (by decide))
        go_simp
        go_at_call 48
        refine (SX.out _).mono ?_
        rintro e u ⟨rfl, rfl⟩
        exact hK _ _ ⟨s0, s1, s2, s3⟩ ⟨fun _ => rfl, j6, j9, j13, q, jq.keep (by omega) _⟩
      · obtain rfl := Option.some.inj ho
        have d2 := hdep 2 (by kernel_rfl)
        have e : a.tmps[11]?.getD undef = .int .u64 xn.natAbs := (get_eval a 11).trans ((hv 11 2 (by decide) d2).trans (j2 d2))
        have e' : a.tmps[14]?.getD undef = .int .u64 yd := (get_eval a 14).trans (hr 14 (by decide))
        go_simp
        go_at_call 47
        refine (m1.out _).mono ?_
        rintro e u ⟨rfl, hu⟩
        exact hK _ _ ⟨cell_later hu s0, cell_later hu s1, cell_later hu s2, cell_later hu s3⟩ ⟨j2, fun _ => rfl, j9, j13, q, (jq.call hu).keep (by omega) _⟩
      · obtain rfl := Option.some.inj ho
        have e : a.tmps[17]?.getD undef = .int .i64 yn := (get_eval a 17).trans (hr 17 (by decide))
        go_simp
        go_at_call 48
        refine (SY.out _).mono ?_
        rintro e u ⟨rfl, rfl⟩
        exact hK _ _ ⟨s0, s1, s2, s3⟩ ⟨j2, j6, fun _ => rfl, j13, q, jq.keep (by omega) _⟩
      · obtain rfl := Option.some.inj ho
        have d9 := hdep 9 (by kernel_rfl)
        have e : a.tmps[18]?.getD undef = .int .u64 yn.natAbs := (get_eval a 18).trans ((hv 18 9 (by decide) d9).trans (j9 d9))
        have e' : a.tmps[21]?.getD undef = .int .u64 xd := (get_eval a 21).trans (hr 21 (by decide))
        go_simp
        go_at_call 47
        refine (m2.out _).mono ?_
        rintro e u ⟨rfl, hu⟩
        exact hK _ _ ⟨cell_later hu s0, cell_later hu s1, cell_later hu s2, cell_later hu s3⟩ ⟨j2, j6, j9, fun _ => rfl, q, (jq.call hu).keep (by omega) _⟩
      · obtain rfl := Option.some.inj ho
        go_simp
        have hu : Below w'.heap.size w' (w'.alloc (.cells #[.int .u64 0, .int .u64 0] 85)) := (Below.refl _ _).alloc (Nat.le_refl _) _
        exact hK _ _ ⟨cell_later hu s0, cell_later hu s1, cell_later hu s2, cell_later hu s3⟩ ⟨j2, j6, j9, j13, _, jq.step hb rfl⟩
      · obtain rfl := Option.some.inj ho
        go_simp
        have hu : Below w'.heap.size w' (w'.alloc (.cells #[.int .u64 0, .int .u64 0] 85)) := (Below.refl _ _).alloc (Nat.le_refl _) _
        exact hK _ _ ⟨cell_later hu s0, cell_later hu s1, cell_later hu s2, cell_later hu s3⟩ ⟨j2, j6, j9, j13, _, jq.step hb rfl⟩
    · intro bb v w' hall hJ hS
      obtain ⟨j2, j6, j9, j13, q, jq⟩ := hJ
      have v2 := j2 (hall 2 (by decide)); have v6 := j6 (hall 6 (by decide)); have v9 := j9 (hall 9 (by decide)); have v13 := j13 (hall 13 (by decide))
      obtain ⟨v14, b14, l14⟩ := jq.have_ 14 (.inl rfl) (hall 14 (by decide))
      obtain ⟨v15, b15, l15⟩ := jq.have_ 15 (.inr rfl) (hall 15 (by decide))
      have hne := jq.apart 14 15 (.inl rfl) (.inr rfl) (hall 14 (by decide)) (hall 15 (by decide)) (by decide)
      have FW := Lib.hid (Fr.call (show Below w0.heap.size w0 w' from jq.below) F1.out)
      generalize q 14 = bx at *
      generalize q 15 = by_ at *
      have HX := Lib.hid b14.has; have HY := Lib.hid b15.has
      have x0 := b14.cell (i := 0) rfl; have x1 := b14.cell (i := 1) rfl; have y0 := b15.cell (i := 0) rfl; have y1 := b15.cell (i := 1) rfl
      have xf := b14.free; have yf := b15.free
      have NE := Lib.hid hne; have LB := Lib.hid (show w0.heap.size ≤ bx ∧ w0.heap.size ≤ by_ from ⟨l14, l15⟩)
      have hne' : by_ ≠ bx := fun e => NE.out e.symm
      simp only [putP, v2, v6, v9, v13, v14, v15]
      clear j2 j6 j9 j13 jq v2 v6 v9 v13 v14 v15 b14 b15 l14 l15 hall hS ok A0
      go_frame
      refine hd_done (by kernel_rfl) ?_
      simp only [List.drop_succ_cons, List.drop_zero]
      go_wp2
      go_meet
      refine ⟨bx, by_, rfl, rfl, ?_, ?_, ?_, by have := LB.out; simp; omega, by have := LB.out; simp; omega, NE.out⟩
      · exact Has.other (Has.other ((HX.out.set0 _).set1 _) NE.out) NE.out
      · exact Has.set1 (Has.set0 (Has.other (Has.other HY.out hne') hne') _) _
      · exact Fr.k_set (by have := LB.out; simp; omega) (Fr.k_set (by have := LB.out; simp; omega) (Fr.k_set (by have := LB.out; simp; omega) (Fr.k_set (by have := LB.out; simp; omega) FW.out)))
  case rest =>
    obtain ⟨bx, by_, rfl, rfl, hX, hY, fr, hbx, hby, hne⟩ := hcut
    simp only [List.length_cons, List.length_nil, Nat.zero_add] at hbx hby
    clear c0 c1 d0 d1 g0 g1 g2 g3 FF F1 m1 m2
    have F2 := Lib.hid fr
    have c0 := fr.h0.cell 0 _ rfl; have c1 := fr.h0.cell 1 _ rfl; have d0 := fr.h1.cell 0 _ rfl; have d1 := fr.h1.cell 1 _ rfl
    have lx := hX.lt (by simp); have ly := hY.lt (by simp)
    have HX := Lib.hid hX; have HY := Lib.hid hY
    clear fr hX hY
    go_wp2_with fail
    refine (M3.out _).mono ?_
    rintro e w9 ⟨rfl, hb9⟩
    have F9 := Lib.hid (Fr.call hb9 F2.out)
    have X9 := Lib.hid (HX.out.below hb9 lx); have Y9 := Lib.hid (HY.out.below hb9 ly)
    have s9 := hb9.size
    have l9 : w.heap.size + 3 ≤ w9.heap.size := by have := F9.out.size; simpa using this
    clear F2 HX HY c0 c1 d0 d1 hb9
    have FD := Lib.hid ((F9.out.more (.cells #[.int .u64 (wh (xd * yd)), .int .u64 (wl (xd * yd))] 85)).drew)
    have XD := Lib.hid ((X9.out.old (o := .cells #[.int .u64 (wh (xd * yd)), .int .u64 (wl (xd * yd))] 85) (by omega)).drew)
    have YD := Lib.hid ((Y9.out.old (o := .cells #[.int .u64 (wh (xd * yd)), .int .u64 (wl (xd * yd))] 85) (by omega)).drew)
    have ZD := Lib.hid ((Has.new w9 [.int .u64 (wh (xd * yd)), .int .u64 (wl (xd * yd))] 85).drew)
    have c0 := F9.out.h0.cell 0 _ rfl; have c1 := F9.out.h0.cell 1 _ rfl; have d0 := F9.out.h1.cell 0 _ rfl; have d1 := F9.out.h1.cell 1 _ rfl
    have x0 := X9.out.cell 0 _ rfl; have x1 := X9.out.cell 1 _ rfl; have y0 := Y9.out.cell 0 _ rfl; have y1 := Y9.out.cell 1 _ rfl
    have j0 : w.heap.size < w9.heap.size := by omega
    have j1 : w.heap.size + 1 < w9.heap.size := by omega
    have j2 : w.heap.size + 1 + 1 < w9.heap.size := by omega
    have jx : bx < w9.heap.size := by omega
    have jy : by_ < w9.heap.size := by omega
    have k0 := FD.out.h0.cell 0 _ rfl; have k1 := FD.out.h1.cell 0 _ rfl
    have k2 := XD.out.cell 0 _ rfl; have k3 := XD.out.cell 1 _ rfl; have k4 := YD.out.cell 0 _ rfl; have k5 := YD.out.cell 1 _ rfl; have k6 := ZD.out.cell 0 _ rfl; have k7 := ZD.out.cell 1 _ rfl
    by_cases hs : (decide (xn < 0) = decide (yn < 0))
    · have hsb : (decide (xn < 0) == decide (yn < 0)) = true := by simpa using hs
      have e1 : plN (xn.natAbs * yd) (yn.natAbs * xd) (decide (xn < 0)) (decide (yn < 0)) = xn.natAbs * yd + yn.natAbs * xd := by unfold plN; rw [if_pos hs]
      have e2 : plS (xn.natAbs * yd) (yn.natAbs * xd) (decide (xn < 0)) (decide (yn < 0)) = decide (xn < 0) := by unfold plS; rw [if_pos hs]
      rw [e1, e2] at RD
      clear e1 e2 hs
      go_wp2
      go_region_held3 (fun w' => w'.cell? ⟨w.heap.size, 0, none⟩ = some (.int .i64 xn) ∧ w'.cell? ⟨bx, 0, none⟩ = some (.int .u64 (wh (xn.natAbs * yd))) ∧ w'.cell? ⟨bx, 1, none⟩ = some (.int .u64 (wl (xn.natAbs * yd))) ∧ w'.cell? ⟨by_, 0, none⟩ = some (.int .u64 (wh (yn.natAbs * xd))) ∧ w'.cell? ⟨by_, 1, none⟩ = some (.int .u64 (wl (yn.natAbs * xd))) ∧ w'.cell? ⟨w9.heap.size, 0, none⟩ = some (.int .u64 (wh (xd * yd))) ∧ w'.cell? ⟨w9.heap.size, 1, none⟩ = some (.int .u64 (wl (xd * yd)))) (((try dsimp only); (try go_split_ands); (repeat' apply And.intro); all_goals (repeat (first | (with_reducible assumption) | (refine cell_later hb8 ?_) | (refine cell_later hb7 ?_) | (with_reducible refine cell_set (by omega) ?_)))))
       (first
        | (go_at_call 50; (with_reducible refine (AD.out _).mono ?_); rintro e w7 ⟨rfl, hb7⟩; have s7 := hb7.size; simp only [World.size_alloc, World.size_drew] at s7; have F7 := Lib.hid (Fr.call hb7 FD.out))
        | (go_at_call 49; (with_reducible refine (RD.out _).mono ?_); rintro e w8 ⟨rfl, hb8⟩; have F8 := Lib.hid (Fr.call hb8 F7.out); have r0 := F8.out.h2.cell 0 _ rfl; have r1 := F8.out.h2.cell 1 _ rfl; have rf := F8.out.h2.free; have lr := F8.out.h2.lt (by simp)))
      all_goals
        go_wp2
        exact bodyPost_ret (v := .tuple #[.agg #[.int .i64 (fA (xn * (yd : Int) + yn * (xd : Int)) ((xd : Int) * (yd : Int))), .int .i64 (fB (xn * (yd : Int) + yn * (xd : Int)) ((xd : Int) * (yd : Int)))], .int .i64 (fE (xn * (yd : Int) + yn * (xd : Int)) ((xd : Int) * (yd : Int)))]) (by simp [results, Try.results16, go_sem, r0, r1]) rfl ⟨rfl, F8.out.below.trans (by go_grown)⟩
    · have hsb : (decide (xn < 0) == decide (yn < 0)) = false := by simpa using hs
      by_cases hl : xn.natAbs * yd < yn.natAbs * xd
      · have hlb : decide (xn.natAbs * yd < yn.natAbs * xd) = true := by simpa using hl
        have e1 : plN (xn.natAbs * yd) (yn.natAbs * xd) (decide (xn < 0)) (decide (yn < 0)) = yn.natAbs * xd - xn.natAbs * yd := by unfold plN; rw [if_neg hs, if_pos hl]
        have e2 : plS (xn.natAbs * yd) (yn.natAbs * xd) (decide (xn < 0)) (decide (yn < 0)) = decide (yn < 0) := by unfold plS; rw [if_neg hs, if_pos hl]
        have SU := Lib.hid (SB.out (by omega))
        rw [e1, e2] at RD
        rw [hlb] at LS
        clear e1 e2 hs hlb hl AD SA SB
        go_wp2_with fail
        refine (LS.out _).mono ?_
        rintro e w10 ⟨rfl, hb10⟩
        have FD := Lib.hid (Fr.call hb10 (F9.out.more (.cells #[.int .u64 (wh (xd * yd)), .int .u64 (wl (xd * yd))] 85))).drew
        have XD := Lib.hid ((X9.out.old (o := .cells #[.int .u64 (wh (xd * yd)), .int .u64 (wl (xd * yd))] 85) (by omega)).below hb10 (by simp; omega)).drew
        have YD := Lib.hid ((Y9.out.old (o := .cells #[.int .u64 (wh (xd * yd)), .int .u64 (wl (xd * yd))] 85) (by omega)).below hb10 (by simp; omega)).drew
        have ZD := Lib.hid ((Has.new w9 [.int .u64 (wh (xd * yd)), .int .u64 (wl (xd * yd))] 85).below hb10 (by simp)).drew
        have s10 := hb10.size
        simp only [World.size_alloc] at s10
        clear c0 c1 d0 d1 x0 x1 y0 y1 k0 k1 k2 k3 k4 k5 k6 k7 hb10
        have c0 := FD.out.h0.cell 0 _ rfl; have d0 := FD.out.h1.cell 0 _ rfl; have x0 := XD.out.cell 0 _ rfl; have x1 := XD.out.cell 1 _ rfl; have y0 := YD.out.cell 0 _ rfl; have y1 := YD.out.cell 1 _ rfl; have z0 := ZD.out.cell 0 _ rfl; have z1 := ZD.out.cell 1 _ rfl
        go_wp2
        go_region_held3 (fun w' => w'.cell? ⟨w.heap.size + 1, 0, none⟩ = some (.int .i64 yn) ∧ w'.cell? ⟨bx, 0, none⟩ = some (.int .u64 (wh (xn.natAbs * yd))) ∧ w'.cell? ⟨bx, 1, none⟩ = some (.int .u64 (wl (xn.natAbs * yd))) ∧ w'.cell? ⟨by_, 0, none⟩ = some (.int .u64 (wh (yn.natAbs * xd))) ∧ w'.cell? ⟨by_, 1, none⟩ = some (.int .u64 (wl (yn.natAbs * xd))) ∧ w'.cell? ⟨w9.heap.size, 0, none⟩ = some (.int .u64 (wh (xd * yd))) ∧ w'.cell? ⟨w9.heap.size, 1, none⟩ = some (.int .u64 (wl (xd * yd)))) (((try dsimp only); (try go_split_ands); (repeat' apply And.intro); all_goals (repeat (first | (with_reducible assumption) | (refine cell_later hb8 ?_) | (refine cell_later hb7 ?_) | (with_reducible refine cell_set (by omega) ?_)))))
         (first
          | (go_at_call 52; (with_reducible refine (SU.out _).mono ?_); rintro e w7 ⟨rfl, hb7⟩; have s7 := hb7.size; simp only [World.size_drew] at s7; have F7 := Lib.hid (Fr.call hb7 FD.out))
          | (go_at_call 49; (with_reducible refine (RD.out _).mono ?_); rintro e w8 ⟨rfl, hb8⟩; have F8 := Lib.hid (Fr.call hb8 F7.out); have r0 := F8.out.h2.cell 0 _ rfl; have r1 := F8.out.h2.cell 1 _ rfl; have rf := F8.out.h2.free; have lr := F8.out.h2.lt (by simp)))
        all_goals
          go_wp2
          exact bodyPost_ret (v := .tuple #[.agg #[.int .i64 (fA (xn * (yd : Int) + yn * (xd : Int)) ((xd : Int) * (yd : Int))), .int .i64 (fB (xn * (yd : Int) + yn * (xd : Int)) ((xd : Int) * (yd : Int)))], .int .i64 (fE (xn * (yd : Int) + yn * (xd : Int)) ((xd : Int) * (yd : Int)))]) (by simp [results, Try.results16, go_sem, r0, r1]) rfl ⟨rfl, F8.out.below.trans (by go_grown)⟩
      · have hlb : decide (xn.natAbs * yd < yn.natAbs * xd) = false := by simpa using hl
        have e1 : plN (xn.natAbs * yd) (yn.natAbs * xd) (decide (xn < 0)) (decide (yn < 0)) = xn.natAbs * yd - yn.natAbs * xd := by unfold plN; rw [if_neg hs, if_neg hl]
        have e2 : plS (xn.natAbs * yd) (yn.natAbs * xd) (decide (xn < 0)) (decide (yn < 0)) = decide (xn < 0) := by unfold plS; rw [if_neg hs, if_neg hl]
        have SU := Lib.hid (SA.out (by omega))
        rw [e1, e2] at RD
        rw [hlb] at LS
        clear e1 e2 hs hlb hl AD SA SB
        go_wp2_with fail
        refine (LS.out _).mono ?_
        rintro e w10 ⟨rfl, hb10⟩
        have FD := Lib.hid (Fr.call hb10 (F9.out.more (.cells #[.int .u64 (wh (xd * yd)), .int .u64 (wl (xd * yd))] 85))).drew
        have XD := Lib.hid ((X9.out.old (o := .cells #[.int .u64 (wh (xd * yd)), .int .u64 (wl (xd * yd))] 85) (by omega)).below hb10 (by simp; omega)).drew
        have YD := Lib.hid ((Y9.out.old (o := .cells #[.int .u64 (wh (xd * yd)), .int .u64 (wl (xd * yd))] 85) (by omega)).below hb10 (by simp; omega)).drew
        have ZD := Lib.hid ((Has.new w9 [.int .u64 (wh (xd * yd)), .int .u64 (wl (xd * yd))] 85).below hb10 (by simp)).drew
        have s10 := hb10.size
        simp only [World.size_alloc] at s10
        clear c0 c1 d0 d1 x0 x1 y0 y1 k0 k1 k2 k3 k4 k5 k6 k7 hb10
        have c0 := FD.out.h0.cell 0 _ rfl; have d0 := FD.out.h1.cell 0 _ rfl; have x0 := XD.out.cell 0 _ rfl; have x1 := XD.out.cell 1 _ rfl; have y0 := YD.out.cell 0 _ rfl; have y1 := YD.out.cell 1 _ rfl; have z0 := ZD.out.cell 0 _ rfl; have z1 := ZD.out.cell 1 _ rfl
        go_wp2
        go_region_held3 (fun w' => w'.cell? ⟨w.heap.size, 0, none⟩ = some (.int .i64 xn) ∧ w'.cell? ⟨bx, 0, none⟩ = some (.int .u64 (wh (xn.natAbs * yd))) ∧ w'.cell? ⟨bx, 1, none⟩ = some (.int .u64 (wl (xn.natAbs * yd))) ∧ w'.cell? ⟨by_, 0, none⟩ = some (.int .u64 (wh (yn.natAbs * xd))) ∧ w'.cell? ⟨by_, 1, none⟩ = some (.int .u64 (wl (yn.natAbs * xd))) ∧ w'.cell? ⟨w9.heap.size, 0, none⟩ = some (.int .u64 (wh (xd * yd))) ∧ w'.cell? ⟨w9.heap.size, 1, none⟩ = some (.int .u64 (wl (xd * yd)))) (((try dsimp only); (try go_split_ands); (repeat' apply And.intro); all_goals (repeat (first | (with_reducible assumption) | (refine cell_later hb8 ?_) | (refine cell_later hb7 ?_) | (with_reducible refine cell_set (by omega) ?_)))))
         (first
          | (go_at_call 52; (with_reducible refine (SU.out _).mono ?_); rintro e w7 ⟨rfl, hb7⟩; have s7 := hb7.size; simp only [World.size_drew] at s7; have F7 := Lib.hid (Fr.call hb7 FD.out))
          | (go_at_call 49; (with_reducible refine (RD.out _).mono ?_); rintro e w8 ⟨rfl, hb8⟩; have F8 := Lib.hid (Fr.call hb8 F7.out); have r0 := F8.out.h2.cell 0 _ rfl; have r1 := F8.out.h2.cell 1 _ rfl; have rf := F8.out.h2.free; have lr := F8.out.h2.lt (by simp)))
        all_goals
          go_wp2
          exact bodyPost_ret (v := .tuple #[.agg #[.int .i64 (fA (xn * (yd : Int) + yn * (xd : Int)) ((xd : Int) * (yd : Int))), .int .i64 (fB (xn * (yd : Int) + yn * (xd : Int)) ((xd : Int) * (yd : Int)))], .int .i64 (fE (xn * (yd : Int) + yn * (xd : Int)) ((xd : Int) * (yd : Int)))]) (by simp [results, Try.results16, go_sem, r0, r1]) rfl ⟨rfl, F8.out.below.trans (by go_grown)⟩
set_option maxRecDepth 100000 in
set_option maxHeartbeats 2000000 in
theorem rsub_any (xn yn : Int) (xd yd : Nat) (hx : -1152921504606846976 ≤ xn) (hx1 : xn ≤ 1152921504606846976) (hy : -1152921504606846976 ≤ yn) (hy1 : yn ≤ 1152921504606846976) (kx : 1 ≤ xd) (kx1 : xd ≤ 1152921504606846976) (ky : 1 ≤ yd) (ky1 : yd ≤ 1152921504606846976) (w : World) :
    Calls Try.prog 40 #[.agg #[.int .i64 xn, .int .i64 (xd : Int)], .agg #[.int .i64 yn, .int .i64 (yd : Int)]] w (Red (xn * (yd : Int) - yn * (xd : Int)) ((xd : Int) * (yd : Int)) w) := by
  have AD := Lib.hid (show ∀ w, Calls Try.prog 16 #[.agg #[.int .i64 xn, .int .i64 (xd : Int)], .agg #[.int .i64 (-yn), .int .i64 (yd : Int)]] w (Red (xn * (yd : Int) - yn * (xd : Int)) ((xd : Int) * (yd : Int)) w) from fun w => by
    have := radd_any xn (-yn) xd yd hx hx1 (by omega) (by omega) kx kx1 ky ky1 w
    rwa [Int.neg_mul, ← Int.sub_eq_add_neg] at this)
  have NG := Lib.hid (fun w => rneg_any yn (yd : Int) (by omega) (by omega) w)
  have F0 := Lib.hid (Fr.new (Fr.new (Fr.new (Fr.refl w) rfl [.int .i64 xn, .int .i64 (xd : Int)] 31) (by simp) [.int .i64 yn, .int .i64 (yd : Int)] 31) (by simp) [.int .i64 0, .int .i64 0] 31)
  go_enter Try.func40, Try.ntmps40
  go_upto_region 1 with fail
  obtain ⟨w0, hw0⟩ : ∃ w0, w0 = ((w.alloc (.cells #[.int .i64 xn, .int .i64 (xd : Int)] 31)).alloc (.cells #[.int .i64 yn, .int .i64 (yd : Int)] 31)).alloc (.cells #[.int .i64 0, .int .i64 0] 31) := ⟨_, rfl⟩
  have F1 := Lib.hid (show Fr w w0 [[.int .i64 xn, .int .i64 (xd : Int)], [.int .i64 yn, .int .i64 (yd : Int)], [.int .i64 0, .int .i64 0]] from by rw [hw0]; exact F0.out)
  rw [← hw0]
  clear hw0 F0
  have FF := Lib.hid F1.out.drew
  have g0 := FF.out.h0.cell 0 _ rfl; have g1 := FF.out.h0.cell 1 _ rfl; have g2 := FF.out.h1.cell 0 _ rfl; have g3 := FF.out.h1.cell 1 _ rfl
  go_region_held3 (fun w' => w'.cell? ⟨w.heap.size, 0, none⟩ = some (.int .i64 xn) ∧ w'.cell? ⟨w.heap.size, 1, none⟩ = some (.int .i64 (xd : Int)) ∧ w'.cell? ⟨w.heap.size + 1, 0, none⟩ = some (.int .i64 yn) ∧ w'.cell? ⟨w.heap.size + 1, 1, none⟩ = some (.int .i64 (yd : Int))) (((try dsimp only); (try go_split_ands); (repeat' apply And.intro); all_goals (repeat (first | (with_reducible assumption) | (refine cell_later hb8 ?_) | (refine cell_later hb7 ?_) | (with_reducible refine cell_set (by omega) ?_)))))
    (first
      | (go_at_call 71; (with_reducible refine (NG.out _).mono ?_); rintro e w7 ⟨rfl, hb7⟩; have F7 := Lib.hid (Fr.call hb7 FF.out))
      | (go_at_call 16; (with_reducible refine (AD.out _).mono ?_); rintro e w8 ⟨rfl, hb8⟩; have F8 := Lib.hid (Fr.call hb8 F7.out); have r0 := F8.out.h2.cell 0 _ rfl; have r1 := F8.out.h2.cell 1 _ rfl; have rf := F8.out.h2.free; have lr := F8.out.h2.lt (by simp)))
  all_goals
    go_wp2
    exact bodyPost_ret (v := .tuple #[.agg #[.int .i64 (fA (xn * (yd : Int) - yn * (xd : Int)) ((xd : Int) * (yd : Int))), .int .i64 (fB (xn * (yd : Int) - yn * (xd : Int)) ((xd : Int) * (yd : Int)))], .int .i64 (fE (xn * (yd : Int) - yn * (xd : Int)) ((xd : Int) * (yd : Int)))]) (by simp [results, Try.results40, go_sem, r0, r1]) rfl ⟨rfl, F8.out.below.trans (by go_grown)⟩
theorem radd (x y : Rat) (hx : Fit x) (hy : Fit y) (hz : Fit (x + y)) (w : World) : Calls Try.prog 16 #[FrV x, FrV y] w (FrTup (x + y) w) := by
  obtain ⟨h1, h2, h3⟩ := fit_named (pden x y) (add_rat x y) hz
  have h := radd_any x.num y.num x.den y.den hx.1 hx.2.1 hy.1 hy.2.1 x.den_pos hx.2.2 y.den_pos hy.2.2 w
  unfold Red at h
  rw [h1, h2, h3] at h
  exact h
theorem rsub (x y : Rat) (hx : Fit x) (hy : Fit y) (hz : Fit (x - y)) (w : World) : Calls Try.prog 40 #[FrV x, FrV y] w (FrTup (x - y) w) := by
  obtain ⟨h1, h2, h3⟩ := fit_named (pden x y) (sub_rat x y) hz
  have h := rsub_any x.num y.num x.den y.den hx.1 hx.2.1 hy.1 hy.2.1 x.den_pos hx.2.2 y.den_pos hy.2.2 w
  unfold Red at h
  rw [h1, h2, h3] at h
  exact h
theorem rmul (x y : Rat) (hx : Fit x) (hy : Fit y) (hz : Fit (x * y)) (w : World) : Calls Try.prog 23 #[FrV x, FrV y] w (FrTup (x * y) w) := by
  obtain ⟨h1, h2, h3⟩ := fit_named (pden x y) (mul_rat x y) hz
  have h := rmul_any x.num y.num x.den y.den hx.1 hx.2.1 hy.1 hy.2.1 x.den_pos hx.2.2 y.den_pos hy.2.2 w
  unfold Red at h
  rw [h1, h2, h3] at h
  exact h
theorem rdiv (x y : Rat) (hn : y ≠ 0) (hx : Fit x) (hy : Fit y) (hz : Fit (x / y)) (w : World) : Calls Try.prog 72 #[FrV x, FrV y] w (FrTup (x / y) w) := by
  obtain ⟨h1, h2, h3⟩ := fit_named (Int.mul_ne_zero (den_ne x) (num_ne hn)) (div_rat (x := x) (y := y)) hz
  have h := rdiv_any x.num y.num x.den y.den hx.1 hx.2.1 hy.1 hy.2.1 x.den_pos hx.2.2 y.den_pos hy.2.2 (num_ne hn) w
  unfold Red at h
  rw [h1, h2, h3] at h
  exact h
theorem rcmp (x y : Rat) (hx : Fit x) (hy : Fit y) (w : World) : Calls Try.prog 21 #[FrV x, FrV y] w fun e w' => e = .returned (.int .i64 (cmpR x y)) ∧ Below w.heap.size w w' := by
  have h := rcmp_any x.num y.num x.den y.den hx.1 hx.2.1 hy.1 hy.2.1 x.den_pos hx.2.2 y.den_pos hy.2.2 w
  rw [cmp_rat] at h
  exact h
def Sm (B : Int) (x : Rat) : Prop := ∃ z : Int, 2520 * x = (z : Rat) ∧ -B ≤ z ∧ z ≤ B
theorem Sm.fit {B : Int} {x : Rat} (h : Sm B x) (hB : B ≤ 1152921504606846976) : Fit x := by
  obtain ⟨z, hz, h0, h1⟩ := h
  have e : Rat.divInt z 2520 = x := by rw [Rat.divInt_eq_div, ← hz]; show 2520 * x / 2520 = x; grind
  obtain ⟨e1, e2⟩ := fND_rat (a := z) (b := 2520) (by decide)
  rw [e] at e1 e2
  have l1 := fN_le (a := z) (b := 2520) (by decide)
  have l2 := fD_le (a := z) (b := 2520) (by decide)
  rw [e1] at l1
  rw [e2] at l2
  have : ((2520 : Int).natAbs : Int) = 2520 := rfl
  exact ⟨by omega, by omega, by omega⟩
theorem Sm.up {B C : Int} {x : Rat} (h : Sm B x) (hB : B ≤ C) : Sm C x := by obtain ⟨z, hz, h0, h1⟩ := h; exact ⟨z, hz, by omega, by omega⟩
theorem Sm.add {B C : Int} {x y : Rat} (h : Sm B x) (k : Sm C y) : Sm (B + C) (x + y) := by
  obtain ⟨z, hz, h0, h1⟩ := h
  obtain ⟨u, hu, k0, k1⟩ := k
  exact ⟨z + u, by rw [Rat.intCast_add, ← hz, ← hu]; grind, by omega, by omega⟩
theorem Sm.mul {B C : Int} {x : Rat} {c : Int} (h : Sm B x) (h0 : -C ≤ c) (h1 : c ≤ C) : Sm (C * B) ((c : Rat) * x) := by
  obtain ⟨z, hz, k0, k1⟩ := h
  have : (c * z).natAbs ≤ C.natAbs * B.natAbs := by rw [Int.natAbs_mul]; exact Nat.mul_le_mul (by omega) (by omega)
  have e : ((C.natAbs * B.natAbs : Nat) : Int) = C * B := by rw [Int.natCast_mul]; congr 1 <;> omega
  exact ⟨c * z, by rw [Rat.intCast_mul, ← hz]; grind, by omega, by omega⟩
theorem Sm.int {c C : Int} (h0 : -C ≤ c) (h1 : c ≤ C) : Sm (2520 * C) (c : Rat) := ⟨2520 * c, by rw [Rat.intCast_mul]; rfl, by omega, by omega⟩
def toR (t : Int × Int) : Rat := Rat.divInt t.1 t.2
def Sml (l : List (Int × Int)) : Prop := ∀ t ∈ l, -10 ≤ t.1 ∧ t.1 ≤ 10 ∧ 1 ≤ t.2 ∧ t.2 ≤ 9
theorem Sml.in63 {l : List (Int × Int)} (h : Sml l) : ∀ t ∈ l, In63 t := fun t ht => by obtain ⟨a, b, c, d⟩ := h t ht; exact ⟨by omega, by omega⟩
theorem toR_val {t : Int × Int} (h : ValB t = true) : (toR t).num = t.1 ∧ ((toR t).den : Int) = t.2 := by
  have h := of_decide_eq_true h
  obtain ⟨a, b, c, d, e⟩ := h
  obtain ⟨e1, e2⟩ := fND_rat (a := t.1) (b := t.2) (by omega)
  obtain ⟨f1, f2⟩ := fND_eq (a := t.1) (b := t.2) (n := t.1) (d := t.2) (by omega) (by omega) e rfl
  unfold toR
  rw [← e1, ← e2, f1, f2]
  exact ⟨rfl, rfl⟩
theorem toR_sm {t : Int × Int} (h0 : -10 ≤ t.1) (h1 : t.1 ≤ 10) (h2 : 1 ≤ t.2) (h3 : t.2 ≤ 9) : Sm 25200 (toR t) := by
  obtain ⟨a, b⟩ := t
  dsimp only at *
  unfold toR
  dsimp only
  rw [Rat.divInt_eq_div]
  have hb : b = 1 ∨ b = 2 ∨ b = 3 ∨ b = 4 ∨ b = 5 ∨ b = 6 ∨ b = 7 ∨ b = 8 ∨ b = 9 := by omega
  rcases hb with rfl | rfl | rfl | rfl | rfl | rfl | rfl | rfl | rfl
  · exact ⟨a * 2520, by rw [Rat.intCast_mul]; grind, by omega, by omega⟩
  · exact ⟨a * 1260, by rw [Rat.intCast_mul]; grind, by omega, by omega⟩
  · exact ⟨a * 840, by rw [Rat.intCast_mul]; grind, by omega, by omega⟩
  · exact ⟨a * 630, by rw [Rat.intCast_mul]; grind, by omega, by omega⟩
  · exact ⟨a * 504, by rw [Rat.intCast_mul]; grind, by omega, by omega⟩
  · exact ⟨a * 420, by rw [Rat.intCast_mul]; grind, by omega, by omega⟩
  · exact ⟨a * 360, by rw [Rat.intCast_mul]; grind, by omega, by omega⟩
  · exact ⟨a * 315, by rw [Rat.intCast_mul]; grind, by omega, by omega⟩
  · exact ⟨a * 280, by rw [Rat.intCast_mul]; grind, by omega, by omega⟩
structure Frs (l : List (Int × Int)) : Prop where
  sml : Sml l
  good : GoodP l
theorem gR_map {l : List (Int × Int)} {i : Nat} {t : Int × Int} (h : l[i]? = some t) : gR (l.map toR) i = toR t := gR_of (by rw [List.getElem?_map, h]; rfl)
theorem Frs.sm {l : List (Int × Int)} (h : Frs l) (i : Nat) : Sm 25200 (gR (l.map toR) i) := by
  by_cases hi : i < l.length
  · have ht : l[i]? = some l[i] := List.getElem?_eq_getElem hi
    rw [gR_map ht]
    obtain ⟨a, b, c, d⟩ := h.sml _ (List.mem_of_getElem? ht)
    exact toR_sm a b c d
  · have : gR (l.map toR) i = 0 := by unfold gR; rw [List.getD_eq_getElem?_getD, List.getElem?_eq_none (by simp; omega)]; rfl
    rw [this]
    exact ⟨0, by simp, by omega, by omega⟩
theorem Frs.get {l : List (Int × Int)} (h : Frs l) {K : Nat → Prop} {w : World} {a : Option Addr} {n c i : Nat} (R : Row RTm 2 K w a n c l) (hi : i < n) : ∃ b o x, a = some ⟨b, o, none⟩ ∧ x = gR (l.map toR) i ∧ w.cell? ⟨b, o + i * 2, none⟩ = some (.int .i64 x.num) ∧ w.cell? ⟨b, o + i * 2 + 1, none⟩ = some (.int .i64 (x.den : Int)) ∧ b < w.heap.size := by
  obtain ⟨b, o, t, rfl, ht, c0, c1, kb, lb⟩ := RTm.get R hi
  obtain ⟨e1, e2⟩ := toR_val (h.good t (List.mem_of_getElem? ht)).2
  refine ⟨b, o, toR t, rfl, (gR_map ht).symm, ?_, ?_, lb⟩
  · rw [e1]; exact c0
  · rw [e2]; exact c1
def dotAt (tm : List (Int × Int)) (xs : List Rat) (k : Nat) : Rat := (tm.take k).foldl (fun s t => s + (t.2 : Rat) * gR xs t.1.toNat) 0
theorem dotAt_succ {tm : List (Int × Int)} {xs : List Rat} {k : Nat} {t : Int × Int} (h : tm[k]? = some t) : dotAt tm xs (k + 1) = dotAt tm xs k + (t.2 : Rat) * gR xs t.1.toNat := by
  unfold dotAt; rw [List.take_add_one, h, List.foldl_append]; rfl
def coefF : List (Int × Int) → Int → Int
  | [], _ => 0
  | t :: l, c => if t.1 = c then t.2 else coefF l c
theorem coefF_le {l : List (Int × Int)} {m : Int} (hm : 0 ≤ m) (h : ∀ t ∈ l, -m ≤ t.2 ∧ t.2 ≤ m) (c : Int) : -m ≤ coefF l c ∧ coefF l c ≤ m := by
  induction l with
  | nil => exact ⟨by show -m ≤ 0; omega, hm⟩
  | cons t l ih =>
    unfold coefF
    split
    · exact h t (List.mem_cons_self ..)
    · exact ih (fun s hs => h s (List.mem_cons_of_mem _ hs))
theorem coefF_drop {l : List (Int × Int)} {k : Nat} {t : Int × Int} (h : l[k]? = some t) (c : Int) : coefF (l.drop k) c = if t.1 = c then t.2 else coefF (l.drop (k + 1)) c := by
  have hk := (List.getElem?_eq_some_iff.1 h)
  obtain ⟨hk, rfl⟩ := hk
  rw [List.drop_eq_getElem_cons hk]; rfl
end Go.Proofs.Ytdegpgonphgbcaa
