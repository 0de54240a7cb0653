/-
  The document's Add.
-/
import Derived.Test.YtaokenpdaiabgaaDk
namespace Go.Proofs.Ytaokenpdaiabgaa
open Go.RowKit

set_option maxHeartbeats 16000000 in
theorem radd_any (xn yn : Int) (xd yd : Nat) (hx : -1152921504606846976 ≤ xn) (hx1 : xn ≤ 1152921504606846976) (hy : -1152921504606846976 ≤ yn) (hy1 : yn ≤ 1152921504606846976) (kx : 1 ≤ xd) (kx1 : xd ≤ 1152921504606846976) (ky : 1 ≤ yd) (ky1 : yd ≤ 1152921504606846976) (w : World) :
    Calls Try.prog 24 #[.agg #[.int .i64 xn, .int .i64 (xd : Int)], .agg #[.int .i64 yn, .int .i64 (yd : Int)]] w (Red (xn * (yd : Int) + yn * (xd : Int)) ((xd : Int) * (yd : Int)) w) := by
  have m1 := Lib.hid (fun w => mul_any xn.natAbs yd (by omega) (by omega) w); have m2 := Lib.hid (fun w => mul_any yn.natAbs xd (by omega) (by omega) w)
  have M3 := Lib.hid (fun w => mul_any xd yd (by omega) (by omega) w)
  have b1 := big_mul (A := xn.natAbs) (B := yd) (by omega) ky1
  have b2 := big_mul (A := yn.natAbs) (B := xd) (by omega) kx1
  have b3 := big_mul kx1 ky1
  have b4 := Nat.mul_pos (show 0 < xd by omega) (show 0 < yd by omega)
  have AD := Lib.hid (fun w => add_any (xn.natAbs * yd) (yn.natAbs * xd) (by omega) w)
  have SB := Lib.hid (fun h w => sub_any (yn.natAbs * xd) (xn.natAbs * yd) (by omega) h w)
  have SA := Lib.hid (fun h w => sub_any (xn.natAbs * yd) (yn.natAbs * xd) (by omega) h w)
  have LS := Lib.hid (fun w => less_any (xn.natAbs * yd) (yn.natAbs * xd) (by omega) (by omega) w)
  have bn : plN (xn.natAbs * yd) (yn.natAbs * xd) (decide (xn < 0)) (decide (yn < 0)) < 170141183460469231731687303715884105728 := by unfold plN; (repeat' split) <;> omega
  have RD := Lib.hid (show ∀ w, Calls Try.prog 44 #[.bool (plS (xn.natAbs * yd) (yn.natAbs * xd) (decide (xn < 0)) (decide (yn < 0))), .agg #[.int .u64 (wh (plN (xn.natAbs * yd) (yn.natAbs * xd) (decide (xn < 0)) (decide (yn < 0)))), .int .u64 (wl (plN (xn.natAbs * yd) (yn.natAbs * xd) (decide (xn < 0)) (decide (yn < 0))))], .agg #[.int .u64 (wh (xd * yd)), .int .u64 (wl (xd * yd))]] w (Red (xn * (yd : Int) + yn * (xd : Int)) ((xd : Int) * (yd : Int)) w) from fun w => by
    have := reduce_any (plS (xn.natAbs * yd) (yn.natAbs * xd) (decide (xn < 0)) (decide (yn < 0))) (plN (xn.natAbs * yd) (yn.natAbs * xd) (decide (xn < 0)) (decide (yn < 0))) (xd * yd) bn b4 (by omega) w
    rwa [add_law, Int.natCast_mul] at this)
  clear b1 b2 b3 b4 bn
  have q1 : IntKind.u64.wrap (xd : Int) = (xd : Int) := IntWalk.u64_in _ (by omega)
  have q2 : IntKind.u64.wrap (yd : Int) = (yd : Int) := IntWalk.u64_in _ (by omega)
  have F0 := Lib.hid (Fr.new (Fr.new (Fr.new (Fr.refl w) rfl [.int .i64 xn, .int .i64 (xd : Int)] 24) (by simp) [.int .i64 yn, .int .i64 (yd : Int)] 24) (by simp) [.int .i64 0, .int .i64 0] 24)
  go_enter Try.func24, Try.ntmps24
  go_upto_region 1 with fail
  obtain ⟨w0, hw0⟩ : ∃ w0, w0 = ((w.alloc (.cells #[.int .i64 xn, .int .i64 (xd : Int)] 24)).alloc (.cells #[.int .i64 yn, .int .i64 (yd : Int)] 24)).alloc (.cells #[.int .i64 0, .int .i64 0] 24) := ⟨_, rfl⟩
  have F1 := Lib.hid (show Fr w w0 [[.int .i64 xn, .int .i64 (xd : Int)], [.int .i64 yn, .int .i64 (yd : Int)], [.int .i64 0, .int .i64 0]] from by rw [hw0]; exact F0.out)
  rw [← hw0]
  clear hw0 F0
  have c0 := F1.out.h0.cell 0 _ rfl; have c1 := F1.out.h0.cell 1 _ rfl; have d0 := F1.out.h1.cell 0 _ rfl; have d1 := F1.out.h1.cell 1 _ rfl
  have FF := Lib.hid F1.out.drew
  have g0 := FF.out.h0.cell 0 _ rfl; have g1 := FF.out.h0.cell 1 _ rfl; have g2 := FF.out.h1.cell 0 _ rfl; have g3 := FF.out.h1.cell 1 _ rfl
  have hw0 : w.heap.size + 3 ≤ w0.heap.size := by have := F1.out.size; simpa using this
  go_cut [6, 7] (fun s6 s7 wx => TwoW w [[.int .i64 xn, .int .i64 (xd : Int)], [.int .i64 yn, .int .i64 (yd : Int)], [.int .i64 0, .int .i64 0]] (xn.natAbs * yd) (yn.natAbs * xd) s6 s7 wx)
  case first => as_aux_lemma =>
    have k0 : w.heap.size < w0.heap.size := by omega
    have k1 : w.heap.size + 1 < w0.heap.size := by omega
    go_region_held3 (fun w' => w'.cell? ⟨w.heap.size, 0, none⟩ = some (.int .i64 xn) ∧ w'.cell? ⟨w.heap.size, 1, none⟩ = some (.int .i64 (xd : Int)) ∧ w'.cell? ⟨w.heap.size + 1, 0, none⟩ = some (.int .i64 yn) ∧ w'.cell? ⟨w.heap.size + 1, 1, none⟩ = some (.int .i64 (yd : Int))) (((try dsimp only); (try go_split_ands); (repeat' apply And.intro); all_goals (repeat (first | (with_reducible assumption) | (with_reducible refine cell_alloc (by first | assumption | omega | (simp; omega)) ?_) | (with_reducible refine cell_set (by omega) ?_) | (with_reducible refine cell_drew ?_)))))
     (first
      | (go_at_call 36; refine (size_any _ (by omega) (by omega) _).mono ?_; rintro e w' ⟨rfl, rfl⟩)
      | (go_at_call 47; with_reducible refine (m1.out _).mono ?_; rintro e w8 ⟨rfl, hb8⟩; have FA := Lib.hid (show Fr w w8 [[.int .i64 xn, .int .i64 (xd : Int)], [.int .i64 yn, .int .i64 (yd : Int)], [.int .i64 0, .int .i64 0]] from Fr.call hb8 (by repeat (first | (with_reducible exact F1.out) | (with_reducible refine Fr.drew ?_) | (with_reducible refine Fr.k_alloc ?_)))); have s8 := hb8.size; simp only [World.size_alloc, World.size_drew] at s8; have g0 := FA.out.h0.cell 0 _ rfl; have g1 := FA.out.h0.cell 1 _ rfl; have g2 := FA.out.h1.cell 0 _ rfl; have g3 := FA.out.h1.cell 1 _ rfl; have l0 := FA.out.h0.lt (by simp); have l1 := FA.out.h1.lt (by simp); (try ((with_reducible (have p1 := ((Has.new w0.drew [.int .u64 0, .int .u64 0] 48).below hb8 (by first | (simp; done) | (simp; omega))).at' (show _ = w0.heap.size from by simp))); have p1a := p1.cell 0 _ rfl; have p1b := p1.cell 1 _ rfl; have p1f := p1.free; have p1l := p1.lt (by simp))); (try ((with_reducible (have p1 := (((Has.new w0 [.int .u64 0, .int .u64 0] 48).drew).below hb8 (by first | (simp; done) | (simp; omega))).at' (show _ = w0.heap.size from by simp))); have p1a := p1.cell 0 _ rfl; have p1b := p1.cell 1 _ rfl; have p1f := p1.free; have p1l := p1.lt (by simp))); (try ((with_reducible (have p1 := ((((Has.new w0 [.int .u64 0, .int .u64 0] 48).old (o := zz) (by simp)).drew).below hb8 (by first | (simp; done) | (simp; omega))).at' (show _ = w0.heap.size from by simp))); have p1a := p1.cell 0 _ rfl; have p1b := p1.cell 1 _ rfl; have p1f := p1.free; have p1l := p1.lt (by simp))); (try ((with_reducible (have p1 := (((Has.new w0 [.int .u64 0, .int .u64 0] 48).drew.old (o := zz) (by simp)).below hb8 (by first | (simp; done) | (simp; omega))).at' (show _ = w0.heap.size from by simp))); have p1a := p1.cell 0 _ rfl; have p1b := p1.cell 1 _ rfl; have p1f := p1.free; have p1l := p1.lt (by simp))); (try ((with_reducible (have p1 := (((Has.new w0.drew [.int .u64 0, .int .u64 0] 48).old (o := zz) (by simp)).below hb8 (by first | (simp; done) | (simp; omega))).at' (show _ = w0.heap.size from by simp))); have p1a := p1.cell 0 _ rfl; have p1b := p1.cell 1 _ rfl; have p1f := p1.free; have p1l := p1.lt (by simp))); (try ((with_reducible (have p2 := (((Has.new (w0.alloc zz) [.int .u64 0, .int .u64 0] 48).drew).below hb8 (by first | (simp; done) | (simp; omega))).at' (show _ = w0.heap.size + 1 from by simp))); have p2a := p2.cell 0 _ rfl; have p2b := p2.cell 1 _ rfl; have p2f := p2.free; have p2l := p2.lt (by simp))); (try ((with_reducible (have p2 := ((Has.new (w0.alloc zz).drew [.int .u64 0, .int .u64 0] 48).below hb8 (by first | (simp; done) | (simp; omega))).at' (show _ = w0.heap.size + 1 from by simp))); have p2a := p2.cell 0 _ rfl; have p2b := p2.cell 1 _ rfl; have p2f := p2.free; have p2l := p2.lt (by simp))); (try ((with_reducible (have p2 := ((Has.new (w0.drew.alloc zz) [.int .u64 0, .int .u64 0] 48).below hb8 (by first | (simp; done) | (simp; omega))).at' (show _ = w0.heap.size + 1 from by simp))); have p2a := p2.cell 0 _ rfl; have p2b := p2.cell 1 _ rfl; have p2f := p2.free; have p2l := p2.lt (by simp))))
      | (go_at_call 47; with_reducible refine (m2.out _).mono ?_; rintro e w9 ⟨rfl, hb9⟩; have FB := Lib.hid (show Fr w w9 [[.int .i64 xn, .int .i64 (xd : Int)], [.int .i64 yn, .int .i64 (yd : Int)], [.int .i64 0, .int .i64 0]] from Fr.call hb9 (by repeat (first | (with_reducible exact FA.out) | (with_reducible refine Fr.drew ?_) | (with_reducible refine Fr.k_alloc ?_)))); have h0 := FB.out.h0.cell 0 _ rfl; have h1 := FB.out.h0.cell 1 _ rfl; have h2 := FB.out.h1.cell 0 _ rfl; have h3 := FB.out.h1.cell 1 _ rfl; have n0 := FB.out.h0.lt (by simp); have n1 := FB.out.h1.lt (by simp); have s9 := hb9.size; (try simp only [World.size_alloc, World.size_drew] at s9); (try ((with_reducible (have r1 := p1.below hb9 p1l)); have r1a := r1.cell 0 _ rfl; have r1b := r1.cell 1 _ rfl; have r1f := r1.free; have r1l := r1.lt (by simp))); (try ((with_reducible (have r1 := (p1.old (o := zz) p1l).below hb9 (by first | (simp; done) | (simp; omega)))); have r1a := r1.cell 0 _ rfl; have r1b := r1.cell 1 _ rfl; have r1f := r1.free; have r1l := r1.lt (by simp))); (try ((with_reducible (have r2 := p2.below hb9 p2l)); have r2a := r2.cell 0 _ rfl; have r2b := r2.cell 1 _ rfl; have r2f := r2.free; have r2l := r2.lt (by simp))); (try ((with_reducible (have r3 := ((Has.new w8 [.int .u64 0, .int .u64 0] 48).below hb9 (by first | (simp; done) | (simp; omega))))); have r3a := r3.cell 0 _ rfl; have r3b := r3.cell 1 _ rfl; have r3f := r3.free; have r3l := r3.lt (by simp))); (try ((with_reducible (have r3 := (((Has.new w8 [.int .u64 0, .int .u64 0] 48).old (o := zz) (by simp)).below hb9 (by first | (simp; done) | (simp; omega))))); have r3a := r3.cell 0 _ rfl; have r3b := r3.cell 1 _ rfl; have r3f := r3.free; have r3l := r3.lt (by simp))); (try ((with_reducible (have r4 := ((Has.new (w8.alloc zz) [.int .u64 0, .int .u64 0] 48).below hb9 (by first | (simp; done) | (simp; omega))).at' (show _ = w8.heap.size + 1 from by simp))); have r4a := r4.cell 0 _ rfl; have r4b := r4.cell 1 _ rfl; have r4f := r4.free; have r4l := r4.lt (by simp)))))
    all_goals
      go_wp2_with fail
      go_meet
      refine ⟨_, _, rfl, rfl, ?_, ?_, ?_, by first | omega | (simp; omega), by first | omega | (simp; omega), by first | omega | (simp; omega)⟩
      · repeat (first | (with_reducible refine Has.k_new2 (by first | (simp; done) | (with_reducible rfl))) | (with_reducible refine Has.k_set2 (u := .int .u64 0) (v := .int .u64 0) ?_) | (with_reducible refine Has.k_set (by omega) ?_) | (with_reducible exact r1) | (with_reducible exact r2) | (with_reducible exact r3) | (with_reducible exact r4) | (with_reducible refine Has.old ?_ (by first | omega | (simp; done) | (simp; omega))))
      · repeat (first | (with_reducible refine Has.k_new2 (by first | (simp; done) | (with_reducible rfl))) | (with_reducible refine Has.k_set2 (u := .int .u64 0) (v := .int .u64 0) ?_) | (with_reducible refine Has.k_set (by omega) ?_) | (with_reducible exact r1) | (with_reducible exact r2) | (with_reducible exact r3) | (with_reducible exact r4) | (with_reducible refine Has.old ?_ (by first | omega | (simp; done) | (simp; omega))))
      · repeat (first | (with_reducible exact FB.out) | (with_reducible refine Fr.k_alloc ?_) | (with_reducible refine Fr.k_set (by simp; omega) ?_))
  case rest =>
    obtain ⟨bx, by_, rfl, rfl, hX, hY, fr, hbx, hby, hne⟩ := hcut
    simp only [List.length_cons, List.length_nil, Nat.zero_add] at hbx hby
    clear c0 c1 d0 d1 g0 g1 g2 g3 FF F1 m1 m2
    have F2 := Lib.hid fr
    have c0 := fr.h0.cell 0 _ rfl; have c1 := fr.h0.cell 1 _ rfl; have d0 := fr.h1.cell 0 _ rfl; have d1 := fr.h1.cell 1 _ rfl
    have lx := hX.lt (by simp); have ly := hY.lt (by simp)
    have HX := Lib.hid hX; have HY := Lib.hid hY
    clear fr hX hY
    go_wp2_with fail
    refine (M3.out _).mono ?_
    rintro e w9 ⟨rfl, hb9⟩
    have F9 := Lib.hid (Fr.call hb9 F2.out)
    have X9 := Lib.hid (HX.out.below hb9 lx); have Y9 := Lib.hid (HY.out.below hb9 ly)
    have s9 := hb9.size
    have l9 : w.heap.size + 3 ≤ w9.heap.size := by have := F9.out.size; simpa using this
    clear F2 HX HY c0 c1 d0 d1 hb9
    have FD := Lib.hid ((F9.out.more (.cells #[.int .u64 (wh (xd * yd)), .int .u64 (wl (xd * yd))] 48)).drew)
    have XD := Lib.hid ((X9.out.old (o := .cells #[.int .u64 (wh (xd * yd)), .int .u64 (wl (xd * yd))] 48) (by omega)).drew)
    have YD := Lib.hid ((Y9.out.old (o := .cells #[.int .u64 (wh (xd * yd)), .int .u64 (wl (xd * yd))] 48) (by omega)).drew)
    have ZD := Lib.hid ((Has.new w9 [.int .u64 (wh (xd * yd)), .int .u64 (wl (xd * yd))] 48).drew)
    have c0 := F9.out.h0.cell 0 _ rfl; have c1 := F9.out.h0.cell 1 _ rfl; have d0 := F9.out.h1.cell 0 _ rfl; have d1 := F9.out.h1.cell 1 _ rfl
    have x0 := X9.out.cell 0 _ rfl; have x1 := X9.out.cell 1 _ rfl; have y0 := Y9.out.cell 0 _ rfl; have y1 := Y9.out.cell 1 _ rfl
    have j0 : w.heap.size < w9.heap.size := by omega
    have j1 : w.heap.size + 1 < w9.heap.size := by omega
    have j2 : w.heap.size + 1 + 1 < w9.heap.size := by omega
    have jx : bx < w9.heap.size := by omega
    have jy : by_ < w9.heap.size := by omega
    have k0 := FD.out.h0.cell 0 _ rfl; have k1 := FD.out.h1.cell 0 _ rfl
    have k2 := XD.out.cell 0 _ rfl; have k3 := XD.out.cell 1 _ rfl; have k4 := YD.out.cell 0 _ rfl; have k5 := YD.out.cell 1 _ rfl; have k6 := ZD.out.cell 0 _ rfl; have k7 := ZD.out.cell 1 _ rfl
    by_cases hs : (decide (xn < 0) = decide (yn < 0))
    · have hsb : (decide (xn < 0) == decide (yn < 0)) = true := by simpa using hs
      have e1 : plN (xn.natAbs * yd) (yn.natAbs * xd) (decide (xn < 0)) (decide (yn < 0)) = xn.natAbs * yd + yn.natAbs * xd := by unfold plN; rw [if_pos hs]
      have e2 : plS (xn.natAbs * yd) (yn.natAbs * xd) (decide (xn < 0)) (decide (yn < 0)) = decide (xn < 0) := by unfold plS; rw [if_pos hs]
      rw [e1, e2] at RD
      clear e1 e2 hs
      go_wp2
      go_region_held3 (fun w' => w'.cell? ⟨w.heap.size, 0, none⟩ = some (.int .i64 xn) ∧ w'.cell? ⟨bx, 0, none⟩ = some (.int .u64 (wh (xn.natAbs * yd))) ∧ w'.cell? ⟨bx, 1, none⟩ = some (.int .u64 (wl (xn.natAbs * yd))) ∧ w'.cell? ⟨by_, 0, none⟩ = some (.int .u64 (wh (yn.natAbs * xd))) ∧ w'.cell? ⟨by_, 1, none⟩ = some (.int .u64 (wl (yn.natAbs * xd))) ∧ w'.cell? ⟨w9.heap.size, 0, none⟩ = some (.int .u64 (wh (xd * yd))) ∧ w'.cell? ⟨w9.heap.size, 1, none⟩ = some (.int .u64 (wl (xd * yd)))) (((try dsimp only); (try go_split_ands); (repeat' apply And.intro); all_goals (repeat (first | (with_reducible assumption) | (refine cell_later hb8 ?_) | (refine cell_later hb7 ?_) | (with_reducible refine cell_set (by omega) ?_)))))
       (first
        | (go_at_call 48; (with_reducible refine (AD.out _).mono ?_); rintro e w7 ⟨rfl, hb7⟩; have s7 := hb7.size; simp only [World.size_alloc, World.size_drew] at s7; have F7 := Lib.hid (Fr.call hb7 FD.out))
        | (go_at_call 44; (with_reducible refine (RD.out _).mono ?_); rintro e w8 ⟨rfl, hb8⟩; have F8 := Lib.hid (Fr.call hb8 F7.out); have r0 := F8.out.h2.cell 0 _ rfl; have r1 := F8.out.h2.cell 1 _ rfl; have rf := F8.out.h2.free; have lr := F8.out.h2.lt (by simp)))
      all_goals
        go_wp2
        exact bodyPost_ret (v := .tuple #[.agg #[.int .i64 (fA (xn * (yd : Int) + yn * (xd : Int)) ((xd : Int) * (yd : Int))), .int .i64 (fB (xn * (yd : Int) + yn * (xd : Int)) ((xd : Int) * (yd : Int)))], .int .i64 (fE (xn * (yd : Int) + yn * (xd : Int)) ((xd : Int) * (yd : Int)))]) (by simp [results, Try.results24, go_sem, r0, r1]) rfl ⟨rfl, F8.out.below.trans (by go_grown)⟩
    · have hsb : (decide (xn < 0) == decide (yn < 0)) = false := by simpa using hs
      by_cases hl : xn.natAbs * yd < yn.natAbs * xd
      · have hlb : decide (xn.natAbs * yd < yn.natAbs * xd) = true := by simpa using hl
        have e1 : plN (xn.natAbs * yd) (yn.natAbs * xd) (decide (xn < 0)) (decide (yn < 0)) = yn.natAbs * xd - xn.natAbs * yd := by unfold plN; rw [if_neg hs, if_pos hl]
        have e2 : plS (xn.natAbs * yd) (yn.natAbs * xd) (decide (xn < 0)) (decide (yn < 0)) = decide (yn < 0) := by unfold plS; rw [if_neg hs, if_pos hl]
        have SU := Lib.hid (SB.out (by omega))
        rw [e1, e2] at RD
        rw [hlb] at LS
        clear e1 e2 hs hlb hl AD SA SB
        go_wp2_with fail
        refine (LS.out _).mono ?_
        rintro e w10 ⟨rfl, hb10⟩
        have FD := Lib.hid (Fr.call hb10 (F9.out.more (.cells #[.int .u64 (wh (xd * yd)), .int .u64 (wl (xd * yd))] 48))).drew
        have XD := Lib.hid ((X9.out.old (o := .cells #[.int .u64 (wh (xd * yd)), .int .u64 (wl (xd * yd))] 48) (by omega)).below hb10 (by simp; omega)).drew
        have YD := Lib.hid ((Y9.out.old (o := .cells #[.int .u64 (wh (xd * yd)), .int .u64 (wl (xd * yd))] 48) (by omega)).below hb10 (by simp; omega)).drew
        have ZD := Lib.hid ((Has.new w9 [.int .u64 (wh (xd * yd)), .int .u64 (wl (xd * yd))] 48).below hb10 (by simp)).drew
        have s10 := hb10.size
        simp only [World.size_alloc] at s10
        clear c0 c1 d0 d1 x0 x1 y0 y1 k0 k1 k2 k3 k4 k5 k6 k7 hb10
        have c0 := FD.out.h0.cell 0 _ rfl; have d0 := FD.out.h1.cell 0 _ rfl; have x0 := XD.out.cell 0 _ rfl; have x1 := XD.out.cell 1 _ rfl; have y0 := YD.out.cell 0 _ rfl; have y1 := YD.out.cell 1 _ rfl; have z0 := ZD.out.cell 0 _ rfl; have z1 := ZD.out.cell 1 _ rfl
        go_wp2
        go_region_held3 (fun w' => w'.cell? ⟨w.heap.size + 1, 0, none⟩ = some (.int .i64 yn) ∧ w'.cell? ⟨bx, 0, none⟩ = some (.int .u64 (wh (xn.natAbs * yd))) ∧ w'.cell? ⟨bx, 1, none⟩ = some (.int .u64 (wl (xn.natAbs * yd))) ∧ w'.cell? ⟨by_, 0, none⟩ = some (.int .u64 (wh (yn.natAbs * xd))) ∧ w'.cell? ⟨by_, 1, none⟩ = some (.int .u64 (wl (yn.natAbs * xd))) ∧ w'.cell? ⟨w9.heap.size, 0, none⟩ = some (.int .u64 (wh (xd * yd))) ∧ w'.cell? ⟨w9.heap.size, 1, none⟩ = some (.int .u64 (wl (xd * yd)))) (((try dsimp only); (try go_split_ands); (repeat' apply And.intro); all_goals (repeat (first | (with_reducible assumption) | (refine cell_later hb8 ?_) | (refine cell_later hb7 ?_) | (with_reducible refine cell_set (by omega) ?_)))))
         (first
          | (go_at_call 50; (with_reducible refine (SU.out _).mono ?_); rintro e w7 ⟨rfl, hb7⟩; have s7 := hb7.size; simp only [World.size_alloc, World.size_drew] at s7; have F7 := Lib.hid (Fr.call hb7 FD.out))
          | (go_at_call 44; (with_reducible refine (RD.out _).mono ?_); rintro e w8 ⟨rfl, hb8⟩; have F8 := Lib.hid (Fr.call hb8 F7.out); have r0 := F8.out.h2.cell 0 _ rfl; have r1 := F8.out.h2.cell 1 _ rfl; have rf := F8.out.h2.free; have lr := F8.out.h2.lt (by simp)))
        all_goals
          go_wp2
          exact bodyPost_ret (v := .tuple #[.agg #[.int .i64 (fA (xn * (yd : Int) + yn * (xd : Int)) ((xd : Int) * (yd : Int))), .int .i64 (fB (xn * (yd : Int) + yn * (xd : Int)) ((xd : Int) * (yd : Int)))], .int .i64 (fE (xn * (yd : Int) + yn * (xd : Int)) ((xd : Int) * (yd : Int)))]) (by simp [results, Try.results24, go_sem, r0, r1]) rfl ⟨rfl, F8.out.below.trans (by go_grown)⟩
      · have hlb : decide (xn.natAbs * yd < yn.natAbs * xd) = false := by simpa using hl
        have e1 : plN (xn.natAbs * yd) (yn.natAbs * xd) (decide (xn < 0)) (decide (yn < 0)) = xn.natAbs * yd - yn.natAbs * xd := by unfold plN; rw [if_neg hs, if_neg hl]
        have e2 : plS (xn.natAbs * yd) (yn.natAbs * xd) (decide (xn < 0)) (decide (yn < 0)) = decide (xn < 0) := by unfold plS; rw [if_neg hs, if_neg hl]
        have SU := Lib.hid (SA.out (by omega))
        rw [e1, e2] at RD
        rw [hlb] at LS
        clear e1 e2 hs hlb hl AD SA SB
        go_wp2_with fail
        refine (LS.out _).mono ?_
        rintro e w10 ⟨rfl, hb10⟩
        have FD := Lib.hid (Fr.call hb10 (F9.out.more (.cells #[.int .u64 (wh (xd * yd)), .int .u64 (wl (xd * yd))] 48))).drew
        have XD := Lib.hid ((X9.out.old (o := .cells #[.int .u64 (wh (xd * yd)), .int .u64 (wl (xd * yd))] 48) (by omega)).below hb10 (by simp; omega)).drew
        have YD := Lib.hid ((Y9.out.old (o := .cells #[.int .u64 (wh (xd * yd)), .int .u64 (wl (xd * yd))] 48) (by omega)).below hb10 (by simp; omega)).drew
        have ZD := Lib.hid ((Has.new w9 [.int .u64 (wh (xd * yd)), .int .u64 (wl (xd * yd))] 48).below hb10 (by simp)).drew
        have s10 := hb10.size
        simp only [World.size_alloc] at s10
        clear c0 c1 d0 d1 x0 x1 y0 y1 k0 k1 k2 k3 k4 k5 k6 k7 hb10
        have c0 := FD.out.h0.cell 0 _ rfl; have d0 := FD.out.h1.cell 0 _ rfl; have x0 := XD.out.cell 0 _ rfl; have x1 := XD.out.cell 1 _ rfl; have y0 := YD.out.cell 0 _ rfl; have y1 := YD.out.cell 1 _ rfl; have z0 := ZD.out.cell 0 _ rfl; have z1 := ZD.out.cell 1 _ rfl
        go_wp2
        go_region_held3 (fun w' => w'.cell? ⟨w.heap.size, 0, none⟩ = some (.int .i64 xn) ∧ w'.cell? ⟨bx, 0, none⟩ = some (.int .u64 (wh (xn.natAbs * yd))) ∧ w'.cell? ⟨bx, 1, none⟩ = some (.int .u64 (wl (xn.natAbs * yd))) ∧ w'.cell? ⟨by_, 0, none⟩ = some (.int .u64 (wh (yn.natAbs * xd))) ∧ w'.cell? ⟨by_, 1, none⟩ = some (.int .u64 (wl (yn.natAbs * xd))) ∧ w'.cell? ⟨w9.heap.size, 0, none⟩ = some (.int .u64 (wh (xd * yd))) ∧ w'.cell? ⟨w9.heap.size, 1, none⟩ = some (.int .u64 (wl (xd * yd)))) (((try dsimp only); (try go_split_ands); (repeat' apply And.intro); all_goals (repeat (first | (with_reducible assumption) | (refine cell_later hb8 ?_) | (refine cell_later hb7 ?_) | (with_reducible refine cell_set (by omega) ?_)))))
         (first
          | (go_at_call 50; (with_reducible refine (SU.out _).mono ?_); rintro e w7 ⟨rfl, hb7⟩; have s7 := hb7.size; simp only [World.size_alloc, World.size_drew] at s7; have F7 := Lib.hid (Fr.call hb7 FD.out))
          | (go_at_call 44; (with_reducible refine (RD.out _).mono ?_); rintro e w8 ⟨rfl, hb8⟩; have F8 := Lib.hid (Fr.call hb8 F7.out); have r0 := F8.out.h2.cell 0 _ rfl; have r1 := F8.out.h2.cell 1 _ rfl; have rf := F8.out.h2.free; have lr := F8.out.h2.lt (by simp)))
        all_goals
          go_wp2
          exact bodyPost_ret (v := .tuple #[.agg #[.int .i64 (fA (xn * (yd : Int) + yn * (xd : Int)) ((xd : Int) * (yd : Int))), .int .i64 (fB (xn * (yd : Int) + yn * (xd : Int)) ((xd : Int) * (yd : Int)))], .int .i64 (fE (xn * (yd : Int) + yn * (xd : Int)) ((xd : Int) * (yd : Int)))]) (by simp [results, Try.results24, go_sem, r0, r1]) rfl ⟨rfl, F8.out.below.trans (by go_grown)⟩
end Go.Proofs.Ytaokenpdaiabgaa
