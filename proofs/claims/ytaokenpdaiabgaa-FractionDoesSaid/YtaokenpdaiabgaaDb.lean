/-
  The document's Mul and Div; the law's large. Conditions: sizes at most 2^60, denominators at least 1.
-/
import Derived.Test.YtaokenpdaiabgaaDa
namespace Go.Proofs.Ytaokenpdaiabgaa
open Go.RowKit

theorem cell_set {w : World} {b o g k : Nat} {u v : Value} (hne : g ≠ b) (h : w.cell? ⟨b, o, none⟩ = some v) : (w.setCell ⟨g, k, none⟩ u).cell? ⟨b, o, none⟩ = some v :=
  (World.cell?_setCell_other w ⟨g, k, none⟩ ⟨b, o, none⟩ u (fun e => hne (by cases e; rfl))).trans h
theorem big_mul {A B : Nat} (hA : A ≤ 1152921504606846976) (hB : B ≤ 1152921504606846976) : A * B ≤ 1329227995784915872903807060280344576 := Nat.mul_le_mul hA hB
set_option maxHeartbeats 2000000 in
theorem rmul_any (xn yn : Int) (xd yd : Nat) (hx : -1152921504606846976 ≤ xn) (hx1 : xn ≤ 1152921504606846976) (hy : -1152921504606846976 ≤ yn) (hy1 : yn ≤ 1152921504606846976) (kx : 1 ≤ xd) (kx1 : xd ≤ 1152921504606846976) (ky : 1 ≤ yd) (ky1 : yd ≤ 1152921504606846976) (w : World) :
    Calls Try.prog 26 #[.agg #[.int .i64 xn, .int .i64 (xd : Int)], .agg #[.int .i64 yn, .int .i64 (yd : Int)]] w (Red (xn * yn) ((xd : Int) * (yd : Int)) w) := by
  have b1 := big_mul (A := xn.natAbs) (B := yn.natAbs) (by omega) (by omega)
  have b2 := big_mul kx1 ky1
  have b3 := Nat.mul_pos (show 0 < xd by omega) (show 0 < yd by omega)
  have RD := Lib.hid (show ∀ w, Calls Try.prog 44 #[.bool (decide (xn < 0) != decide (yn < 0)), .agg #[.int .u64 (wh (xn.natAbs * yn.natAbs)), .int .u64 (wl (xn.natAbs * yn.natAbs))], .agg #[.int .u64 (wh (xd * yd)), .int .u64 (wl (xd * yd))]] w (Red (xn * yn) ((xd : Int) * (yd : Int)) w) from fun w => by
    have := reduce_any (decide (xn < 0) != decide (yn < 0)) (xn.natAbs * yn.natAbs) (xd * yd) (by omega) b3 (by omega) w
    rwa [sv_mul, Int.natCast_mul] at this)
  have s1 := Lib.hid (fun w => size_any xn (by omega) (by omega) w); have s2 := Lib.hid (fun w => size_any yn (by omega) (by omega) w)
  have m1 := Lib.hid (fun w => mul_any xn.natAbs yn.natAbs (by omega) (by omega) w); have m2 := Lib.hid (fun w => mul_any xd yd (by omega) (by omega) w)
  have q1 : IntKind.u64.wrap (xd : Int) = (xd : Int) := IntWalk.u64_in _ (by omega)
  have q2 : IntKind.u64.wrap (yd : Int) = (yd : Int) := IntWalk.u64_in _ (by omega)
  clear b1 b2 b3
  have F0 := Lib.hid (Fr.new (Fr.new (Fr.new (Fr.refl w) rfl [.int .i64 xn, .int .i64 (xd : Int)] 24) (by simp) [.int .i64 yn, .int .i64 (yd : Int)] 24) (by simp) [.int .i64 0, .int .i64 0] 24)
  go_enter Try.func26, Try.ntmps26
  go_upto_region 1 with fail
  obtain ⟨w0, hw0⟩ : ∃ w0, w0 = ((w.alloc (.cells #[.int .i64 xn, .int .i64 (xd : Int)] 24)).alloc (.cells #[.int .i64 yn, .int .i64 (yd : Int)] 24)).alloc (.cells #[.int .i64 0, .int .i64 0] 24) := ⟨_, rfl⟩
  have F1 := Lib.hid (show Fr w w0 [[.int .i64 xn, .int .i64 (xd : Int)], [.int .i64 yn, .int .i64 (yd : Int)], [.int .i64 0, .int .i64 0]] from by rw [hw0]; exact F0.out)
  rw [← hw0]
  clear hw0 F0
  have c0 := F1.out.h0.cell 0 _ rfl; have c1 := F1.out.h0.cell 1 _ rfl; have d0 := F1.out.h1.cell 0 _ rfl; have d1 := F1.out.h1.cell 1 _ rfl
  have FF := Lib.hid F1.out.drew
  have g0 := FF.out.h0.cell 0 _ rfl; have g1 := FF.out.h0.cell 1 _ rfl; have g2 := FF.out.h1.cell 0 _ rfl; have g3 := FF.out.h1.cell 1 _ rfl
  go_region_held3 (fun w' => w'.cell? ⟨w.heap.size, 0, none⟩ = some (.int .i64 xn) ∧ w'.cell? ⟨w.heap.size, 1, none⟩ = some (.int .i64 (xd : Int)) ∧ w'.cell? ⟨w.heap.size + 1, 0, none⟩ = some (.int .i64 yn) ∧ w'.cell? ⟨w.heap.size + 1, 1, none⟩ = some (.int .i64 (yd : Int))) (((try dsimp only); (try go_split_ands); (repeat' apply And.intro); all_goals (first | (with_reducible assumption) | (refine cell_later hb8 ?_; with_reducible assumption) | (refine cell_set (by omega) (cell_set (by omega) ?_); with_reducible assumption))))
    (first
      | (go_at_call 36; refine (size_any _ (by omega) (by omega) _).mono ?_; rintro e w' ⟨rfl, rfl⟩)
      | (go_at_call 47; with_reducible refine (m1.out _).mono ?_; rintro e w8 ⟨rfl, hb8⟩; have FF := Lib.hid (Fr.call hb8 FF.out))
      | (go_at_call 47; with_reducible refine (m2.out _).mono ?_; rintro e w8 ⟨rfl, hb8⟩; have FF := Lib.hid (Fr.call hb8 FF.out))
      | (go_at_call 44; refine (RD.out _).mono ?_; rintro e w8 ⟨rfl, hb8⟩; have FF := Lib.hid (Fr.call hb8 FF.out); have r0 := FF.out.h2.cell 0 _ rfl; have r1 := FF.out.h2.cell 1 _ rfl; have rf := FF.out.h2.free; have lr := FF.out.h2.lt (by simp)))
  all_goals
    go_wp2
    exact bodyPost_ret (v := .tuple #[.agg #[.int .i64 (fA (xn * yn) ((xd : Int) * (yd : Int))), .int .i64 (fB (xn * yn) ((xd : Int) * (yd : Int)))], .int .i64 (fE (xn * yn) ((xd : Int) * (yd : Int)))]) (by simp [results, Try.results26, go_sem, r0, r1]) rfl ⟨rfl, FF.out.below.trans (by go_grown)⟩
set_option maxHeartbeats 2000000 in
theorem rdiv_any (xn yn : Int) (xd yd : Nat) (hx : -1152921504606846976 ≤ xn) (hx1 : xn ≤ 1152921504606846976) (hy : -1152921504606846976 ≤ yn) (hy1 : yn ≤ 1152921504606846976) (kx : 1 ≤ xd) (kx1 : xd ≤ 1152921504606846976) (ky : 1 ≤ yd) (ky1 : yd ≤ 1152921504606846976) (hz : yn ≠ 0) (w : World) :
    Calls Try.prog 27 #[.agg #[.int .i64 xn, .int .i64 (xd : Int)], .agg #[.int .i64 yn, .int .i64 (yd : Int)]] w (Red (xn * (yd : Int)) ((xd : Int) * yn) w) := by
  have b1 := big_mul (A := xn.natAbs) (B := yd) (by omega) (by omega)
  have b2 := big_mul (A := xd) (B := yn.natAbs) kx1 (by omega)
  have b3 := Nat.mul_pos (show 0 < xd by omega) (show 0 < yn.natAbs by omega)
  have hdn : (xd : Int) * yn ≠ 0 := Int.mul_ne_zero (by omega) hz
  have RD := Lib.hid (show ∀ w, Calls Try.prog 44 #[.bool (decide (xn < 0) != decide (yn < 0)), .agg #[.int .u64 (wh (xn.natAbs * yd)), .int .u64 (wl (xn.natAbs * yd))], .agg #[.int .u64 (wh (xd * yn.natAbs)), .int .u64 (wl (xd * yn.natAbs))]] w (Red (xn * (yd : Int)) ((xd : Int) * yn) w) from fun w => by
    refine (reduce_any (decide (xn < 0) != decide (yn < 0)) (xn.natAbs * yd) (xd * yn.natAbs) (by omega) b3 (by omega) w).mono fun e w' hr => ?_
    refine Red.of (by omega) hdn ?_ hr
    have h1 := sv_div xn yn
    have h2 : sv (xn.natAbs * yd) (decide (xn < 0) != decide (yn < 0)) = sv xn.natAbs (decide (xn < 0) != decide (yn < 0)) * (yd : Int) := by
      unfold sv
      split
      · rw [Int.natCast_mul, Int.neg_mul]
      · rw [Int.natCast_mul]
    rw [h2, Int.natCast_mul]
    generalize sv xn.natAbs (decide (xn < 0) != decide (yn < 0)) = u at *
    generalize (yn.natAbs : Int) = v at *
    rw [Int.mul_assoc, Int.mul_assoc, Int.mul_left_comm (yd : Int) (xd : Int) yn, Int.mul_left_comm (yd : Int) (xd : Int) v, Int.mul_left_comm u, Int.mul_left_comm xn, Int.mul_left_comm u, Int.mul_left_comm xn, h1])
  have s1 := Lib.hid (fun w => size_any xn (by omega) (by omega) w); have s2 := Lib.hid (fun w => size_any yn (by omega) (by omega) w)
  have m1 := Lib.hid (fun w => mul_any xn.natAbs yd (by omega) (by omega) w); have m2 := Lib.hid (fun w => mul_any xd yn.natAbs (by omega) (by omega) w)
  have q1 : IntKind.u64.wrap (xd : Int) = (xd : Int) := IntWalk.u64_in _ (by omega)
  have q2 : IntKind.u64.wrap (yd : Int) = (yd : Int) := IntWalk.u64_in _ (by omega)
  have hzb : (yn == 0) = false := by simpa using hz
  clear b1 b2 b3 hdn
  have F0 := Lib.hid (Fr.new (Fr.new (Fr.new (Fr.refl w) rfl [.int .i64 xn, .int .i64 (xd : Int)] 24) (by simp) [.int .i64 yn, .int .i64 (yd : Int)] 24) (by simp) [.int .i64 0, .int .i64 0] 24)
  go_enter Try.func27, Try.ntmps27
  go_upto_region 1 with fail
  obtain ⟨w0, hw0⟩ : ∃ w0, w0 = ((w.alloc (.cells #[.int .i64 xn, .int .i64 (xd : Int)] 24)).alloc (.cells #[.int .i64 yn, .int .i64 (yd : Int)] 24)).alloc (.cells #[.int .i64 0, .int .i64 0] 24) := ⟨_, rfl⟩
  have F1 := Lib.hid (show Fr w w0 [[.int .i64 xn, .int .i64 (xd : Int)], [.int .i64 yn, .int .i64 (yd : Int)], [.int .i64 0, .int .i64 0]] from by rw [hw0]; exact F0.out)
  rw [← hw0]
  clear hw0 F0
  have c0 := F1.out.h0.cell 0 _ rfl; have c1 := F1.out.h0.cell 1 _ rfl; have d0 := F1.out.h1.cell 0 _ rfl; have d1 := F1.out.h1.cell 1 _ rfl
  go_upto_region 3 with fail
  have FF := Lib.hid F1.out.drew
  have g0 := FF.out.h0.cell 0 _ rfl; have g1 := FF.out.h0.cell 1 _ rfl; have g2 := FF.out.h1.cell 0 _ rfl; have g3 := FF.out.h1.cell 1 _ rfl
  go_region_held3 (fun w' => w'.cell? ⟨w.heap.size, 0, none⟩ = some (.int .i64 xn) ∧ w'.cell? ⟨w.heap.size, 1, none⟩ = some (.int .i64 (xd : Int)) ∧ w'.cell? ⟨w.heap.size + 1, 0, none⟩ = some (.int .i64 yn) ∧ w'.cell? ⟨w.heap.size + 1, 1, none⟩ = some (.int .i64 (yd : Int))) (((try dsimp only); (try go_split_ands); (repeat' apply And.intro); all_goals (first | (with_reducible assumption) | (refine cell_later hb8 ?_; with_reducible assumption) | (refine cell_set (by omega) (cell_set (by omega) ?_); with_reducible assumption))))
    (first
      | (go_at_call 36; refine (size_any _ (by omega) (by omega) _).mono ?_; rintro e w' ⟨rfl, rfl⟩)
      | (go_at_call 47; with_reducible refine (m1.out _).mono ?_; rintro e w8 ⟨rfl, hb8⟩; have FF := Lib.hid (Fr.call hb8 FF.out))
      | (go_at_call 47; with_reducible refine (m2.out _).mono ?_; rintro e w8 ⟨rfl, hb8⟩; have FF := Lib.hid (Fr.call hb8 FF.out))
      | (go_at_call 44; refine (RD.out _).mono ?_; rintro e w8 ⟨rfl, hb8⟩; have FF := Lib.hid (Fr.call hb8 FF.out); have r0 := FF.out.h2.cell 0 _ rfl; have r1 := FF.out.h2.cell 1 _ rfl; have rf := FF.out.h2.free; have lr := FF.out.h2.lt (by simp)))
  all_goals
    go_wp2
    exact bodyPost_ret (v := .tuple #[.agg #[.int .i64 (fA (xn * (yd : Int)) ((xd : Int) * yn)), .int .i64 (fB (xn * (yd : Int)) ((xd : Int) * yn))], .int .i64 (fE (xn * (yd : Int)) ((xd : Int) * yn))]) (by simp [results, Try.results27, go_sem, r0, r1]) rfl ⟨rfl, FF.out.below.trans (by go_grown)⟩
theorem rdiv_zero (xn : Int) (xd yd : Int) (w : World) :
    Calls Try.prog 27 #[.agg #[.int .i64 xn, .int .i64 xd], .agg #[.int .i64 0, .int .i64 yd]] w fun e w' => e = .returned (.tuple #[.agg #[.int .i64 0, .int .i64 0], .int .i64 36]) ∧ Below w.heap.size w w' := by
  go_enter Try.func27, Try.ntmps27
  go_wp2
  exact bodyPost_ret (v := .tuple #[.agg #[.int .i64 0, .int .i64 0], .int .i64 36]) (by simp [results, Try.results27, go_sem]) rfl ⟨rfl, by go_grown⟩

set_option maxHeartbeats 1000000 in
theorem large_any (a b : Int) (ha : -9223372036854775808 ≤ a) (ha' : a ≤ 9223372036854775807) (hb : -9223372036854775808 ≤ b) (hb' : b ≤ 9223372036854775807) :
    ∃ n : Int, ∃ d : Nat, -1152921504606846976 ≤ n ∧ n ≤ 1152921504606846976 ∧ 1 ≤ d ∧ d ≤ 1152921504606846976 ∧ ∀ w, Calls Try.prog 23 #[.int .i64 a, .int .i64 b] w fun e w' => e = .returned (.agg #[.int .i64 n, .int .i64 (d : Int)]) ∧ Below w.heap.size w w' := by
  have bad : ∀ x n d : Int, x ≠ 0 → (∀ w, Calls Try.prog 19 #[.int .i64 a, .int .i64 b] w fun e w' => e = .returned (.tuple #[.agg #[.int .i64 n, .int .i64 d], .int .i64 x]) ∧ Below w.heap.size w w') → ∀ w, Calls Try.prog 23 #[.int .i64 a, .int .i64 b] w fun e w' => e = .returned (.agg #[.int .i64 1, .int .i64 ((1 : Nat) : Int)]) ∧ Below w.heap.size w w' := fun x n d hx h w => by
    have H := Lib.hid h
    have hxb : (x != 0) = true := by simpa using hx
    clear h
    go_enter Try.func23, Try.ntmps23
    go_wp2_with fail
    refine (H.out _).mono ?_
    rintro e w1 ⟨rfl, hb1⟩
    have F1 := (Fr.call hb1 (Fr.new (Fr.refl w) rfl [.int .i64 0, .int .i64 0] 24))
    have r0 := F1.h0.cell 0 _ rfl; have r1 := F1.h0.cell 1 _ rfl; have rf := F1.h0.free; have lr := F1.h0.lt (by simp)
    go_wp2
    have RR := ((F1.h0.set0 (.int .i64 1)).set1 (.int .i64 1)).old (o := .cells #[.int .i64 n, .int .i64 d] 24) (by simp; omega)
    have u0 := RR.cell 0 _ rfl; have u1 := RR.cell 1 _ rfl
    exact bodyPost_ret (v := .agg #[.int .i64 1, .int .i64 1]) (by simp [results, Try.results23, go_sem, u0, u1, r0, r1]) rfl ⟨rfl, F1.below.trans (by go_grown)⟩
  by_cases h0 : b = 0
  · subst h0
    exact ⟨1, 1, by omega, by omega, by omega, by omega, bad 36 0 0 (by omega) (fun w => rmake_zero a w)⟩
  · cases hf : fits a b with
    | false =>
      refine ⟨1, 1, by omega, by omega, by omega, by omega, bad 4 0 0 (by omega) (fun w => ?_)⟩
      have := rmake_any a b ha ha' hb hb' h0 w
      unfold Red at this
      obtain ⟨e1, e2, e3⟩ := unnamed hf
      rwa [e1, e2, e3] at this
    | true =>
      have hp := fD_pos (a := a) h0
      have hf2 := hf
      unfold fits at hf2
      rw [decide_eq_true_iff] at hf2
      obtain ⟨d, hd⟩ := Int.eq_ofNat_of_zero_le (show 0 ≤ fD a b by omega)
      obtain ⟨e1, e2, e3⟩ := named hf
      refine ⟨fN a b, d, hf2.1, hf2.2.1, by omega, by omega, fun w => ?_⟩
      have H := Lib.hid (fun w => rmake_any a b ha ha' hb hb' h0 w)
      unfold Red at H
      rw [e1, e2, e3, hd] at H
      generalize fN a b = n at *
      clear hf hf2 hp hd e1 e2 e3 bad
      go_enter Try.func23, Try.ntmps23
      go_wp2_with fail
      refine (H.out _).mono ?_
      rintro e w1 ⟨rfl, hb1⟩
      have F1 := (Fr.call hb1 (Fr.new (Fr.refl w) rfl [.int .i64 0, .int .i64 0] 24))
      have r0 := F1.h0.cell 0 _ rfl; have r1 := F1.h0.cell 1 _ rfl; have rf := F1.h0.free; have lr := F1.h0.lt (by simp)
      go_wp2
      have RR := ((F1.h0.set0 (.int .i64 n)).set1 (.int .i64 (d : Int))).old (o := .cells #[.int .i64 n, .int .i64 (d : Int)] 24) (by simp; omega)
      have u0 := RR.cell 0 _ rfl; have u1 := RR.cell 1 _ rfl
      exact bodyPost_ret (v := .agg #[.int .i64 n, .int .i64 (d : Int)]) (by simp [results, Try.results23, go_sem, u0, u1, r0, r1]) rfl ⟨rfl, F1.below.trans (by go_grown)⟩
end Go.Proofs.Ytaokenpdaiabgaa
