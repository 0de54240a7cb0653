/-
  fraction.Add, Sub, Mul, Div: the fraction in lowest terms, or ErrLimit, or ErrZero. Conditions: the fractions' numbers are at most 2^60, the denominators at least 1.
-/
import Derived.Test.YtdegpgonphgbcaaZFxJ
namespace Go.Proofs.Ytdegpgonphgbcaa
open Go.RowKit

theorem product_named (a b : Int) (ha : -1152921504606846976 ≤ a) (ha' : a ≤ 1152921504606846976) (hb : -1152921504606846976 ≤ b) (hb' : b ≤ 1152921504606846976) :
    ∃ (P : Nat) (s : Bool), sv P s = a * b ∧ P < 1329227995784915872903807060280344577 ∧ (b ≠ 0 → a ≠ 0 → 0 < P) ∧ ∀ w, Calls Try.prog 96 #[.int .i64 a, .int .i64 b] w fun e w' => e = .returned (.agg #[.int .u64 (wh P), .int .u64 (wl P), .bool s]) ∧ Below w.heap.size w w' := by
  refine ⟨a.natAbs * b.natAbs, (decide (a < 0) != decide (b < 0)), sv_mul a b, ?_, fun h h' => Nat.mul_pos (by omega) (by omega), fun w => product_any a b (by omega) (by omega) (by omega) (by omega) w⟩
  have := Nat.mul_le_mul (show a.natAbs ≤ 1152921504606846976 by omega) (show b.natAbs ≤ 1152921504606846976 by omega)
  omega
theorem plus_named (A B : Nat) (n o : Bool) (hA : A < 1329227995784915872903807060280344577) (hB : B < 1329227995784915872903807060280344577) :
    ∃ (Q : Nat) (s : Bool), sv Q s = sv A n + sv B o ∧ Q < 170141183460469231731687303715884105728 ∧ ∀ w, Calls Try.prog 94 #[.agg #[.int .u64 (wh A), .int .u64 (wl A), .bool n], .agg #[.int .u64 (wh B), .int .u64 (wl B), .bool o]] w fun e w' => e = .returned (.agg #[.int .u64 (wh Q), .int .u64 (wl Q), .bool s]) ∧ Below w.heap.size w w' :=
  ⟨plN A B n o, plS A B n o, sv_plus A B n o, by unfold plN; (repeat' split) <;> omega, fun w => plus_any A B n o (by omega) (by omega) w⟩
set_option maxHeartbeats 2000000 in
theorem together_plus (xn xd yn yd : Int) (hx : -1152921504606846976 ≤ xn) (hx1 : xn ≤ 1152921504606846976) (hy : -1152921504606846976 ≤ yn) (hy1 : yn ≤ 1152921504606846976) (kx : 1 ≤ xd) (kx1 : xd ≤ 1152921504606846976) (ky : 1 ≤ yd) (ky1 : yd ≤ 1152921504606846976) (w : World) :
    Calls Try.prog 93 #[.agg #[.int .i64 xn, .int .i64 xd], .agg #[.int .i64 yn, .int .i64 yd], .func (.func 94) #[] #[]] w fun e w' => e = .returned (.tuple #[.agg #[.int .i64 (fA (xn * yd + yn * xd) (xd * yd)), .int .i64 (fB (xn * yd + yn * xd) (xd * yd))], .int .i64 (fE (xn * yd + yn * xd) (xd * yd))]) ∧ Below w.heap.size w w' := by
  obtain ⟨P1, s1, e1, b1, _, c1⟩ := product_named xn yd (by omega) (by omega) (by omega) (by omega)
  obtain ⟨P2, s2, e2, b2, _, c2⟩ := product_named yn xd (by omega) (by omega) (by omega) (by omega)
  obtain ⟨P3, s3, e3, b3, p3, c3⟩ := product_named xd yd (by omega) (by omega) (by omega) (by omega)
  obtain ⟨Q, q, e4, b4, c4⟩ := plus_named P1 P2 s1 s2 b1 b2
  have c5 := exact_at Q P3 q s3 (e4.trans (by rw [e1, e2])) e3 b4 (by omega) (p3 (by omega) (by omega))
  have C1 := Lib.hid c1; have C2 := Lib.hid c2; have C3 := Lib.hid c3; have C4 := Lib.hid c4; have C5 := Lib.hid c5
  clear c1 c2 c3 c4 c5 e1 e2 e3 e4 p3
  generalize fA (xn * yd + yn * xd) (xd * yd) = rA at *
  generalize fB (xn * yd + yn * xd) (xd * yd) = rB at *
  generalize fE (xn * yd + yn * xd) (xd * yd) = rE at *
  go_enter Try.func93, Try.ntmps93
  go_wp2_with fail
  have f0 : Fr w _ [[.int .i64 xn, .int .i64 xd], [.int .i64 yn, .int .i64 yd], [.int .i64 0, .int .i64 0]] := (Fr.new (Fr.new (Fr.new (Fr.refl w) rfl [.int .i64 xn, .int .i64 xd] 31) (by simp) [.int .i64 yn, .int .i64 yd] 31) (by simp) [.int .i64 0, .int .i64 0] 31).drew
  go_region_held3 (fun w' => w'.cell? ⟨w.heap.size, 0, none⟩ = some (.int .i64 xn) ∧ w'.cell? ⟨w.heap.size, 1, none⟩ = some (.int .i64 xd) ∧ w'.cell? ⟨w.heap.size + 1, 0, none⟩ = some (.int .i64 yn) ∧ w'.cell? ⟨w.heap.size + 1, 1, none⟩ = some (.int .i64 yd)) (((try dsimp only); (repeat' apply And.intro); all_goals (first | go_keep | (refine cell_later hb4 ?_; first | assumption | go_keep) | go_cell)))
    (first | (go_at_call 96; (with_reducible refine (C1.out _).mono ?_); rintro e w4 ⟨rfl, hb4⟩; have fr4 := Fr.call hb4 (by assumption); have t4 := fr4.h2; have q0 := t4.cell 0 _ rfl; have q1 := t4.cell 1 _ rfl; have qf := t4.free) | (go_at_call 96; (with_reducible refine (C2.out _).mono ?_); rintro e w4 ⟨rfl, hb4⟩; have fr4 := Fr.call hb4 (by assumption); have t4 := fr4.h2; have q0 := t4.cell 0 _ rfl; have q1 := t4.cell 1 _ rfl; have qf := t4.free) | (go_at_call 96; (with_reducible refine (C3.out _).mono ?_); rintro e w4 ⟨rfl, hb4⟩; have fr4 := Fr.call hb4 (by assumption); have t4 := fr4.h2; have q0 := t4.cell 0 _ rfl; have q1 := t4.cell 1 _ rfl; have qf := t4.free) | (go_at_call 94; (with_reducible refine (C4.out _).mono ?_); rintro e w4 ⟨rfl, hb4⟩; have fr4 := Fr.call hb4 (by assumption); have t4 := fr4.h2; have q0 := t4.cell 0 _ rfl; have q1 := t4.cell 1 _ rfl; have qf := t4.free) | (go_at_call 95; (with_reducible refine (C5.out _).mono ?_); rintro e w4 ⟨rfl, hb4⟩; have fr4 := Fr.call hb4 (by assumption); have t4 := fr4.h2; have q0 := t4.cell 0 _ rfl; have q1 := t4.cell 1 _ rfl; have qf := t4.free))
  go_wp2
  exact bodyPost_ret (v := .tuple #[.agg #[.int .i64 rA, .int .i64 rB], .int .i64 rE]) (by simp [results, Try.results93, go_sem, q0, q1]) rfl ⟨rfl, fr4.below.trans (by go_grown)⟩

set_option maxHeartbeats 2000000 in
theorem frac_add (xn xd yn yd : Int) (hx : -1152921504606846976 ≤ xn) (hx1 : xn ≤ 1152921504606846976) (hy : -1152921504606846976 ≤ yn) (hy1 : yn ≤ 1152921504606846976) (kx : 1 ≤ xd) (kx1 : xd ≤ 1152921504606846976) (ky : 1 ≤ yd) (ky1 : yd ≤ 1152921504606846976) (w : World) :
    Calls Try.prog 80 #[.agg #[.int .i64 xn, .int .i64 xd], .agg #[.int .i64 yn, .int .i64 yd]] w fun e w' => e = .returned (.tuple #[.agg #[.int .i64 (fA (xn * yd + yn * xd) (xd * yd)), .int .i64 (fB (xn * yd + yn * xd) (xd * yd))], .int .i64 (fE (xn * yd + yn * xd) (xd * yd))]) ∧ Below w.heap.size w w' := by
  have hx0 : (xd == 0) = false := by simp; omega
  have hy0 : (yd == 0) = false := by simp; omega
  have hp := Int.mul_pos (show 0 < xd by omega) (show 0 < yd by omega)
  by_cases h : (-1073741824 ≤ xn ∧ xn ≤ 1073741824) ∧ (-1073741824 ≤ yn ∧ yn ≤ 1073741824) ∧ xd ≤ 1073741824 ∧ yd ≤ 1073741824
  · obtain ⟨⟨a1, a2⟩, ⟨a3, a4⟩, a5, a6⟩ := h
    have m1 := mul_small (x := xn) (y := yd) (by omega) (by omega) (by omega) (by omega)
    have m2 := mul_small (x := yn) (y := xd) (by omega) (by omega) (by omega) (by omega)
    have m3 := mul_small (x := xd) (y := yd) (by omega) (by omega) (by omega) (by omega)
    have L := Lib.hid (lowest_any (xn * yd + yn * xd) (xd * yd) (by omega) (by omega) (by omega) (by omega) (by omega))
    have EY := Lib.hid (easy_yes xn xd yn yd hx hx1 hy hy1 kx kx1 ky ky1 ⟨⟨a1, a2⟩, ⟨a3, a4⟩, a5, a6⟩)
    generalize fA (xn * yd + yn * xd) (xd * yd) = rA at *
    generalize fB (xn * yd + yn * xd) (xd * yd) = rB at *
    generalize fE (xn * yd + yn * xd) (xd * yd) = rE at *
    go_enter Try.func80, Try.ntmps80
    go_wp2_with fail
    refine (EY.out _).mono ?_
    rintro e w1 ⟨rfl, hb1⟩
    have f0 : Fr w w1 [[.int .i64 xn, .int .i64 xd], [.int .i64 yn, .int .i64 yd], [.int .i64 0, .int .i64 0]] := Fr.call hb1 (Fr.new (Fr.new (Fr.new (Fr.refl w) rfl [.int .i64 xn, .int .i64 xd] 31) (by simp) [.int .i64 yn, .int .i64 yd] 31) (by simp) [.int .i64 0, .int .i64 0] 31)
    have ta := f0.h0; have tb := f0.h1
    have x0 := ta.cell 0 _ rfl; have x1 := ta.cell 1 _ rfl
    have y0 := tb.cell 0 _ rfl; have y1 := tb.cell 1 _ rfl
    go_wp2_with fail
    refine (L.out _).mono ?_
    rintro e w4 ⟨rfl, hb4⟩
    have fr4 := Fr.call hb4 f0
    have t4 := fr4.h2
    have q0 := t4.cell 0 _ rfl; have q1 := t4.cell 1 _ rfl; have qf := t4.free
    go_wp2
    exact bodyPost_ret (v := .tuple #[.agg #[.int .i64 rA, .int .i64 rB], .int .i64 rE]) (by simp [results, Try.results80, go_sem, q0, q1]) rfl ⟨rfl, fr4.below.trans (by go_grown)⟩
  · have TG := Lib.hid (together_plus xn xd yn yd hx hx1 hy hy1 kx kx1 ky ky1)
    have EN := Lib.hid (easy_no xn xd yn yd hx hx1 hy hy1 kx kx1 ky ky1 h)
    clear h
    generalize fA (xn * yd + yn * xd) (xd * yd) = rA at *
    generalize fB (xn * yd + yn * xd) (xd * yd) = rB at *
    generalize fE (xn * yd + yn * xd) (xd * yd) = rE at *
    go_enter Try.func80, Try.ntmps80
    go_wp2_with fail
    refine (EN.out _).mono ?_
    rintro e w1 ⟨rfl, hb1⟩
    have f0 : Fr w w1 [[.int .i64 xn, .int .i64 xd], [.int .i64 yn, .int .i64 yd], [.int .i64 0, .int .i64 0]] := Fr.call hb1 (Fr.new (Fr.new (Fr.new (Fr.refl w) rfl [.int .i64 xn, .int .i64 xd] 31) (by simp) [.int .i64 yn, .int .i64 yd] 31) (by simp) [.int .i64 0, .int .i64 0] 31)
    have ta := f0.h0; have tb := f0.h1
    have x0 := ta.cell 0 _ rfl; have x1 := ta.cell 1 _ rfl
    have y0 := tb.cell 0 _ rfl; have y1 := tb.cell 1 _ rfl
    go_wp2_with fail
    refine (TG.out _).mono ?_
    rintro e w4 ⟨rfl, hb4⟩
    have fr4 := Fr.call hb4 f0
    have t4 := fr4.h2
    have q0 := t4.cell 0 _ rfl; have q1 := t4.cell 1 _ rfl; have qf := t4.free
    go_wp2
    exact bodyPost_ret (v := .tuple #[.agg #[.int .i64 rA, .int .i64 rB], .int .i64 rE]) (by simp [results, Try.results80, go_sem, q0, q1]) rfl ⟨rfl, fr4.below.trans (by go_grown)⟩

set_option maxHeartbeats 2000000 in
theorem frac_mul (xn xd yn yd : Int) (hx : -1152921504606846976 ≤ xn) (hx1 : xn ≤ 1152921504606846976) (hy : -1152921504606846976 ≤ yn) (hy1 : yn ≤ 1152921504606846976) (kx : 1 ≤ xd) (kx1 : xd ≤ 1152921504606846976) (ky : 1 ≤ yd) (ky1 : yd ≤ 1152921504606846976)  (w : World) :
    Calls Try.prog 81 #[.agg #[.int .i64 xn, .int .i64 xd], .agg #[.int .i64 yn, .int .i64 yd]] w fun e w' => e = .returned (.tuple #[.agg #[.int .i64 (fA (xn * yn) (xd * yd)), .int .i64 (fB (xn * yn) (xd * yd))], .int .i64 (fE (xn * yn) (xd * yd))]) ∧ Below w.heap.size w w' := by
  have hx0 : (xd == 0) = false := by simp; omega
  have hy0 : (yd == 0) = false := by simp; omega
  
  have hp : xd * yd ≠ 0 := Int.mul_ne_zero (by omega) (by omega)
  by_cases h : (-1073741824 ≤ xn ∧ xn ≤ 1073741824) ∧ (-1073741824 ≤ yn ∧ yn ≤ 1073741824) ∧ xd ≤ 1073741824 ∧ yd ≤ 1073741824
  · obtain ⟨⟨a1, a2⟩, ⟨a3, a4⟩, a5, a6⟩ := h
    have m1 := mul_small (x := xn) (y := yn) (by omega) (by omega) (by omega) (by omega)
    have m2 := mul_small (x := xd) (y := yd) (by omega) (by omega) (by omega) (by omega)
    have L := Lib.hid (lowest_any (xn * yn) (xd * yd) (by omega) (by omega) (by omega) (by omega) hp)
    have EY := Lib.hid (easy_yes xn xd yn yd hx hx1 hy hy1 kx kx1 ky ky1 ⟨⟨a1, a2⟩, ⟨a3, a4⟩, a5, a6⟩)
    clear hp
    generalize fA (xn * yn) (xd * yd) = rA at *
    generalize fB (xn * yn) (xd * yd) = rB at *
    generalize fE (xn * yn) (xd * yd) = rE at *
    go_enter Try.func81, Try.ntmps81
    go_wp2_with fail
    refine (EY.out _).mono ?_
    rintro e w1 ⟨rfl, hb1⟩
    have f0 : Fr w w1 [[.int .i64 xn, .int .i64 xd], [.int .i64 yn, .int .i64 yd], [.int .i64 0, .int .i64 0]] := Fr.call hb1 (Fr.new (Fr.new (Fr.new (Fr.refl w) rfl [.int .i64 xn, .int .i64 xd] 31) (by simp) [.int .i64 yn, .int .i64 yd] 31) (by simp) [.int .i64 0, .int .i64 0] 31)
    have ta := f0.h0; have tb := f0.h1
    have x0 := ta.cell 0 _ rfl; have x1 := ta.cell 1 _ rfl
    have y0 := tb.cell 0 _ rfl; have y1 := tb.cell 1 _ rfl
    go_wp2_with fail
    refine (L.out _).mono ?_
    rintro e w4 ⟨rfl, hb4⟩
    have fr4 := Fr.call hb4 f0
    have t4 := fr4.h2
    have q0 := t4.cell 0 _ rfl; have q1 := t4.cell 1 _ rfl; have qf := t4.free
    go_wp2
    exact bodyPost_ret (v := .tuple #[.agg #[.int .i64 rA, .int .i64 rB], .int .i64 rE]) (by simp [results, Try.results81, go_sem, q0, q1]) rfl ⟨rfl, fr4.below.trans (by go_grown)⟩
  · have EN := Lib.hid (easy_no xn xd yn yd hx hx1 hy hy1 kx kx1 ky ky1 h)
    clear h
    obtain ⟨P1, s1, e1, b1, _, c1⟩ := product_named xn yn (by omega) (by omega) (by omega) (by omega)
    obtain ⟨P3, s3, e3, b3, p3, c3⟩ := product_named xd yd (by omega) (by omega) (by omega) (by omega)
    have c5 := exact_at P1 P3 s1 s3 e1 e3 (by omega) (by omega) (p3 (by omega) (by omega))
    have C1 := Lib.hid c1; have C3 := Lib.hid c3; have C5 := Lib.hid c5
    clear c1 c3 c5 e1 e3 p3 hp
    generalize fA (xn * yn) (xd * yd) = rA at *
    generalize fB (xn * yn) (xd * yd) = rB at *
    generalize fE (xn * yn) (xd * yd) = rE at *
    go_enter Try.func81, Try.ntmps81
    go_wp2_with fail
    refine (EN.out _).mono ?_
    rintro e w1 ⟨rfl, hb1⟩
    have f0 : Fr w w1 [[.int .i64 xn, .int .i64 xd], [.int .i64 yn, .int .i64 yd], [.int .i64 0, .int .i64 0]] := Fr.call hb1 (Fr.new (Fr.new (Fr.new (Fr.refl w) rfl [.int .i64 xn, .int .i64 xd] 31) (by simp) [.int .i64 yn, .int .i64 yd] 31) (by simp) [.int .i64 0, .int .i64 0] 31)
    have ta := f0.h0; have tb := f0.h1
    have x0 := ta.cell 0 _ rfl; have x1 := ta.cell 1 _ rfl
    have y0 := tb.cell 0 _ rfl; have y1 := tb.cell 1 _ rfl
    go_wp2_with fail
    have f0d := f0.drew
    go_region_held3 (fun w' => w'.cell? ⟨w.heap.size, 0, none⟩ = some (.int .i64 xn) ∧ w'.cell? ⟨w.heap.size, 1, none⟩ = some (.int .i64 xd) ∧ w'.cell? ⟨w.heap.size + 1, 0, none⟩ = some (.int .i64 yn) ∧ w'.cell? ⟨w.heap.size + 1, 1, none⟩ = some (.int .i64 yd)) (((try dsimp only); (repeat' apply And.intro); all_goals (first | go_keep | (refine cell_later hb4 ?_; first | assumption | go_keep) | go_cell)))
      (first | (go_at_call 96; (with_reducible refine (C1.out _).mono ?_); rintro e w4 ⟨rfl, hb4⟩; have fr4 := Fr.call hb4 (by assumption); have t4 := fr4.h2; have q0 := t4.cell 0 _ rfl; have q1 := t4.cell 1 _ rfl; have qf := t4.free) | (go_at_call 96; (with_reducible refine (C3.out _).mono ?_); rintro e w4 ⟨rfl, hb4⟩; have fr4 := Fr.call hb4 (by assumption); have t4 := fr4.h2; have q0 := t4.cell 0 _ rfl; have q1 := t4.cell 1 _ rfl; have qf := t4.free) | (go_at_call 95; (with_reducible refine (C5.out _).mono ?_); rintro e w4 ⟨rfl, hb4⟩; have fr4 := Fr.call hb4 (by assumption); have t4 := fr4.h2; have q0 := t4.cell 0 _ rfl; have q1 := t4.cell 1 _ rfl; have qf := t4.free))
    go_wp2
    exact bodyPost_ret (v := .tuple #[.agg #[.int .i64 rA, .int .i64 rB], .int .i64 rE]) (by simp [results, Try.results81, go_sem, q0, q1]) rfl ⟨rfl, fr4.below.trans (by go_grown)⟩

set_option maxHeartbeats 2000000 in
theorem frac_div (xn xd yn yd : Int) (hx : -1152921504606846976 ≤ xn) (hx1 : xn ≤ 1152921504606846976) (hy : -1152921504606846976 ≤ yn) (hy1 : yn ≤ 1152921504606846976) (kx : 1 ≤ xd) (kx1 : xd ≤ 1152921504606846976) (ky : 1 ≤ yd) (ky1 : yd ≤ 1152921504606846976) (hz : yn ≠ 0) (w : World) :
    Calls Try.prog 97 #[.agg #[.int .i64 xn, .int .i64 xd], .agg #[.int .i64 yn, .int .i64 yd]] w fun e w' => e = .returned (.tuple #[.agg #[.int .i64 (fA (xn * yd) (xd * yn)), .int .i64 (fB (xn * yd) (xd * yn))], .int .i64 (fE (xn * yd) (xd * yn))]) ∧ Below w.heap.size w w' := by
  have hx0 : (xd == 0) = false := by simp; omega
  have hy0 : (yd == 0) = false := by simp; omega
  have hz0 : (yn == 0) = false := by simpa using hz
  have hp : xd * yn ≠ 0 := Int.mul_ne_zero (by omega) hz
  by_cases h : (-1073741824 ≤ xn ∧ xn ≤ 1073741824) ∧ (-1073741824 ≤ yn ∧ yn ≤ 1073741824) ∧ xd ≤ 1073741824 ∧ yd ≤ 1073741824
  · obtain ⟨⟨a1, a2⟩, ⟨a3, a4⟩, a5, a6⟩ := h
    have m1 := mul_small (x := xn) (y := yd) (by omega) (by omega) (by omega) (by omega)
    have m2 := mul_small (x := xd) (y := yn) (by omega) (by omega) (by omega) (by omega)
    have L := Lib.hid (lowest_any (xn * yd) (xd * yn) (by omega) (by omega) (by omega) (by omega) hp)
    have EY := Lib.hid (easy_yes xn xd yn yd hx hx1 hy hy1 kx kx1 ky ky1 ⟨⟨a1, a2⟩, ⟨a3, a4⟩, a5, a6⟩)
    clear hp
    generalize fA (xn * yd) (xd * yn) = rA at *
    generalize fB (xn * yd) (xd * yn) = rB at *
    generalize fE (xn * yd) (xd * yn) = rE at *
    go_enter Try.func97, Try.ntmps97
    go_wp2_with fail
    refine (EY.out _).mono ?_
    rintro e w1 ⟨rfl, hb1⟩
    have f0 : Fr w w1 [[.int .i64 xn, .int .i64 xd], [.int .i64 yn, .int .i64 yd], [.int .i64 0, .int .i64 0]] := Fr.call hb1 (Fr.new (Fr.new (Fr.new (Fr.refl w) rfl [.int .i64 xn, .int .i64 xd] 31) (by simp) [.int .i64 yn, .int .i64 yd] 31) (by simp) [.int .i64 0, .int .i64 0] 31)
    have ta := f0.h0; have tb := f0.h1
    have x0 := ta.cell 0 _ rfl; have x1 := ta.cell 1 _ rfl
    have y0 := tb.cell 0 _ rfl; have y1 := tb.cell 1 _ rfl
    go_wp2_with fail
    refine (L.out _).mono ?_
    rintro e w4 ⟨rfl, hb4⟩
    have fr4 := Fr.call hb4 f0
    have t4 := fr4.h2
    have q0 := t4.cell 0 _ rfl; have q1 := t4.cell 1 _ rfl; have qf := t4.free
    go_wp2
    exact bodyPost_ret (v := .tuple #[.agg #[.int .i64 rA, .int .i64 rB], .int .i64 rE]) (by simp [results, Try.results97, go_sem, q0, q1]) rfl ⟨rfl, fr4.below.trans (by go_grown)⟩
  · have EN := Lib.hid (easy_no xn xd yn yd hx hx1 hy hy1 kx kx1 ky ky1 h)
    clear h
    obtain ⟨P1, s1, e1, b1, _, c1⟩ := product_named xn yd (by omega) (by omega) (by omega) (by omega)
    obtain ⟨P3, s3, e3, b3, p3, c3⟩ := product_named xd yn (by omega) (by omega) (by omega) (by omega)
    have c5 := exact_at P1 P3 s1 s3 e1 e3 (by omega) (by omega) (p3 hz (by omega))
    have C1 := Lib.hid c1; have C3 := Lib.hid c3; have C5 := Lib.hid c5
    clear c1 c3 c5 e1 e3 p3 hp
    generalize fA (xn * yd) (xd * yn) = rA at *
    generalize fB (xn * yd) (xd * yn) = rB at *
    generalize fE (xn * yd) (xd * yn) = rE at *
    go_enter Try.func97, Try.ntmps97
    go_wp2_with fail
    refine (EN.out _).mono ?_
    rintro e w1 ⟨rfl, hb1⟩
    have f0 : Fr w w1 [[.int .i64 xn, .int .i64 xd], [.int .i64 yn, .int .i64 yd], [.int .i64 0, .int .i64 0]] := Fr.call hb1 (Fr.new (Fr.new (Fr.new (Fr.refl w) rfl [.int .i64 xn, .int .i64 xd] 31) (by simp) [.int .i64 yn, .int .i64 yd] 31) (by simp) [.int .i64 0, .int .i64 0] 31)
    have ta := f0.h0; have tb := f0.h1
    have x0 := ta.cell 0 _ rfl; have x1 := ta.cell 1 _ rfl
    have y0 := tb.cell 0 _ rfl; have y1 := tb.cell 1 _ rfl
    go_wp2_with fail
    have f0d := f0.drew
    go_region_held3 (fun w' => w'.cell? ⟨w.heap.size, 0, none⟩ = some (.int .i64 xn) ∧ w'.cell? ⟨w.heap.size, 1, none⟩ = some (.int .i64 xd) ∧ w'.cell? ⟨w.heap.size + 1, 0, none⟩ = some (.int .i64 yn) ∧ w'.cell? ⟨w.heap.size + 1, 1, none⟩ = some (.int .i64 yd)) (((try dsimp only); (repeat' apply And.intro); all_goals (first | go_keep | (refine cell_later hb4 ?_; first | assumption | go_keep) | go_cell)))
      (first | (go_at_call 96; (with_reducible refine (C1.out _).mono ?_); rintro e w4 ⟨rfl, hb4⟩; have fr4 := Fr.call hb4 (by assumption); have t4 := fr4.h2; have q0 := t4.cell 0 _ rfl; have q1 := t4.cell 1 _ rfl; have qf := t4.free) | (go_at_call 96; (with_reducible refine (C3.out _).mono ?_); rintro e w4 ⟨rfl, hb4⟩; have fr4 := Fr.call hb4 (by assumption); have t4 := fr4.h2; have q0 := t4.cell 0 _ rfl; have q1 := t4.cell 1 _ rfl; have qf := t4.free) | (go_at_call 95; (with_reducible refine (C5.out _).mono ?_); rintro e w4 ⟨rfl, hb4⟩; have fr4 := Fr.call hb4 (by assumption); have t4 := fr4.h2; have q0 := t4.cell 0 _ rfl; have q1 := t4.cell 1 _ rfl; have qf := t4.free))
    go_wp2
    exact bodyPost_ret (v := .tuple #[.agg #[.int .i64 rA, .int .i64 rB], .int .i64 rE]) (by simp [results, Try.results97, go_sem, q0, q1]) rfl ⟨rfl, fr4.below.trans (by go_grown)⟩
end Go.Proofs.Ytdegpgonphgbcaa
