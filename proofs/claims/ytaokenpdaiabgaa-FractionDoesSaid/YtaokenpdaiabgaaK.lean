/-
  fraction.Make, Add, Sub, Mul, Div: the fraction in lowest terms, or ErrLimit, or ErrZero. Conditions: the fractions' numbers are at most 2^60, the denominators at least 1.
-/
import Derived.Test.YtaokenpdaiabgaaJ
namespace Go.Proofs.Ytaokenpdaiabgaa
open Go.RowKit

theorem make_zero (a : Int) (w : World) :
    Calls Try.prog 9 #[.int .i64 a, .int .i64 0] w fun e w' => e = .returned (.tuple #[.agg #[.int .i64 0, .int .i64 0], .int .i64 36]) ∧ Below w.heap.size w w' := by
  go_enter Try.func9, Try.ntmps9
  go_wp2
  go_returns
  exact ⟨rfl, by go_grown⟩

theorem exact_at {a b : Int} (N M : Nat) (n m : Bool) (ea : sv N n = a) (eb : sv M m = b) (hN : N < 170141183460469231731687303715884105728) (hM : M < 170141183460469231731687303715884105728) (hM0 : 0 < M) (w : World) :
    Calls Try.prog 33 #[.agg #[.int .u64 (wh N), .int .u64 (wl N), .bool n], .agg #[.int .u64 (wh M), .int .u64 (wl M), .bool m]] w fun e w' => e = .returned (.tuple #[.agg #[.int .i64 (fA a b), .int .i64 (fB a b)], .int .i64 (fE a b)]) ∧ Below w.heap.size w w' := exact_any a b N M n m ea eb hN hM hM0 w

set_option maxHeartbeats 1000000 in
theorem make_wide (a b : Int) (ha : -9223372036854775808 ≤ a) (ha' : a ≤ 9223372036854775807) (hb : -9223372036854775808 ≤ b) (hb' : b ≤ 9223372036854775807) (h0 : b ≠ 0) (hn : ¬ (-4611686018427387904 ≤ a ∧ a ≤ 4611686018427387904 ∧ -4611686018427387904 ≤ b ∧ b ≤ 4611686018427387904)) (w : World) :
    Calls Try.prog 9 #[.int .i64 a, .int .i64 b] w fun e w' => e = .returned (.tuple #[.agg #[.int .i64 (fA (a) (b)), .int .i64 (fB (a) (b))], .int .i64 (fE (a) (b))]) ∧ Below w.heap.size w w' := by
  have h1 : (b == 0) = false := by simpa using h0
  have EX := Lib.hid (exact_at a.natAbs b.natAbs (decide (a < 0)) (decide (b < 0)) (sv_abs a) (sv_abs b) (by omega) (by omega) (by omega))
  clear h0
  by_cases hA : -4611686018427387904 ≤ a ∧ a ≤ 4611686018427387904
  all_goals
    go_enter Try.func9, Try.ntmps9
    go_wp2_with fail
  · refine (within_yes _ _ (by omega) (by omega) (by omega) (by omega) _).mono ?_
    rintro e w' ⟨rfl, rfl⟩
    go_wp2_with fail
    refine (within_no _ _ (by omega) (by omega) (by omega) _).mono ?_
    rintro e w' ⟨rfl, rfl⟩
    go_wp2_with fail
    refine (of_any a (by omega) (by omega) _).mono ?_
    rintro e w1 ⟨rfl, hb1⟩
    have f1 := Fr.call hb1 (Fr.new (Fr.refl _) rfl [.int .i64 0, .int .i64 0] 24)
    go_wp2_with fail
    refine (of_any b (by omega) (by omega) _).mono ?_
    rintro e w2 ⟨rfl, hb2⟩
    have f2 := Fr.call hb2 f1
    go_wp2_with fail
    refine (EX.out _).mono ?_
    rintro e w3 ⟨rfl, hb3⟩
    have f3 := Fr.call hb3 f2
    have t3 := f3.has 0 _ rfl
    have q0 := t3.cell 0 _ rfl; have q1 := t3.cell 1 _ rfl; have qf := t3.free
    simp only [Nat.add_zero] at q0 q1 qf
    go_wp2
    exact bodyPost_ret (v := .tuple #[.agg #[.int .i64 (fA (a) (b)), .int .i64 (fB (a) (b))], .int .i64 (fE (a) (b))]) (by simp [results, Try.results9, go_sem, q0, q1]) rfl ⟨rfl, f3.below.trans (by go_grown)⟩
  · refine (within_no _ _ (by omega) (by omega) (by omega) _).mono ?_
    rintro e w' ⟨rfl, rfl⟩
    go_wp2_with fail
    refine (of_any a (by omega) (by omega) _).mono ?_
    rintro e w1 ⟨rfl, hb1⟩
    have f1 := Fr.call hb1 (Fr.new (Fr.refl _) rfl [.int .i64 0, .int .i64 0] 24)
    go_wp2_with fail
    refine (of_any b (by omega) (by omega) _).mono ?_
    rintro e w2 ⟨rfl, hb2⟩
    have f2 := Fr.call hb2 f1
    go_wp2_with fail
    refine (EX.out _).mono ?_
    rintro e w3 ⟨rfl, hb3⟩
    have f3 := Fr.call hb3 f2
    have t3 := f3.has 0 _ rfl
    have q0 := t3.cell 0 _ rfl; have q1 := t3.cell 1 _ rfl; have qf := t3.free
    simp only [Nat.add_zero] at q0 q1 qf
    go_wp2
    exact bodyPost_ret (v := .tuple #[.agg #[.int .i64 (fA (a) (b)), .int .i64 (fB (a) (b))], .int .i64 (fE (a) (b))]) (by simp [results, Try.results9, go_sem, q0, q1]) rfl ⟨rfl, f3.below.trans (by go_grown)⟩

theorem make_any (a b : Int) (ha : -9223372036854775808 ≤ a) (ha' : a ≤ 9223372036854775807) (hb : -9223372036854775808 ≤ b) (hb' : b ≤ 9223372036854775807) (h0 : b ≠ 0) (w : World) :
    Calls Try.prog 9 #[.int .i64 a, .int .i64 b] w fun e w' => e = .returned (.tuple #[.agg #[.int .i64 (fA (a) (b)), .int .i64 (fB (a) (b))], .int .i64 (fE (a) (b))]) ∧ Below w.heap.size w w' := by
  by_cases h : -4611686018427387904 ≤ a ∧ a ≤ 4611686018427387904 ∧ -4611686018427387904 ≤ b ∧ b ≤ 4611686018427387904
  · exact make_small a b h.1 h.2.1 h.2.2.1 h.2.2.2 h0 w
  · exact make_wide a b ha ha' hb hb' h0 h w

theorem easy_yes (xn xd yn yd : Int) (hx : -1152921504606846976 ≤ xn) (hx1 : xn ≤ 1152921504606846976) (hy : -1152921504606846976 ≤ yn) (hy1 : yn ≤ 1152921504606846976) (kx : 1 ≤ xd) (kx1 : xd ≤ 1152921504606846976) (ky : 1 ≤ yd) (ky1 : yd ≤ 1152921504606846976) (h : (-1073741824 ≤ xn ∧ xn ≤ 1073741824) ∧ (-1073741824 ≤ yn ∧ yn ≤ 1073741824) ∧ xd ≤ 1073741824 ∧ yd ≤ 1073741824) (w : World) :
    Calls Try.prog 38 #[.agg #[.int .i64 xn, .int .i64 xd], .agg #[.int .i64 yn, .int .i64 yd]] w fun e w' => e = .returned (.bool true) ∧ Below w.heap.size w w' := by
  have h1 : (xd != 0) = true := by simp; omega
  have h2 : (yd != 0) = true := by simp; omega
  obtain ⟨⟨a1, a2⟩, ⟨a3, a4⟩, a5, a6⟩ := h
  go_enter Try.func38, Try.ntmps38
  go_wp2_with (first | (go_at_call 31; refine (within_yes _ _ (by omega) (by omega) (by omega) (by omega) _).mono ?_; rintro e w' ⟨rfl, rfl⟩))
  go_returns
  exact ⟨rfl, by go_grown⟩
theorem easy_no (xn xd yn yd : Int) (hx : -1152921504606846976 ≤ xn) (hx1 : xn ≤ 1152921504606846976) (hy : -1152921504606846976 ≤ yn) (hy1 : yn ≤ 1152921504606846976) (kx : 1 ≤ xd) (kx1 : xd ≤ 1152921504606846976) (ky : 1 ≤ yd) (ky1 : yd ≤ 1152921504606846976) (h : ¬ ((-1073741824 ≤ xn ∧ xn ≤ 1073741824) ∧ (-1073741824 ≤ yn ∧ yn ≤ 1073741824) ∧ xd ≤ 1073741824 ∧ yd ≤ 1073741824)) (w : World) :
    Calls Try.prog 38 #[.agg #[.int .i64 xn, .int .i64 xd], .agg #[.int .i64 yn, .int .i64 yd]] w fun e w' => e = .returned (.bool false) ∧ Below w.heap.size w w' := by
  by_cases a : -1073741824 ≤ xn ∧ xn ≤ 1073741824
  · by_cases b : -1073741824 ≤ yn ∧ yn ≤ 1073741824
    · by_cases c : xd ≤ 1073741824
      · have d : 1073741824 < yd := by omega
        go_enter Try.func38, Try.ntmps38
        go_wp2_with fail
        refine (within_yes _ _ (by omega) (by omega) (by omega) (by omega) _).mono ?_; rintro e w' ⟨rfl, rfl⟩
        go_wp2_with fail
        refine (within_yes _ _ (by omega) (by omega) (by omega) (by omega) _).mono ?_; rintro e w' ⟨rfl, rfl⟩
        go_wp2_with fail
        refine (within_yes _ _ (by omega) (by omega) (by omega) (by omega) _).mono ?_; rintro e w' ⟨rfl, rfl⟩
        go_wp2_with fail
        refine (within_no _ _ (by omega) (by omega) (by omega) _).mono ?_; rintro e w' ⟨rfl, rfl⟩
        go_wp2
        go_returns
        exact ⟨rfl, by go_grown⟩
      · go_enter Try.func38, Try.ntmps38
        go_wp2_with fail
        refine (within_yes _ _ (by omega) (by omega) (by omega) (by omega) _).mono ?_; rintro e w' ⟨rfl, rfl⟩
        go_wp2_with fail
        refine (within_yes _ _ (by omega) (by omega) (by omega) (by omega) _).mono ?_; rintro e w' ⟨rfl, rfl⟩
        go_wp2_with fail
        refine (within_no _ _ (by omega) (by omega) (by omega) _).mono ?_; rintro e w' ⟨rfl, rfl⟩
        go_wp2
        go_returns
        exact ⟨rfl, by go_grown⟩
    · go_enter Try.func38, Try.ntmps38
      go_wp2_with fail
      refine (within_yes _ _ (by omega) (by omega) (by omega) (by omega) _).mono ?_; rintro e w' ⟨rfl, rfl⟩
      go_wp2_with fail
      refine (within_no _ _ (by omega) (by omega) (by omega) _).mono ?_; rintro e w' ⟨rfl, rfl⟩
      go_wp2
      go_returns
      exact ⟨rfl, by go_grown⟩
  · go_enter Try.func38, Try.ntmps38
    go_wp2_with fail
    refine (within_no _ _ (by omega) (by omega) (by omega) _).mono ?_; rintro e w' ⟨rfl, rfl⟩
    go_wp2
    go_returns
    exact ⟨rfl, by go_grown⟩

theorem mul_small {x y : Int} (h0 : -1073741824 ≤ x) (h1 : x ≤ 1073741824) (h2 : -1073741824 ≤ y) (h3 : y ≤ 1073741824) : -1152921504606846976 ≤ x * y ∧ x * y ≤ 1152921504606846976 := by
  have a1 := Int.mul_nonneg (a := 1073741824 - x) (b := 1073741824 - y) (by omega) (by omega)
  have a2 := Int.mul_nonneg (a := x + 1073741824) (b := y + 1073741824) (by omega) (by omega)
  have a4 := Int.mul_nonneg (a := 1073741824 - x) (b := y + 1073741824) (by omega) (by omega)
  have a5 := Int.mul_nonneg (a := x + 1073741824) (b := 1073741824 - y) (by omega) (by omega)
  have e1 : (1073741824 - x) * (1073741824 - y) = x * y - 1073741824 * x - 1073741824 * y + 1152921504606846976 := by grind
  have e2 : (x + 1073741824) * (y + 1073741824) = x * y + 1073741824 * x + 1073741824 * y + 1152921504606846976 := by grind
  have e4 : (1073741824 - x) * (y + 1073741824) = 1073741824 * y + 1152921504606846976 - x * y - 1073741824 * x := by grind
  have e5 : (x + 1073741824) * (1073741824 - y) = 1073741824 * x + 1152921504606846976 - x * y - 1073741824 * y := by grind
  omega
end Go.Proofs.Ytaokenpdaiabgaa
