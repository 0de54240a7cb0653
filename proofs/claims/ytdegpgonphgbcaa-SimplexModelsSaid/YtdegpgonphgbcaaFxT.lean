/-
  fraction.Cmp: it compares two fractions by their cross products. Conditions: numbers at most 2^60, denominators at least 1.
-/
import Derived.Test.YtdegpgonphgbcaaZFxQ
namespace Go.Proofs.Ytdegpgonphgbcaa
open Go.RowKit

def cmpI (a b : Int) : Int := if a < b then -1 else if a = b then 0 else 1

theorem sign_neg (n : Int) (h : n < 0) (w : World) : Calls Try.prog 82 #[.int .i64 n] w fun e w' => e = .returned (.int .i64 (-1)) ∧ w = w' := by
  go_enter Try.func82, Try.ntmps82
  go_wp2
  go_ret
  exact ⟨rfl, rfl⟩
theorem sign_zero (n : Int) (h : n = 0) (w : World) : Calls Try.prog 82 #[.int .i64 n] w fun e w' => e = .returned (.int .i64 0) ∧ w = w' := by
  subst h
  go_enter Try.func82, Try.ntmps82
  go_wp2
  go_ret
  exact ⟨rfl, rfl⟩
theorem sign_pos (n : Int) (h : 0 < n) (w : World) : Calls Try.prog 82 #[.int .i64 n] w fun e w' => e = .returned (.int .i64 1) ∧ w = w' := by
  go_enter Try.func82, Try.ntmps82
  go_wp2
  go_ret
  exact ⟨rfl, rfl⟩
theorem sgn_mul {x d : Int} (h : 0 < d) : (x < 0 → x * d < 0) ∧ (x = 0 → x * d = 0) ∧ (0 < x → 0 < x * d) :=
  ⟨fun k => Int.mul_neg_of_neg_of_pos k h, fun k => by rw [k, Int.zero_mul], fun k => Int.mul_pos k h⟩
theorem mul64_at {x y : Int} (A B : Nat) (ex : x = A) (ey : y = B) (hA : A < 18446744073709551616) (hB : B < 18446744073709551616) (w : World) :
    Calls Try.prog 83 #[.int .u64 x, .int .u64 y] w fun e w' => e = .returned (.tuple #[.int .u64 (wh (A * B)), .int .u64 (wl (A * B))]) ∧ w = w' := by
  subst ex ey; exact mul64_any A B hA hB w

set_option maxHeartbeats 1000000 in
theorem cmp_apart (xn xd yn yd : Int) (hx : -1152921504606846976 ≤ xn) (hx1 : xn ≤ 1152921504606846976) (hy : -1152921504606846976 ≤ yn) (hy1 : yn ≤ 1152921504606846976) (kx : 1 ≤ xd) (kx1 : xd ≤ 1152921504606846976) (ky : 1 ≤ yd) (ky1 : yd ≤ 1152921504606846976) (h : (xn < 0 ∧ 0 ≤ yn) ∨ (xn = 0) ∨ (0 < xn ∧ yn ≤ 0)) (w : World) :
    Calls Try.prog 61 #[.agg #[.int .i64 xn, .int .i64 xd], .agg #[.int .i64 yn, .int .i64 yd]] w fun e w' => e = .returned (.int .i64 (cmpI (xn * yd) (yn * xd))) ∧ Below w.heap.size w w' := by
  have m1 := sgn_mul (x := xn) (d := yd) (by omega)
  have m2 := sgn_mul (x := yn) (d := xd) (by omega)
  obtain ⟨c, hc⟩ : ∃ c, c = cmpI (xn * yd) (yn * xd) := ⟨_, rfl⟩
  have hcv : (xn < 0 → c = -1) ∧ (xn = 0 → yn < 0 → c = 1) ∧ (xn = 0 → yn = 0 → c = 0) ∧ (xn = 0 → 0 < yn → c = -1) ∧ (0 < xn → c = 1) := by
    rw [hc]; unfold cmpI
    generalize xn * yd = p at *
    generalize yn * xd = q at *
    refine ⟨fun k => ?_, fun k l => ?_, fun k l => ?_, fun k l => ?_, fun k => ?_⟩ <;> (repeat' split) <;> omega
  rw [← hc]
  have HC := Lib.hid hcv
  clear hcv hc m1 m2
  have z : xn < 0 ∨ xn = 0 ∨ 0 < xn := by omega
  have z' : yn < 0 ∨ yn = 0 ∨ 0 < yn := by omega
  rcases z with z | z | z
  all_goals rcases z' with z' | z' | z'
  all_goals first
    | (exfalso; omega)
    | (have k1 := Lib.hid z; have k2 := Lib.hid z'
       clear h z z'
       go_enter Try.func61, Try.ntmps61
       go_wp2_with fail
       first | (refine (sign_neg _ k1.out _).mono ?_) | (refine (sign_zero _ k1.out _).mono ?_) | (refine (sign_pos _ k1.out _).mono ?_)
       rintro e w1 ⟨rfl, rfl⟩
       go_wp2_with fail
       first | (refine (sign_neg _ k2.out _).mono ?_) | (refine (sign_zero _ k2.out _).mono ?_) | (refine (sign_pos _ k2.out _).mono ?_)
       rintro e w1 ⟨rfl, rfl⟩
       go_wp2_with fail
       first | (refine (sign_neg _ k2.out _).mono ?_) | (refine (sign_zero _ k2.out _).mono ?_) | (refine (sign_pos _ k2.out _).mono ?_)
       rintro e w1 ⟨rfl, rfl⟩
       go_wp2_with fail
       first | (refine (sign_neg _ (by decide) _).mono ?_) | (refine (sign_zero _ (by decide) _).mono ?_) | (refine (sign_pos _ (by decide) _).mono ?_)
       rintro e w1 ⟨rfl, rfl⟩
       go_wp2
       go_returns
       have kc := HC.out
       have k3 := k1.out
       have k4 := k2.out
       refine ⟨?_, by go_grown⟩
       first | exact ret_int (kc.1 k3).symm | exact ret_int (kc.2.1 k3 k4).symm | exact ret_int (kc.2.2.1 k3 k4).symm | exact ret_int (kc.2.2.2.1 k3 k4).symm | exact ret_int (kc.2.2.2.2 k3).symm)

theorem cmp_plain {xn xd yn yd : Int} (kx : 1 ≤ xd) (ky : 1 ≤ yd) :
    (0 < xn → 0 < yn → cmpI (xn * yd) (yn * xd) = cmpI ((xn.natAbs * yd.natAbs : Nat) : Int) ((yn.natAbs * xd.natAbs : Nat) : Int)) ∧
    (xn < 0 → yn < 0 → cmpI (xn * yd) (yn * xd) = -cmpI ((xn.natAbs * yd.natAbs : Nat) : Int) ((yn.natAbs * xd.natAbs : Nat) : Int)) := by
  have e1 : ((xn.natAbs * yd.natAbs : Nat) : Int) = (xn.natAbs : Int) * (yd.natAbs : Int) := by simp
  have e2 : ((yn.natAbs * xd.natAbs : Nat) : Int) = (yn.natAbs : Int) * (xd.natAbs : Int) := by simp
  rw [e1, e2, show (yd.natAbs : Int) = yd by omega, show (xd.natAbs : Int) = xd by omega]
  refine ⟨fun h k => ?_, fun h k => ?_⟩
  · rw [show (xn.natAbs : Int) = xn by omega, show (yn.natAbs : Int) = yn by omega]
  · rw [show (xn.natAbs : Int) = -xn by omega, show (yn.natAbs : Int) = -yn by omega, Int.neg_mul, Int.neg_mul]
    generalize xn * yd = p
    generalize yn * xd = q
    unfold cmpI
    (repeat' split) <;> omega

theorem cmp_words (P Q : Nat) : (wh P = wh Q → wl P = wl Q → cmpI P Q = 0) ∧ (wh P < wh Q → cmpI P Q = -1) ∧ (wh P = wh Q → wl P < wl Q → cmpI P Q = -1) ∧ (¬ wh P = wh Q → ¬ wh P < wh Q → cmpI P Q = 1) ∧ (wh P = wh Q → ¬ wl P = wl Q → ¬ wl P < wl Q → cmpI P Q = 1) := by
  have p1 := w_of P; have q1 := w_of Q
  have p2 := wl_bd P; have q2 := wl_bd Q
  unfold cmpI
  refine ⟨fun a b => ?_, fun a => ?_, fun a b => ?_, fun a b => ?_, fun a b c => ?_⟩ <;> (repeat' split) <;> omega


set_option maxHeartbeats 2000000 in
theorem cmp_both_pos (xn xd yn yd : Int) (hx : -1152921504606846976 ≤ xn) (hx1 : xn ≤ 1152921504606846976) (hy : -1152921504606846976 ≤ yn) (hy1 : yn ≤ 1152921504606846976) (kx : 1 ≤ xd) (kx1 : xd ≤ 1152921504606846976) (ky : 1 ≤ yd) (ky1 : yd ≤ 1152921504606846976) (h1 : 0 < xn) (h2 : 0 < yn) (w : World) :
    Calls Try.prog 61 #[.agg #[.int .i64 xn, .int .i64 xd], .agg #[.int .i64 yn, .int .i64 yd]] w fun e w' => e = .returned (.int .i64 (cmpI (xn * yd) (yn * xd))) ∧ Below w.heap.size w w' := by
  have hp := (cmp_plain (xn := xn) (yn := yn) kx ky).1 h1 h2
  have c1 := fun x y ex ey w => mul64_at (x := x) (y := y) xn.natAbs yd.natAbs ex ey (by omega) (by omega) w
  have c2 := fun x y ex ey w => mul64_at (x := x) (y := y) yn.natAbs xd.natAbs ex ey (by omega) (by omega) w
  generalize xn.natAbs * yd.natAbs = P at *
  generalize yn.natAbs * xd.natAbs = Q at *
  have hw := cmp_words P Q
  generalize cmpI (xn * yd) (yn * xd) = c at *
  generalize cmpI (P : Int) (Q : Int) = c' at *
  have HP := Lib.hid hp; have C1 := Lib.hid c1; have C2 := Lib.hid c2; have HW := Lib.hid hw
  have p2 := wl_bd P; have q2 := wl_bd Q
  clear hp c1 c2 hw
  have d : wh P = wh Q ∨ wh P < wh Q ∨ (¬ wh P = wh Q ∧ ¬ wh P < wh Q) := by omega
  have d' : wl P = wl Q ∨ wl P < wl Q ∨ (¬ wl P = wl Q ∧ ¬ wl P < wl Q) := by omega
  have D := Lib.hid d; have D' := Lib.hid d'
  clear d d'
  go_enter Try.func61, Try.ntmps61
  go_wp2_with fail
  refine (sign_pos _ h1 _).mono ?_
  rintro e w1 ⟨rfl, rfl⟩
  go_wp2_with fail
  refine (sign_pos _ h2 _).mono ?_
  rintro e w1 ⟨rfl, rfl⟩
  go_wp2_with fail
  all_goals refine Calls.mono (C1.out _ _ (by first | omega | (simp only [IntKind.wrap_u64]; omega)) (by first | omega | (simp only [IntKind.wrap_u64]; omega)) _) ?_
  all_goals rintro e w1 ⟨rfl, rfl⟩
  all_goals go_wp2_with fail
  all_goals first
    | (refine Calls.mono (C2.out _ _ (by first | omega | (simp only [IntKind.wrap_u64]; omega)) (by first | omega | (simp only [IntKind.wrap_u64]; omega)) _) ?_)
    | skip
  all_goals rintro e w1 ⟨rfl, rfl⟩
  all_goals go_wp2_with fail
  all_goals first
    | (refine (sign_pos _ h1 _).mono ?_
       rintro e w1 ⟨rfl, rfl⟩
       go_wp2
       go_returns
       have hv := HW.out
       have hp := HP.out
       refine ⟨ret_int ?_, by go_grown⟩
       (try simp only [beq_eq_false_iff_ne, ne_eq] at *)
       omega)
    | (go_returns
       have hv := HW.out
       have hp := HP.out
       refine ⟨ret_int ?_, by go_grown⟩
       (try simp only [beq_iff_eq] at *)
       omega)

set_option maxHeartbeats 2000000 in
theorem cmp_both_neg (xn xd yn yd : Int) (hx : -1152921504606846976 ≤ xn) (hx1 : xn ≤ 1152921504606846976) (hy : -1152921504606846976 ≤ yn) (hy1 : yn ≤ 1152921504606846976) (kx : 1 ≤ xd) (kx1 : xd ≤ 1152921504606846976) (ky : 1 ≤ yd) (ky1 : yd ≤ 1152921504606846976) (h1 : xn < 0) (h2 : yn < 0) (w : World) :
    Calls Try.prog 61 #[.agg #[.int .i64 xn, .int .i64 xd], .agg #[.int .i64 yn, .int .i64 yd]] w fun e w' => e = .returned (.int .i64 (cmpI (xn * yd) (yn * xd))) ∧ Below w.heap.size w w' := by
  have hp := (cmp_plain (xn := xn) (yn := yn) kx ky).2 h1 h2
  have c1 := fun x y ex ey w => mul64_at (x := x) (y := y) xn.natAbs yd.natAbs ex ey (by omega) (by omega) w
  have c2 := fun x y ex ey w => mul64_at (x := x) (y := y) yn.natAbs xd.natAbs ex ey (by omega) (by omega) w
  generalize xn.natAbs * yd.natAbs = P at *
  generalize yn.natAbs * xd.natAbs = Q at *
  have hw := cmp_words P Q
  generalize cmpI (xn * yd) (yn * xd) = c at *
  generalize cmpI (P : Int) (Q : Int) = c' at *
  have HP := Lib.hid hp; have C1 := Lib.hid c1; have C2 := Lib.hid c2; have HW := Lib.hid hw
  have p2 := wl_bd P; have q2 := wl_bd Q
  clear hp c1 c2 hw
  have d : wh P = wh Q ∨ wh P < wh Q ∨ (¬ wh P = wh Q ∧ ¬ wh P < wh Q) := by omega
  have d' : wl P = wl Q ∨ wl P < wl Q ∨ (¬ wl P = wl Q ∧ ¬ wl P < wl Q) := by omega
  have D := Lib.hid d; have D' := Lib.hid d'
  clear d d'
  go_enter Try.func61, Try.ntmps61
  go_wp2_with fail
  refine (sign_neg _ h1 _).mono ?_
  rintro e w1 ⟨rfl, rfl⟩
  go_wp2_with fail
  refine (sign_neg _ h2 _).mono ?_
  rintro e w1 ⟨rfl, rfl⟩
  go_wp2_with fail
  all_goals refine Calls.mono (C1.out _ _ (by first | omega | (simp only [IntKind.wrap_u64]; omega)) (by first | omega | (simp only [IntKind.wrap_u64]; omega)) _) ?_
  all_goals rintro e w1 ⟨rfl, rfl⟩
  all_goals go_wp2_with fail
  all_goals first
    | (refine Calls.mono (C2.out _ _ (by first | omega | (simp only [IntKind.wrap_u64]; omega)) (by first | omega | (simp only [IntKind.wrap_u64]; omega)) _) ?_)
    | skip
  all_goals rintro e w1 ⟨rfl, rfl⟩
  all_goals go_wp2_with fail
  all_goals first
    | (refine (sign_neg _ h1 _).mono ?_
       rintro e w1 ⟨rfl, rfl⟩
       go_wp2
       go_returns
       have hv := HW.out
       have hp := HP.out
       refine ⟨ret_int ?_, by go_grown⟩
       (try simp only [beq_eq_false_iff_ne, ne_eq] at *)
       omega)
    | (go_returns
       have hv := HW.out
       have hp := HP.out
       refine ⟨ret_int ?_, by go_grown⟩
       (try simp only [beq_iff_eq] at *)
       omega)

theorem cmp_any (xn xd yn yd : Int) (hx : -1152921504606846976 ≤ xn) (hx1 : xn ≤ 1152921504606846976) (hy : -1152921504606846976 ≤ yn) (hy1 : yn ≤ 1152921504606846976) (kx : 1 ≤ xd) (kx1 : xd ≤ 1152921504606846976) (ky : 1 ≤ yd) (ky1 : yd ≤ 1152921504606846976) (w : World) :
    Calls Try.prog 61 #[.agg #[.int .i64 xn, .int .i64 xd], .agg #[.int .i64 yn, .int .i64 yd]] w fun e w' => e = .returned (.int .i64 (cmpI (xn * yd) (yn * xd))) ∧ Below w.heap.size w w' := by
  by_cases h : 0 < xn ∧ 0 < yn
  · exact cmp_both_pos xn xd yn yd hx hx1 hy hy1 kx kx1 ky ky1 h.1 h.2 w
  · by_cases k : xn < 0 ∧ yn < 0
    · exact cmp_both_neg xn xd yn yd hx hx1 hy hy1 kx kx1 ky ky1 k.1 k.2 w
    · exact cmp_apart xn xd yn yd hx hx1 hy hy1 kx kx1 ky ky1 (by omega) w
end Go.Proofs.Ytdegpgonphgbcaa
