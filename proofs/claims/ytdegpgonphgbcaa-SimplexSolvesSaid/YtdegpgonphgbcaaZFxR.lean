/-
  The plain part of the laws of a field.
  fraction.
  The program's and the document's functions on frac.
-/
import Derived.Test.YtdegpgonphgbcaaDeck
import Derived.Test.YtdegpgonphgbcaaZFxJ
import Derived.Test.YtdegpgonphgbcaaZFxN
import Derived.Test.YtdegpgonphgbcaaMem
namespace Go.Proofs.Ytdegpgonphgbcaa
open Go.RowKit
def Eqv (n d N D : Int) : Prop := n * D = N * d
theorem Eqv.symm {n d N D : Int} (h : Eqv n d N D) : Eqv N D n d := by unfold Eqv at *; exact Eq.symm h
theorem Eqv.trans {a b c d e f : Int} (hd : d ≠ 0) (h : Eqv a b c d) (k : Eqv c d e f) : Eqv a b e f := by
  unfold Eqv at *
  refine Int.eq_of_mul_eq_mul_right hd ?_
  rw [Int.mul_right_comm, h, Int.mul_right_comm, k, Int.mul_right_comm]
theorem Eqv.add {a b A B c d C D : Int} (h : Eqv a b A B) (k : Eqv c d C D) : Eqv (a * d + c * b) (b * d) (A * D + C * B) (B * D) := by unfold Eqv at *; grind
theorem Eqv.sub {a b A B c d C D : Int} (h : Eqv a b A B) (k : Eqv c d C D) : Eqv (a * d - c * b) (b * d) (A * D - C * B) (B * D) := by unfold Eqv at *; grind
theorem Eqv.mul {a b A B c d C D : Int} (h : Eqv a b A B) (k : Eqv c d C D) : Eqv (a * c) (b * d) (A * C) (B * D) := by unfold Eqv at *; grind
theorem Eqv.div {a b A B c d C D : Int} (h : Eqv a b A B) (k : Eqv c d C D) : Eqv (a * d) (b * c) (A * D) (B * C) := by unfold Eqv at *; grind
theorem Eqv.refl (a b : Int) : Eqv a b a b := rfl
def cmpI (a b : Int) : Int := if a < b then -1 else if a = b then 0 else 1
theorem sign_neg (n : Int) (h : n < 0) (w : World) : Calls Try.prog 82 #[.int .i64 n] w fun e w' => e = .returned (.int .i64 (-1)) ∧ w = w' := by
  go_enter Try.func82, Try.ntmps82
  go_wp2
  go_ret
  exact ⟨rfl, rfl⟩
theorem sign_zero (n : Int) (h : n = 0) (w : World) : Calls Try.prog 82 #[.int .i64 n] w fun e w' => e = .returned (.int .i64 0) ∧ w = w' := by
  subst h
  go_enter Try.func82, Try.ntmps82
  go_wp2
  go_ret
  exact ⟨rfl, rfl⟩
theorem sign_pos (n : Int) (h : 0 < n) (w : World) : Calls Try.prog 82 #[.int .i64 n] w fun e w' => e = .returned (.int .i64 1) ∧ w = w' := by
  go_enter Try.func82, Try.ntmps82
  go_wp2
  go_ret
  exact ⟨rfl, rfl⟩
theorem sgn_mul {x d : Int} (h : 0 < d) : (x < 0 → x * d < 0) ∧ (x = 0 → x * d = 0) ∧ (0 < x → 0 < x * d) :=
  ⟨fun k => Int.mul_neg_of_neg_of_pos k h, fun k => by rw [k, Int.zero_mul], fun k => Int.mul_pos k h⟩
theorem mul64_at {x y : Int} (A B : Nat) (ex : x = A) (ey : y = B) (hA : A < 18446744073709551616) (hB : B < 18446744073709551616) (w : World) :
    Calls Try.prog 83 #[.int .u64 x, .int .u64 y] w fun e w' => e = .returned (.tuple #[.int .u64 (wh (A * B)), .int .u64 (wl (A * B))]) ∧ w = w' := by
  subst ex ey; exact mul64_any A B hA hB w
set_option maxHeartbeats 1000000 in
theorem cmp_apart (xn xd yn yd : Int) (hx : -1152921504606846976 ≤ xn) (hx1 : xn ≤ 1152921504606846976) (hy : -1152921504606846976 ≤ yn) (hy1 : yn ≤ 1152921504606846976) (kx : 1 ≤ xd) (kx1 : xd ≤ 1152921504606846976) (ky : 1 ≤ yd) (ky1 : yd ≤ 1152921504606846976) (h : (xn < 0 ∧ 0 ≤ yn) ∨ (xn = 0) ∨ (0 < xn ∧ yn ≤ 0)) (w : World) :
    Calls Try.prog 61 #[.agg #[.int .i64 xn, .int .i64 xd], .agg #[.int .i64 yn, .int .i64 yd]] w fun e w' => e = .returned (.int .i64 (cmpI (xn * yd) (yn * xd))) ∧ Below w.heap.size w w' := by
  have m1 := sgn_mul (x := xn) (d := yd) (by omega)
  have m2 := sgn_mul (x := yn) (d := xd) (by omega)
  obtain ⟨c, hc⟩ : ∃ c, c = cmpI (xn * yd) (yn * xd) := ⟨_, rfl⟩
  have hcv : (xn < 0 → c = -1) ∧ (xn = 0 → yn < 0 → c = 1) ∧ (xn = 0 → yn = 0 → c = 0) ∧ (xn = 0 → 0 < yn → c = -1) ∧ (0 < xn → c = 1) := by
    rw [hc]; unfold cmpI
    generalize xn * yd = p at *
    generalize yn * xd = q at *
    refine ⟨fun k => ?_, fun k l => ?_, fun k l => ?_, fun k l => ?_, fun k => ?_⟩ <;> (repeat' split) <;> omega
  rw [← hc]
  have HC := Lib.hid hcv
  clear hcv hc m1 m2
  have z : xn < 0 ∨ xn = 0 ∨ 0 < xn := by omega
  have z' : yn < 0 ∨ yn = 0 ∨ 0 < yn := by omega
  rcases z with z | z | z
  all_goals rcases z' with z' | z' | z'
  all_goals first
    | (exfalso; omega)
    | (have k1 := Lib.hid z; have k2 := Lib.hid z'
       clear h z z'
       go_enter Try.func61, Try.ntmps61
       go_wp2_with fail
       first | (refine (sign_neg _ k1.out _).mono ?_) | (refine (sign_zero _ k1.out _).mono ?_) | (refine (sign_pos _ k1.out _).mono ?_)
       rintro e w1 ⟨rfl, rfl⟩
       go_wp2_with fail
       first | (refine (sign_neg _ k2.out _).mono ?_) | (refine (sign_zero _ k2.out _).mono ?_) | (refine (sign_pos _ k2.out _).mono ?_)
       rintro e w1 ⟨rfl, rfl⟩
       go_wp2_with fail
       first | (refine (sign_neg _ k2.out _).mono ?_) | (refine (sign_zero _ k2.out _).mono ?_) | (refine (sign_pos _ k2.out _).mono ?_)
       rintro e w1 ⟨rfl, rfl⟩
       go_wp2_with fail
       first | (refine (sign_neg _ (by decide) _).mono ?_) | (refine (sign_zero _ (by decide) _).mono ?_) | (refine (sign_pos _ (by decide) _).mono ?_)
       rintro e w1 ⟨rfl, rfl⟩
       go_wp2
       go_returns
       have kc := HC.out
       have k3 := k1.out
       have k4 := k2.out
       refine ⟨?_, by go_grown⟩
       first | exact ret_int (kc.1 k3).symm | exact ret_int (kc.2.1 k3 k4).symm | exact ret_int (kc.2.2.1 k3 k4).symm | exact ret_int (kc.2.2.2.1 k3 k4).symm | exact ret_int (kc.2.2.2.2 k3).symm)
theorem cmp_plain {xn xd yn yd : Int} (kx : 1 ≤ xd) (ky : 1 ≤ yd) :
    (0 < xn → 0 < yn → cmpI (xn * yd) (yn * xd) = cmpI ((xn.natAbs * yd.natAbs : Nat) : Int) ((yn.natAbs * xd.natAbs : Nat) : Int)) ∧
    (xn < 0 → yn < 0 → cmpI (xn * yd) (yn * xd) = -cmpI ((xn.natAbs * yd.natAbs : Nat) : Int) ((yn.natAbs * xd.natAbs : Nat) : Int)) := by
  have e1 : ((xn.natAbs * yd.natAbs : Nat) : Int) = (xn.natAbs : Int) * (yd.natAbs : Int) := by simp
  have e2 : ((yn.natAbs * xd.natAbs : Nat) : Int) = (yn.natAbs : Int) * (xd.natAbs : Int) := by simp
  rw [e1, e2, show (yd.natAbs : Int) = yd by omega, show (xd.natAbs : Int) = xd by omega]
  refine ⟨fun h k => ?_, fun h k => ?_⟩
  · rw [show (xn.natAbs : Int) = xn by omega, show (yn.natAbs : Int) = yn by omega]
  · rw [show (xn.natAbs : Int) = -xn by omega, show (yn.natAbs : Int) = -yn by omega, Int.neg_mul, Int.neg_mul]
    generalize xn * yd = p
    generalize yn * xd = q
    unfold cmpI
    (repeat' split) <;> omega
theorem cmp_words (P Q : Nat) : (wh P = wh Q → wl P = wl Q → cmpI P Q = 0) ∧ (wh P < wh Q → cmpI P Q = -1) ∧ (wh P = wh Q → wl P < wl Q → cmpI P Q = -1) ∧ (¬ wh P = wh Q → ¬ wh P < wh Q → cmpI P Q = 1) ∧ (wh P = wh Q → ¬ wl P = wl Q → ¬ wl P < wl Q → cmpI P Q = 1) := by
  have p1 := w_of P; have q1 := w_of Q
  have p2 := wl_bd P; have q2 := wl_bd Q
  unfold cmpI
  refine ⟨fun a b => ?_, fun a => ?_, fun a b => ?_, fun a b => ?_, fun a b c => ?_⟩ <;> (repeat' split) <;> omega
set_option maxHeartbeats 2000000 in
theorem cmp_both_pos (xn xd yn yd : Int) (hx : -1152921504606846976 ≤ xn) (hx1 : xn ≤ 1152921504606846976) (hy : -1152921504606846976 ≤ yn) (hy1 : yn ≤ 1152921504606846976) (kx : 1 ≤ xd) (kx1 : xd ≤ 1152921504606846976) (ky : 1 ≤ yd) (ky1 : yd ≤ 1152921504606846976) (h1 : 0 < xn) (h2 : 0 < yn) (w : World) :
    Calls Try.prog 61 #[.agg #[.int .i64 xn, .int .i64 xd], .agg #[.int .i64 yn, .int .i64 yd]] w fun e w' => e = .returned (.int .i64 (cmpI (xn * yd) (yn * xd))) ∧ Below w.heap.size w w' := by
  have hp := (cmp_plain (xn := xn) (yn := yn) kx ky).1 h1 h2
  have c1 := fun x y ex ey w => mul64_at (x := x) (y := y) xn.natAbs yd.natAbs ex ey (by omega) (by omega) w
  have c2 := fun x y ex ey w => mul64_at (x := x) (y := y) yn.natAbs xd.natAbs ex ey (by omega) (by omega) w
  generalize xn.natAbs * yd.natAbs = P at *
  generalize yn.natAbs * xd.natAbs = Q at *
  have hw := cmp_words P Q
  generalize cmpI (xn * yd) (yn * xd) = c at *
  generalize cmpI (P : Int) (Q : Int) = c' at *
  have HP := Lib.hid hp; have C1 := Lib.hid c1; have C2 := Lib.hid c2; have HW := Lib.hid hw
  have p2 := wl_bd P; have q2 := wl_bd Q
  clear hp c1 c2 hw
  have d : wh P = wh Q ∨ wh P < wh Q ∨ (¬ wh P = wh Q ∧ ¬ wh P < wh Q) := by omega
  have d' : wl P = wl Q ∨ wl P < wl Q ∨ (¬ wl P = wl Q ∧ ¬ wl P < wl Q) := by omega
  have D := Lib.hid d; have D' := Lib.hid d'
  clear d d'
  go_enter Try.func61, Try.ntmps61
  go_wp2_with fail
  refine (sign_pos _ h1 _).mono ?_
  rintro e w1 ⟨rfl, rfl⟩
  go_wp2_with fail
  refine (sign_pos _ h2 _).mono ?_
  rintro e w1 ⟨rfl, rfl⟩
  go_wp2_with fail
  all_goals refine Calls.mono (C1.out _ _ (by first | omega | (simp only [IntKind.wrap_u64]; omega)) (by first | omega | (simp only [IntKind.wrap_u64]; omega)) _) ?_
  all_goals rintro e w1 ⟨rfl, rfl⟩
  all_goals go_wp2_with fail
  all_goals first
    | (refine Calls.mono (C2.out _ _ (by first | omega | (simp only [IntKind.wrap_u64]; omega)) (by first | omega | (simp only [IntKind.wrap_u64]; omega)) _) ?_)
    | skip
  all_goals rintro e w1 ⟨rfl, rfl⟩
  all_goals go_wp2_with fail
  all_goals first
    | (refine (sign_pos _ h1 _).mono ?_
       rintro e w1 ⟨rfl, rfl⟩
       go_wp2
       go_returns
       have hv := HW.out
       have hp := HP.out
       refine ⟨ret_int ?_, by go_grown⟩
       (try simp only [beq_eq_false_iff_ne, ne_eq] at *)
       omega)
    | (go_returns
       have hv := HW.out
       have hp := HP.out
       refine ⟨ret_int ?_, by go_grown⟩
       (try simp only [beq_iff_eq] at *)
       omega)
set_option maxHeartbeats 2000000 in
theorem cmp_both_neg (xn xd yn yd : Int) (hx : -1152921504606846976 ≤ xn) (hx1 : xn ≤ 1152921504606846976) (hy : -1152921504606846976 ≤ yn) (hy1 : yn ≤ 1152921504606846976) (kx : 1 ≤ xd) (kx1 : xd ≤ 1152921504606846976) (ky : 1 ≤ yd) (ky1 : yd ≤ 1152921504606846976) (h1 : xn < 0) (h2 : yn < 0) (w : World) :
    Calls Try.prog 61 #[.agg #[.int .i64 xn, .int .i64 xd], .agg #[.int .i64 yn, .int .i64 yd]] w fun e w' => e = .returned (.int .i64 (cmpI (xn * yd) (yn * xd))) ∧ Below w.heap.size w w' := by
  have hp := (cmp_plain (xn := xn) (yn := yn) kx ky).2 h1 h2
  have c1 := fun x y ex ey w => mul64_at (x := x) (y := y) xn.natAbs yd.natAbs ex ey (by omega) (by omega) w
  have c2 := fun x y ex ey w => mul64_at (x := x) (y := y) yn.natAbs xd.natAbs ex ey (by omega) (by omega) w
  generalize xn.natAbs * yd.natAbs = P at *
  generalize yn.natAbs * xd.natAbs = Q at *
  have hw := cmp_words P Q
  generalize cmpI (xn * yd) (yn * xd) = c at *
  generalize cmpI (P : Int) (Q : Int) = c' at *
  have HP := Lib.hid hp; have C1 := Lib.hid c1; have C2 := Lib.hid c2; have HW := Lib.hid hw
  have p2 := wl_bd P; have q2 := wl_bd Q
  clear hp c1 c2 hw
  have d : wh P = wh Q ∨ wh P < wh Q ∨ (¬ wh P = wh Q ∧ ¬ wh P < wh Q) := by omega
  have d' : wl P = wl Q ∨ wl P < wl Q ∨ (¬ wl P = wl Q ∧ ¬ wl P < wl Q) := by omega
  have D := Lib.hid d; have D' := Lib.hid d'
  clear d d'
  go_enter Try.func61, Try.ntmps61
  go_wp2_with fail
  refine (sign_neg _ h1 _).mono ?_
  rintro e w1 ⟨rfl, rfl⟩
  go_wp2_with fail
  refine (sign_neg _ h2 _).mono ?_
  rintro e w1 ⟨rfl, rfl⟩
  go_wp2_with fail
  all_goals refine Calls.mono (C1.out _ _ (by first | omega | (simp only [IntKind.wrap_u64]; omega)) (by first | omega | (simp only [IntKind.wrap_u64]; omega)) _) ?_
  all_goals rintro e w1 ⟨rfl, rfl⟩
  all_goals go_wp2_with fail
  all_goals first
    | (refine Calls.mono (C2.out _ _ (by first | omega | (simp only [IntKind.wrap_u64]; omega)) (by first | omega | (simp only [IntKind.wrap_u64]; omega)) _) ?_)
    | skip
  all_goals rintro e w1 ⟨rfl, rfl⟩
  all_goals go_wp2_with fail
  all_goals first
    | (refine (sign_neg _ h1 _).mono ?_
       rintro e w1 ⟨rfl, rfl⟩
       go_wp2
       go_returns
       have hv := HW.out
       have hp := HP.out
       refine ⟨ret_int ?_, by go_grown⟩
       (try simp only [beq_eq_false_iff_ne, ne_eq] at *)
       omega)
    | (go_returns
       have hv := HW.out
       have hp := HP.out
       refine ⟨ret_int ?_, by go_grown⟩
       (try simp only [beq_iff_eq] at *)
       omega)
theorem cmp_any (xn xd yn yd : Int) (hx : -1152921504606846976 ≤ xn) (hx1 : xn ≤ 1152921504606846976) (hy : -1152921504606846976 ≤ yn) (hy1 : yn ≤ 1152921504606846976) (kx : 1 ≤ xd) (kx1 : xd ≤ 1152921504606846976) (ky : 1 ≤ yd) (ky1 : yd ≤ 1152921504606846976) (w : World) :
    Calls Try.prog 61 #[.agg #[.int .i64 xn, .int .i64 xd], .agg #[.int .i64 yn, .int .i64 yd]] w fun e w' => e = .returned (.int .i64 (cmpI (xn * yd) (yn * xd))) ∧ Below w.heap.size w w' := by
  by_cases h : 0 < xn ∧ 0 < yn
  · exact cmp_both_pos xn xd yn yd hx hx1 hy hy1 kx kx1 ky ky1 h.1 h.2 w
  · by_cases k : xn < 0 ∧ yn < 0
    · exact cmp_both_neg xn xd yn yd hx hx1 hy hy1 kx kx1 ky ky1 k.1 k.2 w
    · exact cmp_apart xn xd yn yd hx hx1 hy hy1 kx kx1 ky ky1 (by omega) w
abbrev FrV (x : Rat) : Value := .agg #[.int .i64 x.num, .int .i64 (x.den : Int)]
abbrev FrC (x : Rat) : List Value := [.int .i64 x.num, .int .i64 (x.den : Int)]
def FrRet (z : Rat) (w : World) (e : Ending) (w' : World) : Prop := e = .returned (FrV z) ∧ Below w.heap.size w w'
def FrTup (z : Rat) (w : World) (e : Ending) (w' : World) : Prop := e = .returned (.tuple #[FrV z, .int .i64 0]) ∧ Below w.heap.size w w'
theorem Fit.d {x : Rat} (h : Fit x) : (x.den : Int) ≤ 1152921504606846976 := by have := h.2.2; omega
def cmpR (x y : Rat) : Int := if x < y then -1 else if x = y then 0 else 1
theorem cmp_rat (x y : Rat) : cmpI (x.num * (y.den : Int)) (y.num * (x.den : Int)) = cmpR x y := by
  unfold cmpI cmpR
  by_cases h : x < y
  · rw [if_pos h, if_pos ((Rat.lt_iff x y).1 h)]
  · rw [if_neg h, if_neg (fun g => h ((Rat.lt_iff x y).2 g))]
    by_cases h2 : x = y
    · rw [if_pos h2, if_pos (Rat.eq_iff_mul_eq_mul.1 h2)]
    · rw [if_neg h2, if_neg (fun g => h2 (Rat.eq_iff_mul_eq_mul.2 g))]
theorem pden (x y : Rat) : (x.den : Int) * (y.den : Int) ≠ 0 := Int.mul_ne_zero (den_ne x) (den_ne y)
theorem num_ne {x : Rat} (h : x ≠ 0) : x.num ≠ 0 := fun e => h (Rat.num_eq_zero.1 e)
theorem nadd (x y : Rat) (hx : Fit x) (hy : Fit y) (hz : Fit (x + y)) (w : World) : Calls Try.prog 80 #[FrV x, FrV y] w (FrTup (x + y) w) := by
  obtain ⟨h1, h2, h3⟩ := fit_named (pden x y) (add_rat x y) hz
  have h := frac_add x.num x.den y.num y.den hx.1 hx.2.1 hy.1 hy.2.1 (den_one x) hx.d (den_one y) hy.d w
  rw [h1, h2, h3] at h
  exact h
theorem nmul (x y : Rat) (hx : Fit x) (hy : Fit y) (hz : Fit (x * y)) (w : World) : Calls Try.prog 81 #[FrV x, FrV y] w (FrTup (x * y) w) := by
  obtain ⟨h1, h2, h3⟩ := fit_named (pden x y) (mul_rat x y) hz
  have h := frac_mul x.num x.den y.num y.den hx.1 hx.2.1 hy.1 hy.2.1 (den_one x) hx.d (den_one y) hy.d w
  rw [h1, h2, h3] at h
  exact h
theorem ndiv (x y : Rat) (hn : y ≠ 0) (hx : Fit x) (hy : Fit y) (hz : Fit (x / y)) (w : World) : Calls Try.prog 97 #[FrV x, FrV y] w (FrTup (x / y) w) := by
  obtain ⟨h1, h2, h3⟩ := fit_named (Int.mul_ne_zero (den_ne x) (num_ne hn)) (div_rat (x := x) (y := y)) hz
  have h := frac_div x.num x.den y.num y.den hx.1 hx.2.1 hy.1 hy.2.1 (den_one x) hx.d (den_one y) hy.d (num_ne hn) w
  rw [h1, h2, h3] at h
  exact h
theorem ncmp (x y : Rat) (hx : Fit x) (hy : Fit y) (w : World) : Calls Try.prog 61 #[FrV x, FrV y] w fun e w' => e = .returned (.int .i64 (cmpR x y)) ∧ Below w.heap.size w w' := by
  have h := cmp_any x.num x.den y.num y.den hx.1 hx.2.1 hy.1 hy.2.1 (den_one x) hx.d (den_one y) hy.d w
  rw [cmp_rat] at h
  exact h
set_option maxHeartbeats 4000000 in
theorem sadd (x y : Rat) (hx : Fit x) (hy : Fit y) (hz : Fit (x + y)) (w : World) : Calls Try.prog 59 #[FrV x, FrV y] w (FrRet (x + y) w) := by
  have N := Lib.hid (fun w => nadd x y hx hy hz w)
  have F0 := Lib.hid (Fm.new (Fm.new (Fm.new (Fm.start Non w) rfl (FrC x) 31) (by simp) (FrC y) 31) (by simp) [.int .i64 0, .int .i64 0] 31)
  generalize x + y = z at N ⊢
  clear hx hy hz
  go_enter Try.func59, Try.ntmps59
  go_wp2_with fail
  refine (N.out _).mono ?_
  rintro e w1 ⟨rfl, hb⟩
  have F1 := Lib.hid (Fm.call hb F0.out)
  clear hb
  have z0 := F1.out.h2.cell 0 _ rfl; have z1 := F1.out.h2.cell 1 _ rfl; have zf := F1.out.h2.free; have lz := F1.out.h2.lt (by simp)
  go_upto_region 2 with fail
  obtain ⟨w2, hw2⟩ : ∃ w2, w2 = w1.alloc (.cells #[.int .i64 z.num, .int .i64 (z.den : Int)] 31) := ⟨_, rfl⟩
  rw [← hw2]
  have F2 := Lib.hid (show Fm Non w w2 [FrC x, FrC y, [.int .i64 0, .int .i64 0]] by rw [hw2]; exact F1.out.more _)
  have Z2 := Lib.hid (show Has w2 w1.heap.size (FrC z) by rw [hw2]; exact Has.new w1 (FrC z) 31)
  clear hw2 z0 z1 zf lz F1
  generalize w1.heap.size = q at Z2 ⊢
  have z0 := F2.out.h2.cell 0 _ rfl; have z1 := F2.out.h2.cell 1 _ rfl; have zf := F2.out.h2.free
  have q0 := Z2.out.cell 0 _ rfl; have q1 := Z2.out.cell 1 _ rfl
  go_wp2
  refine bodyPost_ret (v := FrV z) (by simp [results, Try.results59, go_sem, z0, z1]) rfl ⟨rfl, ?_⟩
  exact (F2.out.below.setCell (by simp; omega) _).setCell (by simp; omega) _
set_option maxHeartbeats 4000000 in
theorem smul (x y : Rat) (hx : Fit x) (hy : Fit y) (hz : Fit (x * y)) (w : World) : Calls Try.prog 60 #[FrV x, FrV y] w (FrRet (x * y) w) := by
  have N := Lib.hid (fun w => nmul x y hx hy hz w)
  have F0 := Lib.hid (Fm.new (Fm.new (Fm.new (Fm.start Non w) rfl (FrC x) 31) (by simp) (FrC y) 31) (by simp) [.int .i64 0, .int .i64 0] 31)
  generalize x * y = z at N ⊢
  clear hx hy hz
  go_enter Try.func60, Try.ntmps60
  go_wp2_with fail
  refine (N.out _).mono ?_
  rintro e w1 ⟨rfl, hb⟩
  have F1 := Lib.hid (Fm.call hb F0.out)
  clear hb
  have z0 := F1.out.h2.cell 0 _ rfl; have z1 := F1.out.h2.cell 1 _ rfl; have zf := F1.out.h2.free; have lz := F1.out.h2.lt (by simp)
  go_upto_region 2 with fail
  obtain ⟨w2, hw2⟩ : ∃ w2, w2 = w1.alloc (.cells #[.int .i64 z.num, .int .i64 (z.den : Int)] 31) := ⟨_, rfl⟩
  rw [← hw2]
  have F2 := Lib.hid (show Fm Non w w2 [FrC x, FrC y, [.int .i64 0, .int .i64 0]] by rw [hw2]; exact F1.out.more _)
  have Z2 := Lib.hid (show Has w2 w1.heap.size (FrC z) by rw [hw2]; exact Has.new w1 (FrC z) 31)
  clear hw2 z0 z1 zf lz F1
  generalize w1.heap.size = q at Z2 ⊢
  have z0 := F2.out.h2.cell 0 _ rfl; have z1 := F2.out.h2.cell 1 _ rfl; have zf := F2.out.h2.free
  have q0 := Z2.out.cell 0 _ rfl; have q1 := Z2.out.cell 1 _ rfl
  go_wp2
  refine bodyPost_ret (v := FrV z) (by simp [results, Try.results60, go_sem, z0, z1]) rfl ⟨rfl, ?_⟩
  exact (F2.out.below.setCell (by simp; omega) _).setCell (by simp; omega) _
set_option maxHeartbeats 4000000 in
theorem sdiv (x y : Rat) (hn : y ≠ 0) (hx : Fit x) (hy : Fit y) (hz : Fit (x / y)) (w : World) : Calls Try.prog 85 #[FrV x, FrV y] w (FrRet (x / y) w) := by
  have N := Lib.hid (fun w => ndiv x y hn hx hy hz w)
  have F0 := Lib.hid (Fm.new (Fm.new (Fm.new (Fm.start Non w) rfl (FrC x) 31) (by simp) (FrC y) 31) (by simp) [.int .i64 0, .int .i64 0] 31)
  generalize x / y = z at N ⊢
  clear hx hy hz
  go_enter Try.func85, Try.ntmps85
  go_wp2_with fail
  refine (N.out _).mono ?_
  rintro e w1 ⟨rfl, hb⟩
  have F1 := Lib.hid (Fm.call hb F0.out)
  clear hb
  have z0 := F1.out.h2.cell 0 _ rfl; have z1 := F1.out.h2.cell 1 _ rfl; have zf := F1.out.h2.free; have lz := F1.out.h2.lt (by simp)
  go_upto_region 2 with fail
  obtain ⟨w2, hw2⟩ : ∃ w2, w2 = w1.alloc (.cells #[.int .i64 z.num, .int .i64 (z.den : Int)] 31) := ⟨_, rfl⟩
  rw [← hw2]
  have F2 := Lib.hid (show Fm Non w w2 [FrC x, FrC y, [.int .i64 0, .int .i64 0]] by rw [hw2]; exact F1.out.more _)
  have Z2 := Lib.hid (show Has w2 w1.heap.size (FrC z) by rw [hw2]; exact Has.new w1 (FrC z) 31)
  clear hw2 z0 z1 zf lz F1
  generalize w1.heap.size = q at Z2 ⊢
  have z0 := F2.out.h2.cell 0 _ rfl; have z1 := F2.out.h2.cell 1 _ rfl; have zf := F2.out.h2.free
  have q0 := Z2.out.cell 0 _ rfl; have q1 := Z2.out.cell 1 _ rfl
  go_wp2
  refine bodyPost_ret (v := FrV z) (by simp [results, Try.results85, go_sem, z0, z1]) rfl ⟨rfl, ?_⟩
  exact (F2.out.below.setCell (by simp; omega) _).setCell (by simp; omega) _
theorem fit_neg {x : Rat} (h : Fit x) : Fit (-x) := by obtain ⟨h1, h2, h3⟩ := h; exact ⟨by rw [Rat.neg_num]; omega, by rw [Rat.neg_num]; omega, by rw [Rat.neg_den]; exact h3⟩
set_option maxHeartbeats 4000000 in
theorem sopp (x : Rat) (hx : Fit x) (w : World) : Calls Try.prog 37 #[FrV x] w (FrRet (-x) w) := by
  have h0 := hx.1; have h1 := hx.2.1
  have NN := Lib.hid (show (-x).num = -x.num ∧ (-x).den = x.den from ⟨rfl, rfl⟩)
  generalize hn : x.num = n at *
  generalize hd : x.den = d at *
  clear hx
  go_enter Try.func37, Try.ntmps37
  go_wp2
  refine bodyPost_ret (v := .agg #[.int .i64 (-n), .int .i64 (d : Int)]) (by simp [results, Try.results37, go_sem]) rfl ⟨by unfold FrV; rw [NN.out.1, NN.out.2], ?_⟩
  exact ((Below.refl _ _).alloc (Nat.le_refl _) _).alloc (by simp) _
set_option maxHeartbeats 4000000 in
theorem whole_any (n : Int) (w : World) : Calls Try.prog 58 #[.int .i64 n] w (FrRet (n : Rat) w) := by
  go_enter Try.func58, Try.ntmps58
  go_wp2
  refine bodyPost_ret (v := .agg #[.int .i64 n, .int .i64 1]) (by simp [results, Try.results58, go_sem]) rfl ⟨rfl, ?_⟩
  exact (Below.refl _ _).alloc (Nat.le_refl _) _
theorem fit_int {n : Int} (h0 : -1152921504606846976 ≤ n) (h1 : n ≤ 1152921504606846976) : Fit (n : Rat) := ⟨h0, h1, by show 1 ≤ _; omega⟩
end Go.Proofs.Ytdegpgonphgbcaa
