/-
  timeboundlaw31.FractionLimits returns true, whatever its numbers are. No condition.
-/
import Derived.Test.YtaokenpdaiabgaaE
import Derived.Test.YtaokenpdaiabgaaO
import Derived.Test.YtaokenpdaiabgaaX
namespace Go.Proofs.Ytaokenpdaiabgaa
open Go.RowKit

def Two2 (n d x : Int) (w : World) (e : Ending) (w' : World) : Prop := e = .returned (.tuple #[.agg #[.int .i64 n, .int .i64 d], .int .i64 x]) ∧ Below w.heap.size w w'

set_option maxRecDepth 100000 in
set_option maxHeartbeats 4000000 in
theorem limits_law (a0 a1 a2 : Int) (w0 : (Lit.int .i64 a0).wf = true) (w1 : (Lit.int .i64 a1).wf = true) (w2 : (Lit.int .i64 a2).wf = true) (w : World) :
    Calls Try.prog 5 #[.int .i64 a0, .int .i64 a1, .int .i64 a2] w fun e w' => e = .returned (.bool true) ∧ Below w.heap.size w w' := by
  have mA := mod_at a0 1000 (by omega) (by omega) w0; have mB := mod_at a1 1000 (by omega) (by omega) w1; have mK := mod_at a2 100000 (by omega) (by omega) w2
  have bA : 0 ≤ a0 % 1000 ∧ a0 % 1000 ≤ 999 := by omega
  have bB : 0 ≤ a1 % 1000 ∧ a1 % 1000 ≤ 999 := by omega
  have bK : 0 ≤ a2 % 100000 ∧ a2 % 100000 ≤ 99999 := by omega
  generalize a0 % 1000 = r0 at *
  generalize a1 % 1000 = r1 at *
  generalize a2 % 100000 = r2 at *
  obtain ⟨A0, A1⟩ := bA
  obtain ⟨B0, B1⟩ := bB
  obtain ⟨K0, K1⟩ := bK
  have mA := Lib.hid mA; have mB := Lib.hid mB; have mK := Lib.hid mK
  obtain ⟨xn, xd, yn, yd, n, d, ⟨e1, e2, e3⟩, ⟨e4, e5, e6⟩, ⟨x0, x1, x2, x3⟩, ⟨y0, y1, y2, y3⟩, ⟨e7, e8, e9⟩, ⟨e10, e11, e12⟩, ⟨e13, e14, e15⟩, ⟨e16, e17, e18⟩⟩ := limits_plain (1 + r0) (1 + r1) (1152921504606846976 - r2) (by omega) (by omega) (by omega) (by omega) (by omega) (by omega)
  have k1 := fun w => make_any (1152921504606846976 - r2) (1 + r0) (by omega) (by omega) (by omega) (by omega) (by omega) w
  rw [e1, e2, e3] at k1
  have k2 := fun w => make_any (1 + r1) (1152921504606846976 - r2) (by omega) (by omega) (by omega) (by omega) (by omega) w
  rw [e4, e5, e6] at k2
  have k3 := fun w => frac_mul xn xd yn yd (by omega) (by omega) (by omega) (by omega) (by omega) (by omega) (by omega) (by omega) w
  rw [e10, e11, e12] at k3
  have k4 := fun w => rmake_pos (1 + r1) (1 + r0) (by omega) (by omega) (by omega) (by omega) w
  unfold Red at k4
  rw [e7, e8, e9] at k4
  have k5 := fun w => frac_div xn xd xn xd (by omega) (by omega) (by omega) (by omega) (by omega) (by omega) (by omega) (by omega) (by omega) w
  rw [e13, e14, e15] at k5
  have k6 := fun w => frac_sub xn xd xn xd (by omega) (by omega) (by omega) (by omega) (by omega) (by omega) (by omega) (by omega) w
  rw [e16, e17, e18] at k6
  have K1' := Lib.hid k1; have K2' := Lib.hid k2; have K3' := Lib.hid k3; have K4' := Lib.hid k4; have K5' := Lib.hid k5; have K6' := Lib.hid k6
  clear k1 k2 k3 k4 k5 k6 e1 e2 e3 e4 e5 e6 e7 e8 e9 e10 e11 e12 e13 e14 e15 e16 e17 e18 w0 w1 w2
  go_enter Try.func5, Try.ntmps5
  go_wp2_with fail
  refine (mA.out _).mono ?_
  rintro e w' ⟨rfl, rfl⟩
  go_wp2_with fail
  refine (mB.out _).mono ?_
  rintro e w' ⟨rfl, rfl⟩
  go_wp2_with fail
  refine (mK.out _).mono ?_
  rintro e w' ⟨rfl, rfl⟩
  go_wp2_with fail
  refine (K1'.out _).mono ?_
  rintro e v1 ⟨rfl, hb1⟩
  have F1 := Lib.hid (Fr.more (Fr.call hb1 (Fr.refl w)) (.cells #[.int .i64 xn, .int .i64 xd] 24))
  have X1 := Lib.hid (Has.new v1 [.int .i64 xn, .int .i64 xd] 24)
  clear hb1
  go_wp2_with fail
  refine (K2'.out _).mono ?_
  rintro e v2 ⟨rfl, hb2⟩
  have F2 := Lib.hid (Fr.more (Fr.call hb2 F1.out) (.cells #[.int .i64 yn, .int .i64 yd] 24))
  have X2 := Lib.hid ((X1.out.below hb2 (X1.out.lt (by simp))).old (o := .cells #[.int .i64 yn, .int .i64 yd] 24) (Nat.lt_of_lt_of_le (X1.out.lt (by simp)) hb2.size))
  have Y2 := Lib.hid (Has.new v2 [.int .i64 yn, .int .i64 yd] 24)
  clear hb2
  have c0 := X2.out.cell 0 _ rfl; have c1 := X2.out.cell 1 _ rfl; have d0 := Y2.out.cell 0 _ rfl; have d1 := Y2.out.cell 1 _ rfl
  go_wp2_with fail
  refine (K3'.out _).mono ?_
  rintro e v3 ⟨rfl, hb3⟩
  have F3 := Lib.hid (Fr.more (Fr.call hb3 F2.out) (.cells #[.int .i64 n, .int .i64 d] 24))
  have X3 := Lib.hid ((X2.out.below hb3 (X2.out.lt (by simp))).old (o := .cells #[.int .i64 n, .int .i64 d] 24) (Nat.lt_of_lt_of_le (X2.out.lt (by simp)) hb3.size))
  have Z3 := Lib.hid (Has.new v3 [.int .i64 n, .int .i64 d] 24)
  clear hb3 c0 c1 d0 d1
  go_wp2_with fail
  refine (K4'.out _).mono ?_
  rintro e v4 ⟨rfl, hb4⟩
  have F4 := Lib.hid (Fr.more (Fr.call hb4 F3.out) (.cells #[.int .i64 n, .int .i64 d] 24))
  have X4 := Lib.hid ((X3.out.below hb4 (X3.out.lt (by simp))).old (o := .cells #[.int .i64 n, .int .i64 d] 24) (Nat.lt_of_lt_of_le (X3.out.lt (by simp)) hb4.size))
  have Z4 := Lib.hid ((Z3.out.below hb4 (Z3.out.lt (by simp))).old (o := .cells #[.int .i64 n, .int .i64 d] 24) (Nat.lt_of_lt_of_le (Z3.out.lt (by simp)) hb4.size))
  have W4 := Lib.hid (Has.new v4 [.int .i64 n, .int .i64 d] 24)
  clear hb4
  have c0 := X4.out.cell 0 _ rfl; have c1 := X4.out.cell 1 _ rfl
  go_wp2_with fail
  refine (K5'.out _).mono ?_
  rintro e v5 ⟨rfl, hb5⟩
  have F5 := Lib.hid (Fr.more (Fr.call hb5 F4.out) (.cells #[.int .i64 1, .int .i64 1] 24))
  have X5 := Lib.hid ((X4.out.below hb5 (X4.out.lt (by simp))).old (o := .cells #[.int .i64 1, .int .i64 1] 24) (Nat.lt_of_lt_of_le (X4.out.lt (by simp)) hb5.size))
  have Z5 := Lib.hid ((Z4.out.below hb5 (Z4.out.lt (by simp))).old (o := .cells #[.int .i64 1, .int .i64 1] 24) (Nat.lt_of_lt_of_le (Z4.out.lt (by simp)) hb5.size))
  have W5 := Lib.hid ((W4.out.below hb5 (W4.out.lt (by simp))).old (o := .cells #[.int .i64 1, .int .i64 1] 24) (Nat.lt_of_lt_of_le (W4.out.lt (by simp)) hb5.size))
  have V5 := Lib.hid (Has.new v5 [.int .i64 1, .int .i64 1] 24)
  clear hb5 c0 c1
  have c0 := X5.out.cell 0 _ rfl; have c1 := X5.out.cell 1 _ rfl
  go_wp2_with fail
  refine (K6'.out _).mono ?_
  rintro e v6 ⟨rfl, hb6⟩
  have F6 := Lib.hid (Fr.more (Fr.call hb6 F5.out) (.cells #[.int .i64 0, .int .i64 1] 24))
  have Z6 := Lib.hid ((Z5.out.below hb6 (Z5.out.lt (by simp))).old (o := .cells #[.int .i64 0, .int .i64 1] 24) (Nat.lt_of_lt_of_le (Z5.out.lt (by simp)) hb6.size))
  have W6 := Lib.hid ((W5.out.below hb6 (W5.out.lt (by simp))).old (o := .cells #[.int .i64 0, .int .i64 1] 24) (Nat.lt_of_lt_of_le (W5.out.lt (by simp)) hb6.size))
  have V6 := Lib.hid ((V5.out.below hb6 (V5.out.lt (by simp))).old (o := .cells #[.int .i64 0, .int .i64 1] 24) (Nat.lt_of_lt_of_le (V5.out.lt (by simp)) hb6.size))
  have U6 := Lib.hid (Has.new v6 [.int .i64 0, .int .i64 1] 24)
  clear hb6 c0 c1
  have z0 := Z6.out.cell 0 _ rfl; have z1 := Z6.out.cell 1 _ rfl; have z2 := W6.out.cell 0 _ rfl; have z3 := W6.out.cell 1 _ rfl; have z4 := V6.out.cell 0 _ rfl; have z5 := V6.out.cell 1 _ rfl; have z6 := U6.out.cell 0 _ rfl; have z7 := U6.out.cell 1 _ rfl
  have s1 : (n == n) = true := by simp
  have s2 : (d == d) = true := by simp
  go_wp2_with fail
  refine (awake_any _).mono ?_
  rintro e v7 ⟨rfl, hb7⟩
  go_wp2
  refine bodyPost_ret (v := .bool true) (by simp [results, Try.results5, go_sem]) rfl ⟨rfl, (Fr.call hb7 F6.out).below⟩
end Go.Proofs.Ytaokenpdaiabgaa
