/-
  timeboundlaw31.FractionLowest returns true, whatever its three integers are. No condition.
-/
import Derived.Test.YtaokenpdaiabgaaE
namespace Go.Proofs.Ytaokenpdaiabgaa
open Go.RowKit

theorem make_a {x y : Int} (a b n d : Int) (ex : x = a) (ey : y = b) (ha : -1000000 ≤ a) (ha' : a ≤ 1000000) (hb : -1000000 ≤ b) (hb' : b ≤ 1000000) (h0 : b ≠ 0) (h1 : fE a b = 0) (h2 : fA a b = n) (h3 : fB a b = d) (w : World) :
    Calls Try.prog 9 #[.int .i64 x, .int .i64 y] w fun e w' => e = .returned (.tuple #[.agg #[.int .i64 n, .int .i64 d], .int .i64 0]) ∧ Below w.heap.size w w' := by
  subst ex ey
  have h := make_small x y (by omega) (by omega) (by omega) (by omega) h0 w
  rwa [h1, h2, h3] at h

theorem mul_bd {x y : Int} (h0 : -1000 ≤ x) (h1 : x ≤ 1000) (h2 : -1000 ≤ y) (h3 : y ≤ 1000) : -1000000 ≤ x * y ∧ x * y ≤ 1000000 := by
  have a1 := Int.mul_le_mul_of_nonneg_left (a := 1000 - y) (b := 2000) (c := x + 1000) (by omega) (by omega)
  have a2 := Int.mul_nonneg (a := x + 1000) (b := y + 1000) (by omega) (by omega)
  have a3 := Int.mul_nonneg (a := 1000 - x) (b := 1000 - y) (by omega) (by omega)
  have a4 := Int.mul_nonneg (a := 1000 - x) (b := y + 1000) (by omega) (by omega)
  have a5 := Int.mul_nonneg (a := x + 1000) (b := 1000 - y) (by omega) (by omega)
  have e2 : (x + 1000) * (y + 1000) = x * y + 1000 * x + 1000 * y + 1000000 := by grind
  have e3 : (1000 - x) * (1000 - y) = x * y - 1000 * x - 1000 * y + 1000000 := by grind
  have e4 : (1000 - x) * (y + 1000) = 1000 * y + 1000000 - x * y - 1000 * x := by grind
  have e5 : (x + 1000) * (1000 - y) = 1000 * x + 1000000 - x * y - 1000 * y := by grind
  omega

set_option maxHeartbeats 1000000 in
theorem lowest_law (a0 a1 a2 : Int) (w0 : (Lit.int .i64 a0).wf = true) (w1 : (Lit.int .i64 a1).wf = true) (w2 : (Lit.int .i64 a2).wf = true) (w : World) :
    Calls Try.prog 3 #[.int .i64 a0, .int .i64 a1, .int .i64 a2] w fun e w' => e = .returned (.bool true) ∧ Below w.heap.size w w' := by
  have mA := mod_at a0 2001 (by omega) (by omega) w0; have mB := mod_at a1 1000 (by omega) (by omega) w1; have mK := mod_at a2 1000 (by omega) (by omega) w2
  have bA : 0 ≤ a0 % 2001 ∧ a0 % 2001 ≤ 2000 := by omega
  have bB : 0 ≤ a1 % 1000 ∧ a1 % 1000 ≤ 999 := by omega
  have bK : 0 ≤ a2 % 1000 ∧ a2 % 1000 ≤ 999 := by omega
  generalize a0 % 2001 = r0 at *
  generalize a1 % 1000 = r1 at *
  generalize a2 % 1000 = r2 at *
  obtain ⟨A, hA⟩ : ∃ A, A = r0 - 1000 := ⟨_, rfl⟩
  obtain ⟨B, hB⟩ : ∃ B, B = 1 + r1 := ⟨_, rfl⟩
  obtain ⟨K, hK⟩ : ∃ K, K = 1 + r2 := ⟨_, rfl⟩
  obtain ⟨p1, p2, p3, q1, q2, q3, n0, n1, d0, d1, cr⟩ := lowest_plain A B K (by omega) (by omega) (by omega) (by omega) (by omega) (by omega)
  have m1 := mul_bd (x := -A) (y := K) (by omega) (by omega) (by omega) (by omega)
  have m2 := mul_bd (x := -B) (y := K) (by omega) (by omega) (by omega) (by omega)
  have m3 := mul_bd (x := fN A B) (y := B) (by omega) (by omega) (by omega) (by omega)
  have m4 := mul_bd (x := A) (y := fD A B) (by omega) (by omega) (by omega) (by omega)
  have hkb : (-B * K) ≠ 0 := by
    have := Int.mul_pos (by omega : 0 < B) (by omega : 0 < K)
    rw [Int.neg_mul]; omega
  have x1 := fun w => make_a (x := r0 - 1000) (y := 1 + r1) A B (fN A B) (fD A B) hA.symm hB.symm (by omega) (by omega) (by omega) (by omega) (by omega) p1 p2 p3 w
  have x2 := fun x y hx hy w => make_a (x := x) (y := y) (-A * K) (-B * K) (fN A B) (fD A B) hx hy m1.1 m1.2 m2.1 m2.2 hkb q1 q2 q3 w
  have hv := fN_gcd (a := A) (b := B) (by omega)
  generalize fN A B = n at *
  generalize fD A B = d at *
  rw [hA, hK] at m1
  rw [hB, hK] at m2
  rw [hB] at m3
  rw [hA] at m4
  rw [hB, hA] at cr
  have cr' : (n * (1 + r1) == (r0 - 1000) * d) = true := by rw [cr]; simp
  have X1 := Lib.hid x1; have X2 := Lib.hid x2; have V := Lib.hid hv
  have hA' := Lib.hid hA; have hB' := Lib.hid hB; have hK' := Lib.hid hK
  clear x1 x2 hv p1 p2 p3 q1 q2 q3 cr hkb hA hB hK
  have mA := Lib.hid mA; have mB := Lib.hid mB; have mK := Lib.hid mK
  go_enter Try.func3, Try.ntmps3
  go_wp2_with fail
  refine (mA.out _).mono ?_
  rintro e w' ⟨rfl, rfl⟩
  go_wp2_with fail
  refine (mB.out _).mono ?_
  rintro e w' ⟨rfl, rfl⟩
  go_wp2_with fail
  refine (mK.out _).mono ?_
  rintro e w' ⟨rfl, rfl⟩
  go_wp2_with fail
  refine (X1.out _).mono ?_
  rintro e w3 ⟨rfl, hb1⟩
  go_wp2_with fail
  refine Calls.mono (X2.out _ _ (by rw [hA'.out, hK'.out]) (by rw [hB'.out, hK'.out]) _) ?_
  rintro e w4 ⟨rfl, hb2⟩
  have t1 := (Has.new w3 [.int .i64 n, .int .i64 d] 24).below hb2 (by go_size)
  have z2 : w3.heap.size < w4.heap.size := t1.lt (by simp)
  have k2 : Below w.heap.size w w4 := (hb1.alloc hb1.size _).trans (hb2.mono (by have := hb1.size; go_size))
  have c1 := t1.cell 0 _ rfl; have c2 := t1.cell 1 _ rfl
  clear mA mB mK X1 X2
  go_wp2_with fail
  refine (rvalid_yes n d (by omega) (by omega) (by omega) (by omega) V.out _).mono ?_
  rintro e w5 ⟨rfl, hb3⟩
  have k3 : Below w.heap.size w w5 := (k2.alloc k2.size _).trans (hb3.mono (by have := k2.size; go_size))
  go_wp2_with fail
  refine (awake_any _).mono ?_
  rintro e w6 ⟨rfl, hb4⟩
  have k4 : Below w.heap.size w w6 := k3.trans (hb4.mono k3.size)
  go_wp2
  go_ret
  exact ⟨rfl, k4⟩
end Go.Proofs.Ytaokenpdaiabgaa
