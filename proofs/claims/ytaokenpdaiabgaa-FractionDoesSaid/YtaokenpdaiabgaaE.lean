/-
  The example of the chapter (timeboundlaw31.awake): it holds.
-/
import Derived.Test.YtaokenpdaiabgaaD
namespace Go.Proofs.Ytaokenpdaiabgaa
open Go.RowKit

theorem make_example (w : World) :
    Calls Try.prog 9 #[.int .i64 4, .int .i64 (-6)] w fun e w' => e = .returned (.tuple #[.agg #[.int .i64 (-2), .int .i64 3], .int .i64 0]) ∧ Below w.heap.size w w' := by
  have h := make_small 4 (-6) (by omega) (by omega) (by omega) (by omega) (by omega) w
  have e1 : fA 4 (-6) = -2 := by decide
  have e2 : fB 4 (-6) = 3 := by decide
  have e3 : fE 4 (-6) = 0 := by decide
  rwa [e1, e2, e3] at h

set_option maxHeartbeats 1000000 in
theorem awake_any (w : World) : Calls Try.prog 11 #[] w fun e w' => e = .returned (.bool true) ∧ Below w.heap.size w w' := by
  go_enter Try.func11, Try.ntmps11
  go_wp2_with fail
  refine (make_example _).mono ?_
  rintro e w1 ⟨rfl, hb1⟩
  have z1 : w.heap.size ≤ w1.heap.size := hb1.size
  go_wp2_with fail
  refine (floor_any (-2) 3 (by omega) (by omega) (by omega) (by omega) _).mono ?_
  rintro e w2 ⟨rfl, hb2⟩
  have t2 := (Has.new w1 [.int .i64 (-2), .int .i64 3] 24).below hb2 (by go_size)
  have c1 := t2.cell 0 _ rfl
  have c2 := t2.cell 1 _ rfl
  have k2 : Below w.heap.size w w2 := (hb1.alloc z1 _).trans (hb2.mono (by go_size))
  go_wp2_with fail
  refine (ceil_any (-2) 3 (by omega) (by omega) (by omega) (by omega) _).mono ?_
  rintro e w3 ⟨rfl, hb3⟩
  have t3 := t2.below hb3 (t2.lt (by simp))
  have c1' := t3.cell 0 _ rfl
  have c2' := t3.cell 1 _ rfl
  have k3 : Below w.heap.size w w3 := k2.trans (hb3.mono k2.size)
  go_wp2_with fail
  refine (valid_yes (-2) 3 (by omega) (by omega) (by omega) (by omega) (by decide) _).mono ?_
  rintro e w4 ⟨rfl, hb4⟩
  have k4 : Below w.heap.size w w4 := k3.trans (hb4.mono k3.size)
  go_wp2
  go_ret
  exact ⟨rfl, k4⟩

theorem mod_at (n m : Int) (h0 : 0 < m) (h1 : m ≤ 4611686018427387904) (wn : (Lit.int .i64 n).wf = true) (w : World) :
    Calls Try.prog 8 #[.int .i64 n, .int .i64 m] w fun e w' => e = .returned (.int .i64 (n % m)) ∧ w = w' := by
  have hx : -9223372036854775808 ≤ n ∧ n ≤ 9223372036854775807 := by simpa [Lit.wf, IntKind.min, IntKind.max, IntKind.signed, IntKind.bits] using wn
  exact mod_any n m h0 h1 hx.1 hx.2 w

/-- The law's plain part: a fraction of small numbers, and the same with both multiplied. -/
theorem lowest_plain (a b k : Int) (ha : -1000 ≤ a) (ha' : a ≤ 1000) (hb : 1 ≤ b) (hb' : b ≤ 1000) (hk : 1 ≤ k) (hk' : k ≤ 1000) :
    fE a b = 0 ∧ fA a b = fN a b ∧ fB a b = fD a b ∧ fE (-a * k) (-b * k) = 0 ∧ fA (-a * k) (-b * k) = fN a b ∧ fB (-a * k) (-b * k) = fD a b ∧
    -1000 ≤ fN a b ∧ fN a b ≤ 1000 ∧ 1 ≤ fD a b ∧ fD a b ≤ 1000 ∧ fN a b * b = a * fD a b := by
  have h0 : b ≠ 0 := by omega
  have hkb : (-b * k) ≠ 0 := by
    have := Int.mul_pos (by omega : 0 < b) (by omega : 0 < k)
    rw [Int.neg_mul]; omega
  have h1 := fN_le (a := a) h0
  have h2 := fD_le (a := a) h0
  have h3 := fD_pos (a := a) h0
  have h4 := fND_same (a := -a * k) (b := -b * k) (a' := a) (b' := b) hkb h0 (by grind)
  have hf : fits a b = true := by unfold fits; simp; omega
  have hf' : fits (-a * k) (-b * k) = true := by unfold fits; rw [h4.1, h4.2]; simp; omega
  unfold fE fA fB
  rw [hf, hf', h4.1, h4.2]
  simp only [if_true]
  exact ⟨trivial, trivial, trivial, trivial, trivial, trivial, by omega, by omega, by omega, by omega, fN_cross h0⟩
end Go.Proofs.Ytaokenpdaiabgaa
