/-
  Plain arithmetic for the fraction laws.
  The walks of the small functions on numbers of 128.
-/
import Derived.Handy
import Derived.Shelf.Spec.BitsCarry
import Derived.WalkSpells
import Derived.WalkLawsBesides
import Derived.Deep.QuietTactic
import Derived.BigQuiet
import Derived.Deep.RegionHeld3
import Derived.Test.YtdegpgonphgbcaaRows
namespace Go.Proofs.Ytdegpgonphgbcaa
open Go.RowKit
def wh (N : Nat) : Int := ((N / 18446744073709551616 : Nat) : Int)
def wl (N : Nat) : Int := ((N % 18446744073709551616 : Nat) : Int)
theorem wl_bd (N : Nat) : 0 ≤ wl N ∧ wl N < 18446744073709551616 := by unfold wl; omega
theorem wh_bd (N : Nat) (h : N < 340282366920938463463374607431768211456) : 0 ≤ wh N ∧ wh N < 18446744073709551616 := by unfold wh; omega
theorem w_of (N : Nat) : (N : Int) = wh N * 18446744073709551616 + wl N := by unfold wh wl; omega
theorem ret_agg2 {a b a' b' : Int} {k l : IntKind} (h1 : a = a') (h2 : b = b') : Ending.returned (.agg #[.int k a, .int l b]) = .returned (.agg #[.int k a', .int l b']) := by rw [h1, h2]
theorem ret_agg3 {a b a' b' : Int} {k l : IntKind} {n n' : Bool} (h1 : a = a') (h2 : b = b') (h3 : n = n') : Ending.returned (.agg #[.int k a, .int l b, .bool n]) = .returned (.agg #[.int k a', .int l b', .bool n']) := by rw [h1, h2, h3]
theorem ret_tup2 {a b a' b' : Int} {k l : IntKind} (h1 : a = a') (h2 : b = b') : Ending.returned (.tuple #[.int k a, .int l b]) = .returned (.tuple #[.int k a', .int l b']) := by rw [h1, h2]
theorem ret_int {k : IntKind} {a b : Int} (h : a = b) : Ending.returned (.int k a) = .returned (.int k b) := by rw [h]
theorem ret_bool {a b : Bool} (h : a = b) : Ending.returned (.bool a) = .returned (.bool b) := by rw [h]
theorem or_u64 (a b : Int) (k : Nat) (a0 : 0 ≤ a) (am : a % 2 ^ k = 0) (a1 : a < 18446744073709551616) (b0 : 0 ≤ b) (b1 : b < 2 ^ k) (b2 : b < 18446744073709551616) : bits .or .u64 a b = a + b :=
  bits_join .u64 64 (by decide) (fun n h h' => by rw [IntKind.wrap_u64]; omega) k a b a0 am (by omega) b0 b1 (by omega)
theorem or_one_u64 (a : Int) (a0 : 0 ≤ a) (am : a % 2 = 0) (a1 : a < 18446744073709551616) : bits .or .u64 a 1 = a + 1 :=
  or_u64 a 1 1 a0 (by simpa using am) a1 (by decide) (by decide) (by decide)
theorem and_mask_u64 (a : Int) (i : Nat) (hi : i ≤ 64) (a0 : 0 ≤ a) (a1 : a < 18446744073709551616) : bits .and .u64 a (2 ^ i - 1) = a % 2 ^ i :=
  bits_mask .u64 64 (by decide) (fun n h h' => by rw [IntKind.wrap_u64]; omega) i hi a a0 (by omega)
theorem and_one_u64 (a : Int) (a0 : 0 ≤ a) (a1 : a < 18446744073709551616) : bits .and .u64 a 1 = a % 2 := by
  have h3 := and_mask_u64 a 1 (by omega) a0 a1
  simpa using h3
theorem or_comm_u64 (a b : Int) : bits .or .u64 a b = bits .or .u64 b a := by
  show IntKind.u64.wrap ((BitVec.ofInt 64 a ||| BitVec.ofInt 64 b).toNat : Int) = IntKind.u64.wrap ((BitVec.ofInt 64 b ||| BitVec.ofInt 64 a).toNat : Int)
  rw [BitVec.or_comm]
theorem double_h (A : Nat) (hA : A < 170141183460469231731687303715884105728) : bits .or .u64 (IntKind.u64.wrap (wh A * 2)) (wl A / 9223372036854775808) = wh (2 * A) := by
  have h1 : 0 ≤ wh A ∧ wh A < 9223372036854775808 := by unfold wh; omega
  have h2 := wl_bd A
  rw [IntKind.wrap_u64, or_u64 _ _ 1 (by omega) (by omega) (by omega) (by omega) (by omega) (by omega)]
  unfold wh wl; omega
theorem double_l (A : Nat) : IntKind.u64.wrap (wl A * 2) = wl (2 * A) := by
  rw [IntKind.wrap_u64]; unfold wl; omega
theorem half_h (A : Nat) : wh A / 2 = wh (A / 2) := by unfold wh; omega
theorem half_l (A : Nat) (hA : A < 340282366920938463463374607431768211456) : bits .or .u64 (wl A / 2) (IntKind.u64.wrap (wh A * 9223372036854775808)) = wl (A / 2) := by
  have h1 := wh_bd A hA
  have h2 := wl_bd A
  rw [or_comm_u64, IntKind.wrap_u64, or_u64 _ _ 63 (by omega) (by omega) (by omega) (by omega) (by omega) (by omega)]
  unfold wh wl; omega
theorem even_l (A : Nat) : (bits .and .u64 (wl A) 1 == 0) = decide (A % 2 = 0) := by
  have h2 := wl_bd A
  rw [and_one_u64 (wl A) (by omega) (by omega)]
  have : wl A % 2 = (A % 2 : Nat) := by unfold wl; omega
  rw [this, Bool.eq_iff_iff]
  simp
  omega
theorem mul_h (A B : Nat) (hA : A < 18446744073709551616) (hB : B < 18446744073709551616) : IntKind.u64.wrap (IntKind.u64.wrap (IntKind.u64.wrap ((A : Int) / 4294967296 * ((B : Int) / 4294967296)) + IntKind.u64.wrap (IntKind.u64.wrap ((A : Int) / 4294967296 * bits .and .u64 (B : Int) 4294967295) + IntKind.u64.wrap (bits .and .u64 (A : Int) 4294967295 * bits .and .u64 (B : Int) 4294967295) / 4294967296) / 4294967296) + IntKind.u64.wrap (IntKind.u64.wrap (bits .and .u64 (A : Int) 4294967295 * ((B : Int) / 4294967296)) + bits .and .u64 (IntKind.u64.wrap (IntKind.u64.wrap ((A : Int) / 4294967296 * bits .and .u64 (B : Int) 4294967295) + IntKind.u64.wrap (bits .and .u64 (A : Int) 4294967295 * bits .and .u64 (B : Int) 4294967295) / 4294967296)) 4294967295) / 4294967296) = wh (A * B) := by
  have e2 : ((A : Int) * B / 18446744073709551616) = wh (A * B) := by unfold wh; simp
  rw [← e2]
  have hx0 : (0 : Int) ≤ A := by omega
  have hx : (A : Int) < 18446744073709551616 := by omega
  have hy0 : (0 : Int) ≤ B := by omega
  have hy : (B : Int) < 18446744073709551616 := by omega
  generalize (A : Int) = x at *
  generalize (B : Int) = y at *
  rw [and_low32 x (by omega) (by omega), and_low32 y (by omega) (by omega)]
  simp only [IntKind.wrap_u64]
  rw [and_low32 _ (by omega) (by omega)]
  have ex : x = x / 4294967296 * 4294967296 + x % 4294967296 := by omega
  have ey : y = y / 4294967296 * 4294967296 + y % 4294967296 := by omega
  generalize hx1 : x / 4294967296 = x1 at *
  generalize hx0' : x % 4294967296 = x0 at *
  generalize hy1 : y / 4294967296 = y1 at *
  generalize hy0' : y % 4294967296 = y0 at *
  have b1 : 0 ≤ x1 ∧ x1 ≤ 4294967295 := by omega
  have b2 : 0 ≤ x0 ∧ x0 ≤ 4294967295 := by omega
  have b3 : 0 ≤ y1 ∧ y1 ≤ 4294967295 := by omega
  have b4 : 0 ≤ y0 ∧ y0 ≤ 4294967295 := by omega
  have pA := prod_bound x1 y1 b1.1 b1.2 b3.1 b3.2
  have pB := prod_bound x1 y0 b1.1 b1.2 b4.1 b4.2
  have pC := prod_bound x0 y0 b2.1 b2.2 b4.1 b4.2
  have pD := prod_bound x0 y1 b2.1 b2.2 b3.1 b3.2
  have hxy : x * y = x1 * y1 * 18446744073709551616 + (x1 * y0 + x0 * y1) * 4294967296 + x0 * y0 := by rw [ex, ey]; exact split_mul x1 x0 y1 y0
  rw [hxy]
  generalize x1 * y1 = A at *
  generalize x1 * y0 = B at *
  generalize x0 * y0 = C at *
  generalize x0 * y1 = D at *
  omega
theorem mul_l (A B : Nat) (hA : A < 18446744073709551616) (hB : B < 18446744073709551616) : bits .or .u64 (IntKind.u64.wrap (IntKind.u64.wrap (IntKind.u64.wrap (bits .and .u64 (A : Int) 4294967295 * ((B : Int) / 4294967296)) + bits .and .u64 (IntKind.u64.wrap (IntKind.u64.wrap ((A : Int) / 4294967296 * bits .and .u64 (B : Int) 4294967295) + IntKind.u64.wrap (bits .and .u64 (A : Int) 4294967295 * bits .and .u64 (B : Int) 4294967295) / 4294967296)) 4294967295) * 4294967296)) (bits .and .u64 (IntKind.u64.wrap (bits .and .u64 (A : Int) 4294967295 * bits .and .u64 (B : Int) 4294967295)) 4294967295) = wl (A * B) := by
  have e2 : ((A : Int) * B % 18446744073709551616) = wl (A * B) := by unfold wl; simp
  rw [← e2]
  have hx0 : (0 : Int) ≤ A := by omega
  have hx : (A : Int) < 18446744073709551616 := by omega
  have hy0 : (0 : Int) ≤ B := by omega
  have hy : (B : Int) < 18446744073709551616 := by omega
  generalize (A : Int) = x at *
  generalize (B : Int) = y at *
  rw [and_low32 x (by omega) (by omega), and_low32 y (by omega) (by omega)]
  simp only [IntKind.wrap_u64]
  rw [and_low32 _ (by omega) (by omega), and_low32 _ (by omega) (by omega), or_u64 _ _ 32 (by omega) (by omega) (by omega) (by omega) (by omega) (by omega)]
  have ex : x = x / 4294967296 * 4294967296 + x % 4294967296 := by omega
  have ey : y = y / 4294967296 * 4294967296 + y % 4294967296 := by omega
  generalize hx1 : x / 4294967296 = x1 at *
  generalize hx0' : x % 4294967296 = x0 at *
  generalize hy1 : y / 4294967296 = y1 at *
  generalize hy0' : y % 4294967296 = y0 at *
  have b1 : 0 ≤ x1 ∧ x1 ≤ 4294967295 := by omega
  have b2 : 0 ≤ x0 ∧ x0 ≤ 4294967295 := by omega
  have b3 : 0 ≤ y1 ∧ y1 ≤ 4294967295 := by omega
  have b4 : 0 ≤ y0 ∧ y0 ≤ 4294967295 := by omega
  have pA := prod_bound x1 y1 b1.1 b1.2 b3.1 b3.2
  have pB := prod_bound x1 y0 b1.1 b1.2 b4.1 b4.2
  have pC := prod_bound x0 y0 b2.1 b2.2 b4.1 b4.2
  have pD := prod_bound x0 y1 b2.1 b2.2 b3.1 b3.2
  have hxy : x * y = x1 * y1 * 18446744073709551616 + (x1 * y0 + x0 * y1) * 4294967296 + x0 * y0 := by rw [ex, ey]; exact split_mul x1 x0 y1 y0
  rw [hxy]
  generalize x1 * y1 = A at *
  generalize x1 * y0 = B at *
  generalize x0 * y0 = C at *
  generalize x0 * y1 = D at *
  omega
theorem mul64_h (A B : Nat) (hA : A < 18446744073709551616) (hB : B < 18446744073709551616) : IntKind.u64.wrap (IntKind.u64.wrap (IntKind.u64.wrap ((A : Int) / 4294967296 * ((B : Int) / 4294967296)) + IntKind.u64.wrap (IntKind.u64.wrap ((A : Int) / 4294967296 * bits .and .u64 (B : Int) 4294967295) + IntKind.u64.wrap (bits .and .u64 (A : Int) 4294967295 * bits .and .u64 (B : Int) 4294967295) / 4294967296) / 4294967296) + IntKind.u64.wrap (bits .and .u64 (IntKind.u64.wrap (IntKind.u64.wrap ((A : Int) / 4294967296 * bits .and .u64 (B : Int) 4294967295) + IntKind.u64.wrap (bits .and .u64 (A : Int) 4294967295 * bits .and .u64 (B : Int) 4294967295) / 4294967296)) 4294967295 + IntKind.u64.wrap (bits .and .u64 (A : Int) 4294967295 * ((B : Int) / 4294967296))) / 4294967296) = wh (A * B) := by
  have e2 : ((A : Int) * B / 18446744073709551616) = wh (A * B) := by unfold wh; simp
  rw [← e2]
  have hx0 : (0 : Int) ≤ A := by omega
  have hx : (A : Int) < 18446744073709551616 := by omega
  have hy0 : (0 : Int) ≤ B := by omega
  have hy : (B : Int) < 18446744073709551616 := by omega
  generalize (A : Int) = x at *
  generalize (B : Int) = y at *
  rw [and_low32 x (by omega) (by omega), and_low32 y (by omega) (by omega)]
  simp only [IntKind.wrap_u64]
  rw [and_low32 _ (by omega) (by omega)]
  have ex : x = x / 4294967296 * 4294967296 + x % 4294967296 := by omega
  have ey : y = y / 4294967296 * 4294967296 + y % 4294967296 := by omega
  generalize hx1 : x / 4294967296 = x1 at *
  generalize hx0' : x % 4294967296 = x0 at *
  generalize hy1 : y / 4294967296 = y1 at *
  generalize hy0' : y % 4294967296 = y0 at *
  have b1 : 0 ≤ x1 ∧ x1 ≤ 4294967295 := by omega
  have b2 : 0 ≤ x0 ∧ x0 ≤ 4294967295 := by omega
  have b3 : 0 ≤ y1 ∧ y1 ≤ 4294967295 := by omega
  have b4 : 0 ≤ y0 ∧ y0 ≤ 4294967295 := by omega
  have pA := prod_bound x1 y1 b1.1 b1.2 b3.1 b3.2
  have pB := prod_bound x1 y0 b1.1 b1.2 b4.1 b4.2
  have pC := prod_bound x0 y0 b2.1 b2.2 b4.1 b4.2
  have pD := prod_bound x0 y1 b2.1 b2.2 b3.1 b3.2
  have hxy : x * y = x1 * y1 * 18446744073709551616 + (x1 * y0 + x0 * y1) * 4294967296 + x0 * y0 := by rw [ex, ey]; exact split_mul x1 x0 y1 y0
  rw [hxy]
  generalize x1 * y1 = A at *
  generalize x1 * y0 = B at *
  generalize x0 * y0 = C at *
  generalize x0 * y1 = D at *
  omega
theorem mul64_l (A B : Nat) : IntKind.u64.wrap ((A : Int) * (B : Int)) = wl (A * B) := by
  rw [IntKind.wrap_u64]; unfold wl; simp
theorem double_any (A : Nat) (hA : A < 170141183460469231731687303715884105728) (w : World) :
    Calls Try.prog 87 #[.agg #[.int .u64 (wh A), .int .u64 (wl A)]] w fun e w' => e = .returned (.agg #[.int .u64 (wh (2 * A)), .int .u64 (wl (2 * A))]) ∧ Below w.heap.size w w' := by
  have h1 := wl_bd A
  have h2 := wh_bd A (by omega)
  go_enter Try.func87, Try.ntmps87
  go_wp2
  go_returns
  exact ⟨ret_agg2 (double_h A hA) (double_l A), by go_grown⟩
theorem twice_any (A : Nat) (n : Bool) (hA : A < 170141183460469231731687303715884105728) (w : World) :
    Calls Try.prog 112 #[.agg #[.int .u64 (wh A), .int .u64 (wl A), .bool n]] w fun e w' => e = .returned (.agg #[.int .u64 (wh (2 * A)), .int .u64 (wl (2 * A)), .bool n]) ∧ Below w.heap.size w w' := by
  have h1 := wl_bd A
  have h2 := wh_bd A (by omega)
  go_enter Try.func112, Try.ntmps112
  go_wp2
  go_returns
  exact ⟨ret_agg3 (double_h A hA) (double_l A) rfl, by go_grown⟩
theorem half_any (A : Nat) (n : Bool) (hA : A < 340282366920938463463374607431768211456) (w : World) :
    Calls Try.prog 111 #[.agg #[.int .u64 (wh A), .int .u64 (wl A), .bool n]] w fun e w' => e = .returned (.agg #[.int .u64 (wh (A / 2)), .int .u64 (wl (A / 2)), .bool n]) ∧ Below w.heap.size w w' := by
  have h1 := wl_bd A
  have h2 := wh_bd A (by omega)
  go_enter Try.func111, Try.ntmps111
  go_wp2
  go_returns
  exact ⟨ret_agg3 (half_h A) (half_l A hA) rfl, by go_grown⟩
theorem even_any (A : Nat) (n : Bool) (w : World) :
    Calls Try.prog 110 #[.agg #[.int .u64 (wh A), .int .u64 (wl A), .bool n]] w fun e w' => e = .returned (.bool (decide (A % 2 = 0))) ∧ Below w.heap.size w w' := by
  have h1 := wl_bd A
  go_enter Try.func110, Try.ntmps110
  go_wp2
  go_returns
  exact ⟨ret_bool (even_l A), by go_grown⟩
theorem mul64_any (A B : Nat) (hA : A < 18446744073709551616) (hB : B < 18446744073709551616) (w : World) :
    Calls Try.prog 83 #[.int .u64 A, .int .u64 B] w fun e w' => e = .returned (.tuple #[.int .u64 (wh (A * B)), .int .u64 (wl (A * B))]) ∧ w = w' := by
  go_enter Try.func83, Try.ntmps83
  go_wp2
  go_returns
  exact ⟨ret_tup2 (mul64_h A B hA hB) (mul64_l A B), rfl⟩
theorem mul_any (A B : Nat) (hA : A < 18446744073709551616) (hB : B < 18446744073709551616) (w : World) :
    Calls Try.prog 47 #[.int .u64 A, .int .u64 B] w fun e w' => e = .returned (.agg #[.int .u64 (wh (A * B)), .int .u64 (wl (A * B))]) ∧ Below w.heap.size w w' := by
  go_enter Try.func47, Try.ntmps47
  go_wp2
  go_returns
  exact ⟨ret_agg2 (mul_h A B hA hB) (mul_l A B hA hB), by go_grown⟩
theorem sub_any (A B : Nat) (hA : A < 340282366920938463463374607431768211456) (hB : B ≤ A) (w : World) :
    Calls Try.prog 52 #[.agg #[.int .u64 (wh A), .int .u64 (wl A)], .agg #[.int .u64 (wh B), .int .u64 (wl B)]] w fun e w' => e = .returned (.agg #[.int .u64 (wh (A - B)), .int .u64 (wl (A - B))]) ∧ Below w.heap.size w w' := by
  have h1 := wl_bd A
  have h2 := wh_bd A hA
  have h3 := wl_bd B
  have h4 := wh_bd B (by omega)
  go_enter Try.func52, Try.ntmps52
  go_wp2
  all_goals go_returns
  all_goals refine ⟨ret_agg2 ?_ ?_, by go_grown⟩
  all_goals (try simp only [IntKind.wrap_u64])
  all_goals (clear h1 h2 h3 h4; simp only [wh, wl] at *; omega)
theorem add_any (A B : Nat) (hA : A + B < 340282366920938463463374607431768211456) (w : World) :
    Calls Try.prog 50 #[.agg #[.int .u64 (wh A), .int .u64 (wl A)], .agg #[.int .u64 (wh B), .int .u64 (wl B)]] w fun e w' => e = .returned (.agg #[.int .u64 (wh (A + B)), .int .u64 (wl (A + B))]) ∧ Below w.heap.size w w' := by
  have h1 := wl_bd A
  have h2 := wh_bd A (by omega)
  have h3 := wl_bd B
  have h4 := wh_bd B (by omega)
  go_enter Try.func50, Try.ntmps50
  go_wp2
  all_goals go_returns
  all_goals refine ⟨ret_agg2 ?_ ?_, by go_grown⟩
  all_goals (simp only [IntKind.wrap_u64] at *)
  all_goals (clear h1 h2 h3 h4; simp only [wh, wl] at *; omega)
theorem less_any (A B : Nat) (hA : A < 340282366920938463463374607431768211456) (hB : B < 340282366920938463463374607431768211456) (w : World) :
    Calls Try.prog 51 #[.agg #[.int .u64 (wh A), .int .u64 (wl A)], .agg #[.int .u64 (wh B), .int .u64 (wl B)]] w fun e w' => e = .returned (.bool (decide (A < B))) ∧ Below w.heap.size w w' := by
  have h1 := wl_bd A
  have h2 := wh_bd A (by omega)
  have h3 := wl_bd B
  have h4 := wh_bd B (by omega)
  have h5 := w_of A
  have h6 := w_of B
  go_enter Try.func51, Try.ntmps51
  go_wp2
  all_goals go_returns
  all_goals refine ⟨ret_bool ?_, by go_grown⟩
  all_goals (rw [Bool.eq_iff_iff]; simp; omega)
theorem below_any (A B : Nat) (n o : Bool) (hA : A < 340282366920938463463374607431768211456) (hB : B < 340282366920938463463374607431768211456) (w : World) :
    Calls Try.prog 101 #[.agg #[.int .u64 (wh A), .int .u64 (wl A), .bool n], .agg #[.int .u64 (wh B), .int .u64 (wl B), .bool o]] w fun e w' => e = .returned (.bool (decide (A < B))) ∧ Below w.heap.size w w' := by
  have h1 := wl_bd A
  have h2 := wh_bd A (by omega)
  have h3 := wl_bd B
  have h4 := wh_bd B (by omega)
  have h5 := w_of A
  have h6 := w_of B
  go_enter Try.func101, Try.ntmps101
  go_wp2
  all_goals go_returns
  all_goals refine ⟨ret_bool ?_, by go_grown⟩
  all_goals (rw [Bool.eq_iff_iff]; simp; omega)
theorem wsize_any (n : Int) (h0 : -9223372036854775808 ≤ n) (h1 : n ≤ 9223372036854775807) (w : World) :
    Calls Try.prog 106 #[.int .i64 n] w fun e w' => e = .returned (.int .u64 (n.natAbs : Int)) ∧ w = w' := by
  go_enter Try.func106, Try.ntmps106
  go_wp2
  all_goals go_returns
  all_goals refine ⟨ret_int ?_, rfl⟩
  · simp only [wrap64, IntKind.wrap_u64]; omega
  · omega
theorem size_any (n : Int) (h0 : -9223372036854775808 ≤ n) (h1 : n ≤ 9223372036854775807) (w : World) :
    Calls Try.prog 48 #[.int .i64 n] w fun e w' => e = .returned (.int .u64 (n.natAbs : Int)) ∧ w = w' := by
  go_enter Try.func48, Try.ntmps48
  go_wp2
  all_goals go_returns
  all_goals refine ⟨ret_int ?_, rfl⟩
  · simp only [IntKind.wrap_u64]; omega
  · omega
theorem zero_any (A : Nat) (n : Bool) (w : World) :
    Calls Try.prog 109 #[.agg #[.int .u64 (wh A), .int .u64 (wl A), .bool n]] w fun e w' => e = .returned (.bool (decide (A = 0))) ∧ Below w.heap.size w w' := by
  have h1 := wl_bd A
  have h5 := w_of A
  go_enter Try.func109, Try.ntmps109
  go_wp2
  all_goals go_returns
  all_goals refine ⟨ret_bool ?_, by go_grown⟩
  all_goals (rw [Bool.eq_iff_iff]; simp; omega)
def cyA (A B : Nat) : Int := (((A % 18446744073709551616 + B % 18446744073709551616 + 0) / 18446744073709551616 : Nat) : Int)
def cyS (A B : Nat) : Int := ((if A % 18446744073709551616 < B % 18446744073709551616 + 0 then 1 else 0 : Nat) : Int)
theorem sub64_run (x y b : Nat) (hb : b ≤ 1) (w : World) :
    (callFunc 108 #[.int .u64 x, .int .u64 y, .int .u64 b]).run Try.prog w =
      .ok (.value (.tuple #[.int .u64 (((x + 18446744073709551616 - y - b) % 18446744073709551616 : Nat) : Int), .int .u64 ((if x < y + b then 1 else 0 : Nat) : Int)])) w := by
  rw [run_callFunc_extern Try.func108 (by kernel_rfl) (by kernel_rfl) (by kernel_rfl) (e := sub64Entry) (by kernel_rfl), run_sub64 x y b hb]
  rfl
theorem add64_run (x y c : Nat) (hc : c ≤ 1) (w : World) :
    (callFunc 107 #[.int .u64 x, .int .u64 y, .int .u64 c]).run Try.prog w =
      .ok (.value (.tuple #[.int .u64 (((x + y + c) % 18446744073709551616 : Nat) : Int), .int .u64 (((x + y + c) / 18446744073709551616 : Nat) : Int)])) w := by
  rw [run_callFunc_extern Try.func107 (by kernel_rfl) (by kernel_rfl) (by kernel_rfl) (e := add64Entry) (by kernel_rfl), run_add64 x y c (by omega) (by omega) (by omega) (by omega)]
  simp only [Result.andThen]
  congr 5 <;> omega
theorem ok_tup2 {a b a' b' : Int} {w : World} (h1 : a = a') (h2 : b = b') : (Result.ok (Next.value (.tuple #[.int .u64 a, .int .u64 b])) w) = .ok (.value (.tuple #[.int .u64 a', .int .u64 b'])) w := by rw [h1, h2]
theorem add_lo (A B : Nat) (w : World) : (callFunc 107 #[.int .u64 (wl A), .int .u64 (wl B), .int .u64 0]).run Try.prog w = .ok (.value (.tuple #[.int .u64 (wl (A + B)), .int .u64 (cyA A B)])) w :=
  (add64_run (A % 18446744073709551616) (B % 18446744073709551616) 0 (by omega) w).trans (ok_tup2 (by unfold wl; omega) rfl)
theorem add_hi (A B : Nat) (h : A + B < 340282366920938463463374607431768211456) (w : World) : (callFunc 107 #[.int .u64 (wh A), .int .u64 (wh B), .int .u64 (cyA A B)]).run Try.prog w = .ok (.value (.tuple #[.int .u64 (wh (A + B)), .int .u64 0])) w :=
  (add64_run (A / 18446744073709551616) (B / 18446744073709551616) ((A % 18446744073709551616 + B % 18446744073709551616 + 0) / 18446744073709551616) (by omega) w).trans (ok_tup2 (by unfold wh; omega) (by omega))
theorem sub_lo (A B : Nat) (w : World) (h : B ≤ A) : (callFunc 108 #[.int .u64 (wl A), .int .u64 (wl B), .int .u64 0]).run Try.prog w = .ok (.value (.tuple #[.int .u64 (wl (A - B)), .int .u64 (cyS A B)])) w :=
  (sub64_run (A % 18446744073709551616) (B % 18446744073709551616) 0 (by omega) w).trans (ok_tup2 (by unfold wl; omega) rfl)
theorem sub_hi (A B : Nat) (h : B ≤ A) (h' : A < 340282366920938463463374607431768211456) (w : World) : (callFunc 108 #[.int .u64 (wh A), .int .u64 (wh B), .int .u64 (cyS A B)]).run Try.prog w = .ok (.value (.tuple #[.int .u64 (wh (A - B)), .int .u64 0])) w :=
  (sub64_run (A / 18446744073709551616) (B / 18446744073709551616) (if A % 18446744073709551616 < B % 18446744073709551616 + 0 then 1 else 0) (by split <;> omega) w).trans (ok_tup2 (by unfold wh; split <;> omega) (by (repeat' split) <;> omega))
theorem more_any (A B : Nat) (n o : Bool) (hA : A + B < 340282366920938463463374607431768211456) (w : World) :
    Calls Try.prog 100 #[.agg #[.int .u64 (wh A), .int .u64 (wl A), .bool n], .agg #[.int .u64 (wh B), .int .u64 (wl B), .bool o]] w fun e w' => e = .returned (.agg #[.int .u64 (wh (A + B)), .int .u64 (wl (A + B)), .bool n]) ∧ Below w.heap.size w w' := by
  have h1 := add_lo A B
  have h2 := add_hi A B hA
  go_enter Try.func100, Try.ntmps100
  go_wp2
  all_goals go_returns
  all_goals exact ⟨rfl, by go_grown⟩
theorem wless_any (A B : Nat) (n o : Bool) (hB : B ≤ A) (hA : A < 340282366920938463463374607431768211456) (w : World) :
    Calls Try.prog 102 #[.agg #[.int .u64 (wh A), .int .u64 (wl A), .bool n], .agg #[.int .u64 (wh B), .int .u64 (wl B), .bool o]] w fun e w' => e = .returned (.agg #[.int .u64 (wh (A - B)), .int .u64 (wl (A - B)), .bool n]) ∧ Below w.heap.size w w' := by
  have h1 := fun w => sub_lo A B w hB
  have h2 := sub_hi A B hB hA
  go_enter Try.func102, Try.ntmps102
  go_wp2
  all_goals go_returns
  all_goals exact ⟨rfl, by go_grown⟩
end Go.Proofs.Ytdegpgonphgbcaa
