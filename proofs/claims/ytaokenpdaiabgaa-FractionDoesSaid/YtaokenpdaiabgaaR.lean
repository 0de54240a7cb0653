/-
  The plain part of the laws of a field: fractions of small numbers in lowest terms, and what Add, Sub, Mul, Div make of them.
-/
import Derived.Test.YtaokenpdaiabgaaQ
namespace Go.Proofs.Ytaokenpdaiabgaa
open Go.RowKit

/-- n / d is a fraction in lowest terms, its numbers at most N and D. -/
structure Low (n d N D : Int) : Prop where
  n0 : -N ≤ n
  n1 : n ≤ N
  d0 : 1 ≤ d
  d1 : d ≤ D
  g : Int.gcd n d = 1

theorem mulb {x y X Y : Int} (h0 : -X ≤ x) (h1 : x ≤ X) (h2 : -Y ≤ y) (h3 : y ≤ Y) : -(X * Y) ≤ x * y ∧ x * y ≤ X * Y := by
  have a1 := Int.mul_nonneg (a := X - x) (b := Y - y) (by omega) (by omega)
  have a2 := Int.mul_nonneg (a := x + X) (b := y + Y) (by omega) (by omega)
  have a4 := Int.mul_nonneg (a := X - x) (b := y + Y) (by omega) (by omega)
  have a5 := Int.mul_nonneg (a := x + X) (b := Y - y) (by omega) (by omega)
  have e1 : (X - x) * (Y - y) = X * Y - X * y - x * Y + x * y := by grind
  have e2 : (x + X) * (y + Y) = x * y + x * Y + X * y + X * Y := by grind
  have e4 : (X - x) * (y + Y) = X * y + X * Y - x * y - x * Y := by grind
  have e5 : (x + X) * (Y - y) = x * Y - x * y + X * Y - X * y := by grind
  omega
theorem mul_le {x y X Y : Int} (h0 : 1 ≤ x) (h1 : x ≤ X) (h2 : 1 ≤ y) (h3 : y ≤ Y) : 1 ≤ x * y ∧ x * y ≤ X * Y :=
  ⟨by have := Int.mul_pos (show 0 < x by omega) (show 0 < y by omega); omega, (mulb (by omega) h1 (by omega) h3).2⟩

/-- n / d and N / D are one number. -/
def Eqv (n d N D : Int) : Prop := n * D = N * d
theorem Eqv.symm {n d N D : Int} (h : Eqv n d N D) : Eqv N D n d := by unfold Eqv at *; exact Eq.symm h
theorem Eqv.trans {a b c d e f : Int} (hd : d ≠ 0) (h : Eqv a b c d) (k : Eqv c d e f) : Eqv a b e f := by
  unfold Eqv at *
  refine Int.eq_of_mul_eq_mul_right hd ?_
  rw [Int.mul_right_comm, h, Int.mul_right_comm, k, Int.mul_right_comm]
theorem Eqv.add {a b A B c d C D : Int} (h : Eqv a b A B) (k : Eqv c d C D) : Eqv (a * d + c * b) (b * d) (A * D + C * B) (B * D) := by unfold Eqv at *; grind
theorem Eqv.sub {a b A B c d C D : Int} (h : Eqv a b A B) (k : Eqv c d C D) : Eqv (a * d - c * b) (b * d) (A * D - C * B) (B * D) := by unfold Eqv at *; grind
theorem Eqv.mul {a b A B c d C D : Int} (h : Eqv a b A B) (k : Eqv c d C D) : Eqv (a * c) (b * d) (A * C) (B * D) := by unfold Eqv at *; grind
theorem Eqv.div {a b A B c d C D : Int} (h : Eqv a b A B) (k : Eqv c d C D) : Eqv (a * d) (b * c) (A * D) (B * C) := by unfold Eqv at *; grind
theorem Eqv.refl (a b : Int) : Eqv a b a b := rfl
theorem Low.eq {n d N D n' d' N' D' : Int} (h : Low n d N D) (h' : Low n' d' N' D') (e : Eqv n d n' d') : n = n' ∧ d = d' :=
  lowest_unique (by have := h.d0; omega) (by have := h'.d0; omega) h.g h'.g e

/-- What lowest terms of a / b are, where the numbers are small. -/
theorem low_of {a b A B : Int} (h0 : -A ≤ a) (h1 : a ≤ A) (hb : b ≠ 0) (hb' : (b.natAbs : Int) ≤ B) (hA : A ≤ 1152921504606846976) (hB : B ≤ 1152921504606846976) :
    ∃ n d, Low n d A B ∧ Eqv n d a b ∧ fA a b = n ∧ fB a b = d ∧ fE a b = 0 := by
  have a1 := fN_le (a := a) hb
  have a2 := fD_le (a := a) hb
  have a3 := fD_pos (a := a) hb
  have a4 := fN_gcd (a := a) hb
  have hf : fits a b = true := by unfold fits; simp; omega
  refine ⟨fN a b, fD a b, ⟨by omega, by omega, by omega, by omega, a4⟩, fN_cross hb, ?_, ?_, ?_⟩ <;> simp [fA, fB, fE, hf]

theorem add_low {xn xd yn yd X Xd Y Yd : Int} (hx : Low xn xd X Xd) (hy : Low yn yd Y Yd) (k1 : X * Yd + Y * Xd ≤ 1000000000000) (k2 : Xd * Yd ≤ 1000000000000) (b1 : X ≤ 1000000) (b2 : Xd ≤ 1000000) (b3 : Y ≤ 1000000) (b4 : Yd ≤ 1000000) :
    ∃ n d, Low n d (X * Yd + Y * Xd) (Xd * Yd) ∧ Eqv n d (xn * yd + yn * xd) (xd * yd) ∧ ∀ w, Calls Try.prog 14 #[.agg #[.int .i64 xn, .int .i64 xd], .agg #[.int .i64 yn, .int .i64 yd]] w fun e w' => e = .returned (.tuple #[.agg #[.int .i64 n, .int .i64 d], .int .i64 0]) ∧ Below w.heap.size w w' := by
  obtain ⟨x0, x1, x2, x3, xg⟩ := hx
  obtain ⟨y0, y1, y2, y3, yg⟩ := hy
  have m1 := mulb x0 x1 (show -Yd ≤ yd by omega) y3
  have m2 := mulb y0 y1 (show -Xd ≤ xd by omega) x3
  have m3 := mul_le x2 x3 y2 y3
  obtain ⟨n, d, h1, h2, h3, h4, h5⟩ := low_of (a := xn * yd + yn * xd) (b := xd * yd) (A := X * Yd + Y * Xd) (B := Xd * Yd) (by omega) (by omega) (by omega) (by omega) (by omega) (by omega)
  refine ⟨n, d, h1, h2, fun w => ?_⟩
  have := frac_add xn xd yn yd (by omega) (by omega) (by omega) (by omega) x2 (by omega) y2 (by omega) w
  rwa [h3, h4, h5] at this
theorem sub_low {xn xd yn yd X Xd Y Yd : Int} (hx : Low xn xd X Xd) (hy : Low yn yd Y Yd) (k1 : X * Yd + Y * Xd ≤ 1000000000000) (k2 : Xd * Yd ≤ 1000000000000) (b1 : X ≤ 1000000) (b2 : Xd ≤ 1000000) (b3 : Y ≤ 1000000) (b4 : Yd ≤ 1000000) :
    ∃ n d, Low n d (X * Yd + Y * Xd) (Xd * Yd) ∧ Eqv n d (xn * yd - yn * xd) (xd * yd) ∧ ∀ w, Calls Try.prog 21 #[.agg #[.int .i64 xn, .int .i64 xd], .agg #[.int .i64 yn, .int .i64 yd]] w fun e w' => e = .returned (.tuple #[.agg #[.int .i64 n, .int .i64 d], .int .i64 0]) ∧ Below w.heap.size w w' := by
  obtain ⟨x0, x1, x2, x3, xg⟩ := hx
  obtain ⟨y0, y1, y2, y3, yg⟩ := hy
  have m1 := mulb x0 x1 (show -Yd ≤ yd by omega) y3
  have m2 := mulb y0 y1 (show -Xd ≤ xd by omega) x3
  have m3 := mul_le x2 x3 y2 y3
  obtain ⟨n, d, h1, h2, h3, h4, h5⟩ := low_of (a := xn * yd - yn * xd) (b := xd * yd) (A := X * Yd + Y * Xd) (B := Xd * Yd) (by omega) (by omega) (by omega) (by omega) (by omega) (by omega)
  refine ⟨n, d, h1, h2, fun w => ?_⟩
  have := frac_sub xn xd yn yd (by omega) (by omega) (by omega) (by omega) x2 (by omega) y2 (by omega) w
  rwa [h3, h4, h5] at this
theorem mul_low {xn xd yn yd X Xd Y Yd : Int} (hx : Low xn xd X Xd) (hy : Low yn yd Y Yd) (k1 : X * Y ≤ 1000000000000) (k2 : Xd * Yd ≤ 1000000000000) (b1 : X ≤ 1000000) (b2 : Xd ≤ 1000000) (b3 : Y ≤ 1000000) (b4 : Yd ≤ 1000000) :
    ∃ n d, Low n d (X * Y) (Xd * Yd) ∧ Eqv n d (xn * yn) (xd * yd) ∧ ∀ w, Calls Try.prog 18 #[.agg #[.int .i64 xn, .int .i64 xd], .agg #[.int .i64 yn, .int .i64 yd]] w fun e w' => e = .returned (.tuple #[.agg #[.int .i64 n, .int .i64 d], .int .i64 0]) ∧ Below w.heap.size w w' := by
  obtain ⟨x0, x1, x2, x3, xg⟩ := hx
  obtain ⟨y0, y1, y2, y3, yg⟩ := hy
  have m1 := mulb x0 x1 y0 y1
  have m3 := mul_le x2 x3 y2 y3
  obtain ⟨n, d, h1, h2, h3, h4, h5⟩ := low_of (a := xn * yn) (b := xd * yd) (A := X * Y) (B := Xd * Yd) (by omega) (by omega) (by omega) (by omega) (by omega) (by omega)
  refine ⟨n, d, h1, h2, fun w => ?_⟩
  have := frac_mul xn xd yn yd (by omega) (by omega) (by omega) (by omega) x2 (by omega) y2 (by omega) w
  rwa [h3, h4, h5] at this
theorem div_low {xn xd yn yd X Xd Y Yd : Int} (hx : Low xn xd X Xd) (hy : Low yn yd Y Yd) (hz : yn ≠ 0) (k1 : X * Yd ≤ 1000000000000) (k2 : Xd * Y ≤ 1000000000000) (b1 : X ≤ 1000000) (b2 : Xd ≤ 1000000) (b3 : Y ≤ 1000000) (b4 : Yd ≤ 1000000) :
    ∃ n d, Low n d (X * Yd) (Xd * Y) ∧ Eqv n d (xn * yd) (xd * yn) ∧ ∀ w, Calls Try.prog 20 #[.agg #[.int .i64 xn, .int .i64 xd], .agg #[.int .i64 yn, .int .i64 yd]] w fun e w' => e = .returned (.tuple #[.agg #[.int .i64 n, .int .i64 d], .int .i64 0]) ∧ Below w.heap.size w w' := by
  obtain ⟨x0, x1, x2, x3, xg⟩ := hx
  obtain ⟨y0, y1, y2, y3, yg⟩ := hy
  have m1 := mulb x0 x1 (show -Yd ≤ yd by omega) y3
  have m3 := mulb (show -Xd ≤ xd by omega) x3 y0 y1
  have hne : xd * yn ≠ 0 := Int.mul_ne_zero (by omega) hz
  obtain ⟨n, d, h1, h2, h3, h4, h5⟩ := low_of (a := xn * yd) (b := xd * yn) (A := X * Yd) (B := Xd * Y) (by omega) (by omega) hne (by omega) (by omega) (by omega)
  refine ⟨n, d, h1, h2, fun w => ?_⟩
  have := frac_div xn xd yn yd (by omega) (by omega) (by omega) (by omega) x2 (by omega) y2 (by omega) hz w
  rwa [h3, h4, h5] at this
theorem div_zero (xn xd yd : Int) (w : World) :
    Calls Try.prog 20 #[.agg #[.int .i64 xn, .int .i64 xd], .agg #[.int .i64 0, .int .i64 yd]] w fun e w' => e = .returned (.tuple #[.agg #[.int .i64 0, .int .i64 0], .int .i64 36]) ∧ Below w.heap.size w w' := by
  go_enter Try.func20, Try.ntmps20
  go_wp2
  go_returns
  exact ⟨rfl, by go_grown⟩
end Go.Proofs.Ytaokenpdaiabgaa
