/-
  timeboundmake2.Frac: a fraction of small numbers in lowest terms, whatever the deck gives.
  The plain part of the laws of a field: fractions of small numbers in lowest terms, and what Add, Sub, Mul, Div make of them.
-/
import Derived.Test.YtdegpgonphgbcaaDeck
import Derived.Test.YtdegpgonphgbcaaFxO
namespace Go.Proofs.Ytdegpgonphgbcaa
open Go.RowKit

/-- What a call of Frac leaves: a small fraction in lowest terms, the deck, all else as it was. -/
def TakenFrac (d : Nat) (w : World) (e : Ending) (w' : World) : Prop := ∃ p q : Int, e = .returned (.agg #[.int .i64 p, .int .i64 q]) ∧ -10 ≤ p ∧ p ≤ 10 ∧ 1 ≤ q ∧ q ≤ 9 ∧ Int.gcd p q = 1 ∧ Deck w' d ∧ But d w w'

theorem frac_plain (n k : Int) (h0 : -10 ≤ n) (h1 : n ≤ 10) (h2 : 1 ≤ k) (h3 : k ≤ 9) : -10 ≤ fN n k ∧ fN n k ≤ 10 ∧ 1 ≤ fD n k ∧ fD n k ≤ 9 ∧ Int.gcd (fN n k) (fD n k) = 1 := by
  have hk : k ≠ 0 := by omega
  have a1 := fN_le (a := n) hk
  have a2 := fD_le (a := n) hk
  have a3 := fD_pos (a := n) hk
  have a4 := fN_gcd (a := n) hk
  omega

set_option maxHeartbeats 2000000 in
theorem frac_any (d : Nat) (w : World) (hd : Deck w d) :
    Calls Try.prog 29 #[.pointer (some ⟨d, 0, none⟩)] w (TakenFrac d w) := by
  have hlt := hd.lt
  have HD := Lib.hid hd
  clear hd
  go_enter Try.func29, Try.ntmps29
  go_wp2_with fail
  refine (next_any d 21 (by omega) (by omega) _ (HD.out.below ((Below.refl _ _).alloc (Nat.le_refl _) _) (Nat.le_refl _))).mono ?_
  rintro e w1 ⟨n0, rfl, n1, n2, hd1, hb1⟩
  have t1 : Has w1 w.heap.size [.int .i64 0, .int .i64 0] := hb1.has (Has.new w _ 31) (by go_size) (by omega)
  have z1 : w.heap.size < w1.heap.size := t1.lt (by simp)
  have b1 : But d w w1 := (But.of_below ((Below.refl _ _).alloc (Nat.le_refl _) (.cells #[.int .i64 0, .int .i64 0] 31))).trans hb1
  go_wp2_with fail
  refine (next_any d 9 (by omega) (by omega) _ hd1).mono ?_
  rintro e w2 ⟨k0, rfl, k1, k2, hd2, hb2⟩
  have t2 : Has w2 w.heap.size [.int .i64 0, .int .i64 0] := hb2.has t1 z1 (by omega)
  have z2 : w.heap.size < w2.heap.size := t2.lt (by simp)
  have b2 : But d w w2 := b1.trans hb2
  clear hb1 hb2 t1 hd1 b1
  have HD2 := Lib.hid hd2; have HB2 := Lib.hid b2
  clear hd2 b2
  have hk0 : 1 + k0 ≠ 0 := by omega
  go_wp2_with fail
  all_goals
    go_loopg [5, 6] ((1 + k0).toNat + 1) (fun g a b wr => ∃ X Y : Nat, g = Y + 1 ∧ a = .int .i64 X ∧ b = .int .i64 Y ∧ Nat.gcd X Y = Int.gcd (n0 - 10) (1 + k0) ∧ X ≤ 10 ∧ Y ≤ 10 ∧ Has wr w.heap.size [.int .i64 0, .int .i64 0] ∧ w.heap.size < wr.heap.size ∧ Deck wr d ∧ But d w wr)
    case atStart =>
      refine ⟨(n0 - 10).natAbs, (1 + k0).natAbs, by omega, by congr 1; omega, by congr 1; omega, rfl, by omega, by omega, t2, z2, HD2.out, HB2.out⟩
    case round =>
      obtain ⟨X, Y, rfl, rfl, rfl, hg, hX, hY, t3, z3, hd3, hb3⟩ := hrel
      have G := Lib.hid hg; have HD3 := Lib.hid hd3; have HB3 := Lib.hid hb3
      clear hg hd3 hb3
      rcases Nat.lt_or_ge Y 1 with hc | hc
      · have hX' : (X : Int) = (Int.gcd (n0 - 10) (1 + k0) : Nat) := by rw [← G.out, show Y = 0 by omega, Nat.gcd_zero_right]
        have hX0 : 0 < X := by have := gcd_pos (a := n0 - 10) hk0; omega
        have HX := Lib.hid hX'
        clear hX'
        have q0 := t3.cell 0 _ rfl; have q1 := t3.cell 1 _ rfl; have qf := t3.free
        by_cases hz : n0 = 10
        · have hz' : (n0 - 10 == 0) = true := by simp; omega
          go_wp2
          all_goals refine bodyPost_ret (v := .agg #[.int .i64 0, .int .i64 1]) (by simp [results, Try.results29, go_sem, q0, q1]) rfl ?_
          all_goals exact ⟨0, 1, rfl, by omega, by omega, by omega, by omega, by decide, (HD3.out.other hlt _).other hlt _, (HB3.out.other (Nat.le_refl _) _).other (Nat.le_refl _) _⟩
        · have hz' : (n0 - 10 == 0) = false := by simp; omega
          go_wp2
          go_region
          all_goals go_wp2
          all_goals
            have e1 : (n0 - 10).tdiv (X : Int) = fN (n0 - 10) (1 + k0) := by rw [HX.out, fN_nonneg (by omega)]
            have e2 : (1 + k0) / (X : Int) = fD (n0 - 10) (1 + k0) := by rw [HX.out, fD_nonneg (by omega)]
            obtain ⟨f1, f2, f3, f4, f5⟩ := frac_plain (n0 - 10) (1 + k0) (by omega) (by omega) (by omega) (by omega)
            first
              | (refine bodyPost_ret (v := .agg #[.int .i64 ((n0 - 10).tdiv (X : Int)), .int .i64 ((1 + k0) / (X : Int))]) ?hv rfl ?_
                 case hv => (simp [results, Try.results29, go_sem, q0, q1]; done)
                 rw [e1, e2]
                 exact ⟨_, _, rfl, f1, f2, f3, f4, f5, ((HD3.out.other hlt _).other hlt _).drewN 1, ((HB3.out.other (Nat.le_refl _) _).other (Nat.le_refl _) _).drewN 1⟩)
              | (have e3 : (n0 - 10) / (X : Int) = fN (n0 - 10) (1 + k0) := (Int.tdiv_eq_ediv_of_nonneg (show 0 ≤ n0 - 10 by omega)).symm.trans e1
                 refine bodyPost_ret (v := .agg #[.int .i64 ((n0 - 10) / (X : Int)), .int .i64 ((1 + k0) / (X : Int))]) ?hv rfl ?_
                 case hv => (simp [results, Try.results29, go_sem, q0, q1]; done)
                 rw [e3, e2]
                 exact ⟨_, _, rfl, f1, f2, f3, f4, f5, ((HD3.out.other hlt _).other hlt _).drewN 1, ((HB3.out.other (Nat.le_refl _) _).other (Nat.le_refl _) _).drewN 1⟩)
      · have hc' : (0 : Int) < (Y : Int) := by omega
        go_wp2
        go_region
        all_goals go_wp2
        all_goals go_roundg (X % Y + 1)
        all_goals first | (case measure => have := Nat.mod_lt X hc; omega) | skip
        exact ⟨Y, X % Y, rfl, rfl, rfl, by rw [← G.out, Nat.gcd_comm Y, ← Nat.gcd_rec, Nat.gcd_comm], hY, by have := Nat.mod_lt X hc; omega, t3.drew, z3, HD3.out.drewN 1, HB3.out.drewN 1⟩
end Go.Proofs.Ytdegpgonphgbcaa
namespace Go.Proofs.Ytdegpgonphgbcaa
open Go.RowKit

/-- n / d is a fraction in lowest terms, its numbers at most N and D. -/
structure Low (n d N D : Int) : Prop where
  n0 : -N ≤ n
  n1 : n ≤ N
  d0 : 1 ≤ d
  d1 : d ≤ D
  g : Int.gcd n d = 1

theorem mulb {x y X Y : Int} (h0 : -X ≤ x) (h1 : x ≤ X) (h2 : -Y ≤ y) (h3 : y ≤ Y) : -(X * Y) ≤ x * y ∧ x * y ≤ X * Y := by
  have a1 := Int.mul_nonneg (a := X - x) (b := Y - y) (by omega) (by omega)
  have a2 := Int.mul_nonneg (a := x + X) (b := y + Y) (by omega) (by omega)
  have a4 := Int.mul_nonneg (a := X - x) (b := y + Y) (by omega) (by omega)
  have a5 := Int.mul_nonneg (a := x + X) (b := Y - y) (by omega) (by omega)
  have e1 : (X - x) * (Y - y) = X * Y - X * y - x * Y + x * y := by grind
  have e2 : (x + X) * (y + Y) = x * y + x * Y + X * y + X * Y := by grind
  have e4 : (X - x) * (y + Y) = X * y + X * Y - x * y - x * Y := by grind
  have e5 : (x + X) * (Y - y) = x * Y - x * y + X * Y - X * y := by grind
  omega
theorem mul_le {x y X Y : Int} (h0 : 1 ≤ x) (h1 : x ≤ X) (h2 : 1 ≤ y) (h3 : y ≤ Y) : 1 ≤ x * y ∧ x * y ≤ X * Y :=
  ⟨by have := Int.mul_pos (show 0 < x by omega) (show 0 < y by omega); omega, (mulb (by omega) h1 (by omega) h3).2⟩

/-- n / d and N / D are one number. -/
def Eqv (n d N D : Int) : Prop := n * D = N * d
theorem Eqv.symm {n d N D : Int} (h : Eqv n d N D) : Eqv N D n d := by unfold Eqv at *; exact Eq.symm h
theorem Eqv.trans {a b c d e f : Int} (hd : d ≠ 0) (h : Eqv a b c d) (k : Eqv c d e f) : Eqv a b e f := by
  unfold Eqv at *
  refine Int.eq_of_mul_eq_mul_right hd ?_
  rw [Int.mul_right_comm, h, Int.mul_right_comm, k, Int.mul_right_comm]
theorem Eqv.add {a b A B c d C D : Int} (h : Eqv a b A B) (k : Eqv c d C D) : Eqv (a * d + c * b) (b * d) (A * D + C * B) (B * D) := by unfold Eqv at *; grind
theorem Eqv.sub {a b A B c d C D : Int} (h : Eqv a b A B) (k : Eqv c d C D) : Eqv (a * d - c * b) (b * d) (A * D - C * B) (B * D) := by unfold Eqv at *; grind
theorem Eqv.mul {a b A B c d C D : Int} (h : Eqv a b A B) (k : Eqv c d C D) : Eqv (a * c) (b * d) (A * C) (B * D) := by unfold Eqv at *; grind
theorem Eqv.div {a b A B c d C D : Int} (h : Eqv a b A B) (k : Eqv c d C D) : Eqv (a * d) (b * c) (A * D) (B * C) := by unfold Eqv at *; grind
theorem Eqv.refl (a b : Int) : Eqv a b a b := rfl
theorem Low.eq {n d N D n' d' N' D' : Int} (h : Low n d N D) (h' : Low n' d' N' D') (e : Eqv n d n' d') : n = n' ∧ d = d' :=
  lowest_unique (by have := h.d0; omega) (by have := h'.d0; omega) h.g h'.g e

/-- What lowest terms of a / b are, where the numbers are small. -/
theorem low_of {a b A B : Int} (h0 : -A ≤ a) (h1 : a ≤ A) (hb : b ≠ 0) (hb' : (b.natAbs : Int) ≤ B) (hA : A ≤ 1152921504606846976) (hB : B ≤ 1152921504606846976) :
    ∃ n d, Low n d A B ∧ Eqv n d a b ∧ fA a b = n ∧ fB a b = d ∧ fE a b = 0 := by
  have a1 := fN_le (a := a) hb
  have a2 := fD_le (a := a) hb
  have a3 := fD_pos (a := a) hb
  have a4 := fN_gcd (a := a) hb
  have hf : fits a b = true := by unfold fits; simp; omega
  refine ⟨fN a b, fD a b, ⟨by omega, by omega, by omega, by omega, a4⟩, fN_cross hb, ?_, ?_, ?_⟩ <;> simp [fA, fB, fE, hf]

theorem add_low {xn xd yn yd X Xd Y Yd : Int} (hx : Low xn xd X Xd) (hy : Low yn yd Y Yd) (k1 : X * Yd + Y * Xd ≤ 1000000000000) (k2 : Xd * Yd ≤ 1000000000000) (b1 : X ≤ 1000000) (b2 : Xd ≤ 1000000) (b3 : Y ≤ 1000000) (b4 : Yd ≤ 1000000) :
    ∃ n d, Low n d (X * Yd + Y * Xd) (Xd * Yd) ∧ Eqv n d (xn * yd + yn * xd) (xd * yd) ∧ ∀ w, Calls Try.prog 80 #[.agg #[.int .i64 xn, .int .i64 xd], .agg #[.int .i64 yn, .int .i64 yd]] w fun e w' => e = .returned (.tuple #[.agg #[.int .i64 n, .int .i64 d], .int .i64 0]) ∧ Below w.heap.size w w' := by
  obtain ⟨x0, x1, x2, x3, xg⟩ := hx
  obtain ⟨y0, y1, y2, y3, yg⟩ := hy
  have m1 := mulb x0 x1 (show -Yd ≤ yd by omega) y3
  have m2 := mulb y0 y1 (show -Xd ≤ xd by omega) x3
  have m3 := mul_le x2 x3 y2 y3
  obtain ⟨n, d, h1, h2, h3, h4, h5⟩ := low_of (a := xn * yd + yn * xd) (b := xd * yd) (A := X * Yd + Y * Xd) (B := Xd * Yd) (by omega) (by omega) (by omega) (by omega) (by omega) (by omega)
  refine ⟨n, d, h1, h2, fun w => ?_⟩
  have := frac_add xn xd yn yd (by omega) (by omega) (by omega) (by omega) x2 (by omega) y2 (by omega) w
  rwa [h3, h4, h5] at this
theorem mul_low {xn xd yn yd X Xd Y Yd : Int} (hx : Low xn xd X Xd) (hy : Low yn yd Y Yd) (k1 : X * Y ≤ 1000000000000) (k2 : Xd * Yd ≤ 1000000000000) (b1 : X ≤ 1000000) (b2 : Xd ≤ 1000000) (b3 : Y ≤ 1000000) (b4 : Yd ≤ 1000000) :
    ∃ n d, Low n d (X * Y) (Xd * Yd) ∧ Eqv n d (xn * yn) (xd * yd) ∧ ∀ w, Calls Try.prog 81 #[.agg #[.int .i64 xn, .int .i64 xd], .agg #[.int .i64 yn, .int .i64 yd]] w fun e w' => e = .returned (.tuple #[.agg #[.int .i64 n, .int .i64 d], .int .i64 0]) ∧ Below w.heap.size w w' := by
  obtain ⟨x0, x1, x2, x3, xg⟩ := hx
  obtain ⟨y0, y1, y2, y3, yg⟩ := hy
  have m1 := mulb x0 x1 y0 y1
  have m3 := mul_le x2 x3 y2 y3
  obtain ⟨n, d, h1, h2, h3, h4, h5⟩ := low_of (a := xn * yn) (b := xd * yd) (A := X * Y) (B := Xd * Yd) (by omega) (by omega) (by omega) (by omega) (by omega) (by omega)
  refine ⟨n, d, h1, h2, fun w => ?_⟩
  have := frac_mul xn xd yn yd (by omega) (by omega) (by omega) (by omega) x2 (by omega) y2 (by omega) w
  rwa [h3, h4, h5] at this
theorem div_low {xn xd yn yd X Xd Y Yd : Int} (hx : Low xn xd X Xd) (hy : Low yn yd Y Yd) (hz : yn ≠ 0) (k1 : X * Yd ≤ 1000000000000) (k2 : Xd * Y ≤ 1000000000000) (b1 : X ≤ 1000000) (b2 : Xd ≤ 1000000) (b3 : Y ≤ 1000000) (b4 : Yd ≤ 1000000) :
    ∃ n d, Low n d (X * Yd) (Xd * Y) ∧ Eqv n d (xn * yd) (xd * yn) ∧ ∀ w, Calls Try.prog 97 #[.agg #[.int .i64 xn, .int .i64 xd], .agg #[.int .i64 yn, .int .i64 yd]] w fun e w' => e = .returned (.tuple #[.agg #[.int .i64 n, .int .i64 d], .int .i64 0]) ∧ Below w.heap.size w w' := by
  obtain ⟨x0, x1, x2, x3, xg⟩ := hx
  obtain ⟨y0, y1, y2, y3, yg⟩ := hy
  have m1 := mulb x0 x1 (show -Yd ≤ yd by omega) y3
  have m3 := mulb (show -Xd ≤ xd by omega) x3 y0 y1
  have hne : xd * yn ≠ 0 := Int.mul_ne_zero (by omega) hz
  obtain ⟨n, d, h1, h2, h3, h4, h5⟩ := low_of (a := xn * yd) (b := xd * yn) (A := X * Yd) (B := Xd * Y) (by omega) (by omega) hne (by omega) (by omega) (by omega)
  refine ⟨n, d, h1, h2, fun w => ?_⟩
  have := frac_div xn xd yn yd (by omega) (by omega) (by omega) (by omega) x2 (by omega) y2 (by omega) hz w
  rwa [h3, h4, h5] at this
theorem div_zero (xn xd yd : Int) (w : World) :
    Calls Try.prog 97 #[.agg #[.int .i64 xn, .int .i64 xd], .agg #[.int .i64 0, .int .i64 yd]] w fun e w' => e = .returned (.tuple #[.agg #[.int .i64 0, .int .i64 0], .int .i64 36]) ∧ Below w.heap.size w w' := by
  go_enter Try.func97, Try.ntmps97
  go_wp2
  go_returns
  exact ⟨rfl, by go_grown⟩
end Go.Proofs.Ytdegpgonphgbcaa
