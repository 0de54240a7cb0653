/-
  timeboundmake2.Frac: a fraction of small numbers in lowest terms, whatever the deck gives.
  The plain part of the laws of a field: fractions of small numbers in lowest terms, and what Add, Sub, Mul, Div make of them.
  fraction.Cmp: it compares two fractions by their cross products. Conditions: numbers at most 2^60, denominators at least 1.
  The program's and the document's functions on fractions, as functions on rational numbers. (printed by mkSxB.py)
-/
import Derived.Test.YtdegpgonphgbcaaDeck
import Derived.Test.YtdegpgonphgbcaaFxO
import Derived.Test.YtdegpgonphgbcaaZFxN
import Derived.Test.YtdegpgonphgbcaaMem
namespace Go.Proofs.Ytdegpgonphgbcaa
open Go.RowKit

/-- What a call of Frac leaves: a small fraction in lowest terms, the deck, all else as it was. -/
def TakenFrac (d : Nat) (w : World) (e : Ending) (w' : World) : Prop := ∃ p q : Int, e = .returned (.agg #[.int .i64 p, .int .i64 q]) ∧ -10 ≤ p ∧ p ≤ 10 ∧ 1 ≤ q ∧ q ≤ 9 ∧ Int.gcd p q = 1 ∧ Deck w' d ∧ But d w w'

theorem frac_plain (n k : Int) (h0 : -10 ≤ n) (h1 : n ≤ 10) (h2 : 1 ≤ k) (h3 : k ≤ 9) : -10 ≤ fN n k ∧ fN n k ≤ 10 ∧ 1 ≤ fD n k ∧ fD n k ≤ 9 ∧ Int.gcd (fN n k) (fD n k) = 1 := by
  have hk : k ≠ 0 := by omega
  have a1 := fN_le (a := n) hk
  have a2 := fD_le (a := n) hk
  have a3 := fD_pos (a := n) hk
  have a4 := fN_gcd (a := n) hk
  omega

set_option maxHeartbeats 2000000 in
theorem frac_any (d : Nat) (w : World) (hd : Deck w d) :
    Calls Try.prog 29 #[.pointer (some ⟨d, 0, none⟩)] w (TakenFrac d w) := by
  have hlt := hd.lt
  have HD := Lib.hid hd
  clear hd
  go_enter Try.func29, Try.ntmps29
  go_wp2_with fail
  refine (next_any d 21 (by omega) (by omega) _ (HD.out.below ((Below.refl _ _).alloc (Nat.le_refl _) _) (Nat.le_refl _))).mono ?_
  rintro e w1 ⟨n0, rfl, n1, n2, hd1, hb1⟩
  have t1 : Has w1 w.heap.size [.int .i64 0, .int .i64 0] := hb1.has (Has.new w _ 31) (by go_size) (by omega)
  have z1 : w.heap.size < w1.heap.size := t1.lt (by simp)
  have b1 : But d w w1 := (But.of_below ((Below.refl _ _).alloc (Nat.le_refl _) (.cells #[.int .i64 0, .int .i64 0] 31))).trans hb1
  go_wp2_with fail
  refine (next_any d 9 (by omega) (by omega) _ hd1).mono ?_
  rintro e w2 ⟨k0, rfl, k1, k2, hd2, hb2⟩
  have t2 : Has w2 w.heap.size [.int .i64 0, .int .i64 0] := hb2.has t1 z1 (by omega)
  have z2 : w.heap.size < w2.heap.size := t2.lt (by simp)
  have b2 : But d w w2 := b1.trans hb2
  clear hb1 hb2 t1 hd1 b1
  have HD2 := Lib.hid hd2; have HB2 := Lib.hid b2
  clear hd2 b2
  have hk0 : 1 + k0 ≠ 0 := by omega
  go_wp2_with fail
  all_goals
    go_loopg [5, 6] ((1 + k0).toNat + 1) (fun g a b wr => ∃ X Y : Nat, g = Y + 1 ∧ a = .int .i64 X ∧ b = .int .i64 Y ∧ Nat.gcd X Y = Int.gcd (n0 - 10) (1 + k0) ∧ X ≤ 10 ∧ Y ≤ 10 ∧ Has wr w.heap.size [.int .i64 0, .int .i64 0] ∧ w.heap.size < wr.heap.size ∧ Deck wr d ∧ But d w wr)
    case atStart =>
      refine ⟨(n0 - 10).natAbs, (1 + k0).natAbs, by omega, by congr 1; omega, by congr 1; omega, rfl, by omega, by omega, t2, z2, HD2.out, HB2.out⟩
    case round =>
      obtain ⟨X, Y, rfl, rfl, rfl, hg, hX, hY, t3, z3, hd3, hb3⟩ := hrel
      have G := Lib.hid hg; have HD3 := Lib.hid hd3; have HB3 := Lib.hid hb3
      clear hg hd3 hb3
      rcases Nat.lt_or_ge Y 1 with hc | hc
      · have hX' : (X : Int) = (Int.gcd (n0 - 10) (1 + k0) : Nat) := by rw [← G.out, show Y = 0 by omega, Nat.gcd_zero_right]
        have hX0 : 0 < X := by have := gcd_pos (a := n0 - 10) hk0; omega
        have HX := Lib.hid hX'
        clear hX'
        have q0 := t3.cell 0 _ rfl; have q1 := t3.cell 1 _ rfl; have qf := t3.free
        by_cases hz : n0 = 10
        · have hz' : (n0 - 10 == 0) = true := by simp; omega
          go_wp2
          all_goals refine bodyPost_ret (v := .agg #[.int .i64 0, .int .i64 1]) (by simp [results, Try.results29, go_sem, q0, q1]) rfl ?_
          all_goals exact ⟨0, 1, rfl, by omega, by omega, by omega, by omega, by decide, (HD3.out.other hlt _).other hlt _, (HB3.out.other (Nat.le_refl _) _).other (Nat.le_refl _) _⟩
        · have hz' : (n0 - 10 == 0) = false := by simp; omega
          go_wp2
          go_region
          all_goals go_wp2
          all_goals
            have e1 : (n0 - 10).tdiv (X : Int) = fN (n0 - 10) (1 + k0) := by rw [HX.out, fN_nonneg (by omega)]
            have e2 : (1 + k0) / (X : Int) = fD (n0 - 10) (1 + k0) := by rw [HX.out, fD_nonneg (by omega)]
            obtain ⟨f1, f2, f3, f4, f5⟩ := frac_plain (n0 - 10) (1 + k0) (by omega) (by omega) (by omega) (by omega)
            first
              | (refine bodyPost_ret (v := .agg #[.int .i64 ((n0 - 10).tdiv (X : Int)), .int .i64 ((1 + k0) / (X : Int))]) ?hv rfl ?_
                 case hv => (simp [results, Try.results29, go_sem, q0, q1]; done)
                 rw [e1, e2]
                 exact ⟨_, _, rfl, f1, f2, f3, f4, f5, ((HD3.out.other hlt _).other hlt _).drewN 1, ((HB3.out.other (Nat.le_refl _) _).other (Nat.le_refl _) _).drewN 1⟩)
              | (have e3 : (n0 - 10) / (X : Int) = fN (n0 - 10) (1 + k0) := (Int.tdiv_eq_ediv_of_nonneg (show 0 ≤ n0 - 10 by omega)).symm.trans e1
                 refine bodyPost_ret (v := .agg #[.int .i64 ((n0 - 10) / (X : Int)), .int .i64 ((1 + k0) / (X : Int))]) ?hv rfl ?_
                 case hv => (simp [results, Try.results29, go_sem, q0, q1]; done)
                 rw [e3, e2]
                 exact ⟨_, _, rfl, f1, f2, f3, f4, f5, ((HD3.out.other hlt _).other hlt _).drewN 1, ((HB3.out.other (Nat.le_refl _) _).other (Nat.le_refl _) _).drewN 1⟩)
      · have hc' : (0 : Int) < (Y : Int) := by omega
        go_wp2
        go_region
        all_goals go_wp2
        all_goals go_roundg (X % Y + 1)
        all_goals first | (case measure => have := Nat.mod_lt X hc; omega) | skip
        exact ⟨Y, X % Y, rfl, rfl, rfl, by rw [← G.out, Nat.gcd_comm Y, ← Nat.gcd_rec, Nat.gcd_comm], hY, by have := Nat.mod_lt X hc; omega, t3.drew, z3, HD3.out.drewN 1, HB3.out.drewN 1⟩
end Go.Proofs.Ytdegpgonphgbcaa
namespace Go.Proofs.Ytdegpgonphgbcaa
open Go.RowKit

/-- n / d is a fraction in lowest terms, its numbers at most N and D. -/
structure Low (n d N D : Int) : Prop where
  n0 : -N ≤ n
  n1 : n ≤ N
  d0 : 1 ≤ d
  d1 : d ≤ D
  g : Int.gcd n d = 1

theorem mulb {x y X Y : Int} (h0 : -X ≤ x) (h1 : x ≤ X) (h2 : -Y ≤ y) (h3 : y ≤ Y) : -(X * Y) ≤ x * y ∧ x * y ≤ X * Y := by
  have a1 := Int.mul_nonneg (a := X - x) (b := Y - y) (by omega) (by omega)
  have a2 := Int.mul_nonneg (a := x + X) (b := y + Y) (by omega) (by omega)
  have a4 := Int.mul_nonneg (a := X - x) (b := y + Y) (by omega) (by omega)
  have a5 := Int.mul_nonneg (a := x + X) (b := Y - y) (by omega) (by omega)
  have e1 : (X - x) * (Y - y) = X * Y - X * y - x * Y + x * y := by grind
  have e2 : (x + X) * (y + Y) = x * y + x * Y + X * y + X * Y := by grind
  have e4 : (X - x) * (y + Y) = X * y + X * Y - x * y - x * Y := by grind
  have e5 : (x + X) * (Y - y) = x * Y - x * y + X * Y - X * y := by grind
  omega
theorem mul_le {x y X Y : Int} (h0 : 1 ≤ x) (h1 : x ≤ X) (h2 : 1 ≤ y) (h3 : y ≤ Y) : 1 ≤ x * y ∧ x * y ≤ X * Y :=
  ⟨by have := Int.mul_pos (show 0 < x by omega) (show 0 < y by omega); omega, (mulb (by omega) h1 (by omega) h3).2⟩

/-- n / d and N / D are one number. -/
def Eqv (n d N D : Int) : Prop := n * D = N * d
theorem Eqv.symm {n d N D : Int} (h : Eqv n d N D) : Eqv N D n d := by unfold Eqv at *; exact Eq.symm h
theorem Eqv.trans {a b c d e f : Int} (hd : d ≠ 0) (h : Eqv a b c d) (k : Eqv c d e f) : Eqv a b e f := by
  unfold Eqv at *
  refine Int.eq_of_mul_eq_mul_right hd ?_
  rw [Int.mul_right_comm, h, Int.mul_right_comm, k, Int.mul_right_comm]
theorem Eqv.add {a b A B c d C D : Int} (h : Eqv a b A B) (k : Eqv c d C D) : Eqv (a * d + c * b) (b * d) (A * D + C * B) (B * D) := by unfold Eqv at *; grind
theorem Eqv.sub {a b A B c d C D : Int} (h : Eqv a b A B) (k : Eqv c d C D) : Eqv (a * d - c * b) (b * d) (A * D - C * B) (B * D) := by unfold Eqv at *; grind
theorem Eqv.mul {a b A B c d C D : Int} (h : Eqv a b A B) (k : Eqv c d C D) : Eqv (a * c) (b * d) (A * C) (B * D) := by unfold Eqv at *; grind
theorem Eqv.div {a b A B c d C D : Int} (h : Eqv a b A B) (k : Eqv c d C D) : Eqv (a * d) (b * c) (A * D) (B * C) := by unfold Eqv at *; grind
theorem Eqv.refl (a b : Int) : Eqv a b a b := rfl
theorem Low.eq {n d N D n' d' N' D' : Int} (h : Low n d N D) (h' : Low n' d' N' D') (e : Eqv n d n' d') : n = n' ∧ d = d' :=
  lowest_unique (by have := h.d0; omega) (by have := h'.d0; omega) h.g h'.g e

/-- What lowest terms of a / b are, where the numbers are small. -/
theorem low_of {a b A B : Int} (h0 : -A ≤ a) (h1 : a ≤ A) (hb : b ≠ 0) (hb' : (b.natAbs : Int) ≤ B) (hA : A ≤ 1152921504606846976) (hB : B ≤ 1152921504606846976) :
    ∃ n d, Low n d A B ∧ Eqv n d a b ∧ fA a b = n ∧ fB a b = d ∧ fE a b = 0 := by
  have a1 := fN_le (a := a) hb
  have a2 := fD_le (a := a) hb
  have a3 := fD_pos (a := a) hb
  have a4 := fN_gcd (a := a) hb
  have hf : fits a b = true := by unfold fits; simp; omega
  refine ⟨fN a b, fD a b, ⟨by omega, by omega, by omega, by omega, a4⟩, fN_cross hb, ?_, ?_, ?_⟩ <;> simp [fA, fB, fE, hf]

theorem add_low {xn xd yn yd X Xd Y Yd : Int} (hx : Low xn xd X Xd) (hy : Low yn yd Y Yd) (k1 : X * Yd + Y * Xd ≤ 1000000000000) (k2 : Xd * Yd ≤ 1000000000000) (b1 : X ≤ 1000000) (b2 : Xd ≤ 1000000) (b3 : Y ≤ 1000000) (b4 : Yd ≤ 1000000) :
    ∃ n d, Low n d (X * Yd + Y * Xd) (Xd * Yd) ∧ Eqv n d (xn * yd + yn * xd) (xd * yd) ∧ ∀ w, Calls Try.prog 80 #[.agg #[.int .i64 xn, .int .i64 xd], .agg #[.int .i64 yn, .int .i64 yd]] w fun e w' => e = .returned (.tuple #[.agg #[.int .i64 n, .int .i64 d], .int .i64 0]) ∧ Below w.heap.size w w' := by
  obtain ⟨x0, x1, x2, x3, xg⟩ := hx
  obtain ⟨y0, y1, y2, y3, yg⟩ := hy
  have m1 := mulb x0 x1 (show -Yd ≤ yd by omega) y3
  have m2 := mulb y0 y1 (show -Xd ≤ xd by omega) x3
  have m3 := mul_le x2 x3 y2 y3
  obtain ⟨n, d, h1, h2, h3, h4, h5⟩ := low_of (a := xn * yd + yn * xd) (b := xd * yd) (A := X * Yd + Y * Xd) (B := Xd * Yd) (by omega) (by omega) (by omega) (by omega) (by omega) (by omega)
  refine ⟨n, d, h1, h2, fun w => ?_⟩
  have := frac_add xn xd yn yd (by omega) (by omega) (by omega) (by omega) x2 (by omega) y2 (by omega) w
  rwa [h3, h4, h5] at this
theorem mul_low {xn xd yn yd X Xd Y Yd : Int} (hx : Low xn xd X Xd) (hy : Low yn yd Y Yd) (k1 : X * Y ≤ 1000000000000) (k2 : Xd * Yd ≤ 1000000000000) (b1 : X ≤ 1000000) (b2 : Xd ≤ 1000000) (b3 : Y ≤ 1000000) (b4 : Yd ≤ 1000000) :
    ∃ n d, Low n d (X * Y) (Xd * Yd) ∧ Eqv n d (xn * yn) (xd * yd) ∧ ∀ w, Calls Try.prog 81 #[.agg #[.int .i64 xn, .int .i64 xd], .agg #[.int .i64 yn, .int .i64 yd]] w fun e w' => e = .returned (.tuple #[.agg #[.int .i64 n, .int .i64 d], .int .i64 0]) ∧ Below w.heap.size w w' := by
  obtain ⟨x0, x1, x2, x3, xg⟩ := hx
  obtain ⟨y0, y1, y2, y3, yg⟩ := hy
  have m1 := mulb x0 x1 y0 y1
  have m3 := mul_le x2 x3 y2 y3
  obtain ⟨n, d, h1, h2, h3, h4, h5⟩ := low_of (a := xn * yn) (b := xd * yd) (A := X * Y) (B := Xd * Yd) (by omega) (by omega) (by omega) (by omega) (by omega) (by omega)
  refine ⟨n, d, h1, h2, fun w => ?_⟩
  have := frac_mul xn xd yn yd (by omega) (by omega) (by omega) (by omega) x2 (by omega) y2 (by omega) w
  rwa [h3, h4, h5] at this
theorem div_low {xn xd yn yd X Xd Y Yd : Int} (hx : Low xn xd X Xd) (hy : Low yn yd Y Yd) (hz : yn ≠ 0) (k1 : X * Yd ≤ 1000000000000) (k2 : Xd * Y ≤ 1000000000000) (b1 : X ≤ 1000000) (b2 : Xd ≤ 1000000) (b3 : Y ≤ 1000000) (b4 : Yd ≤ 1000000) :
    ∃ n d, Low n d (X * Yd) (Xd * Y) ∧ Eqv n d (xn * yd) (xd * yn) ∧ ∀ w, Calls Try.prog 97 #[.agg #[.int .i64 xn, .int .i64 xd], .agg #[.int .i64 yn, .int .i64 yd]] w fun e w' => e = .returned (.tuple #[.agg #[.int .i64 n, .int .i64 d], .int .i64 0]) ∧ Below w.heap.size w w' := by
  obtain ⟨x0, x1, x2, x3, xg⟩ := hx
  obtain ⟨y0, y1, y2, y3, yg⟩ := hy
  have m1 := mulb x0 x1 (show -Yd ≤ yd by omega) y3
  have m3 := mulb (show -Xd ≤ xd by omega) x3 y0 y1
  have hne : xd * yn ≠ 0 := Int.mul_ne_zero (by omega) hz
  obtain ⟨n, d, h1, h2, h3, h4, h5⟩ := low_of (a := xn * yd) (b := xd * yn) (A := X * Yd) (B := Xd * Y) (by omega) (by omega) hne (by omega) (by omega) (by omega)
  refine ⟨n, d, h1, h2, fun w => ?_⟩
  have := frac_div xn xd yn yd (by omega) (by omega) (by omega) (by omega) x2 (by omega) y2 (by omega) hz w
  rwa [h3, h4, h5] at this
theorem div_zero (xn xd yd : Int) (w : World) :
    Calls Try.prog 97 #[.agg #[.int .i64 xn, .int .i64 xd], .agg #[.int .i64 0, .int .i64 yd]] w fun e w' => e = .returned (.tuple #[.agg #[.int .i64 0, .int .i64 0], .int .i64 36]) ∧ Below w.heap.size w w' := by
  go_enter Try.func97, Try.ntmps97
  go_wp2
  go_returns
  exact ⟨rfl, by go_grown⟩
end Go.Proofs.Ytdegpgonphgbcaa
namespace Go.Proofs.Ytdegpgonphgbcaa
open Go.RowKit

def cmpI (a b : Int) : Int := if a < b then -1 else if a = b then 0 else 1

theorem sign_neg (n : Int) (h : n < 0) (w : World) : Calls Try.prog 82 #[.int .i64 n] w fun e w' => e = .returned (.int .i64 (-1)) ∧ w = w' := by
  go_enter Try.func82, Try.ntmps82
  go_wp2
  go_ret
  exact ⟨rfl, rfl⟩
theorem sign_zero (n : Int) (h : n = 0) (w : World) : Calls Try.prog 82 #[.int .i64 n] w fun e w' => e = .returned (.int .i64 0) ∧ w = w' := by
  subst h
  go_enter Try.func82, Try.ntmps82
  go_wp2
  go_ret
  exact ⟨rfl, rfl⟩
theorem sign_pos (n : Int) (h : 0 < n) (w : World) : Calls Try.prog 82 #[.int .i64 n] w fun e w' => e = .returned (.int .i64 1) ∧ w = w' := by
  go_enter Try.func82, Try.ntmps82
  go_wp2
  go_ret
  exact ⟨rfl, rfl⟩
theorem sgn_mul {x d : Int} (h : 0 < d) : (x < 0 → x * d < 0) ∧ (x = 0 → x * d = 0) ∧ (0 < x → 0 < x * d) :=
  ⟨fun k => Int.mul_neg_of_neg_of_pos k h, fun k => by rw [k, Int.zero_mul], fun k => Int.mul_pos k h⟩
theorem mul64_at {x y : Int} (A B : Nat) (ex : x = A) (ey : y = B) (hA : A < 18446744073709551616) (hB : B < 18446744073709551616) (w : World) :
    Calls Try.prog 83 #[.int .u64 x, .int .u64 y] w fun e w' => e = .returned (.tuple #[.int .u64 (wh (A * B)), .int .u64 (wl (A * B))]) ∧ w = w' := by
  subst ex ey; exact mul64_any A B hA hB w

set_option maxHeartbeats 1000000 in
theorem cmp_apart (xn xd yn yd : Int) (hx : -1152921504606846976 ≤ xn) (hx1 : xn ≤ 1152921504606846976) (hy : -1152921504606846976 ≤ yn) (hy1 : yn ≤ 1152921504606846976) (kx : 1 ≤ xd) (kx1 : xd ≤ 1152921504606846976) (ky : 1 ≤ yd) (ky1 : yd ≤ 1152921504606846976) (h : (xn < 0 ∧ 0 ≤ yn) ∨ (xn = 0) ∨ (0 < xn ∧ yn ≤ 0)) (w : World) :
    Calls Try.prog 61 #[.agg #[.int .i64 xn, .int .i64 xd], .agg #[.int .i64 yn, .int .i64 yd]] w fun e w' => e = .returned (.int .i64 (cmpI (xn * yd) (yn * xd))) ∧ Below w.heap.size w w' := by
  have m1 := sgn_mul (x := xn) (d := yd) (by omega)
  have m2 := sgn_mul (x := yn) (d := xd) (by omega)
  obtain ⟨c, hc⟩ : ∃ c, c = cmpI (xn * yd) (yn * xd) := ⟨_, rfl⟩
  have hcv : (xn < 0 → c = -1) ∧ (xn = 0 → yn < 0 → c = 1) ∧ (xn = 0 → yn = 0 → c = 0) ∧ (xn = 0 → 0 < yn → c = -1) ∧ (0 < xn → c = 1) := by
    rw [hc]; unfold cmpI
    generalize xn * yd = p at *
    generalize yn * xd = q at *
    refine ⟨fun k => ?_, fun k l => ?_, fun k l => ?_, fun k l => ?_, fun k => ?_⟩ <;> (repeat' split) <;> omega
  rw [← hc]
  have HC := Lib.hid hcv
  clear hcv hc m1 m2
  have z : xn < 0 ∨ xn = 0 ∨ 0 < xn := by omega
  have z' : yn < 0 ∨ yn = 0 ∨ 0 < yn := by omega
  rcases z with z | z | z
  all_goals rcases z' with z' | z' | z'
  all_goals first
    | (exfalso; omega)
    | (have k1 := Lib.hid z; have k2 := Lib.hid z'
       clear h z z'
       go_enter Try.func61, Try.ntmps61
       go_wp2_with fail
       first | (refine (sign_neg _ k1.out _).mono ?_) | (refine (sign_zero _ k1.out _).mono ?_) | (refine (sign_pos _ k1.out _).mono ?_)
       rintro e w1 ⟨rfl, rfl⟩
       go_wp2_with fail
       first | (refine (sign_neg _ k2.out _).mono ?_) | (refine (sign_zero _ k2.out _).mono ?_) | (refine (sign_pos _ k2.out _).mono ?_)
       rintro e w1 ⟨rfl, rfl⟩
       go_wp2_with fail
       first | (refine (sign_neg _ k2.out _).mono ?_) | (refine (sign_zero _ k2.out _).mono ?_) | (refine (sign_pos _ k2.out _).mono ?_)
       rintro e w1 ⟨rfl, rfl⟩
       go_wp2_with fail
       first | (refine (sign_neg _ (by decide) _).mono ?_) | (refine (sign_zero _ (by decide) _).mono ?_) | (refine (sign_pos _ (by decide) _).mono ?_)
       rintro e w1 ⟨rfl, rfl⟩
       go_wp2
       go_returns
       have kc := HC.out
       have k3 := k1.out
       have k4 := k2.out
       refine ⟨?_, by go_grown⟩
       first | exact ret_int (kc.1 k3).symm | exact ret_int (kc.2.1 k3 k4).symm | exact ret_int (kc.2.2.1 k3 k4).symm | exact ret_int (kc.2.2.2.1 k3 k4).symm | exact ret_int (kc.2.2.2.2 k3).symm)

theorem cmp_plain {xn xd yn yd : Int} (kx : 1 ≤ xd) (ky : 1 ≤ yd) :
    (0 < xn → 0 < yn → cmpI (xn * yd) (yn * xd) = cmpI ((xn.natAbs * yd.natAbs : Nat) : Int) ((yn.natAbs * xd.natAbs : Nat) : Int)) ∧
    (xn < 0 → yn < 0 → cmpI (xn * yd) (yn * xd) = -cmpI ((xn.natAbs * yd.natAbs : Nat) : Int) ((yn.natAbs * xd.natAbs : Nat) : Int)) := by
  have e1 : ((xn.natAbs * yd.natAbs : Nat) : Int) = (xn.natAbs : Int) * (yd.natAbs : Int) := by simp
  have e2 : ((yn.natAbs * xd.natAbs : Nat) : Int) = (yn.natAbs : Int) * (xd.natAbs : Int) := by simp
  rw [e1, e2, show (yd.natAbs : Int) = yd by omega, show (xd.natAbs : Int) = xd by omega]
  refine ⟨fun h k => ?_, fun h k => ?_⟩
  · rw [show (xn.natAbs : Int) = xn by omega, show (yn.natAbs : Int) = yn by omega]
  · rw [show (xn.natAbs : Int) = -xn by omega, show (yn.natAbs : Int) = -yn by omega, Int.neg_mul, Int.neg_mul]
    generalize xn * yd = p
    generalize yn * xd = q
    unfold cmpI
    (repeat' split) <;> omega

theorem cmp_words (P Q : Nat) : (wh P = wh Q → wl P = wl Q → cmpI P Q = 0) ∧ (wh P < wh Q → cmpI P Q = -1) ∧ (wh P = wh Q → wl P < wl Q → cmpI P Q = -1) ∧ (¬ wh P = wh Q → ¬ wh P < wh Q → cmpI P Q = 1) ∧ (wh P = wh Q → ¬ wl P = wl Q → ¬ wl P < wl Q → cmpI P Q = 1) := by
  have p1 := w_of P; have q1 := w_of Q
  have p2 := wl_bd P; have q2 := wl_bd Q
  unfold cmpI
  refine ⟨fun a b => ?_, fun a => ?_, fun a b => ?_, fun a b => ?_, fun a b c => ?_⟩ <;> (repeat' split) <;> omega


set_option maxHeartbeats 2000000 in
theorem cmp_both_pos (xn xd yn yd : Int) (hx : -1152921504606846976 ≤ xn) (hx1 : xn ≤ 1152921504606846976) (hy : -1152921504606846976 ≤ yn) (hy1 : yn ≤ 1152921504606846976) (kx : 1 ≤ xd) (kx1 : xd ≤ 1152921504606846976) (ky : 1 ≤ yd) (ky1 : yd ≤ 1152921504606846976) (h1 : 0 < xn) (h2 : 0 < yn) (w : World) :
    Calls Try.prog 61 #[.agg #[.int .i64 xn, .int .i64 xd], .agg #[.int .i64 yn, .int .i64 yd]] w fun e w' => e = .returned (.int .i64 (cmpI (xn * yd) (yn * xd))) ∧ Below w.heap.size w w' := by
  have hp := (cmp_plain (xn := xn) (yn := yn) kx ky).1 h1 h2
  have c1 := fun x y ex ey w => mul64_at (x := x) (y := y) xn.natAbs yd.natAbs ex ey (by omega) (by omega) w
  have c2 := fun x y ex ey w => mul64_at (x := x) (y := y) yn.natAbs xd.natAbs ex ey (by omega) (by omega) w
  generalize xn.natAbs * yd.natAbs = P at *
  generalize yn.natAbs * xd.natAbs = Q at *
  have hw := cmp_words P Q
  generalize cmpI (xn * yd) (yn * xd) = c at *
  generalize cmpI (P : Int) (Q : Int) = c' at *
  have HP := Lib.hid hp; have C1 := Lib.hid c1; have C2 := Lib.hid c2; have HW := Lib.hid hw
  have p2 := wl_bd P; have q2 := wl_bd Q
  clear hp c1 c2 hw
  have d : wh P = wh Q ∨ wh P < wh Q ∨ (¬ wh P = wh Q ∧ ¬ wh P < wh Q) := by omega
  have d' : wl P = wl Q ∨ wl P < wl Q ∨ (¬ wl P = wl Q ∧ ¬ wl P < wl Q) := by omega
  have D := Lib.hid d; have D' := Lib.hid d'
  clear d d'
  go_enter Try.func61, Try.ntmps61
  go_wp2_with fail
  refine (sign_pos _ h1 _).mono ?_
  rintro e w1 ⟨rfl, rfl⟩
  go_wp2_with fail
  refine (sign_pos _ h2 _).mono ?_
  rintro e w1 ⟨rfl, rfl⟩
  go_wp2_with fail
  all_goals refine Calls.mono (C1.out _ _ (by first | omega | (simp only [IntKind.wrap_u64]; omega)) (by first | omega | (simp only [IntKind.wrap_u64]; omega)) _) ?_
  all_goals rintro e w1 ⟨rfl, rfl⟩
  all_goals go_wp2_with fail
  all_goals first
    | (refine Calls.mono (C2.out _ _ (by first | omega | (simp only [IntKind.wrap_u64]; omega)) (by first | omega | (simp only [IntKind.wrap_u64]; omega)) _) ?_)
    | skip
  all_goals rintro e w1 ⟨rfl, rfl⟩
  all_goals go_wp2_with fail
  all_goals first
    | (refine (sign_pos _ h1 _).mono ?_
       rintro e w1 ⟨rfl, rfl⟩
       go_wp2
       go_returns
       have hv := HW.out
       have hp := HP.out
       refine ⟨ret_int ?_, by go_grown⟩
       (try simp only [beq_eq_false_iff_ne, ne_eq] at *)
       omega)
    | (go_returns
       have hv := HW.out
       have hp := HP.out
       refine ⟨ret_int ?_, by go_grown⟩
       (try simp only [beq_iff_eq] at *)
       omega)

set_option maxHeartbeats 2000000 in
theorem cmp_both_neg (xn xd yn yd : Int) (hx : -1152921504606846976 ≤ xn) (hx1 : xn ≤ 1152921504606846976) (hy : -1152921504606846976 ≤ yn) (hy1 : yn ≤ 1152921504606846976) (kx : 1 ≤ xd) (kx1 : xd ≤ 1152921504606846976) (ky : 1 ≤ yd) (ky1 : yd ≤ 1152921504606846976) (h1 : xn < 0) (h2 : yn < 0) (w : World) :
    Calls Try.prog 61 #[.agg #[.int .i64 xn, .int .i64 xd], .agg #[.int .i64 yn, .int .i64 yd]] w fun e w' => e = .returned (.int .i64 (cmpI (xn * yd) (yn * xd))) ∧ Below w.heap.size w w' := by
  have hp := (cmp_plain (xn := xn) (yn := yn) kx ky).2 h1 h2
  have c1 := fun x y ex ey w => mul64_at (x := x) (y := y) xn.natAbs yd.natAbs ex ey (by omega) (by omega) w
  have c2 := fun x y ex ey w => mul64_at (x := x) (y := y) yn.natAbs xd.natAbs ex ey (by omega) (by omega) w
  generalize xn.natAbs * yd.natAbs = P at *
  generalize yn.natAbs * xd.natAbs = Q at *
  have hw := cmp_words P Q
  generalize cmpI (xn * yd) (yn * xd) = c at *
  generalize cmpI (P : Int) (Q : Int) = c' at *
  have HP := Lib.hid hp; have C1 := Lib.hid c1; have C2 := Lib.hid c2; have HW := Lib.hid hw
  have p2 := wl_bd P; have q2 := wl_bd Q
  clear hp c1 c2 hw
  have d : wh P = wh Q ∨ wh P < wh Q ∨ (¬ wh P = wh Q ∧ ¬ wh P < wh Q) := by omega
  have d' : wl P = wl Q ∨ wl P < wl Q ∨ (¬ wl P = wl Q ∧ ¬ wl P < wl Q) := by omega
  have D := Lib.hid d; have D' := Lib.hid d'
  clear d d'
  go_enter Try.func61, Try.ntmps61
  go_wp2_with fail
  refine (sign_neg _ h1 _).mono ?_
  rintro e w1 ⟨rfl, rfl⟩
  go_wp2_with fail
  refine (sign_neg _ h2 _).mono ?_
  rintro e w1 ⟨rfl, rfl⟩
  go_wp2_with fail
  all_goals refine Calls.mono (C1.out _ _ (by first | omega | (simp only [IntKind.wrap_u64]; omega)) (by first | omega | (simp only [IntKind.wrap_u64]; omega)) _) ?_
  all_goals rintro e w1 ⟨rfl, rfl⟩
  all_goals go_wp2_with fail
  all_goals first
    | (refine Calls.mono (C2.out _ _ (by first | omega | (simp only [IntKind.wrap_u64]; omega)) (by first | omega | (simp only [IntKind.wrap_u64]; omega)) _) ?_)
    | skip
  all_goals rintro e w1 ⟨rfl, rfl⟩
  all_goals go_wp2_with fail
  all_goals first
    | (refine (sign_neg _ h1 _).mono ?_
       rintro e w1 ⟨rfl, rfl⟩
       go_wp2
       go_returns
       have hv := HW.out
       have hp := HP.out
       refine ⟨ret_int ?_, by go_grown⟩
       (try simp only [beq_eq_false_iff_ne, ne_eq] at *)
       omega)
    | (go_returns
       have hv := HW.out
       have hp := HP.out
       refine ⟨ret_int ?_, by go_grown⟩
       (try simp only [beq_iff_eq] at *)
       omega)

theorem cmp_any (xn xd yn yd : Int) (hx : -1152921504606846976 ≤ xn) (hx1 : xn ≤ 1152921504606846976) (hy : -1152921504606846976 ≤ yn) (hy1 : yn ≤ 1152921504606846976) (kx : 1 ≤ xd) (kx1 : xd ≤ 1152921504606846976) (ky : 1 ≤ yd) (ky1 : yd ≤ 1152921504606846976) (w : World) :
    Calls Try.prog 61 #[.agg #[.int .i64 xn, .int .i64 xd], .agg #[.int .i64 yn, .int .i64 yd]] w fun e w' => e = .returned (.int .i64 (cmpI (xn * yd) (yn * xd))) ∧ Below w.heap.size w w' := by
  by_cases h : 0 < xn ∧ 0 < yn
  · exact cmp_both_pos xn xd yn yd hx hx1 hy hy1 kx kx1 ky ky1 h.1 h.2 w
  · by_cases k : xn < 0 ∧ yn < 0
    · exact cmp_both_neg xn xd yn yd hx hx1 hy hy1 kx kx1 ky ky1 k.1 k.2 w
    · exact cmp_apart xn xd yn yd hx hx1 hy hy1 kx kx1 ky ky1 (by omega) w
end Go.Proofs.Ytdegpgonphgbcaa
namespace Go.Proofs.Ytdegpgonphgbcaa
open Go.RowKit

abbrev FrV (x : Rat) : Value := .agg #[.int .i64 x.num, .int .i64 (x.den : Int)]
abbrev FrC (x : Rat) : List Value := [.int .i64 x.num, .int .i64 (x.den : Int)]
def FrRet (z : Rat) (w : World) (e : Ending) (w' : World) : Prop := e = .returned (FrV z) ∧ Below w.heap.size w w'
def FrTup (z : Rat) (w : World) (e : Ending) (w' : World) : Prop := e = .returned (.tuple #[FrV z, .int .i64 0]) ∧ Below w.heap.size w w'
theorem Fit.d {x : Rat} (h : Fit x) : (x.den : Int) ≤ 1152921504606846976 := by have := h.2.2; omega
def cmpR (x y : Rat) : Int := if x < y then -1 else if x = y then 0 else 1
theorem cmp_rat (x y : Rat) : cmpI (x.num * (y.den : Int)) (y.num * (x.den : Int)) = cmpR x y := by
  unfold cmpI cmpR
  by_cases h : x < y
  · rw [if_pos h, if_pos ((Rat.lt_iff x y).1 h)]
  · rw [if_neg h, if_neg (fun g => h ((Rat.lt_iff x y).2 g))]
    by_cases h2 : x = y
    · rw [if_pos h2, if_pos (Rat.eq_iff_mul_eq_mul.1 h2)]
    · rw [if_neg h2, if_neg (fun g => h2 (Rat.eq_iff_mul_eq_mul.2 g))]
theorem pden (x y : Rat) : (x.den : Int) * (y.den : Int) ≠ 0 := Int.mul_ne_zero (den_ne x) (den_ne y)
theorem num_ne {x : Rat} (h : x ≠ 0) : x.num ≠ 0 := fun e => h (Rat.num_eq_zero.1 e)
theorem nadd (x y : Rat) (hx : Fit x) (hy : Fit y) (hz : Fit (x + y)) (w : World) : Calls Try.prog 80 #[FrV x, FrV y] w (FrTup (x + y) w) := by
  obtain ⟨h1, h2, h3⟩ := fit_named (pden x y) (add_rat x y) hz
  have h := frac_add x.num x.den y.num y.den hx.1 hx.2.1 hy.1 hy.2.1 (den_one x) hx.d (den_one y) hy.d w
  rw [h1, h2, h3] at h
  exact h
theorem nmul (x y : Rat) (hx : Fit x) (hy : Fit y) (hz : Fit (x * y)) (w : World) : Calls Try.prog 81 #[FrV x, FrV y] w (FrTup (x * y) w) := by
  obtain ⟨h1, h2, h3⟩ := fit_named (pden x y) (mul_rat x y) hz
  have h := frac_mul x.num x.den y.num y.den hx.1 hx.2.1 hy.1 hy.2.1 (den_one x) hx.d (den_one y) hy.d w
  rw [h1, h2, h3] at h
  exact h
theorem ndiv (x y : Rat) (hn : y ≠ 0) (hx : Fit x) (hy : Fit y) (hz : Fit (x / y)) (w : World) : Calls Try.prog 97 #[FrV x, FrV y] w (FrTup (x / y) w) := by
  obtain ⟨h1, h2, h3⟩ := fit_named (Int.mul_ne_zero (den_ne x) (num_ne hn)) (div_rat (x := x) (y := y)) hz
  have h := frac_div x.num x.den y.num y.den hx.1 hx.2.1 hy.1 hy.2.1 (den_one x) hx.d (den_one y) hy.d (num_ne hn) w
  rw [h1, h2, h3] at h
  exact h
theorem ncmp (x y : Rat) (hx : Fit x) (hy : Fit y) (w : World) : Calls Try.prog 61 #[FrV x, FrV y] w fun e w' => e = .returned (.int .i64 (cmpR x y)) ∧ Below w.heap.size w w' := by
  have h := cmp_any x.num x.den y.num y.den hx.1 hx.2.1 hy.1 hy.2.1 (den_one x) hx.d (den_one y) hy.d w
  rw [cmp_rat] at h
  exact h
set_option maxHeartbeats 4000000 in
theorem sadd (x y : Rat) (hx : Fit x) (hy : Fit y) (hz : Fit (x + y)) (w : World) : Calls Try.prog 59 #[FrV x, FrV y] w (FrRet (x + y) w) := by
  have N := Lib.hid (fun w => nadd x y hx hy hz w)
  have F0 := Lib.hid (Fm.new (Fm.new (Fm.new (Fm.start Non w) rfl (FrC x) 31) (by simp) (FrC y) 31) (by simp) [.int .i64 0, .int .i64 0] 31)
  generalize x + y = z at N ⊢
  clear hx hy hz
  go_enter Try.func59, Try.ntmps59
  go_wp2_with fail
  refine (N.out _).mono ?_
  rintro e w1 ⟨rfl, hb⟩
  have F1 := Lib.hid (Fm.call hb F0.out)
  clear hb
  have z0 := F1.out.h2.cell 0 _ rfl; have z1 := F1.out.h2.cell 1 _ rfl; have zf := F1.out.h2.free; have lz := F1.out.h2.lt (by simp)
  go_upto_region 2 with fail
  obtain ⟨w2, hw2⟩ : ∃ w2, w2 = w1.alloc (.cells #[.int .i64 z.num, .int .i64 (z.den : Int)] 31) := ⟨_, rfl⟩
  rw [← hw2]
  have F2 := Lib.hid (show Fm Non w w2 [FrC x, FrC y, [.int .i64 0, .int .i64 0]] by rw [hw2]; exact F1.out.more _)
  have Z2 := Lib.hid (show Has w2 w1.heap.size (FrC z) by rw [hw2]; exact Has.new w1 (FrC z) 31)
  clear hw2 z0 z1 zf lz F1
  generalize w1.heap.size = q at Z2 ⊢
  have z0 := F2.out.h2.cell 0 _ rfl; have z1 := F2.out.h2.cell 1 _ rfl; have zf := F2.out.h2.free
  have q0 := Z2.out.cell 0 _ rfl; have q1 := Z2.out.cell 1 _ rfl
  go_wp2
  refine bodyPost_ret (v := FrV z) (by simp [results, Try.results59, go_sem, z0, z1]) rfl ⟨rfl, ?_⟩
  exact (F2.out.below.setCell (by simp; omega) _).setCell (by simp; omega) _
set_option maxHeartbeats 4000000 in
theorem smul (x y : Rat) (hx : Fit x) (hy : Fit y) (hz : Fit (x * y)) (w : World) : Calls Try.prog 60 #[FrV x, FrV y] w (FrRet (x * y) w) := by
  have N := Lib.hid (fun w => nmul x y hx hy hz w)
  have F0 := Lib.hid (Fm.new (Fm.new (Fm.new (Fm.start Non w) rfl (FrC x) 31) (by simp) (FrC y) 31) (by simp) [.int .i64 0, .int .i64 0] 31)
  generalize x * y = z at N ⊢
  clear hx hy hz
  go_enter Try.func60, Try.ntmps60
  go_wp2_with fail
  refine (N.out _).mono ?_
  rintro e w1 ⟨rfl, hb⟩
  have F1 := Lib.hid (Fm.call hb F0.out)
  clear hb
  have z0 := F1.out.h2.cell 0 _ rfl; have z1 := F1.out.h2.cell 1 _ rfl; have zf := F1.out.h2.free; have lz := F1.out.h2.lt (by simp)
  go_upto_region 2 with fail
  obtain ⟨w2, hw2⟩ : ∃ w2, w2 = w1.alloc (.cells #[.int .i64 z.num, .int .i64 (z.den : Int)] 31) := ⟨_, rfl⟩
  rw [← hw2]
  have F2 := Lib.hid (show Fm Non w w2 [FrC x, FrC y, [.int .i64 0, .int .i64 0]] by rw [hw2]; exact F1.out.more _)
  have Z2 := Lib.hid (show Has w2 w1.heap.size (FrC z) by rw [hw2]; exact Has.new w1 (FrC z) 31)
  clear hw2 z0 z1 zf lz F1
  generalize w1.heap.size = q at Z2 ⊢
  have z0 := F2.out.h2.cell 0 _ rfl; have z1 := F2.out.h2.cell 1 _ rfl; have zf := F2.out.h2.free
  have q0 := Z2.out.cell 0 _ rfl; have q1 := Z2.out.cell 1 _ rfl
  go_wp2
  refine bodyPost_ret (v := FrV z) (by simp [results, Try.results60, go_sem, z0, z1]) rfl ⟨rfl, ?_⟩
  exact (F2.out.below.setCell (by simp; omega) _).setCell (by simp; omega) _
set_option maxHeartbeats 4000000 in
theorem sdiv (x y : Rat) (hn : y ≠ 0) (hx : Fit x) (hy : Fit y) (hz : Fit (x / y)) (w : World) : Calls Try.prog 85 #[FrV x, FrV y] w (FrRet (x / y) w) := by
  have N := Lib.hid (fun w => ndiv x y hn hx hy hz w)
  have F0 := Lib.hid (Fm.new (Fm.new (Fm.new (Fm.start Non w) rfl (FrC x) 31) (by simp) (FrC y) 31) (by simp) [.int .i64 0, .int .i64 0] 31)
  generalize x / y = z at N ⊢
  clear hx hy hz
  go_enter Try.func85, Try.ntmps85
  go_wp2_with fail
  refine (N.out _).mono ?_
  rintro e w1 ⟨rfl, hb⟩
  have F1 := Lib.hid (Fm.call hb F0.out)
  clear hb
  have z0 := F1.out.h2.cell 0 _ rfl; have z1 := F1.out.h2.cell 1 _ rfl; have zf := F1.out.h2.free; have lz := F1.out.h2.lt (by simp)
  go_upto_region 2 with fail
  obtain ⟨w2, hw2⟩ : ∃ w2, w2 = w1.alloc (.cells #[.int .i64 z.num, .int .i64 (z.den : Int)] 31) := ⟨_, rfl⟩
  rw [← hw2]
  have F2 := Lib.hid (show Fm Non w w2 [FrC x, FrC y, [.int .i64 0, .int .i64 0]] by rw [hw2]; exact F1.out.more _)
  have Z2 := Lib.hid (show Has w2 w1.heap.size (FrC z) by rw [hw2]; exact Has.new w1 (FrC z) 31)
  clear hw2 z0 z1 zf lz F1
  generalize w1.heap.size = q at Z2 ⊢
  have z0 := F2.out.h2.cell 0 _ rfl; have z1 := F2.out.h2.cell 1 _ rfl; have zf := F2.out.h2.free
  have q0 := Z2.out.cell 0 _ rfl; have q1 := Z2.out.cell 1 _ rfl
  go_wp2
  refine bodyPost_ret (v := FrV z) (by simp [results, Try.results85, go_sem, z0, z1]) rfl ⟨rfl, ?_⟩
  exact (F2.out.below.setCell (by simp; omega) _).setCell (by simp; omega) _
theorem fit_neg {x : Rat} (h : Fit x) : Fit (-x) := by obtain ⟨h1, h2, h3⟩ := h; exact ⟨by rw [Rat.neg_num]; omega, by rw [Rat.neg_num]; omega, by rw [Rat.neg_den]; exact h3⟩
set_option maxHeartbeats 4000000 in
theorem sopp (x : Rat) (hx : Fit x) (w : World) : Calls Try.prog 37 #[FrV x] w (FrRet (-x) w) := by
  have h0 := hx.1; have h1 := hx.2.1
  have NN := Lib.hid (show (-x).num = -x.num ∧ (-x).den = x.den from ⟨rfl, rfl⟩)
  generalize hn : x.num = n at *
  generalize hd : x.den = d at *
  clear hx
  go_enter Try.func37, Try.ntmps37
  go_wp2
  refine bodyPost_ret (v := .agg #[.int .i64 (-n), .int .i64 (d : Int)]) (by simp [results, Try.results37, go_sem]) rfl ⟨by unfold FrV; rw [NN.out.1, NN.out.2], ?_⟩
  exact ((Below.refl _ _).alloc (Nat.le_refl _) _).alloc (by simp) _
set_option maxHeartbeats 4000000 in
theorem whole_any (n : Int) (w : World) : Calls Try.prog 58 #[.int .i64 n] w (FrRet (n : Rat) w) := by
  go_enter Try.func58, Try.ntmps58
  go_wp2
  refine bodyPost_ret (v := .agg #[.int .i64 n, .int .i64 1]) (by simp [results, Try.results58, go_sem]) rfl ⟨rfl, ?_⟩
  exact (Below.refl _ _).alloc (Nat.le_refl _) _
theorem fit_int {n : Int} (h0 : -1152921504606846976 ≤ n) (h1 : n ≤ 1152921504606846976) : Fit (n : Rat) := ⟨h0, h1, by show 1 ≤ _; omega⟩
end Go.Proofs.Ytdegpgonphgbcaa
