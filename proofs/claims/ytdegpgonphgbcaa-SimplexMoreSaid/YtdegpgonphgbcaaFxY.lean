/-
  Fractions of great and small numbers whose product is small again. Plain laws.
-/
import Derived.Test.YtdegpgonphgbcaaZFxN
namespace Go.Proofs.Ytdegpgonphgbcaa

theorem fN_pos {a b : Int} (ha : 0 < a) (hb : 0 < b) : 0 < fN a b := by
  have h := fN_cross (a := a) (b := b) (by omega)
  have hd := fD_pos (a := a) (b := b) (by omega)
  have hm : 0 < fN a b * b := by rw [h]; exact Int.mul_pos ha hd
  rcases (by omega : 0 < fN a b ∨ fN a b ≤ 0) with h1 | h1
  · exact h1
  · have := Int.mul_le_mul_of_nonneg_right h1 (show 0 ≤ b by omega)
    rw [Int.zero_mul] at this
    omega
theorem fits_in {a b : Int} (hb : b ≠ 0) (h1 : a.natAbs ≤ 1152921504606846976) (h2 : b.natAbs ≤ 1152921504606846976) : fits a b = true := by
  have := fN_le (a := a) hb
  have := fD_le (a := a) hb
  unfold fits
  rw [decide_eq_true_iff]
  omega
theorem named {a b : Int} (h : fits a b = true) : fA a b = fN a b ∧ fB a b = fD a b ∧ fE a b = 0 := by
  unfold fA fB fE; rw [h]; exact ⟨rfl, rfl, rfl⟩
theorem named_eq {a b n d : Int} (h1 : fN a b = n) (h2 : fD a b = d) (b0 : -1152921504606846976 ≤ n) (b1 : n ≤ 1152921504606846976) (b2 : d ≤ 1152921504606846976) : fA a b = n ∧ fB a b = d ∧ fE a b = 0 := by
  subst h1 h2
  exact named (by unfold fits; rw [decide_eq_true_iff]; exact ⟨b0, b1, b2⟩)
theorem limits_plain (p q B : Int) (p0 : 1 ≤ p) (p1 : p ≤ 1000) (q0 : 1 ≤ q) (q1 : q ≤ 1000) (b0 : 1000 ≤ B) (b1 : B ≤ 1152921504606846976) : ∃ xn xd yn yd n d : Int,
    (fA B p = xn ∧ fB B p = xd ∧ fE B p = 0) ∧ (fA q B = yn ∧ fB q B = yd ∧ fE q B = 0) ∧ (1 ≤ xn ∧ xn ≤ 1152921504606846976 ∧ 1 ≤ xd ∧ xd ≤ 1000) ∧ (1 ≤ yn ∧ yn ≤ 1000 ∧ 1 ≤ yd ∧ yd ≤ 1152921504606846976) ∧
    (fA q p = n ∧ fB q p = d ∧ fE q p = 0) ∧ (fA (xn * yn) (xd * yd) = n ∧ fB (xn * yn) (xd * yd) = d ∧ fE (xn * yn) (xd * yd) = 0) ∧
    (fA (xn * xd) (xd * xn) = 1 ∧ fB (xn * xd) (xd * xn) = 1 ∧ fE (xn * xd) (xd * xn) = 0) ∧ (fA (xn * xd - xn * xd) (xd * xd) = 0 ∧ fB (xn * xd - xn * xd) (xd * xd) = 1 ∧ fE (xn * xd - xn * xd) (xd * xd) = 0) := by
  have hp : p ≠ 0 := by omega
  have hB : B ≠ 0 := by omega
  have x1 := fN_pos (a := B) (b := p) (by omega) (by omega)
  have x2 := fD_pos (a := B) hp
  have x3 := fN_le (a := B) hp
  have x4 := fD_le (a := B) hp
  have x5 := fN_cross (a := B) hp
  have y1 := fN_pos (a := q) (b := B) (by omega) (by omega)
  have y2 := fD_pos (a := q) hB
  have y3 := fN_le (a := q) hB
  have y4 := fD_le (a := q) hB
  have y5 := fN_cross (a := q) hB
  have z1 := fN_pos (a := q) (b := p) (by omega) (by omega)
  have z2 := fD_pos (a := q) hp
  have z3 := fN_le (a := q) hp
  have z4 := fD_le (a := q) hp
  have n1 := named (fits_in (a := B) hp (by omega) (by omega))
  have n2 := named (fits_in (a := q) hB (by omega) (by omega))
  have n3 := named (fits_in (a := q) hp (by omega) (by omega))
  generalize fN B p = xn at *
  generalize fD B p = xd at *
  generalize fN q B = yn at *
  generalize fD q B = yd at *
  have hxy : xd * yd ≠ 0 := by have := Int.mul_pos x2 y2; omega
  have hxx : xd * xn ≠ 0 := by have := Int.mul_pos x2 x1; omega
  have hdd : xd * xd ≠ 0 := by have := Int.mul_pos x2 x2; omega
  have e1 : xn * yn * p = q * (xd * yd) := by
    have s1 : xn * yn * p = xn * p * yn := by rw [Int.mul_right_comm]
    have s2 : q * (xd * yd) = q * yd * xd := by rw [Int.mul_assoc, Int.mul_comm yd xd]
    rw [s1, x5, s2, ← y5, Int.mul_right_comm, Int.mul_comm B, Int.mul_comm yn B, Int.mul_right_comm]
  obtain ⟨m1, m2⟩ := fND_same (a := xn * yn) (b := xd * yd) hxy hp e1
  obtain ⟨d1, d2⟩ := fND_eq (a := xn * xd) (b := xd * xn) (n := 1) (d := 1) hxx (by omega) (by decide) (by rw [Int.mul_one, Int.one_mul, Int.mul_comm])
  obtain ⟨s1, s2⟩ := fND_eq (a := xn * xd - xn * xd) (b := xd * xd) (n := 0) (d := 1) hdd (by omega) (by decide) (by rw [Int.zero_mul, Int.sub_self, Int.zero_mul])
  exact ⟨xn, xd, yn, yd, fN q p, fD q p, n1, n2, ⟨by omega, by omega, by omega, by omega⟩, ⟨by omega, by omega, by omega, by omega⟩, n3, named_eq m1 m2 (by omega) (by omega) (by omega), named_eq d1 d2 (by omega) (by omega) (by omega), named_eq s1 s2 (by omega) (by omega) (by omega)⟩
end Go.Proofs.Ytdegpgonphgbcaa
