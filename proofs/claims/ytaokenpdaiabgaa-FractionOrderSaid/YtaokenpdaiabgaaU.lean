/-
  timeboundlaw31.FractionOrder returns true, whatever its list of integers is. No condition.
-/
import Derived.Test.YtaokenpdaiabgaaS
import Derived.Test.YtaokenpdaiabgaaT
namespace Go.Proofs.Ytaokenpdaiabgaa
open Go.RowKit

theorem cmpI_neg (a b : Int) : cmpI b a = -cmpI a b := by unfold cmpI; (repeat' split) <;> omega
theorem cmpI_three (a b : Int) : cmpI a b = -1 ∨ cmpI a b = 0 ∨ cmpI a b = 1 := by unfold cmpI; (repeat' split) <;> omega
theorem cmpI_zero (a b : Int) : cmpI a b = 0 ↔ a = b := by unfold cmpI; (repeat' split) <;> omega
theorem cmpI_le (a b : Int) : cmpI a b ≤ 0 ↔ a ≤ b := by unfold cmpI; (repeat' split) <;> omega
theorem cmpI_same {a b c d K L : Int} (hK : 0 < K) (hL : 0 < L) (h : (a - b) * K = (c - d) * L) : cmpI a b = cmpI c d := by
  have p1 : a - b < 0 → (a - b) * K < 0 := fun k => Int.mul_neg_of_neg_of_pos k hK
  have p2 : 0 < a - b → 0 < (a - b) * K := fun k => Int.mul_pos k hK
  have q1 : c - d < 0 → (c - d) * L < 0 := fun k => Int.mul_neg_of_neg_of_pos k hL
  have q2 : 0 < c - d → 0 < (c - d) * L := fun k => Int.mul_pos k hL
  have p3 : a - b = 0 → (a - b) * K = 0 := fun k => by rw [k, Int.zero_mul]
  have q3 : c - d = 0 → (c - d) * L = 0 := fun k => by rw [k, Int.zero_mul]
  generalize (a - b) * K = X at *
  generalize (c - d) * L = Y at *
  unfold cmpI
  (repeat' split) <;> omega
theorem order_plain {xn xd yn yd zn zd an ad bn bd A1 A2 B1 B2 : Int} (hx : Low xn xd 10 9) (hy : Low yn yd 10 9) (hz : Low zn zd 10 9)
    (la : Low an ad A1 A2) (ea : Eqv an ad (xn * zd + zn * xd) (xd * zd)) (lb : Low bn bd B1 B2) (eb : Eqv bn bd (yn * zd + zn * yd) (yd * zd)) :
    cmpI (an * bd) (bn * ad) = cmpI (xn * yd) (yn * xd) ∧ (cmpI (xn * yd) (yn * xd) = 0 → xn = yn ∧ xd = yd) ∧ (xn = yn → xd = yd → cmpI (xn * yd) (yn * xd) = 0) ∧ (cmpI (xn * yd) (yn * xd) ≤ 0 → cmpI (yn * zd) (zn * yd) ≤ 0 → cmpI (xn * zd) (zn * xd) ≤ 0) := by
  have x0 : 0 < xd := hx.d0
  have y0 : 0 < yd := hy.d0
  have z0 : 0 < zd := hz.d0
  have a0 : 0 < ad := la.d0
  have b0 : 0 < bd := lb.d0
  refine ⟨?_, fun h => hx.eq hy ((cmpI_zero _ _).1 h), fun h h' => (cmpI_zero _ _).2 (by rw [h, h']), fun h h' => ?_⟩
  · refine cmpI_same (K := (xd * zd) * (yd * zd)) (L := (ad * bd) * (zd * zd)) (Int.mul_pos (Int.mul_pos x0 z0) (Int.mul_pos y0 z0)) (Int.mul_pos (Int.mul_pos a0 b0) (Int.mul_pos z0 z0)) ?_
    unfold Eqv at ea eb
    have e1 : (an * bd - bn * ad) * ((xd * zd) * (yd * zd)) = (an * (xd * zd)) * (bd * (yd * zd)) - (bn * (yd * zd)) * (ad * (xd * zd)) := by grind
    rw [e1, ea, eb]; grind
  · rw [cmpI_le] at *
    have h1 := Int.mul_le_mul_of_nonneg_right h (Int.le_of_lt z0)
    have h2 := Int.mul_le_mul_of_nonneg_right h' (Int.le_of_lt x0)
    have h3 : (xn * zd) * yd ≤ (zn * xd) * yd := by
      have e1 : xn * yd * zd = (xn * zd) * yd := by grind
      have e2 : yn * xd * zd = yn * zd * xd := by grind
      have e3 : zn * yd * xd = (zn * xd) * yd := by grind
      rw [e1, e2] at h1
      rw [e3] at h2
      omega
    exact Int.le_of_mul_le_mul_right h3 y0
theorem floor_bd {n d : Int} (hx : Low n d 10 9) : -10 ≤ n / d ∧ n / d ≤ 10 ∧ (n / d) * d ≤ n ∧ n < (n / d + 1) * d ∧ -10 ≤ -(-n / d) ∧ -(-n / d) ≤ 10 ∧ n ≤ -(-n / d) * d ∧ (-(-n / d) - 1) * d < n := by
  obtain ⟨h1, h2, h3, h4, _⟩ := hx
  have e1 := Int.emod_add_mul_ediv n d
  have e2 := Int.emod_nonneg n (show d ≠ 0 by omega)
  have e3 := Int.emod_lt_of_pos n (show 0 < d by omega)
  have f1 := Int.emod_add_mul_ediv (-n) d
  have f2 := Int.emod_nonneg (-n) (show d ≠ 0 by omega)
  have f3 := Int.emod_lt_of_pos (-n) (show 0 < d by omega)
  generalize n / d = q at *
  generalize -n / d = p at *
  generalize n % d = r at *
  generalize -n % d = s at *
  have g1 : q * d = d * q := Int.mul_comm _ _
  have g2 : (q + 1) * d = d * q + d := by grind
  have g3 : -p * d = -(d * p) := by grind
  have g4 : (-p - 1) * d = -(d * p) - d := by grind
  rw [g1, g2, g3, g4]
  have k1 : -10 ≤ q := by
    rcases Int.lt_or_le q (-10) with h | h
    · have := Int.mul_le_mul_of_nonneg_left (a := q) (b := -11) (c := d) (by omega) (by omega)
      omega
    · exact h
  have k2 : q ≤ 10 := by
    rcases Int.lt_or_le 10 q with h | h
    · have := Int.mul_le_mul_of_nonneg_left (a := 11) (b := q) (c := d) (by omega) (by omega)
      omega
    · exact h
  have k3 : -10 ≤ p := by
    rcases Int.lt_or_le p (-10) with h | h
    · have := Int.mul_le_mul_of_nonneg_left (a := p) (b := -11) (c := d) (by omega) (by omega)
      omega
    · exact h
  have k4 : p ≤ 10 := by
    rcases Int.lt_or_le 10 p with h | h
    · have := Int.mul_le_mul_of_nonneg_left (a := 11) (b := p) (c := d) (by omega) (by omega)
      omega
    · exact h
  refine ⟨k1, k2, ?_, ?_, ?_, ?_, ?_, ?_⟩ <;> omega
end Go.Proofs.Ytaokenpdaiabgaa
