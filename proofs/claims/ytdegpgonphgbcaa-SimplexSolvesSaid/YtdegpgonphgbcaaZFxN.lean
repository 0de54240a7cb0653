/-
  Plain arithmetic of fractions in lowest terms.
  Fractions as rational numbers (plain).
-/
import Derived.Handy
namespace Go.Proofs.Ytdegpgonphgbcaa
def fN (a b : Int) : Int := (if b < 0 then -a else a) / (Int.gcd a b : Int)
def fD (a b : Int) : Int := (b.natAbs : Int) / (Int.gcd a b : Int)
theorem gcd_pos {a b : Int} (h : b ≠ 0) : (0 : Int) < (Int.gcd a b : Int) := by
  have : Int.gcd a b ≠ 0 := by rw [Ne, Int.gcd_eq_zero_iff]; exact fun e => h e.2
  omega
theorem fN_mul {a b : Int} (_h : b ≠ 0) : fN a b * (Int.gcd a b : Int) = if b < 0 then -a else a := by
  unfold fN
  refine Int.ediv_mul_cancel ?_
  split
  · exact (Int.dvd_neg).2 (Int.gcd_dvd_left ..)
  · exact Int.gcd_dvd_left ..
theorem fD_mul {a b : Int} (_h : b ≠ 0) : fD a b * (Int.gcd a b : Int) = (b.natAbs : Int) := by
  unfold fD
  refine Int.ediv_mul_cancel ?_
  exact Int.dvd_natAbs.2 (Int.gcd_dvd_right ..)
theorem fD_pos {a b : Int} (h : b ≠ 0) : 0 < fD a b := by
  have h1 := fD_mul (a := a) h
  have h2 := gcd_pos (a := a) h
  have h3 : 0 < (b.natAbs : Int) := by omega
  rw [← h1] at h3
  exact Int.pos_of_mul_pos_left h3 h2
theorem fN_cross {a b : Int} (h : b ≠ 0) : fN a b * b = a * fD a b := by
  have h1 := fN_mul (a := a) h
  have h2 := fD_mul (a := a) h
  have h3 := gcd_pos (a := a) h
  refine Int.eq_of_mul_eq_mul_right (Int.ne_of_gt h3) ?_
  rw [Int.mul_right_comm, h1, Int.mul_assoc, h2]
  split
  · rw [show (b.natAbs : Int) = -b by omega]; grind
  · rw [show (b.natAbs : Int) = b by omega]
theorem fN_gcd {a b : Int} (h : b ≠ 0) : Int.gcd (fN a b) (fD a b) = 1 := by
  have h1 := fN_mul (a := a) h
  have h2 := fD_mul (a := a) h
  have h3 := gcd_pos (a := a) h
  have h4 : Int.gcd (fN a b * (Int.gcd a b : Int)) (fD a b * (Int.gcd a b : Int)) = Int.gcd a b := by
    rw [h1, h2]
    split <;> simp [Int.gcd]
  rw [Int.gcd_mul_right] at h4
  have h5 : Int.gcd (fN a b) (fD a b) * Int.gcd a b = 1 * Int.gcd a b := by simpa using h4
  exact Nat.eq_of_mul_eq_mul_right (by omega) h5
theorem dvd_of_gcd {d n m : Int} (h : d ∣ n * m) (hg : Int.gcd n d = 1) : d ∣ m := by
  have h1 : d.natAbs ∣ n.natAbs * m.natAbs := by rw [← Int.natAbs_mul]; exact Int.natAbs_dvd_natAbs.2 h
  have h2 : Nat.Coprime d.natAbs n.natAbs := by unfold Nat.Coprime; rw [Nat.gcd_comm]; exact hg
  exact Int.natAbs_dvd_natAbs.1 (Nat.Coprime.dvd_of_dvd_mul_left h2 h1)
theorem lowest_unique {n d n' d' : Int} (hd : 0 < d) (hd' : 0 < d') (hg : Int.gcd n d = 1) (hg' : Int.gcd n' d' = 1) (h : n * d' = n' * d) : n = n' ∧ d = d' := by
  have e1 : d ∣ d' := by
    have : d ∣ n * d' := by rw [h]; exact Int.dvd_mul_left ..
    exact dvd_of_gcd this hg
  have e2 : d' ∣ d := by
    have : d' ∣ n' * d := by rw [← h]; exact Int.dvd_mul_left ..
    exact dvd_of_gcd this hg'
  have e3 : d = d' := Int.dvd_antisymm (by omega) (by omega) e1 e2
  subst e3
  exact ⟨Int.eq_of_mul_eq_mul_right (by omega) h, rfl⟩
theorem fND_eq {a b n d : Int} (h : b ≠ 0) (hd : 0 < d) (hg : Int.gcd n d = 1) (e : a * d = n * b) : fN a b = n ∧ fD a b = d := by
  refine lowest_unique (fD_pos h) hd (fN_gcd h) hg ?_
  have h1 := fN_cross (a := a) h
  refine Int.eq_of_mul_eq_mul_right h ?_
  rw [Int.mul_right_comm, h1, Int.mul_right_comm, e, Int.mul_right_comm]
theorem fND_same {a b a' b' : Int} (h : b ≠ 0) (h' : b' ≠ 0) (e : a * b' = a' * b) : fN a b = fN a' b' ∧ fD a b = fD a' b' := by
  refine fND_eq h (fD_pos h') (fN_gcd h') ?_
  have h1 := fN_cross (a := a') h'
  refine Int.eq_of_mul_eq_mul_right h' ?_
  rw [Int.mul_right_comm, e, Int.mul_right_comm, ← h1, Int.mul_right_comm]
theorem fD_le {a b : Int} (_h : b ≠ 0) : fD a b ≤ (b.natAbs : Int) := Int.ediv_le_self _ (by omega)
theorem fN_le {a b : Int} (h : b ≠ 0) : (fN a b).natAbs ≤ a.natAbs := by
  have h1 := fN_mul (a := a) h
  have h3 := gcd_pos (a := a) h
  have h4 : (fN a b).natAbs * Int.gcd a b = a.natAbs := by
    have := congrArg Int.natAbs h1
    rw [Int.natAbs_mul] at this
    simp only [Int.natAbs_natCast] at this
    rw [this]; split <;> simp
  rw [← h4]
  exact Nat.le_mul_of_pos_right _ (by omega)
theorem tdiv_dvd {a g : Int} (h : g ∣ a) : a.tdiv g = a / g := Int.tdiv_eq_ediv_of_dvd h
theorem fN_neg {a b : Int} (h : b < 0) : -(a.tdiv (Int.gcd a b : Int)) = fN a b := by
  unfold fN
  rw [tdiv_dvd (Int.gcd_dvd_left ..), if_pos h, Int.neg_ediv_of_dvd (Int.gcd_dvd_left ..)]
theorem fD_neg {a b : Int} (h : b < 0) : -(b.tdiv (Int.gcd a b : Int)) = fD a b := by
  unfold fD
  rw [tdiv_dvd (Int.gcd_dvd_right ..), show (b.natAbs : Int) = -b by omega, Int.neg_ediv_of_dvd (Int.gcd_dvd_right ..)]
theorem fN_nonneg {a b : Int} (h : 0 < b) : a.tdiv (Int.gcd a b : Int) = fN a b := by
  unfold fN
  rw [tdiv_dvd (Int.gcd_dvd_left ..), if_neg (by omega)]
theorem fD_nonneg {a b : Int} (h : 0 < b) : b / (Int.gcd a b : Int) = fD a b := by
  unfold fD
  rw [show (b.natAbs : Int) = b by omega]
theorem fD_nonneg' {a b : Int} (h : 0 < b) : b.tdiv (Int.gcd a b : Int) = fD a b := by
  rw [tdiv_dvd (Int.gcd_dvd_right ..), fD_nonneg h]
def fits (a b : Int) : Bool := decide (-1152921504606846976 ≤ fN a b ∧ fN a b ≤ 1152921504606846976 ∧ fD a b ≤ 1152921504606846976)
def fA (a b : Int) : Int := if fits a b then fN a b else 0
def fB (a b : Int) : Int := if fits a b then fD a b else 0
def fE (a b : Int) : Int := if fits a b then 0 else 4
end Go.Proofs.Ytdegpgonphgbcaa
namespace Go.Proofs.Ytdegpgonphgbcaa
open Go.RowKit
theorem fND_rat {a b : Int} (h : b ≠ 0) : fN a b = (Rat.divInt a b).num ∧ fD a b = ((Rat.divInt a b).den : Int) := by
  refine fND_eq h (by have := (Rat.divInt a b).den_pos; omega) ?_ ?_
  · have := (Rat.divInt a b).reduced
    show Nat.gcd _ _ = 1; simpa using this
  · have e : Rat.divInt a b = Rat.divInt (Rat.divInt a b).num ((Rat.divInt a b).den : Int) := (Rat.num_divInt_den _).symm
    exact (Rat.divInt_eq_divInt_iff h (by have := (Rat.divInt a b).den_pos; omega)).1 e
def Fit (x : Rat) : Prop := -1152921504606846976 ≤ x.num ∧ x.num ≤ 1152921504606846976 ∧ x.den ≤ 1152921504606846976
instance (x : Rat) : Decidable (Fit x) := inferInstanceAs (Decidable (_ ∧ _ ∧ _))
theorem fit_named {a b : Int} {x : Rat} (h : b ≠ 0) (hx : Rat.divInt a b = x) (hf : Fit x) : fA a b = x.num ∧ fB a b = (x.den : Int) ∧ fE a b = 0 := by
  obtain ⟨h1, h2⟩ := fND_rat (a := a) (b := b) h
  rw [hx] at h1 h2
  have hb : fits a b = true := by
    unfold fits
    rw [h1, h2]
    obtain ⟨g1, g2, g3⟩ := hf
    exact decide_eq_true ⟨g1, g2, by omega⟩
  unfold fA fB fE
  rw [hb]
  exact ⟨h1, h2, rfl⟩
theorem add_rat (x y : Rat) : Rat.divInt (x.num * (y.den : Int) + y.num * (x.den : Int)) ((x.den : Int) * (y.den : Int)) = x + y := by
  rw [Rat.add_def', ← Rat.divInt_ofNat]; simp
theorem sub_rat (x y : Rat) : Rat.divInt (x.num * (y.den : Int) - y.num * (x.den : Int)) ((x.den : Int) * (y.den : Int)) = x - y := by
  rw [Rat.sub_def', ← Rat.divInt_ofNat]; simp
theorem mul_rat (x y : Rat) : Rat.divInt (x.num * y.num) ((x.den : Int) * (y.den : Int)) = x * y := by
  rw [Rat.mul_def', ← Rat.divInt_ofNat]; simp
theorem div_rat {x y : Rat} : Rat.divInt (x.num * (y.den : Int)) ((x.den : Int) * y.num) = x / y := by
  rw [Rat.div_def, Rat.inv_def]
  conv => rhs; rw [← Rat.num_divInt_den x]
  rw [Rat.divInt_mul_divInt]
theorem den_ne (x : Rat) : (x.den : Int) ≠ 0 := by have := x.den_pos; omega
theorem den_one (x : Rat) : 1 ≤ (x.den : Int) := by have := x.den_pos; omega
end Go.Proofs.Ytdegpgonphgbcaa
