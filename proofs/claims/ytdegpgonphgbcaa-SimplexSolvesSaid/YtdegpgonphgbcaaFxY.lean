/-
  Fractions of great and small numbers whose product.
-/
import Derived.Test.YtdegpgonphgbcaaZFxN
namespace Go.Proofs.Ytdegpgonphgbcaa
theorem named {a b : Int} (h : fits a b = true) : fA a b = fN a b ∧ fB a b = fD a b ∧ fE a b = 0 := by
  unfold fA fB fE; rw [h]; exact ⟨rfl, rfl, rfl⟩
theorem named_eq {a b n d : Int} (h1 : fN a b = n) (h2 : fD a b = d) (b0 : -1152921504606846976 ≤ n) (b1 : n ≤ 1152921504606846976) (b2 : d ≤ 1152921504606846976) : fA a b = n ∧ fB a b = d ∧ fE a b = 0 := by
  subst h1 h2
  exact named (by unfold fits; rw [decide_eq_true_iff]; exact ⟨b0, b1, b2⟩)
end Go.Proofs.Ytdegpgonphgbcaa
