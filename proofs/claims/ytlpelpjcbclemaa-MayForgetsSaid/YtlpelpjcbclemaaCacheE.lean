/-
  cache.front: an access of a line in contents that the caller owns.
-/
import Derived.Test.YtlpelpjcbclemaaCacheD
namespace Go.Proofs.Ytlpelpjcbclemaa
open Go.RowKit

theorem idx_pos {x : List Int} {n : Int} (h : n ∈ x) : idx x n = (pos x n : Nat) := by unfold idx pos; rw [if_pos h, if_pos h]

theorem acc_cells {x : List Int} {sp : List Value} {p : Nat} {n : Int} (h : p < x.length) : (splice (ivs x ++ sp) 1 (ivs (x.take p))).set 0 (.int .i64 n) = ivs (n :: (x.take p ++ x.drop (p + 1))) ++ sp := by
  cases x with
  | nil => simp at h
  | cons z x =>
    simp at h
    have e1 : (List.drop (1 + min p (x.length + 1)) (ivs (z :: x) ++ sp)) = ivs ((z :: x).drop (p + 1)) ++ sp := by
      rw [List.drop_append_of_le_length (by rw [ivs_length]; simp; omega), show 1 + min p (x.length + 1) = p + 1 by omega]
      unfold ivs; rw [List.map_drop]
    unfold splice
    rw [ivs_length, List.length_take, List.length_cons, e1]
    simp only [ivs, List.map_cons, List.cons_append, List.take_succ_cons, List.take_zero, List.nil_append, List.set_cons_zero, List.map_append, List.append_assoc]
    rfl
theorem acc_range {x : List Int} {n : Int} (h : ∀ z ∈ x, -9223372036854775808 ≤ z ∧ z ≤ 9223372036854775807) (h0 : -9223372036854775808 ≤ n) (h1 : n ≤ 9223372036854775807) : ∀ z ∈ acc x n, -9223372036854775808 ≤ z ∧ z ≤ 9223372036854775807 := fun z hz => by
  unfold acc at hz
  rcases List.mem_cons.1 hz with rfl | hz
  · exact ⟨h0, h1⟩
  · rcases List.mem_append.1 hz with hz | hz
    · exact h z (List.mem_of_mem_take hz)
    · exact h z (List.mem_of_mem_drop hz)

end Go.Proofs.Ytlpelpjcbclemaa
