/-
  Right contents stay right: plain laws.
-/
import Derived.Test.YtlpelpjcbclemaaCacheJ
namespace Go.Proofs.Ytlpelpjcbclemaa

def Apart (a b : Int) : Prop := b = -1 ∨ (a ≠ b ∧ a ≠ -1)
def InSet (S n z : Int) : Prop := z = -1 ∨ (0 ≤ z ∧ z ≤ 1048576 ∧ z % S = n)
theorem setOk_iff (S W n : Int) (x : List Int) : SetOk S W n x ↔ (x.length : Int) = W ∧ (∀ z ∈ x, InSet S n z) ∧ x.Pairwise Apart := by
  constructor
  · rintro ⟨h1, h2⟩
    refine ⟨h1, fun z hz => ?_, ?_⟩
    · obtain ⟨i, hi⟩ := List.getElem?_of_mem hz
      rcases h2 i z hi with h | h
      · exact .inl h
      · exact .inr ⟨h.1, h.2.1, h.2.2.1⟩
    · rw [List.pairwise_iff_getElem]
      intro i j hi hj hij
      rcases h2 j _ (List.getElem?_eq_getElem hj) with h | h
      · exact .inl h
      · have hm : x[i] ∈ x.take j := List.mem_take_iff_getElem.2 ⟨i, by omega, rfl⟩
        exact .inr ⟨fun e => h.2.2.2.1 (e ▸ hm), fun e => h.2.2.2.2 (e ▸ hm)⟩
  · rintro ⟨h1, h2, h3⟩
    refine ⟨h1, fun i z hz => ?_⟩
    obtain ⟨hi, rfl⟩ := List.getElem?_eq_some_iff.1 hz
    by_cases hm : x[i] = -1
    · exact .inl hm
    have hr := (h2 _ (List.getElem_mem hi)).resolve_left hm
    rw [List.pairwise_iff_getElem] at h3
    have key : ∀ v ∈ x.take i, v ≠ x[i] ∧ v ≠ -1 := fun v hv => by
      obtain ⟨j, hj, rfl⟩ := List.mem_take_iff_getElem.1 hv
      rcases h3 j i (by omega) hi (by omega) with h | h
      · exact absurd h hm
      · exact h
    exact .inr ⟨hr.1, hr.2.1, hr.2.2, fun h => (key _ h).1 rfl, fun h => (key _ h).2 rfl⟩

theorem SetOk.once {S W n : Int} {x : List Int} (h : SetOk S W n x) {m : Int} (hm : 0 ≤ m) : Once x m := fun i e => by
  rcases h.2 i m e with h | h
  · omega
  · exact h.2.2.2.1
theorem not_mem_rest {x : List Int} {m : Int} (h : x.Pairwise Apart) (hm : m ≠ -1) : m ∉ x.take (pos x m) ++ x.drop (pos x m + 1) := by
  by_cases hx : m ∈ x
  · have hlt := List.idxOf_lt_length_of_mem hx
    have hg := List.getElem_idxOf hlt
    unfold pos
    rw [if_pos hx]
    intro hmem
    rw [List.pairwise_iff_getElem] at h
    rcases List.mem_append.1 hmem with h1 | h1
    · obtain ⟨j, hj, e⟩ := List.mem_take_iff_getElem.1 h1
      rcases h j (x.idxOf m) (by omega) hlt (by omega) with h2 | h2
      · rw [hg] at h2; exact hm h2
      · rw [hg] at h2; exact h2.1 e
    · obtain ⟨j, hj, e⟩ := List.mem_drop_iff_getElem.1 h1
      rcases h (x.idxOf m) (x.idxOf m + 1 + j) hlt (by omega) (by omega) with h2 | h2
      · rw [show x[x.idxOf m + 1 + j] = m from e] at h2; exact hm h2
      · rw [hg] at h2; exact h2.1 e.symm
  · exact fun h => by
      rcases List.mem_append.1 h with h | h
      · exact hx (List.mem_of_mem_take h)
      · exact hx (List.mem_of_mem_drop h)
theorem rest_sub (x : List Int) (p : Nat) : (x.take p ++ x.drop (p + 1)).Sublist x := by
  rw [← List.eraseIdx_eq_take_drop_succ]
  exact List.eraseIdx_sublist x p
theorem setOk_acc {S W n m : Int} {x : List Int} (h : SetOk S W n x) (h0 : 0 ≤ m) (h1 : m ≤ 1048576) (h2 : m % S = n) (hl : 0 < x.length) : SetOk S W n (acc x m) := by
  rw [setOk_iff] at h ⊢
  obtain ⟨a, b, c⟩ := h
  refine ⟨by rw [acc_length hl]; exact a, fun z hz => ?_, ?_⟩
  · unfold acc at hz
    rcases List.mem_cons.1 hz with rfl | hz
    · exact .inr ⟨h0, h1, h2⟩
    · exact b z ((rest_sub x _).mem hz)
  · unfold acc
    refine List.pairwise_cons.2 ⟨fun y hy => .inr ⟨fun e => not_mem_rest c (by omega) (e ▸ hy), by omega⟩, c.sublist (rest_sub x _)⟩
theorem valid_acc {S W : Nat} {ss : List (List Int)} (h : ValidP S W ss) (hS : 1 ≤ S) (hW : 1 ≤ W) {m : Int} (h0 : 0 ≤ m) (h1 : m ≤ 1048576) : ValidP S W (accS S ss m) := by
  have hlt := setof_lt hS m
  have hwd := h.wide
  refine ⟨by rw [accS_length]; exact h.1, fun i x hx => ?_⟩
  unfold accS at hx
  rw [List.getElem?_set] at hx
  have hset : m % (S : Int) = ((m % (S : Int)).toNat : Nat) := by have := Int.emod_nonneg m (show (S : Int) ≠ 0 by omega); omega
  split at hx
  · rename_i e
    subst e
    have hl : (m % (S : Int)).toNat < ss.length := by have := hwd.1; omega
    rw [if_pos hl] at hx
    cases hx
    have hg : ss[(m % (S : Int)).toNat]? = some (ss.getD (m % (S : Int)).toNat []) := by rw [List.getD_eq_getElem?_getD, List.getElem?_eq_getElem hl]; rfl
    refine setOk_acc (h.2 _ _ hg) h0 h1 hset ?_
    have := (h.2 _ _ hg).1; omega
  · exact h.2 i x hx
theorem valid_empty (S W : Nat) : ValidP S W (List.replicate S (List.replicate W (-1))) := by
  refine ⟨by simp, fun i x hx => ?_⟩
  have hm := List.mem_of_getElem? hx
  obtain ⟨_, rfl⟩ := List.mem_replicate.1 hm
  refine ⟨by simp, fun j z hz => ?_⟩
  have := List.mem_of_getElem? hz
  exact .inl (List.mem_replicate.1 this).2
theorem valid_once {S W : Nat} {ss : List (List Int)} (h : ValidP S W ss) (hS : 1 ≤ S) {m : Int} (h0 : 0 ≤ m) : Once (ss.getD (m % (S : Int)).toNat []) m := by
  have hlt := setof_lt hS m
  have hl : (m % (S : Int)).toNat < ss.length := by have := h.1; omega
  have hg : ss[(m % (S : Int)).toNat]? = some (ss.getD (m % (S : Int)).toNat []) := by rw [List.getD_eq_getElem?_getD, List.getElem?_eq_getElem hl]; rfl
  exact (h.2 _ _ hg).once h0
end Go.Proofs.Ytlpelpjcbclemaa
