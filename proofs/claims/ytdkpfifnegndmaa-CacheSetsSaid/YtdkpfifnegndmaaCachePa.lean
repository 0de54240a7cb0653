/-
  Accesses sorted by their sets: plain law.
-/
import Derived.Test.YtdkpfifnegndmaaLru
namespace Go.Proofs.Ytdkpfifnegndmaa

/-- Those z for which q says t, for all t below k, one after the other. -/
def sorted (q : Nat → Int → Bool) (al : List Int) : Nat → List Int
  | 0 => []
  | k + 1 => sorted q al k ++ al.filter (q k)
theorem sorted_mem {q : Nat → Int → Bool} {al : List Int} : ∀ {k : Nat} {z : Int}, z ∈ sorted q al k → z ∈ al
  | 0, _, h => by simp [sorted] at h
  | k + 1, z, h => by
    rcases List.mem_append.1 h with h | h
    · exact sorted_mem h
    · exact (List.mem_filter.1 h).1
theorem sorted_filter {q : Nat → Int → Bool} {al : List Int} (hq : ∀ s t z, q s z = true → q t z = true → s = t) {s : Nat} : ∀ {k : Nat}, (sorted q al k).filter (q s) = if s < k then al.filter (q s) else []
  | 0 => by simp [sorted]
  | k + 1 => by
    rw [sorted, List.filter_append, sorted_filter hq, List.filter_filter]
    by_cases e : s = k
    · subst e
      simp
    · have : (al.filter fun a => q s a && q k a) = [] := by
        rw [List.filter_eq_nil_iff]
        intro z _ h
        simp only [Bool.and_eq_true] at h
        exact e (hq s k z h.1 h.2)
      rw [this]
      by_cases h : s < k
      · rw [if_pos h, if_pos (by omega)]; simp
      · rw [if_neg h, if_neg (by omega)]; simp
theorem sorted_length {q : Nat → Int → Bool} {al : List Int} : ∀ {k : Nat}, (sorted q al k).length ≤ k * al.length
  | 0 => by simp [sorted]
  | k + 1 => by
    have := sorted_length (q := q) (al := al) (k := k)
    have := List.length_filter_le (q k) al
    rw [sorted, List.length_append, Nat.succ_mul]; omega
/-- Which set an address is of. -/
def inSet (S L : Nat) (s : Nat) (z : Int) : Bool := z / (L : Int) % (S : Int) == (s : Int)
theorem inSet_one {S L : Nat} : ∀ s t z, inSet S L s z = true → inSet S L t z = true → s = t := fun s t z h1 h2 => by
  unfold inSet at h1 h2
  rw [beq_iff_eq] at h1 h2
  omega
theorem sets_order {S L : Nat} (hS : 0 < S) {ss : List (List Int)} (hs : ss.length = S) (al : List Int) :
    mm S ss (al.map (· / (L : Int))) = mm S ss ((sorted (inSet S L) al S).map (· / (L : Int))) := by
  refine mm_order hS hs fun s h => ?_
  rw [List.filter_map, List.filter_map]
  have e : ((fun n : Int => (n % (S : Int)).toNat == s) ∘ fun x => x / (L : Int)) = inSet S L s := by
    funext z
    have h0 := Int.emod_nonneg (z / (L : Int)) (show (S : Int) ≠ 0 by omega)
    simp only [Function.comp, inSet]
    rw [Bool.eq_iff_iff, beq_iff_eq, beq_iff_eq]
    omega
  rw [e, sorted_filter inSet_one, if_pos h]
end Go.Proofs.Ytdkpfifnegndmaa
