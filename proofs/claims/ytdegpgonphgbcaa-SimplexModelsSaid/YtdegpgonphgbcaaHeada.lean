/-
  Variables and lists made in one statement, in whatever order: each in a block of its own. Small laws.
-/
import Derived.Test.YtdegpgonphgbcaaHeadi
namespace Go.Proofs.Ytdegpgonphgbcaa
open Go.RowKit

/-- Of the operations i that make a block, those done (b) have: the value val i q, the block q of type ty i with the cells cs i. -/
structure AJ (base : Nat) (w0 : World) (val : Nat → Nat → Value) (ty : Nat → TypeId) (cs : Nat → List Value) (al : Nat → Prop) (b : Nat → Bool) (v : Nat → Value) (q : Nat → Nat) (w' : World) : Prop where
  below : Below base w0 w'
  size : base ≤ w'.heap.size
  have_ : ∀ i, al i → b i = true → v i = val i (q i) ∧ Blk w' (q i) (ty i) (cs i) ∧ base ≤ q i
  apart : ∀ i j, al i → al j → b i = true → b j = true → i ≠ j → q i ≠ q j
variable {base : Nat} {w0 w' : World} {val : Nat → Nat → Value} {ty : Nat → TypeId} {cs : Nat → List Value} {al : Nat → Prop} {b : Nat → Bool} {v : Nat → Value} {q : Nat → Nat}
theorem AJ.start (hb : base = w0.heap.size) (hw : Below base w0 w') (v : Nat → Value) : AJ base w0 val ty cs al (fun _ => false) v (fun _ => 0) w' :=
  ⟨hw, by rw [hb]; exact hw.size, (fun i _ h => by cases h), (fun i j _ _ h => by cases h)⟩
theorem AJ.step (h : AJ base w0 val ty cs al b v q w') {i : Nat} (hi : b i = false) {x : Value} (hx : x = val i w'.heap.size) : AJ base w0 val ty cs al (setB b i) (setV v i x) (fun j => if j = i then w'.heap.size else q j) (w'.alloc (.cells (cs i).toArray (ty i))) := by
  have hsz := h.size
  refine ⟨h.below.alloc hsz _, by rw [World.size_alloc]; omega, fun j ha hj => ?_, fun j k ha hk hj hkk hne => ?_⟩
  · by_cases e : j = i
    · subst e
      simp only [setV, if_true]
      exact ⟨hx, Blk.new w' (cs j) (ty j), hsz⟩
    · simp only [setB, e, if_false] at hj
      simp only [setV, e, if_false]
      obtain ⟨h1, h2, h3⟩ := h.have_ j ha hj
      exact ⟨h1, h2.old _, h3⟩
  · by_cases e : j = i
    · subst e
      have hkj : ¬ k = j := fun e => hne e.symm
      simp only [setB, hkj, if_false] at hkk
      have := (h.have_ k hk hkk).2.1.lt
      simp only [if_true, hkj, if_false]
      omega
    · by_cases e' : k = i
      · subst e'
        simp only [setB, e, if_false] at hj
        have := (h.have_ j ha hj).2.1.lt
        simp only [if_true, e, if_false]
        omega
      · simp only [setB, e, e', if_false] at hj hkk
        simp only [e, e', if_false]
        exact h.apart j k ha hk hj hkk hne
/-- An operation that makes no block. -/
theorem AJ.keep (h : AJ base w0 val ty cs al b v q w') {i : Nat} (hi : ¬ al i) (x : Value) : AJ base w0 val ty cs al (setB b i) (setV v i x) q w' := by
  refine ⟨h.below, h.size, fun j ha hj => ?_, fun j k ha hk hj hkk hne => ?_⟩
  · have e : ¬ j = i := fun e => hi (e ▸ ha)
    simp only [setB, e, if_false] at hj
    simp only [setV, e, if_false]
    exact h.have_ j ha hj
  · have e : ¬ j = i := fun e => hi (e ▸ ha)
    have e' : ¬ k = i := fun e => hi (e ▸ hk)
    simp only [setB, e, e', if_false] at hj hkk
    exact h.apart j k ha hk hj hkk hne
end Go.Proofs.Ytdegpgonphgbcaa
