/-
  An array of numbers that came in, as the reader reads it: taken apart. Small laws, no program in sight.
-/
import Derived.Laws.IdiomArrays
import Derived.WideShapes
namespace Go.Proofs.Ytonbmijhbbodnaa
open Go.ChangeShapes

theorem list4 {α : Type} : ∀ (l : List α), l.length = 4 → ∃ a b c d, l = [a, b, c, d]
  | [a, b, c, d], _ => ⟨a, b, c, d, rfl⟩
  | [], h => by simp at h
  | [_], h => by simp at h
  | [_, _], h => by simp at h
  | [_, _, _], h => by simp at h
  | _ :: _ :: _ :: _ :: _ :: _, h => by simp at h
theorem list8 {α : Type} (l : List α) (h : l.length = 8) : ∃ a b c d a' b' c' d', l = [a, b, c, d, a', b', c', d'] := by
  obtain ⟨a, b, c, d, h1⟩ := list4 (l.take 4) (by rw [List.length_take]; omega)
  obtain ⟨a', b', c', d', h2⟩ := list4 (l.drop 4) (by rw [List.length_drop]; omega)
  refine ⟨a, b, c, d, a', b', c', d', ?_⟩
  rw [← List.take_append_drop 4 l, h1, h2]
  rfl
section
variable {H : Type} {enc : TypeId × Value → H} {P : Program} {w : World} {base : Nat} {spare : Nat → Bool} {held : Bool}
set_option maxHeartbeats 4000000 in
theorem trod_array8 {t e : TypeId} {fuel : Nat} {c0 c1 c2 c3 c4 c5 c6 c7 : Value} {x : DataW H × List MemPlace} (ht : P.underlying t = some (.array 8 e)) (hce : P.cellsOf e = 1)
    (h : DataW.trod enc P w base spare held fuel t [c0, c1, c2, c3, c4, c5, c6, c7] = some x) :
    ∃ y0 y1 y2 y3 y4 y5 y6 y7 n, x = (.agg [y0.1, y1.1, y2.1, y3.1, y4.1, y5.1, y6.1, y7.1], y0.2 ++ (y1.2 ++ (y2.2 ++ (y3.2 ++ (y4.2 ++ (y5.2 ++ (y6.2 ++ y7.2))))))) ∧ DataW.trod enc P w base spare held n e [c0] = some y0 ∧ DataW.trod enc P w base spare held n e [c1] = some y1 ∧ DataW.trod enc P w base spare held n e [c2] = some y2 ∧ DataW.trod enc P w base spare held n e [c3] = some y3 ∧ DataW.trod enc P w base spare held n e [c4] = some y4 ∧ DataW.trod enc P w base spare held n e [c5] = some y5 ∧ DataW.trod enc P w base spare held n e [c6] = some y6 ∧ DataW.trod enc P w base spare held n e [c7] = some y7 := by
  cases fuel with
  | zero => simp [DataW.trod] at h
  | succ n =>
    unfold DataW.trod at h
    rw [ht] at h
    have r8 : List.range 8 = [0, 1, 2, 3, 4, 5, 6, 7] := rfl
    simp [r8, hce] at h
    obtain ⟨_, h⟩ := h
    cases h0 : DataW.trod enc P w base spare held n e [c0] with
    | none => simp [h0] at h
    | some y0 =>
    cases h1 : DataW.trod enc P w base spare held n e [c1] with
    | none => simp [h0, h1] at h
    | some y1 =>
    cases h2 : DataW.trod enc P w base spare held n e [c2] with
    | none => simp [h0, h1, h2] at h
    | some y2 =>
    cases h3 : DataW.trod enc P w base spare held n e [c3] with
    | none => simp [h0, h1, h2, h3] at h
    | some y3 =>
    cases h4 : DataW.trod enc P w base spare held n e [c4] with
    | none => simp [h0, h1, h2, h3, h4] at h
    | some y4 =>
    cases h5 : DataW.trod enc P w base spare held n e [c5] with
    | none => simp [h0, h1, h2, h3, h4, h5] at h
    | some y5 =>
    cases h6 : DataW.trod enc P w base spare held n e [c6] with
    | none => simp [h0, h1, h2, h3, h4, h5, h6] at h
    | some y6 =>
    cases h7 : DataW.trod enc P w base spare held n e [c7] with
    | none => simp [h0, h1, h2, h3, h4, h5, h6, h7] at h
    | some y7 =>
      simp [h0, h1, h2, h3, h4, h5, h6, h7] at h
      exact ⟨y0, y1, y2, y3, y4, y5, y6, y7, n, h.symm, h0, h1, h2, h3, h4, h5, h6, h7⟩
end
end Go.Proofs.Ytonbmijhbbodnaa
