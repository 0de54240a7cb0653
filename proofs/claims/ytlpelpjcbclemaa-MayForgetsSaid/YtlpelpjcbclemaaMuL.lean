/-
  must.Touch: the state behind the use of a line.
-/
import Derived.Test.YtlpelpjcbclemaaMuK
namespace Go.Proofs.Ytlpelpjcbclemaa
open Go.RowKit

def touchM (S W : Nat) (m : List (List (List Int))) (n : Int) : List (List (List Int)) := if S = 0 then m else m.set (setN S n) (useS W n (m.getD (setN S n) []))
theorem PS.lns {U : List Int} {S s : Nat} (hU : U.length ≤ 1000) : Lns U (PS U S s) := ⟨fun _x h => ⟨h.2.2.2, h.1, h.2.1⟩, hU⟩
theorem MSt.fews {U : List Int} {S W : Nat} {m : List (List (List Int))} (h : MSt U S W m) (hU : U.length ≤ 1000) (hS : S ≤ 8) (hW : W ≤ 4) : Fews m :=
  ⟨by rw [h.len]; omega, fun g hg => by
    obtain ⟨s, hs⟩ := List.getElem?_of_mem hg
    have hw := h.set s g hs
    refine ⟨by rw [hw.len]; omega, fun l hl => ?_⟩
    obtain ⟨i, hi⟩ := List.getElem?_of_mem hl
    exact ((PS.lns hU).short hw i l hi).2⟩
theorem PS.self {U : List Int} {S : Nat} (hS : 0 < S) {n : Int} (h0 : 0 ≤ n) (h1 : n ≤ 1048576) (hU : n ∈ U) : PS U S (setN S n) n := ⟨h0, h1, (setN_int hS n).symm, hU⟩
theorem touch_st {U : List Int} {S W : Nat} {m : List (List (List Int))} (h : MSt U S W m) (hW : 0 < W) {n : Int} (h0 : 0 ≤ n) (h1 : n ≤ 1048576) (hU : n ∈ U) : MSt U S W (touchM S W m n) := by
  unfold touchM
  split
  · exact h
  · rename_i hS
    have hS : 0 < S := by omega
    obtain ⟨g, hg, hgd, hw⟩ := h.at (setN_lt hS n)
    refine ⟨by rw [List.length_set]; exact h.len, fun s g' hs => ?_⟩
    rw [List.getElem?_set] at hs
    split at hs
    · rename_i e
      split at hs
      · cases hs
        rw [← e, hgd]
        exact (useS_spec hw hW (PS.self hS h0 h1 hU)).1
      · cases hs
    · exact h.set s g' hs
theorem OwnRow.narrow {α : Type} {R : Ow α} {t : TypeId} {w : World} {B A : Nat} {v : Value} {xs : List α} (h : OwnRow R t w (Ge B) v xs) (hA : A ≤ B) : OwnRow R t w (Bt A w.heap.size) v xs := OwnRow.wid t w _ _ v xs (fun _k hk => ⟨Nat.le_trans hA hk.1, hk.2⟩) h.lt
theorem OwnRow.ge {α : Type} {R : Ow α} {t : TypeId} {w : World} {B A C : Nat} {v : Value} {xs : List α} (h : OwnRow R t w (Bt B C) v xs) (hA : A ≤ B) : OwnRow R t w (Ge A) v xs := OwnRow.wid t w _ _ v xs (fun _k hk => Nat.le_trans hA hk.1) h

end Go.Proofs.Ytlpelpjcbclemaa
