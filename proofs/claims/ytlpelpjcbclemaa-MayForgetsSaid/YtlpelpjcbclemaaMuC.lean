/-
  must.set, must.Age, the document's Age: the age of a line in a state.
-/
import Derived.Test.YtlpelpjcbclemaaMuB
namespace Go.Proofs.Ytlpelpjcbclemaa
open Go.RowKit

/-- Lines of set s, of those of U. -/
def PS (U : List Int) (S s : Nat) (x : Int) : Prop := 0 ≤ x ∧ x ≤ 1048576 ∧ x % (S : Int) = s ∧ x ∈ U
/-- A valid state. -/
structure MSt (U : List Int) (S W : Nat) (m : List (List (List Int))) : Prop where
  len : m.length = S
  set : ∀ (s : Nat) g, m[s]? = some g → WSet (PS U S s) W g
def setN (S : Nat) (n : Int) : Nat := (n % (S : Int)).toNat
theorem setN_lt {S : Nat} (h : 0 < S) (n : Int) : setN S n < S := setof_lt h n
theorem setN_int {S : Nat} (h : 0 < S) (n : Int) : ((setN S n : Nat) : Int) = n % (S : Int) := by
  unfold setN; exact Int.toNat_of_nonneg (Int.emod_nonneg _ (by omega))
def ageN (S W : Nat) (m : List (List (List Int))) (n : Int) : Nat := if S = 0 then W else plc (m.getD (setN S n) []) n
theorem MSt.at {U : List Int} {S W : Nat} {m : List (List (List Int))} (h : MSt U S W m) {s : Nat} (hs : s < S) : ∃ g, m[s]? = some g ∧ m.getD s [] = g ∧ WSet (PS U S s) W g := by
  have e := List.getElem?_eq_getElem (l := m) (show s < m.length by rw [h.len]; exact hs)
  exact ⟨_, e, by rw [List.getD_eq_getElem?_getD, e]; rfl, h.set s _ e⟩
def setI (S : Nat) (n : Int) : Int := if S = 0 then -1 else n % (S : Int)

theorem ageN_found {S W : Nat} {m : List (List (List Int))} {n : Int} {g : List (List Int)} (h0 : ¬ S = 0) (hg : m.getD (setN S n) [] = g) : ageN S W m n = plc g n := by unfold ageN; rw [if_neg h0, hg]
theorem ageN_zero {W : Nat} {m : List (List (List Int))} {n : Int} : ageN 0 W m n = W := rfl
theorem WSet.ascs {P : Int → Prop} {W : Nat} {g : List (List Int)} (h : WSet P W g) : ∀ (i : Nat) l, g[i]? = some l → Asc l := h.asc
def IntBelow (n : Int) (w : World) (e : Ending) (w' : World) : Prop := e = .returned (.int .i64 n) ∧ Below w.heap.size w w'
end Go.Proofs.Ytlpelpjcbclemaa
