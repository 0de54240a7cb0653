/-
  cache.set, Valid, checked: whether contents are right; cache.Line, Set.
-/
import Derived.Test.YtlpelpjcbclemaaCacheA
namespace Go.Proofs.Ytlpelpjcbclemaa
open Go.RowKit

theorem Ints.take {K : Nat → Prop} {w : World} {a : Option Addr} {len cap : Nat} {xs : List Int} (r : Ints K w a len cap xs) {k : Nat} (h : k ≤ len) : Ints K w a k cap (xs.take k) :=
  ⟨by rw [List.length_take, r.hlen]; omega, by have := r.hcap; omega, r.hmax, by have := r.hsz; omega, fun i x e => by
    rw [List.getElem?_take] at e
    split at e
    · exact r.row i x e
    · cases e⟩

def ElemOk (S n : Int) (zs : List Int) (i : Nat) (z : Int) : Prop := z = -1 ∨ (0 ≤ z ∧ z ≤ 1048576 ∧ z % S = n ∧ z ∉ zs.take i ∧ -1 ∉ zs.take i)
/-- A set of right contents. -/
def SetOk (S W n : Int) (zs : List Int) : Prop := (zs.length : Int) = W ∧ ∀ i z, zs[i]? = some z → ElemOk S n zs i z
def BoolRet (p : Prop) (w : World) (e : Ending) (w' : World) : Prop := ∃ b : Bool, e = .returned (.bool b) ∧ (b = true ↔ p) ∧ Below w.heap.size w w'
theorem BoolRet.yes {p : Prop} {w w' : World} {e : Ending} (h : p) (he : e = .returned (.bool true)) (hb : Below w.heap.size w w') : BoolRet p w e w' := ⟨true, he, by simp [h], hb⟩
theorem BoolRet.no {p : Prop} {w w' : World} {e : Ending} (h : ¬ p) (he : e = .returned (.bool false)) (hb : Below w.heap.size w w') : BoolRet p w e w' := ⟨false, he, by simp [h], hb⟩

theorem elem_bad {S n : Int} {zs : List Int} {k : Nat} {z W : Int} (hz : zs[k]? = some z) (h : ¬ ElemOk S n zs k z) : ¬ SetOk S W n zs := fun hs => h (hs.2 k z hz)

end Go.Proofs.Ytlpelpjcbclemaa
