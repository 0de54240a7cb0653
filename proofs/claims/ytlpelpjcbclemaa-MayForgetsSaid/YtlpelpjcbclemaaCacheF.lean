/-
  cache.Touch: an access, in contents that are not changed.
-/
import Derived.Test.YtlpelpjcbclemaaCacheE
import Derived.Deep.RegionHeld3
namespace Go.Proofs.Ytlpelpjcbclemaa
open Go.RowKit

def TouchRet (ss : List (List Int)) (hit : Bool) (err : Int) (w : World) (e : Ending) (w' : World) : Prop :=
  ∃ a n cap, e = .returned (.tuple #[.agg #[.slice a n cap], .bool hit, .int .i64 err]) ∧ OMat w' (Ge w.heap.size) (.slice a n cap) ss ∧ Below w.heap.size w w'

theorem ValidP.wide {S W : Nat} {ss : List (List Int)} (h : ValidP S W ss) : Wide S W ss :=
  ⟨by have := h.1; omega, fun x hx => by
    obtain ⟨i, hi⟩ := List.getElem?_of_mem hx
    have := (h.2 i x hi).1; omega⟩

end Go.Proofs.Ytlpelpjcbclemaa
