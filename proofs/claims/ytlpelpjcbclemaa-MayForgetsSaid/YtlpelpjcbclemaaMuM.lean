/-
  The document's Touch.
-/
import Derived.Test.YtlpelpjcbclemaaMuL
namespace Go.Proofs.Ytlpelpjcbclemaa
open Go.RowKit

theorem useStep_none {n x : Int} {h a : Nat} {out : List (List Int)} (hx : x = n) : useStep n h a out x = out := if_pos hx
theorem useStep_put {n x : Int} {h a : Nat} {out : List (List Int)} (hx : ¬ x = n) : useStep n h a out x = put out (dst h a) x := if_neg hx
end Go.Proofs.Ytlpelpjcbclemaa
