/-
  A region that draws its order.
-/
import Derived.Deep.QuietTactic
import Derived.BigQuiet
import Derived.Test.YtdegpgonphgbcaaHas
namespace Go.Proofs.Ytdegpgonphgbcaa
open Go.RowKit
structure BelowW (W : World) where
  world : World
  ok : Below W.heap.size W world
instance belowW_nonempty (W : World) : Nonempty (BelowW W) := ⟨⟨W, Below.refl _ _⟩⟩
theorem wp_region_below {P : Program} {id : Nat} {Q : Exit → Act → World → Prop} {a : Act} {w : World} {l : List Oper} (hm : P.follows .mixedOrders = true) (hB : Region.lexB .any l.toArray = true)
    (h : wpQuiet P l.toArray (fun w' => ∃ s : BelowW w, w' = s.world) (fun a' => ∀ w', (∃ s : BelowW w, w' = s.world) → Q .normal a' w') l a) : (Code.region id l.toArray true).wp P Q a w :=
  wp_region_quiet (C := fun w' => ∃ s : BelowW w, w' = s.world) hm hB ⟨⟨w.drew, (Below.refl _ _).drew⟩, rfl⟩ (by simpa using h)
theorem calls_below {P : Program} {f : FuncId} {args : Array Value} {W : World} {v : Value} (s : BelowW W)
    (h : Calls P f args s.world fun e w' => e = .returned v ∧ Below s.world.heap.size s.world w') : Calls P f args s.world fun e w'' => e = .returned v ∧ ∃ t : BelowW W, w'' = t.world :=
  h.mono fun _ w' ⟨he, hb⟩ => ⟨he, ⟨w', s.ok.trans (hb.mono s.ok.size)⟩, rfl⟩
end Go.Proofs.Ytdegpgonphgbcaa
