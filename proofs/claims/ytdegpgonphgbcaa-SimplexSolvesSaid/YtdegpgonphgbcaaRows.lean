/-
  No cell of these rows narrows 'for every input' (looked for: loops, veiled, ifaces, maps, wideKeys, modest, calm, conditions, laid).
  DERIVED. THE GIVEN ROWS OF THIS SEAT. 6 by the template 'for every input the law returns true; each argument reads behind the call as it read before'; 0 by the template 'total and deterministic' (their statements: YtdegpgonphgbcaaTotals.lean).
  GIVEN WITH THE SEED: the statements are not yours to turn. If you find one false, say at which input.
  Laid BY PROGRAM, IN A SANDBOX (cutbox-rows.mjs): the forced cells as the released guide's own fill.sh prints them over the translation 234068e7bffd1163… (all of the seat's roots in one cut). By AI agents, Wed Nov 11 2026. No macro, syntax, notation, axiom, sorry.
-/
import Derived.Test.YtdegpgonphgbcaaChecked
import GoSem.Claim
import GoSem.ClaimJoined
import GoSem.ClaimMapViews
import Derived.JoinedTies
import Derived.KernelRfl
namespace Go.Proofs.Ytdegpgonphgbcaa
/- THE CELL 'sum', in the pinned program and in every row, IS THE sha256 OF THE DUMP (.gsa) THAT YtdegpgonphgbcaaProg.lean LOADS. Nothing in Lean hashes anything: it is a label: what it is worth is what the hold of that sum in a sandbox is worth. -/
noncomputable def Try.pinned : Pinned := { name := "ytdegpgonphgbcaa", sum := "234068e7bffd116382ad8c68eab63018e9907a9c2db8b116c8acab818471c56e", checked := Try.checked }
namespace Rows
def none {H : Type} : Left H := { results := [], args := [] }

/-- 'timeboundlaw32.SimplexSolves': WHATEVER THE INPUT: true; the input reads as it did. -/
def simplexSolvesSpec : ChangeSpec := { name := "simplexSolves", fn := fun _ => fun
  | [d] => { results := [.lit (.bool true)], args := [d] }
  | _ => none }
def simplexSolvesRow : OpenClaim := { program := "ytdegpgonphgbcaa", sum := "234068e7bffd116382ad8c68eab63018e9907a9c2db8b116c8acab818471c56e", func := "timebound/timeboundlaw32.SimplexSolves", spec := "simplexSolves", inPlace := ["math/bits.Sub64", "math/bits.Add64"], unfollowed := true, recurses := true, apart := false }
def SimplexSolvesSaid : Prop := simplexSolvesRow.holds Try.pinned (OpenSpec.ofChange simplexSolvesSpec)

/-- ITS FALSE NEIGHBOUR: 'it returns false'. Refute it at one input. -/
def simplexSolvesWrong : ChangeSpec := { name := "simplexSolves", fn := fun _ => fun
  | [d] => { results := [.lit (.bool false)], args := [d] }
  | _ => none }
def SimplexSolvesWrongFalsely : Prop := simplexSolvesRow.holds Try.pinned (OpenSpec.ofChange simplexSolvesWrong)

/-- 'timeboundlaw32.SimplexMore': WHATEVER THE INPUT: true; the input reads as it did. -/
def simplexMoreSpec : ChangeSpec := { name := "simplexMore", fn := fun _ => fun
  | [d] => { results := [.lit (.bool true)], args := [d] }
  | _ => none }
def simplexMoreRow : OpenClaim := { program := "ytdegpgonphgbcaa", sum := "234068e7bffd116382ad8c68eab63018e9907a9c2db8b116c8acab818471c56e", func := "timebound/timeboundlaw32.SimplexMore", spec := "simplexMore", inPlace := ["math/bits.Sub64", "math/bits.Add64"], unfollowed := true, recurses := true, apart := false }
def SimplexMoreSaid : Prop := simplexMoreRow.holds Try.pinned (OpenSpec.ofChange simplexMoreSpec)

/-- ITS FALSE NEIGHBOUR: 'it returns false'. Refute it at one input. -/
def simplexMoreWrong : ChangeSpec := { name := "simplexMore", fn := fun _ => fun
  | [d] => { results := [.lit (.bool false)], args := [d] }
  | _ => none }
def SimplexMoreWrongFalsely : Prop := simplexMoreRow.holds Try.pinned (OpenSpec.ofChange simplexMoreWrong)

/-- 'timeboundlaw32.SimplexOne': WHATEVER THE INPUT: true; the input reads as it did. -/
def simplexOneSpec : ChangeSpec := { name := "simplexOne", fn := fun _ => fun
  | [d1, d2, d3] => { results := [.lit (.bool true)], args := [d1, d2, d3] }
  | _ => none }
def simplexOneRow : OpenClaim := { program := "ytdegpgonphgbcaa", sum := "234068e7bffd116382ad8c68eab63018e9907a9c2db8b116c8acab818471c56e", func := "timebound/timeboundlaw32.SimplexOne", spec := "simplexOne", inPlace := ["math/bits.Sub64", "math/bits.Add64"], unfollowed := true, recurses := true, apart := false }
def SimplexOneSaid : Prop := simplexOneRow.holds Try.pinned (OpenSpec.ofChange simplexOneSpec)

/-- ITS FALSE NEIGHBOUR: 'it returns false'. Refute it at one input. -/
def simplexOneWrong : ChangeSpec := { name := "simplexOne", fn := fun _ => fun
  | [d1, d2, d3] => { results := [.lit (.bool false)], args := [d1, d2, d3] }
  | _ => none }
def SimplexOneWrongFalsely : Prop := simplexOneRow.holds Try.pinned (OpenSpec.ofChange simplexOneWrong)

/-- 'timeboundlaw32.SimplexModels': WHATEVER THE INPUT: true; the input reads as it did. -/
def simplexModelsSpec : ChangeSpec := { name := "simplexModels", fn := fun _ => fun
  | [d1, d2, d3, d4] => { results := [.lit (.bool true)], args := [d1, d2, d3, d4] }
  | _ => none }
def simplexModelsRow : OpenClaim := { program := "ytdegpgonphgbcaa", sum := "234068e7bffd116382ad8c68eab63018e9907a9c2db8b116c8acab818471c56e", func := "timebound/timeboundlaw32.SimplexModels", spec := "simplexModels", inPlace := ["math/bits.Sub64", "math/bits.Add64"], unfollowed := true, recurses := true, apart := false }
def SimplexModelsSaid : Prop := simplexModelsRow.holds Try.pinned (OpenSpec.ofChange simplexModelsSpec)

/-- ITS FALSE NEIGHBOUR: 'it returns false'. Refute it at one input. -/
def simplexModelsWrong : ChangeSpec := { name := "simplexModels", fn := fun _ => fun
  | [d1, d2, d3, d4] => { results := [.lit (.bool false)], args := [d1, d2, d3, d4] }
  | _ => none }
def SimplexModelsWrongFalsely : Prop := simplexModelsRow.holds Try.pinned (OpenSpec.ofChange simplexModelsWrong)

/-- 'timeboundlaw32.SimplexWeak': WHATEVER THE INPUT: true; the input reads as it did. -/
def simplexWeakSpec : ChangeSpec := { name := "simplexWeak", fn := fun _ => fun
  | [d] => { results := [.lit (.bool true)], args := [d] }
  | _ => none }
def simplexWeakRow : OpenClaim := { program := "ytdegpgonphgbcaa", sum := "234068e7bffd116382ad8c68eab63018e9907a9c2db8b116c8acab818471c56e", func := "timebound/timeboundlaw32.SimplexWeak", spec := "simplexWeak", inPlace := ["math/bits.Sub64", "math/bits.Add64"], unfollowed := true, recurses := true, apart := false }
def SimplexWeakSaid : Prop := simplexWeakRow.holds Try.pinned (OpenSpec.ofChange simplexWeakSpec)

/-- ITS FALSE NEIGHBOUR: 'it returns false'. Refute it at one input. -/
def simplexWeakWrong : ChangeSpec := { name := "simplexWeak", fn := fun _ => fun
  | [d] => { results := [.lit (.bool false)], args := [d] }
  | _ => none }
def SimplexWeakWrongFalsely : Prop := simplexWeakRow.holds Try.pinned (OpenSpec.ofChange simplexWeakWrong)

/-- 'timeboundlaw32.SimplexProves': WHATEVER THE INPUT: true; the input reads as it did. -/
def simplexProvesSpec : ChangeSpec := { name := "simplexProves", fn := fun _ => fun
  | [d] => { results := [.lit (.bool true)], args := [d] }
  | _ => none }
def simplexProvesRow : OpenClaim := { program := "ytdegpgonphgbcaa", sum := "234068e7bffd116382ad8c68eab63018e9907a9c2db8b116c8acab818471c56e", func := "timebound/timeboundlaw32.SimplexProves", spec := "simplexProves", inPlace := ["math/bits.Sub64", "math/bits.Add64"], unfollowed := true, recurses := true, apart := false }
def SimplexProvesSaid : Prop := simplexProvesRow.holds Try.pinned (OpenSpec.ofChange simplexProvesSpec)

/-- ITS FALSE NEIGHBOUR: 'it returns false'. Refute it at one input. -/
def simplexProvesWrong : ChangeSpec := { name := "simplexProves", fn := fun _ => fun
  | [d] => { results := [.lit (.bool false)], args := [d] }
  | _ => none }
def SimplexProvesWrongFalsely : Prop := simplexProvesRow.holds Try.pinned (OpenSpec.ofChange simplexProvesWrong)

/- THE SECOND FORM. 'bulk': how many values and letters a reading holds, each counted each time it is reached (what is shared counts as often as it is met; a slice's spare places count too). A statement '..UptoSaid' is the law's where the arguments, and the package variables that the reading takes, are together of bulk at most 1048576: NARROWER than '..Said'. Prove '..Said' where nothing that the law and all that it calls make is longer than what came in: it says more and counts as full. Else prove '..UptoSaid'. A law counts once. -/
mutual
def uptoBulk {H : Type} : DataW H → Nat
  | .lit (.string bytes) => bytes.length + 1
  | .lit _ => 1
  | .nil => 1
  | .ptr d => uptoBulk d + 1
  | .slice elems spare => uptoBulkAll elems + uptoBulkAll spare + 1
  | .agg parts => uptoBulkAll parts + 1
  | .iface _ d => uptoBulk d + 1
  | .map entries => uptoBulkEntries entries + 1
  | .held _ => 1
def uptoBulkAll {H : Type} : List (DataW H) → Nat
  | [] => 0
  | d :: r => uptoBulk d + uptoBulkAll r
def uptoBulkEntries {H : Type} : List (Lit × DataW H) → Nat
  | [] => 0
  | x :: r => uptoBulkEntry x + uptoBulkEntries r
def uptoBulkEntry {H : Type} : Lit × DataW H → Nat
  | (.string bytes, d) => bytes.length + uptoBulk d + 1
  | (_, d) => uptoBulk d + 1
 end
def uptoSmall : (H : Type) → List (DataW H) → Bool := fun _ ds => decide (uptoBulkAll ds ≤ 1048576)
def OpenSpec.upto (s : _root_.Go.ChangeSpec) : _root_.Go.OpenSpec := { _root_.Go.OpenSpec.ofChange s with cond := some uptoSmall }

/-- 'timeboundlaw32.SimplexSolves', WHERE WHAT IT READS IS OF BULK AT MOST 1048576: true; the input reads as it did. -/
def simplexSolvesUptoRow : OpenClaim := { program := "ytdegpgonphgbcaa", sum := "234068e7bffd116382ad8c68eab63018e9907a9c2db8b116c8acab818471c56e", func := "timebound/timeboundlaw32.SimplexSolves", spec := "simplexSolves", inPlace := ["math/bits.Sub64", "math/bits.Add64"], unfollowed := true, recurses := true, apart := false, narrowed := true }
def SimplexSolvesUptoSaid : Prop := simplexSolvesUptoRow.holds Try.pinned (OpenSpec.upto simplexSolvesSpec)

/-- 'timeboundlaw32.SimplexMore', WHERE WHAT IT READS IS OF BULK AT MOST 1048576: true; the input reads as it did. -/
def simplexMoreUptoRow : OpenClaim := { program := "ytdegpgonphgbcaa", sum := "234068e7bffd116382ad8c68eab63018e9907a9c2db8b116c8acab818471c56e", func := "timebound/timeboundlaw32.SimplexMore", spec := "simplexMore", inPlace := ["math/bits.Sub64", "math/bits.Add64"], unfollowed := true, recurses := true, apart := false, narrowed := true }
def SimplexMoreUptoSaid : Prop := simplexMoreUptoRow.holds Try.pinned (OpenSpec.upto simplexMoreSpec)

/-- 'timeboundlaw32.SimplexOne', WHERE WHAT IT READS IS OF BULK AT MOST 1048576: true; the input reads as it did. -/
def simplexOneUptoRow : OpenClaim := { program := "ytdegpgonphgbcaa", sum := "234068e7bffd116382ad8c68eab63018e9907a9c2db8b116c8acab818471c56e", func := "timebound/timeboundlaw32.SimplexOne", spec := "simplexOne", inPlace := ["math/bits.Sub64", "math/bits.Add64"], unfollowed := true, recurses := true, apart := false, narrowed := true }
def SimplexOneUptoSaid : Prop := simplexOneUptoRow.holds Try.pinned (OpenSpec.upto simplexOneSpec)

/-- 'timeboundlaw32.SimplexModels', WHERE WHAT IT READS IS OF BULK AT MOST 1048576: true; the input reads as it did. -/
def simplexModelsUptoRow : OpenClaim := { program := "ytdegpgonphgbcaa", sum := "234068e7bffd116382ad8c68eab63018e9907a9c2db8b116c8acab818471c56e", func := "timebound/timeboundlaw32.SimplexModels", spec := "simplexModels", inPlace := ["math/bits.Sub64", "math/bits.Add64"], unfollowed := true, recurses := true, apart := false, narrowed := true }
def SimplexModelsUptoSaid : Prop := simplexModelsUptoRow.holds Try.pinned (OpenSpec.upto simplexModelsSpec)

/-- 'timeboundlaw32.SimplexWeak', WHERE WHAT IT READS IS OF BULK AT MOST 1048576: true; the input reads as it did. -/
def simplexWeakUptoRow : OpenClaim := { program := "ytdegpgonphgbcaa", sum := "234068e7bffd116382ad8c68eab63018e9907a9c2db8b116c8acab818471c56e", func := "timebound/timeboundlaw32.SimplexWeak", spec := "simplexWeak", inPlace := ["math/bits.Sub64", "math/bits.Add64"], unfollowed := true, recurses := true, apart := false, narrowed := true }
def SimplexWeakUptoSaid : Prop := simplexWeakUptoRow.holds Try.pinned (OpenSpec.upto simplexWeakSpec)

/-- 'timeboundlaw32.SimplexProves', WHERE WHAT IT READS IS OF BULK AT MOST 1048576: true; the input reads as it did. -/
def simplexProvesUptoRow : OpenClaim := { program := "ytdegpgonphgbcaa", sum := "234068e7bffd116382ad8c68eab63018e9907a9c2db8b116c8acab818471c56e", func := "timebound/timeboundlaw32.SimplexProves", spec := "simplexProves", inPlace := ["math/bits.Sub64", "math/bits.Add64"], unfollowed := true, recurses := true, apart := false, narrowed := true }
def SimplexProvesUptoSaid : Prop := simplexProvesUptoRow.holds Try.pinned (OpenSpec.upto simplexProvesSpec)

end Rows
end Go.Proofs.Ytdegpgonphgbcaa
