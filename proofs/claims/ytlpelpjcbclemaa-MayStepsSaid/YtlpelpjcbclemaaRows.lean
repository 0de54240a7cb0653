/-
  No cell of these rows narrows 'for every input' (looked for: loops, veiled, ifaces, maps, wideKeys, modest, calm, conditions, laid).
  DERIVED. THE GIVEN ROWS OF THIS SEAT. 5 by the template 'for every input the law returns true; each argument reads behind the call as it read before'; 0 by the template 'total and deterministic' (their statements: YtlpelpjcbclemaaTotals.lean).
  GIVEN WITH THE SEED: the statements are not yours to turn. If you find one false, say at which input.
  Laid BY PROGRAM, IN A SANDBOX (cutbox-rows.mjs): the forced cells as the released guide's own fill.sh prints them over the translation 371588e5b2dcd0c6… (all of the seat's roots in one cut). By AI agents, Wed Nov 11 2026. No macro, syntax, notation, axiom, sorry.
-/
import Derived.Test.YtlpelpjcbclemaaChecked
import GoSem.Claim
import GoSem.ClaimJoined
import GoSem.ClaimMapViews
import Derived.JoinedTies
import Derived.KernelRfl
namespace Go.Proofs.Ytlpelpjcbclemaa
/- THE CELL 'sum', in the pinned program and in every row, IS THE sha256 OF THE DUMP (.gsa) THAT YtlpelpjcbclemaaProg.lean LOADS. Nothing in Lean hashes anything: it is a label: what it is worth is what the hold of that sum in a sandbox is worth. -/
noncomputable def Try.pinned : Pinned := { name := "ytlpelpjcbclemaa", sum := "371588e5b2dcd0c6519554c69ba4472c810e387c2b8d7f6a77e0526c6695dc5e", checked := Try.checked }
namespace Rows
def none {H : Type} : Left H := { results := [], args := [] }

/-- 'timeboundlaw25.MayForgets': WHATEVER THE INPUT: true; the input reads as it did. -/
def mayForgetsSpec : ChangeSpec := { name := "mayForgets", fn := fun _ => fun
  | [d] => { results := [.lit (.bool true)], args := [d] }
  | _ => none }
def mayForgetsRow : OpenClaim := { program := "ytlpelpjcbclemaa", sum := "371588e5b2dcd0c6519554c69ba4472c810e387c2b8d7f6a77e0526c6695dc5e", func := "timebound/timeboundlaw25.MayForgets", spec := "mayForgets", inPlace := ["slices.overlaps[int]"], unfollowed := true, recurses := true, apart := false }
def MayForgetsSaid : Prop := mayForgetsRow.holds Try.pinned (OpenSpec.ofChange mayForgetsSpec)

/-- ITS FALSE NEIGHBOUR: 'it returns false'. Refute it at one input. -/
def mayForgetsWrong : ChangeSpec := { name := "mayForgets", fn := fun _ => fun
  | [d] => { results := [.lit (.bool false)], args := [d] }
  | _ => none }
def MayForgetsWrongFalsely : Prop := mayForgetsRow.holds Try.pinned (OpenSpec.ofChange mayForgetsWrong)

/-- 'timeboundlaw25.MayGrows': WHATEVER THE INPUT: true; the input reads as it did. -/
def mayGrowsSpec : ChangeSpec := { name := "mayGrows", fn := fun _ => fun
  | [d] => { results := [.lit (.bool true)], args := [d] }
  | _ => none }
def mayGrowsRow : OpenClaim := { program := "ytlpelpjcbclemaa", sum := "371588e5b2dcd0c6519554c69ba4472c810e387c2b8d7f6a77e0526c6695dc5e", func := "timebound/timeboundlaw25.MayGrows", spec := "mayGrows", inPlace := ["slices.overlaps[int]"], unfollowed := true, recurses := true, apart := false }
def MayGrowsSaid : Prop := mayGrowsRow.holds Try.pinned (OpenSpec.ofChange mayGrowsSpec)

/-- ITS FALSE NEIGHBOUR: 'it returns false'. Refute it at one input. -/
def mayGrowsWrong : ChangeSpec := { name := "mayGrows", fn := fun _ => fun
  | [d] => { results := [.lit (.bool false)], args := [d] }
  | _ => none }
def MayGrowsWrongFalsely : Prop := mayGrowsRow.holds Try.pinned (OpenSpec.ofChange mayGrowsWrong)

/-- 'timeboundlaw25.MayLeast': WHATEVER THE INPUT: true; the input reads as it did. -/
def mayLeastSpec : ChangeSpec := { name := "mayLeast", fn := fun _ => fun
  | [d] => { results := [.lit (.bool true)], args := [d] }
  | _ => none }
def mayLeastRow : OpenClaim := { program := "ytlpelpjcbclemaa", sum := "371588e5b2dcd0c6519554c69ba4472c810e387c2b8d7f6a77e0526c6695dc5e", func := "timebound/timeboundlaw25.MayLeast", spec := "mayLeast", inPlace := ["slices.overlaps[int]"], unfollowed := true, recurses := true, apart := false }
def MayLeastSaid : Prop := mayLeastRow.holds Try.pinned (OpenSpec.ofChange mayLeastSpec)

/-- ITS FALSE NEIGHBOUR: 'it returns false'. Refute it at one input. -/
def mayLeastWrong : ChangeSpec := { name := "mayLeast", fn := fun _ => fun
  | [d] => { results := [.lit (.bool false)], args := [d] }
  | _ => none }
def MayLeastWrongFalsely : Prop := mayLeastRow.holds Try.pinned (OpenSpec.ofChange mayLeastWrong)

/-- 'timeboundlaw25.MayDescribes': WHATEVER THE INPUT: true; the input reads as it did. -/
def mayDescribesSpec : ChangeSpec := { name := "mayDescribes", fn := fun _ => fun
  | [d] => { results := [.lit (.bool true)], args := [d] }
  | _ => none }
def mayDescribesRow : OpenClaim := { program := "ytlpelpjcbclemaa", sum := "371588e5b2dcd0c6519554c69ba4472c810e387c2b8d7f6a77e0526c6695dc5e", func := "timebound/timeboundlaw25.MayDescribes", spec := "mayDescribes", inPlace := ["slices.overlaps[int]"], unfollowed := true, recurses := true, apart := false }
def MayDescribesSaid : Prop := mayDescribesRow.holds Try.pinned (OpenSpec.ofChange mayDescribesSpec)

/-- ITS FALSE NEIGHBOUR: 'it returns false'. Refute it at one input. -/
def mayDescribesWrong : ChangeSpec := { name := "mayDescribes", fn := fun _ => fun
  | [d] => { results := [.lit (.bool false)], args := [d] }
  | _ => none }
def MayDescribesWrongFalsely : Prop := mayDescribesRow.holds Try.pinned (OpenSpec.ofChange mayDescribesWrong)

/-- 'timeboundlaw25.MaySteps': WHATEVER THE INPUT: true; the input reads as it did. -/
def mayStepsSpec : ChangeSpec := { name := "maySteps", fn := fun _ => fun
  | [d1, d2, d3, d4] => { results := [.lit (.bool true)], args := [d1, d2, d3, d4] }
  | _ => none }
def mayStepsRow : OpenClaim := { program := "ytlpelpjcbclemaa", sum := "371588e5b2dcd0c6519554c69ba4472c810e387c2b8d7f6a77e0526c6695dc5e", func := "timebound/timeboundlaw25.MaySteps", spec := "maySteps", inPlace := ["slices.overlaps[int]"], unfollowed := true, recurses := true, apart := false }
def MayStepsSaid : Prop := mayStepsRow.holds Try.pinned (OpenSpec.ofChange mayStepsSpec)

/-- ITS FALSE NEIGHBOUR: 'it returns false'. Refute it at one input. -/
def mayStepsWrong : ChangeSpec := { name := "maySteps", fn := fun _ => fun
  | [d1, d2, d3, d4] => { results := [.lit (.bool false)], args := [d1, d2, d3, d4] }
  | _ => none }
def MayStepsWrongFalsely : Prop := mayStepsRow.holds Try.pinned (OpenSpec.ofChange mayStepsWrong)

/- THE SECOND FORM. 'bulk': how many values and letters a reading holds, each counted each time it is reached (what is shared counts as often as it is met; a slice's spare places count too). A statement '..UptoSaid' is the law's where the arguments, and the package variables that the reading takes, are together of bulk at most 1048576: NARROWER than '..Said'. Prove '..Said' where nothing that the law and all that it calls make is longer than what came in: it says more and counts as full. Else prove '..UptoSaid'. A law counts once. -/
mutual
def uptoBulk {H : Type} : DataW H → Nat
  | .lit (.string bytes) => bytes.length + 1
  | .lit _ => 1
  | .nil => 1
  | .ptr d => uptoBulk d + 1
  | .slice elems spare => uptoBulkAll elems + uptoBulkAll spare + 1
  | .agg parts => uptoBulkAll parts + 1
  | .iface _ d => uptoBulk d + 1
  | .map entries => uptoBulkEntries entries + 1
  | .held _ => 1
def uptoBulkAll {H : Type} : List (DataW H) → Nat
  | [] => 0
  | d :: r => uptoBulk d + uptoBulkAll r
def uptoBulkEntries {H : Type} : List (Lit × DataW H) → Nat
  | [] => 0
  | x :: r => uptoBulkEntry x + uptoBulkEntries r
def uptoBulkEntry {H : Type} : Lit × DataW H → Nat
  | (.string bytes, d) => bytes.length + uptoBulk d + 1
  | (_, d) => uptoBulk d + 1
 end
def uptoSmall : (H : Type) → List (DataW H) → Bool := fun _ ds => decide (uptoBulkAll ds ≤ 1048576)
def OpenSpec.upto (s : _root_.Go.ChangeSpec) : _root_.Go.OpenSpec := { _root_.Go.OpenSpec.ofChange s with cond := some uptoSmall }

/-- 'timeboundlaw25.MayForgets', WHERE WHAT IT READS IS OF BULK AT MOST 1048576: true; the input reads as it did. -/
def mayForgetsUptoRow : OpenClaim := { program := "ytlpelpjcbclemaa", sum := "371588e5b2dcd0c6519554c69ba4472c810e387c2b8d7f6a77e0526c6695dc5e", func := "timebound/timeboundlaw25.MayForgets", spec := "mayForgets", inPlace := ["slices.overlaps[int]"], unfollowed := true, recurses := true, apart := false, narrowed := true }
def MayForgetsUptoSaid : Prop := mayForgetsUptoRow.holds Try.pinned (OpenSpec.upto mayForgetsSpec)

/-- 'timeboundlaw25.MayGrows', WHERE WHAT IT READS IS OF BULK AT MOST 1048576: true; the input reads as it did. -/
def mayGrowsUptoRow : OpenClaim := { program := "ytlpelpjcbclemaa", sum := "371588e5b2dcd0c6519554c69ba4472c810e387c2b8d7f6a77e0526c6695dc5e", func := "timebound/timeboundlaw25.MayGrows", spec := "mayGrows", inPlace := ["slices.overlaps[int]"], unfollowed := true, recurses := true, apart := false, narrowed := true }
def MayGrowsUptoSaid : Prop := mayGrowsUptoRow.holds Try.pinned (OpenSpec.upto mayGrowsSpec)

/-- 'timeboundlaw25.MayLeast', WHERE WHAT IT READS IS OF BULK AT MOST 1048576: true; the input reads as it did. -/
def mayLeastUptoRow : OpenClaim := { program := "ytlpelpjcbclemaa", sum := "371588e5b2dcd0c6519554c69ba4472c810e387c2b8d7f6a77e0526c6695dc5e", func := "timebound/timeboundlaw25.MayLeast", spec := "mayLeast", inPlace := ["slices.overlaps[int]"], unfollowed := true, recurses := true, apart := false, narrowed := true }
def MayLeastUptoSaid : Prop := mayLeastUptoRow.holds Try.pinned (OpenSpec.upto mayLeastSpec)

/-- 'timeboundlaw25.MayDescribes', WHERE WHAT IT READS IS OF BULK AT MOST 1048576: true; the input reads as it did. -/
def mayDescribesUptoRow : OpenClaim := { program := "ytlpelpjcbclemaa", sum := "371588e5b2dcd0c6519554c69ba4472c810e387c2b8d7f6a77e0526c6695dc5e", func := "timebound/timeboundlaw25.MayDescribes", spec := "mayDescribes", inPlace := ["slices.overlaps[int]"], unfollowed := true, recurses := true, apart := false, narrowed := true }
def MayDescribesUptoSaid : Prop := mayDescribesUptoRow.holds Try.pinned (OpenSpec.upto mayDescribesSpec)

/-- 'timeboundlaw25.MaySteps', WHERE WHAT IT READS IS OF BULK AT MOST 1048576: true; the input reads as it did. -/
def mayStepsUptoRow : OpenClaim := { program := "ytlpelpjcbclemaa", sum := "371588e5b2dcd0c6519554c69ba4472c810e387c2b8d7f6a77e0526c6695dc5e", func := "timebound/timeboundlaw25.MaySteps", spec := "maySteps", inPlace := ["slices.overlaps[int]"], unfollowed := true, recurses := true, apart := false, narrowed := true }
def MayStepsUptoSaid : Prop := mayStepsUptoRow.holds Try.pinned (OpenSpec.upto mayStepsSpec)

end Rows
end Go.Proofs.Ytlpelpjcbclemaa
