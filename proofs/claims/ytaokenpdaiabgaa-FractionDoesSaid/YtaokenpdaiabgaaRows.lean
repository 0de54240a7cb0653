/-
  No cell of these rows narrows 'for every input' (looked for: loops, veiled, ifaces, maps, wideKeys, modest, calm, conditions, laid).
  DERIVED. THE GIVEN ROWS OF THIS SEAT. 5 by the template 'for every input the law returns true; each argument reads behind the call as it read before'; 0 by the template 'total and deterministic' (their statements: YtaokenpdaiabgaaTotals.lean).
  GIVEN WITH THE SEED: the statements are not yours to turn. If you find one false, say at which input.
  Laid BY PROGRAM, IN A SANDBOX (cutbox-rows.mjs): the forced cells as the released guide's own fill.sh prints them over the translation 7076c71b6c590344… (all of the seat's roots in one cut). By AI agents, Wed Nov 11 2026. No macro, syntax, notation, axiom, sorry.
-/
import Derived.Test.YtaokenpdaiabgaaChecked
import GoSem.Claim
import GoSem.ClaimJoined
import GoSem.ClaimMapViews
import Derived.JoinedTies
import Derived.KernelRfl
namespace Go.Proofs.Ytaokenpdaiabgaa
/- THE CELL 'sum', in the pinned program and in every row, IS THE sha256 OF THE DUMP (.gsa) THAT YtaokenpdaiabgaaProg.lean LOADS. Nothing in Lean hashes anything: it is a label: what it is worth is what the hold of that sum in a sandbox is worth. -/
noncomputable def Try.pinned : Pinned := { name := "ytaokenpdaiabgaa", sum := "7076c71b6c59034454aa5d1d2acd570221f1337a10852b46e992215151ab3f86", checked := Try.checked }
namespace Rows
def none {H : Type} : Left H := { results := [], args := [] }

/-- 'timeboundlaw31.FractionLowest': WHATEVER THE INPUT: true; the input reads as it did. -/
def fractionLowestSpec : ChangeSpec := { name := "fractionLowest", fn := fun _ => fun
  | [d1, d2, d3] => { results := [.lit (.bool true)], args := [d1, d2, d3] }
  | _ => none }
def fractionLowestRow : OpenClaim := { program := "ytaokenpdaiabgaa", sum := "7076c71b6c59034454aa5d1d2acd570221f1337a10852b46e992215151ab3f86", func := "timebound/timeboundlaw31.FractionLowest", spec := "fractionLowest", inPlace := ["math/bits.Sub64"], apart := false }
def FractionLowestSaid : Prop := fractionLowestRow.holds Try.pinned (OpenSpec.ofChange fractionLowestSpec)

/-- ITS FALSE NEIGHBOUR: 'it returns false'. Refute it at one input. -/
def fractionLowestWrong : ChangeSpec := { name := "fractionLowest", fn := fun _ => fun
  | [d1, d2, d3] => { results := [.lit (.bool false)], args := [d1, d2, d3] }
  | _ => none }
def FractionLowestWrongFalsely : Prop := fractionLowestRow.holds Try.pinned (OpenSpec.ofChange fractionLowestWrong)

/-- 'timeboundlaw31.FractionOrder': WHATEVER THE INPUT: true; the input reads as it did. -/
def fractionOrderSpec : ChangeSpec := { name := "fractionOrder", fn := fun _ => fun
  | [d] => { results := [.lit (.bool true)], args := [d] }
  | _ => none }
def fractionOrderRow : OpenClaim := { program := "ytaokenpdaiabgaa", sum := "7076c71b6c59034454aa5d1d2acd570221f1337a10852b46e992215151ab3f86", func := "timebound/timeboundlaw31.FractionOrder", spec := "fractionOrder", inPlace := ["math/bits.Sub64", "math/bits.Add64"], unfollowed := true, recurses := true, apart := false }
def FractionOrderSaid : Prop := fractionOrderRow.holds Try.pinned (OpenSpec.ofChange fractionOrderSpec)

/-- ITS FALSE NEIGHBOUR: 'it returns false'. Refute it at one input. -/
def fractionOrderWrong : ChangeSpec := { name := "fractionOrder", fn := fun _ => fun
  | [d] => { results := [.lit (.bool false)], args := [d] }
  | _ => none }
def FractionOrderWrongFalsely : Prop := fractionOrderRow.holds Try.pinned (OpenSpec.ofChange fractionOrderWrong)

/-- 'timeboundlaw31.FractionLimits': WHATEVER THE INPUT: true; the input reads as it did. -/
def fractionLimitsSpec : ChangeSpec := { name := "fractionLimits", fn := fun _ => fun
  | [d1, d2, d3] => { results := [.lit (.bool true)], args := [d1, d2, d3] }
  | _ => none }
def fractionLimitsRow : OpenClaim := { program := "ytaokenpdaiabgaa", sum := "7076c71b6c59034454aa5d1d2acd570221f1337a10852b46e992215151ab3f86", func := "timebound/timeboundlaw31.FractionLimits", spec := "fractionLimits", inPlace := ["math/bits.Sub64", "math/bits.Add64"], unfollowed := true, recurses := true, apart := false }
def FractionLimitsSaid : Prop := fractionLimitsRow.holds Try.pinned (OpenSpec.ofChange fractionLimitsSpec)

/-- ITS FALSE NEIGHBOUR: 'it returns false'. Refute it at one input. -/
def fractionLimitsWrong : ChangeSpec := { name := "fractionLimits", fn := fun _ => fun
  | [d1, d2, d3] => { results := [.lit (.bool false)], args := [d1, d2, d3] }
  | _ => none }
def FractionLimitsWrongFalsely : Prop := fractionLimitsRow.holds Try.pinned (OpenSpec.ofChange fractionLimitsWrong)

/-- 'timeboundlaw31.FractionField': WHATEVER THE INPUT: true; the input reads as it did. -/
def fractionFieldSpec : ChangeSpec := { name := "fractionField", fn := fun _ => fun
  | [d] => { results := [.lit (.bool true)], args := [d] }
  | _ => none }
def fractionFieldRow : OpenClaim := { program := "ytaokenpdaiabgaa", sum := "7076c71b6c59034454aa5d1d2acd570221f1337a10852b46e992215151ab3f86", func := "timebound/timeboundlaw31.FractionField", spec := "fractionField", inPlace := ["math/bits.Sub64", "math/bits.Add64"], unfollowed := true, recurses := true, apart := false }
def FractionFieldSaid : Prop := fractionFieldRow.holds Try.pinned (OpenSpec.ofChange fractionFieldSpec)

/-- ITS FALSE NEIGHBOUR: 'it returns false'. Refute it at one input. -/
def fractionFieldWrong : ChangeSpec := { name := "fractionField", fn := fun _ => fun
  | [d] => { results := [.lit (.bool false)], args := [d] }
  | _ => none }
def FractionFieldWrongFalsely : Prop := fractionFieldRow.holds Try.pinned (OpenSpec.ofChange fractionFieldWrong)

/-- 'timeboundlaw31.FractionDoes': WHATEVER THE INPUT: true; the input reads as it did. -/
def fractionDoesSpec : ChangeSpec := { name := "fractionDoes", fn := fun _ => fun
  | [d1, d2, d3, d4, d5] => { results := [.lit (.bool true)], args := [d1, d2, d3, d4, d5] }
  | _ => none }
def fractionDoesRow : OpenClaim := { program := "ytaokenpdaiabgaa", sum := "7076c71b6c59034454aa5d1d2acd570221f1337a10852b46e992215151ab3f86", func := "timebound/timeboundlaw31.FractionDoes", spec := "fractionDoes", inPlace := ["math/bits.Sub64", "math/bits.Add64"], unfollowed := true, recurses := true, apart := false }
def FractionDoesSaid : Prop := fractionDoesRow.holds Try.pinned (OpenSpec.ofChange fractionDoesSpec)

/-- ITS FALSE NEIGHBOUR: 'it returns false'. Refute it at one input. -/
def fractionDoesWrong : ChangeSpec := { name := "fractionDoes", fn := fun _ => fun
  | [d1, d2, d3, d4, d5] => { results := [.lit (.bool false)], args := [d1, d2, d3, d4, d5] }
  | _ => none }
def FractionDoesWrongFalsely : Prop := fractionDoesRow.holds Try.pinned (OpenSpec.ofChange fractionDoesWrong)

/- THE SECOND FORM. 'bulk': how many values and letters a reading holds, each counted each time it is reached (what is shared counts as often as it is met; a slice's spare places count too). A statement '..UptoSaid' is the law's where the arguments, and the package variables that the reading takes, are together of bulk at most 1048576: NARROWER than '..Said'. Prove '..Said' where nothing that the law and all that it calls make is longer than what came in: it says more and counts as full. Else prove '..UptoSaid'. A law counts once. -/
mutual
def uptoBulk {H : Type} : DataW H → Nat
  | .lit (.string bytes) => bytes.length + 1
  | .lit _ => 1
  | .nil => 1
  | .ptr d => uptoBulk d + 1
  | .slice elems spare => uptoBulkAll elems + uptoBulkAll spare + 1
  | .agg parts => uptoBulkAll parts + 1
  | .iface _ d => uptoBulk d + 1
  | .map entries => uptoBulkEntries entries + 1
  | .held _ => 1
def uptoBulkAll {H : Type} : List (DataW H) → Nat
  | [] => 0
  | d :: r => uptoBulk d + uptoBulkAll r
def uptoBulkEntries {H : Type} : List (Lit × DataW H) → Nat
  | [] => 0
  | x :: r => uptoBulkEntry x + uptoBulkEntries r
def uptoBulkEntry {H : Type} : Lit × DataW H → Nat
  | (.string bytes, d) => bytes.length + uptoBulk d + 1
  | (_, d) => uptoBulk d + 1
 end
def uptoSmall : (H : Type) → List (DataW H) → Bool := fun _ ds => decide (uptoBulkAll ds ≤ 1048576)
def OpenSpec.upto (s : _root_.Go.ChangeSpec) : _root_.Go.OpenSpec := { _root_.Go.OpenSpec.ofChange s with cond := some uptoSmall }

/-- 'timeboundlaw31.FractionLowest', WHERE WHAT IT READS IS OF BULK AT MOST 1048576: true; the input reads as it did. -/
def fractionLowestUptoRow : OpenClaim := { program := "ytaokenpdaiabgaa", sum := "7076c71b6c59034454aa5d1d2acd570221f1337a10852b46e992215151ab3f86", func := "timebound/timeboundlaw31.FractionLowest", spec := "fractionLowest", inPlace := ["math/bits.Sub64"], apart := false, narrowed := true }
def FractionLowestUptoSaid : Prop := fractionLowestUptoRow.holds Try.pinned (OpenSpec.upto fractionLowestSpec)

/-- 'timeboundlaw31.FractionOrder', WHERE WHAT IT READS IS OF BULK AT MOST 1048576: true; the input reads as it did. -/
def fractionOrderUptoRow : OpenClaim := { program := "ytaokenpdaiabgaa", sum := "7076c71b6c59034454aa5d1d2acd570221f1337a10852b46e992215151ab3f86", func := "timebound/timeboundlaw31.FractionOrder", spec := "fractionOrder", inPlace := ["math/bits.Sub64", "math/bits.Add64"], unfollowed := true, recurses := true, apart := false, narrowed := true }
def FractionOrderUptoSaid : Prop := fractionOrderUptoRow.holds Try.pinned (OpenSpec.upto fractionOrderSpec)

/-- 'timeboundlaw31.FractionLimits', WHERE WHAT IT READS IS OF BULK AT MOST 1048576: true; the input reads as it did. -/
def fractionLimitsUptoRow : OpenClaim := { program := "ytaokenpdaiabgaa", sum := "7076c71b6c59034454aa5d1d2acd570221f1337a10852b46e992215151ab3f86", func := "timebound/timeboundlaw31.FractionLimits", spec := "fractionLimits", inPlace := ["math/bits.Sub64", "math/bits.Add64"], unfollowed := true, recurses := true, apart := false, narrowed := true }
def FractionLimitsUptoSaid : Prop := fractionLimitsUptoRow.holds Try.pinned (OpenSpec.upto fractionLimitsSpec)

/-- 'timeboundlaw31.FractionField', WHERE WHAT IT READS IS OF BULK AT MOST 1048576: true; the input reads as it did. -/
def fractionFieldUptoRow : OpenClaim := { program := "ytaokenpdaiabgaa", sum := "7076c71b6c59034454aa5d1d2acd570221f1337a10852b46e992215151ab3f86", func := "timebound/timeboundlaw31.FractionField", spec := "fractionField", inPlace := ["math/bits.Sub64", "math/bits.Add64"], unfollowed := true, recurses := true, apart := false, narrowed := true }
def FractionFieldUptoSaid : Prop := fractionFieldUptoRow.holds Try.pinned (OpenSpec.upto fractionFieldSpec)

/-- 'timeboundlaw31.FractionDoes', WHERE WHAT IT READS IS OF BULK AT MOST 1048576: true; the input reads as it did. -/
def fractionDoesUptoRow : OpenClaim := { program := "ytaokenpdaiabgaa", sum := "7076c71b6c59034454aa5d1d2acd570221f1337a10852b46e992215151ab3f86", func := "timebound/timeboundlaw31.FractionDoes", spec := "fractionDoes", inPlace := ["math/bits.Sub64", "math/bits.Add64"], unfollowed := true, recurses := true, apart := false, narrowed := true }
def FractionDoesUptoSaid : Prop := fractionDoesUptoRow.holds Try.pinned (OpenSpec.upto fractionDoesSpec)

end Rows
end Go.Proofs.Ytaokenpdaiabgaa
