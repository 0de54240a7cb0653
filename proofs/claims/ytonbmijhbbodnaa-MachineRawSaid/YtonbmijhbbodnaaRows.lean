/-
  No cell of these rows narrows 'for every input' (looked for: loops, veiled, ifaces, maps, wideKeys, modest, calm, conditions, laid).
  DERIVED. THE GIVEN ROWS OF THIS SEAT. 5 by the template 'for every input the law returns true; each argument reads behind the call as it read before'; 0 by the template 'total and deterministic' (their statements: YtonbmijhbbodnaaTotals.lean).
  GIVEN WITH THE SEED: the statements are not yours to turn. If you find one false, say at which input.
  Laid BY PROGRAM, IN A SANDBOX (cutbox-rows.mjs): the forced cells as the released guide's own fill.sh prints them over the translation f7dad55ea5267bbf… (all of the seat's roots in one cut). By AI agents, Wed Nov 11 2026. No macro, syntax, notation, axiom, sorry.
-/
import Derived.Test.YtonbmijhbbodnaaChecked
import GoSem.Claim
import GoSem.ClaimJoined
import GoSem.ClaimMapViews
import Derived.JoinedTies
import Derived.KernelRfl
namespace Go.Proofs.Ytonbmijhbbodnaa
/- THE CELL 'sum', in the pinned program and in every row, IS THE sha256 OF THE DUMP (.gsa) THAT YtonbmijhbbodnaaProg.lean LOADS. Nothing in Lean hashes anything: it is a label: what it is worth is what the hold of that sum in a sandbox is worth. -/
noncomputable def Try.pinned : Pinned := { name := "ytonbmijhbbodnaa", sum := "f7dad55ea5267bbff36ecea3cd54a91bf5d7e707b233928bdbbf78ef91f49f40", checked := Try.checked }
namespace Rows
def none {H : Type} : Left H := { results := [], args := [] }

/-- 'timeboundlaw21.MachineSteps': WHATEVER THE INPUT: true; the input reads as it did. -/
def machineStepsSpec : ChangeSpec := { name := "machineSteps", fn := fun _ => fun
  | [d1, d2] => { results := [.lit (.bool true)], args := [d1, d2] }
  | _ => none }
def machineStepsRow : OpenClaim := { program := "ytonbmijhbbodnaa", sum := "f7dad55ea5267bbff36ecea3cd54a91bf5d7e707b233928bdbbf78ef91f49f40", func := "timebound/timeboundlaw21.MachineSteps", spec := "machineSteps", unfollowed := true, recurses := true, apart := false }
def MachineStepsSaid : Prop := machineStepsRow.holds Try.pinned (OpenSpec.ofChange machineStepsSpec)

/-- ITS FALSE NEIGHBOUR: 'it returns false'. Refute it at one input. -/
def machineStepsWrong : ChangeSpec := { name := "machineSteps", fn := fun _ => fun
  | [d1, d2] => { results := [.lit (.bool false)], args := [d1, d2] }
  | _ => none }
def MachineStepsWrongFalsely : Prop := machineStepsRow.holds Try.pinned (OpenSpec.ofChange machineStepsWrong)

/-- 'timeboundlaw21.MachineRaw': WHATEVER THE INPUT: true; the input reads as it did. -/
def machineRawSpec : ChangeSpec := { name := "machineRaw", fn := fun _ => fun
  | [d1, d2, d3] => { results := [.lit (.bool true)], args := [d1, d2, d3] }
  | _ => none }
def machineRawRow : OpenClaim := { program := "ytonbmijhbbodnaa", sum := "f7dad55ea5267bbff36ecea3cd54a91bf5d7e707b233928bdbbf78ef91f49f40", func := "timebound/timeboundlaw21.MachineRaw", spec := "machineRaw", unfollowed := true, recurses := true, apart := false }
def MachineRawSaid : Prop := machineRawRow.holds Try.pinned (OpenSpec.ofChange machineRawSpec)

/-- ITS FALSE NEIGHBOUR: 'it returns false'. Refute it at one input. -/
def machineRawWrong : ChangeSpec := { name := "machineRaw", fn := fun _ => fun
  | [d1, d2, d3] => { results := [.lit (.bool false)], args := [d1, d2, d3] }
  | _ => none }
def MachineRawWrongFalsely : Prop := machineRawRow.holds Try.pinned (OpenSpec.ofChange machineRawWrong)

/-- 'timeboundlaw19.InstrMade': WHATEVER THE INPUT: true; the input reads as it did. -/
def instrMadeSpec : ChangeSpec := { name := "instrMade", fn := fun _ => fun
  | [d1, d2, d3, d4, d5, d6, d7] => { results := [.lit (.bool true)], args := [d1, d2, d3, d4, d5, d6, d7] }
  | _ => none }
def instrMadeRow : OpenClaim := { program := "ytonbmijhbbodnaa", sum := "f7dad55ea5267bbff36ecea3cd54a91bf5d7e707b233928bdbbf78ef91f49f40", func := "timebound/timeboundlaw19.InstrMade", spec := "instrMade", unfollowed := true, recurses := true, apart := false }
def InstrMadeSaid : Prop := instrMadeRow.holds Try.pinned (OpenSpec.ofChange instrMadeSpec)

/-- ITS FALSE NEIGHBOUR: 'it returns false'. Refute it at one input. -/
def instrMadeWrong : ChangeSpec := { name := "instrMade", fn := fun _ => fun
  | [d1, d2, d3, d4, d5, d6, d7] => { results := [.lit (.bool false)], args := [d1, d2, d3, d4, d5, d6, d7] }
  | _ => none }
def InstrMadeWrongFalsely : Prop := instrMadeRow.holds Try.pinned (OpenSpec.ofChange instrMadeWrong)

/-- 'timeboundlaw19.InstrBack': WHATEVER THE INPUT: true; the input reads as it did. -/
def instrBackSpec : ChangeSpec := { name := "instrBack", fn := fun _ => fun
  | [d1, d2, d3, d4, d5, d6, d7] => { results := [.lit (.bool true)], args := [d1, d2, d3, d4, d5, d6, d7] }
  | _ => none }
def instrBackRow : OpenClaim := { program := "ytonbmijhbbodnaa", sum := "f7dad55ea5267bbff36ecea3cd54a91bf5d7e707b233928bdbbf78ef91f49f40", func := "timebound/timeboundlaw19.InstrBack", spec := "instrBack", unfollowed := true, recurses := true, apart := false }
def InstrBackSaid : Prop := instrBackRow.holds Try.pinned (OpenSpec.ofChange instrBackSpec)

/-- ITS FALSE NEIGHBOUR: 'it returns false'. Refute it at one input. -/
def instrBackWrong : ChangeSpec := { name := "instrBack", fn := fun _ => fun
  | [d1, d2, d3, d4, d5, d6, d7] => { results := [.lit (.bool false)], args := [d1, d2, d3, d4, d5, d6, d7] }
  | _ => none }
def InstrBackWrongFalsely : Prop := instrBackRow.holds Try.pinned (OpenSpec.ofChange instrBackWrong)

/-- 'timeboundlaw19.InstrReads': WHATEVER THE INPUT: true; the input reads as it did. -/
def instrReadsSpec : ChangeSpec := { name := "instrReads", fn := fun _ => fun
  | [d1, d2, d3, d4, d5, d6, d7, d8] => { results := [.lit (.bool true)], args := [d1, d2, d3, d4, d5, d6, d7, d8] }
  | _ => none }
def instrReadsRow : OpenClaim := { program := "ytonbmijhbbodnaa", sum := "f7dad55ea5267bbff36ecea3cd54a91bf5d7e707b233928bdbbf78ef91f49f40", func := "timebound/timeboundlaw19.InstrReads", spec := "instrReads", unfollowed := true, recurses := true, apart := false }
def InstrReadsSaid : Prop := instrReadsRow.holds Try.pinned (OpenSpec.ofChange instrReadsSpec)

/-- ITS FALSE NEIGHBOUR: 'it returns false'. Refute it at one input. -/
def instrReadsWrong : ChangeSpec := { name := "instrReads", fn := fun _ => fun
  | [d1, d2, d3, d4, d5, d6, d7, d8] => { results := [.lit (.bool false)], args := [d1, d2, d3, d4, d5, d6, d7, d8] }
  | _ => none }
def InstrReadsWrongFalsely : Prop := instrReadsRow.holds Try.pinned (OpenSpec.ofChange instrReadsWrong)

/- THE SECOND FORM. 'bulk': how many values and letters a reading holds, each counted each time it is reached (what is shared counts as often as it is met; a slice's spare places count too). A statement '..UptoSaid' is the law's where the arguments, and the package variables that the reading takes, are together of bulk at most 1048576: NARROWER than '..Said'. Prove '..Said' where nothing that the law and all that it calls make is longer than what came in: it says more and counts as full. Else prove '..UptoSaid'. A law counts once. -/
mutual
def uptoBulk {H : Type} : DataW H → Nat
  | .lit (.string bytes) => bytes.length + 1
  | .lit _ => 1
  | .nil => 1
  | .ptr d => uptoBulk d + 1
  | .slice elems spare => uptoBulkAll elems + uptoBulkAll spare + 1
  | .agg parts => uptoBulkAll parts + 1
  | .iface _ d => uptoBulk d + 1
  | .map entries => uptoBulkEntries entries + 1
  | .held _ => 1
def uptoBulkAll {H : Type} : List (DataW H) → Nat
  | [] => 0
  | d :: r => uptoBulk d + uptoBulkAll r
def uptoBulkEntries {H : Type} : List (Lit × DataW H) → Nat
  | [] => 0
  | x :: r => uptoBulkEntry x + uptoBulkEntries r
def uptoBulkEntry {H : Type} : Lit × DataW H → Nat
  | (.string bytes, d) => bytes.length + uptoBulk d + 1
  | (_, d) => uptoBulk d + 1
 end
def uptoSmall : (H : Type) → List (DataW H) → Bool := fun _ ds => decide (uptoBulkAll ds ≤ 1048576)
def OpenSpec.upto (s : _root_.Go.ChangeSpec) : _root_.Go.OpenSpec := { _root_.Go.OpenSpec.ofChange s with cond := some uptoSmall }

/-- 'timeboundlaw21.MachineSteps', WHERE WHAT IT READS IS OF BULK AT MOST 1048576: true; the input reads as it did. -/
def machineStepsUptoRow : OpenClaim := { program := "ytonbmijhbbodnaa", sum := "f7dad55ea5267bbff36ecea3cd54a91bf5d7e707b233928bdbbf78ef91f49f40", func := "timebound/timeboundlaw21.MachineSteps", spec := "machineSteps", unfollowed := true, recurses := true, apart := false, narrowed := true }
def MachineStepsUptoSaid : Prop := machineStepsUptoRow.holds Try.pinned (OpenSpec.upto machineStepsSpec)

/-- 'timeboundlaw21.MachineRaw', WHERE WHAT IT READS IS OF BULK AT MOST 1048576: true; the input reads as it did. -/
def machineRawUptoRow : OpenClaim := { program := "ytonbmijhbbodnaa", sum := "f7dad55ea5267bbff36ecea3cd54a91bf5d7e707b233928bdbbf78ef91f49f40", func := "timebound/timeboundlaw21.MachineRaw", spec := "machineRaw", unfollowed := true, recurses := true, apart := false, narrowed := true }
def MachineRawUptoSaid : Prop := machineRawUptoRow.holds Try.pinned (OpenSpec.upto machineRawSpec)

/-- 'timeboundlaw19.InstrMade', WHERE WHAT IT READS IS OF BULK AT MOST 1048576: true; the input reads as it did. -/
def instrMadeUptoRow : OpenClaim := { program := "ytonbmijhbbodnaa", sum := "f7dad55ea5267bbff36ecea3cd54a91bf5d7e707b233928bdbbf78ef91f49f40", func := "timebound/timeboundlaw19.InstrMade", spec := "instrMade", unfollowed := true, recurses := true, apart := false, narrowed := true }
def InstrMadeUptoSaid : Prop := instrMadeUptoRow.holds Try.pinned (OpenSpec.upto instrMadeSpec)

/-- 'timeboundlaw19.InstrBack', WHERE WHAT IT READS IS OF BULK AT MOST 1048576: true; the input reads as it did. -/
def instrBackUptoRow : OpenClaim := { program := "ytonbmijhbbodnaa", sum := "f7dad55ea5267bbff36ecea3cd54a91bf5d7e707b233928bdbbf78ef91f49f40", func := "timebound/timeboundlaw19.InstrBack", spec := "instrBack", unfollowed := true, recurses := true, apart := false, narrowed := true }
def InstrBackUptoSaid : Prop := instrBackUptoRow.holds Try.pinned (OpenSpec.upto instrBackSpec)

/-- 'timeboundlaw19.InstrReads', WHERE WHAT IT READS IS OF BULK AT MOST 1048576: true; the input reads as it did. -/
def instrReadsUptoRow : OpenClaim := { program := "ytonbmijhbbodnaa", sum := "f7dad55ea5267bbff36ecea3cd54a91bf5d7e707b233928bdbbf78ef91f49f40", func := "timebound/timeboundlaw19.InstrReads", spec := "instrReads", unfollowed := true, recurses := true, apart := false, narrowed := true }
def InstrReadsUptoSaid : Prop := instrReadsUptoRow.holds Try.pinned (OpenSpec.upto instrReadsSpec)

end Rows
end Go.Proofs.Ytonbmijhbbodnaa
