/-
  No cell of these rows narrows 'for every input' (looked for: loops, veiled, ifaces, maps, wideKeys, modest, calm, conditions, laid).
  DERIVED. THE GIVEN ROWS OF THIS SEAT. 6 by the template 'for every input the law returns true; each argument reads behind the call as it read before'; 0 by the template 'total and deterministic' (their statements: YtikhbijobkkhgaaTotals.lean).
  GIVEN WITH THE SEED: the statements are not yours to turn. If you find one false, say at which input.
  Laid BY PROGRAM, IN A SANDBOX (cutbox-rows.mjs): the forced cells as the released guide's own fill.sh prints them over the translation c72fef4928c0f519… (all of the seat's roots in one cut). By AI agents, Wed Nov 11 2026. No macro, syntax, notation, axiom, sorry.
-/
import Derived.Test.YtikhbijobkkhgaaChecked
import GoSem.Claim
import GoSem.ClaimJoined
import GoSem.ClaimMapViews
import Derived.JoinedTies
import Derived.KernelRfl
namespace Go.Proofs.Ytikhbijobkkhgaa
/- THE CELL 'sum', in the pinned program and in every row, IS THE sha256 OF THE DUMP (.gsa) THAT YtikhbijobkkhgaaProg.lean LOADS. Nothing in Lean hashes anything: it is a label: what it is worth is what the hold of that sum in a sandbox is worth. -/
noncomputable def Try.pinned : Pinned := { name := "ytikhbijobkkhgaa", sum := "c72fef4928c0f51942b29f58efd77e277954880296db926b3f4608eb2b896833", checked := Try.checked }
namespace Rows
def none {H : Type} : Left H := { results := [], args := [] }

/-- 'timeboundlaw24.MustValid': WHATEVER THE INPUT: true; the input reads as it did. -/
def mustValidSpec : ChangeSpec := { name := "mustValid", fn := fun _ => fun
  | [d1, d2, d3] => { results := [.lit (.bool true)], args := [d1, d2, d3] }
  | _ => none }
def mustValidRow : OpenClaim := { program := "ytikhbijobkkhgaa", sum := "c72fef4928c0f51942b29f58efd77e277954880296db926b3f4608eb2b896833", func := "timebound/timeboundlaw24.MustValid", spec := "mustValid", inPlace := ["slices.overlaps[int]"], unfollowed := true, recurses := true, apart := false }
def MustValidSaid : Prop := mustValidRow.holds Try.pinned (OpenSpec.ofChange mustValidSpec)

/-- ITS FALSE NEIGHBOUR: 'it returns false'. Refute it at one input. -/
def mustValidWrong : ChangeSpec := { name := "mustValid", fn := fun _ => fun
  | [d1, d2, d3] => { results := [.lit (.bool false)], args := [d1, d2, d3] }
  | _ => none }
def MustValidWrongFalsely : Prop := mustValidRow.holds Try.pinned (OpenSpec.ofChange mustValidWrong)

/-- 'timeboundlaw24.MustApart': WHATEVER THE INPUT: true; the input reads as it did. -/
def mustApartSpec : ChangeSpec := { name := "mustApart", fn := fun _ => fun
  | [d] => { results := [.lit (.bool true)], args := [d] }
  | _ => none }
def mustApartRow : OpenClaim := { program := "ytikhbijobkkhgaa", sum := "c72fef4928c0f51942b29f58efd77e277954880296db926b3f4608eb2b896833", func := "timebound/timeboundlaw24.MustApart", spec := "mustApart", inPlace := ["slices.overlaps[int]"], unfollowed := true, recurses := true, apart := false }
def MustApartSaid : Prop := mustApartRow.holds Try.pinned (OpenSpec.ofChange mustApartSpec)

/-- ITS FALSE NEIGHBOUR: 'it returns false'. Refute it at one input. -/
def mustApartWrong : ChangeSpec := { name := "mustApart", fn := fun _ => fun
  | [d] => { results := [.lit (.bool false)], args := [d] }
  | _ => none }
def MustApartWrongFalsely : Prop := mustApartRow.holds Try.pinned (OpenSpec.ofChange mustApartWrong)

/-- 'timeboundlaw24.MustGrows': WHATEVER THE INPUT: true; the input reads as it did. -/
def mustGrowsSpec : ChangeSpec := { name := "mustGrows", fn := fun _ => fun
  | [d] => { results := [.lit (.bool true)], args := [d] }
  | _ => none }
def mustGrowsRow : OpenClaim := { program := "ytikhbijobkkhgaa", sum := "c72fef4928c0f51942b29f58efd77e277954880296db926b3f4608eb2b896833", func := "timebound/timeboundlaw24.MustGrows", spec := "mustGrows", inPlace := ["slices.overlaps[int]"], unfollowed := true, recurses := true, apart := false }
def MustGrowsSaid : Prop := mustGrowsRow.holds Try.pinned (OpenSpec.ofChange mustGrowsSpec)

/-- ITS FALSE NEIGHBOUR: 'it returns false'. Refute it at one input. -/
def mustGrowsWrong : ChangeSpec := { name := "mustGrows", fn := fun _ => fun
  | [d] => { results := [.lit (.bool false)], args := [d] }
  | _ => none }
def MustGrowsWrongFalsely : Prop := mustGrowsRow.holds Try.pinned (OpenSpec.ofChange mustGrowsWrong)

/-- 'timeboundlaw24.MustLeast': WHATEVER THE INPUT: true; the input reads as it did. -/
def mustLeastSpec : ChangeSpec := { name := "mustLeast", fn := fun _ => fun
  | [d] => { results := [.lit (.bool true)], args := [d] }
  | _ => none }
def mustLeastRow : OpenClaim := { program := "ytikhbijobkkhgaa", sum := "c72fef4928c0f51942b29f58efd77e277954880296db926b3f4608eb2b896833", func := "timebound/timeboundlaw24.MustLeast", spec := "mustLeast", inPlace := ["slices.overlaps[int]"], unfollowed := true, recurses := true, apart := false }
def MustLeastSaid : Prop := mustLeastRow.holds Try.pinned (OpenSpec.ofChange mustLeastSpec)

/-- ITS FALSE NEIGHBOUR: 'it returns false'. Refute it at one input. -/
def mustLeastWrong : ChangeSpec := { name := "mustLeast", fn := fun _ => fun
  | [d] => { results := [.lit (.bool false)], args := [d] }
  | _ => none }
def MustLeastWrongFalsely : Prop := mustLeastRow.holds Try.pinned (OpenSpec.ofChange mustLeastWrong)

/-- 'timeboundlaw24.MustDescribes': WHATEVER THE INPUT: true; the input reads as it did. -/
def mustDescribesSpec : ChangeSpec := { name := "mustDescribes", fn := fun _ => fun
  | [d] => { results := [.lit (.bool true)], args := [d] }
  | _ => none }
def mustDescribesRow : OpenClaim := { program := "ytikhbijobkkhgaa", sum := "c72fef4928c0f51942b29f58efd77e277954880296db926b3f4608eb2b896833", func := "timebound/timeboundlaw24.MustDescribes", spec := "mustDescribes", inPlace := ["slices.overlaps[int]"], unfollowed := true, recurses := true, apart := false }
def MustDescribesSaid : Prop := mustDescribesRow.holds Try.pinned (OpenSpec.ofChange mustDescribesSpec)

/-- ITS FALSE NEIGHBOUR: 'it returns false'. Refute it at one input. -/
def mustDescribesWrong : ChangeSpec := { name := "mustDescribes", fn := fun _ => fun
  | [d] => { results := [.lit (.bool false)], args := [d] }
  | _ => none }
def MustDescribesWrongFalsely : Prop := mustDescribesRow.holds Try.pinned (OpenSpec.ofChange mustDescribesWrong)

/-- 'timeboundlaw24.MustSteps': WHATEVER THE INPUT: true; the input reads as it did. -/
def mustStepsSpec : ChangeSpec := { name := "mustSteps", fn := fun _ => fun
  | [d1, d2, d3] => { results := [.lit (.bool true)], args := [d1, d2, d3] }
  | _ => none }
def mustStepsRow : OpenClaim := { program := "ytikhbijobkkhgaa", sum := "c72fef4928c0f51942b29f58efd77e277954880296db926b3f4608eb2b896833", func := "timebound/timeboundlaw24.MustSteps", spec := "mustSteps", inPlace := ["slices.overlaps[int]"], unfollowed := true, recurses := true, apart := false }
def MustStepsSaid : Prop := mustStepsRow.holds Try.pinned (OpenSpec.ofChange mustStepsSpec)

/-- ITS FALSE NEIGHBOUR: 'it returns false'. Refute it at one input. -/
def mustStepsWrong : ChangeSpec := { name := "mustSteps", fn := fun _ => fun
  | [d1, d2, d3] => { results := [.lit (.bool false)], args := [d1, d2, d3] }
  | _ => none }
def MustStepsWrongFalsely : Prop := mustStepsRow.holds Try.pinned (OpenSpec.ofChange mustStepsWrong)

/- THE SECOND FORM. 'bulk': how many values and letters a reading holds, each counted each time it is reached (what is shared counts as often as it is met; a slice's spare places count too). A statement '..UptoSaid' is the law's where the arguments, and the package variables that the reading takes, are together of bulk at most 1048576: NARROWER than '..Said'. Prove '..Said' where nothing that the law and all that it calls make is longer than what came in: it says more and counts as full. Else prove '..UptoSaid'. A law counts once. -/
mutual
def uptoBulk {H : Type} : DataW H → Nat
  | .lit (.string bytes) => bytes.length + 1
  | .lit _ => 1
  | .nil => 1
  | .ptr d => uptoBulk d + 1
  | .slice elems spare => uptoBulkAll elems + uptoBulkAll spare + 1
  | .agg parts => uptoBulkAll parts + 1
  | .iface _ d => uptoBulk d + 1
  | .map entries => uptoBulkEntries entries + 1
  | .held _ => 1
def uptoBulkAll {H : Type} : List (DataW H) → Nat
  | [] => 0
  | d :: r => uptoBulk d + uptoBulkAll r
def uptoBulkEntries {H : Type} : List (Lit × DataW H) → Nat
  | [] => 0
  | x :: r => uptoBulkEntry x + uptoBulkEntries r
def uptoBulkEntry {H : Type} : Lit × DataW H → Nat
  | (.string bytes, d) => bytes.length + uptoBulk d + 1
  | (_, d) => uptoBulk d + 1
 end
def uptoSmall : (H : Type) → List (DataW H) → Bool := fun _ ds => decide (uptoBulkAll ds ≤ 1048576)
def OpenSpec.upto (s : _root_.Go.ChangeSpec) : _root_.Go.OpenSpec := { _root_.Go.OpenSpec.ofChange s with cond := some uptoSmall }

/-- 'timeboundlaw24.MustValid', WHERE WHAT IT READS IS OF BULK AT MOST 1048576: true; the input reads as it did. -/
def mustValidUptoRow : OpenClaim := { program := "ytikhbijobkkhgaa", sum := "c72fef4928c0f51942b29f58efd77e277954880296db926b3f4608eb2b896833", func := "timebound/timeboundlaw24.MustValid", spec := "mustValid", inPlace := ["slices.overlaps[int]"], unfollowed := true, recurses := true, apart := false, narrowed := true }
def MustValidUptoSaid : Prop := mustValidUptoRow.holds Try.pinned (OpenSpec.upto mustValidSpec)

/-- 'timeboundlaw24.MustApart', WHERE WHAT IT READS IS OF BULK AT MOST 1048576: true; the input reads as it did. -/
def mustApartUptoRow : OpenClaim := { program := "ytikhbijobkkhgaa", sum := "c72fef4928c0f51942b29f58efd77e277954880296db926b3f4608eb2b896833", func := "timebound/timeboundlaw24.MustApart", spec := "mustApart", inPlace := ["slices.overlaps[int]"], unfollowed := true, recurses := true, apart := false, narrowed := true }
def MustApartUptoSaid : Prop := mustApartUptoRow.holds Try.pinned (OpenSpec.upto mustApartSpec)

/-- 'timeboundlaw24.MustGrows', WHERE WHAT IT READS IS OF BULK AT MOST 1048576: true; the input reads as it did. -/
def mustGrowsUptoRow : OpenClaim := { program := "ytikhbijobkkhgaa", sum := "c72fef4928c0f51942b29f58efd77e277954880296db926b3f4608eb2b896833", func := "timebound/timeboundlaw24.MustGrows", spec := "mustGrows", inPlace := ["slices.overlaps[int]"], unfollowed := true, recurses := true, apart := false, narrowed := true }
def MustGrowsUptoSaid : Prop := mustGrowsUptoRow.holds Try.pinned (OpenSpec.upto mustGrowsSpec)

/-- 'timeboundlaw24.MustLeast', WHERE WHAT IT READS IS OF BULK AT MOST 1048576: true; the input reads as it did. -/
def mustLeastUptoRow : OpenClaim := { program := "ytikhbijobkkhgaa", sum := "c72fef4928c0f51942b29f58efd77e277954880296db926b3f4608eb2b896833", func := "timebound/timeboundlaw24.MustLeast", spec := "mustLeast", inPlace := ["slices.overlaps[int]"], unfollowed := true, recurses := true, apart := false, narrowed := true }
def MustLeastUptoSaid : Prop := mustLeastUptoRow.holds Try.pinned (OpenSpec.upto mustLeastSpec)

/-- 'timeboundlaw24.MustDescribes', WHERE WHAT IT READS IS OF BULK AT MOST 1048576: true; the input reads as it did. -/
def mustDescribesUptoRow : OpenClaim := { program := "ytikhbijobkkhgaa", sum := "c72fef4928c0f51942b29f58efd77e277954880296db926b3f4608eb2b896833", func := "timebound/timeboundlaw24.MustDescribes", spec := "mustDescribes", inPlace := ["slices.overlaps[int]"], unfollowed := true, recurses := true, apart := false, narrowed := true }
def MustDescribesUptoSaid : Prop := mustDescribesUptoRow.holds Try.pinned (OpenSpec.upto mustDescribesSpec)

/-- 'timeboundlaw24.MustSteps', WHERE WHAT IT READS IS OF BULK AT MOST 1048576: true; the input reads as it did. -/
def mustStepsUptoRow : OpenClaim := { program := "ytikhbijobkkhgaa", sum := "c72fef4928c0f51942b29f58efd77e277954880296db926b3f4608eb2b896833", func := "timebound/timeboundlaw24.MustSteps", spec := "mustSteps", inPlace := ["slices.overlaps[int]"], unfollowed := true, recurses := true, apart := false, narrowed := true }
def MustStepsUptoSaid : Prop := mustStepsUptoRow.holds Try.pinned (OpenSpec.upto mustStepsSpec)

end Rows
end Go.Proofs.Ytikhbijobkkhgaa
