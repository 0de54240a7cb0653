/-
  SimplexModels: the walk, with the frame's facts.
-/
import Derived.Test.YtdegpgonphgbcaaLawSxModels
namespace Go.Proofs.Ytdegpgonphgbcaa
open Go.RowKit

theorem wf_i64 {a : Int} (h : (Lit.int .i64 a).wf = true) : -9223372036854775808 ≤ a ∧ a ≤ 9223372036854775807 := by simpa [Lit.wf, IntKind.min, IntKind.max, IntKind.signed, IntKind.bits] using h
theorem sxModels_top (a0 : Int) (ra : Option Addr) (rn rc : Nat) (rows : List (List (Int × Int) × Int)) (ga : Option Addr) (gn gc : Nat) (goal : List (Int × Int)) (c0 : Int) (la : Option Addr) (ln lc : Nat) (zs : List Int) (what by_ : Int)
    (hw1 : (Lit.int .i64 what).wf = true) (hw2 : (Lit.int .i64 by_).wf = true) (w : World) (R : Row RRw 2 All w ra rn rc rows) (G : Row RTm 2 All w ga gn gc goal) (L : IsRow .i64 w la ln lc zs) :
    Calls Try.prog 6 #[MdV a0 (.slice ra rn rc) ga gn gc c0, .slice la ln lc, .int .i64 what, .int .i64 by_] w (AwRet w) :=
  sxModels_walk a0 ra rn rc rows ga gn gc goal c0 la ln lc zs what by_ (wf_i64 hw1) (wf_i64 hw2) w R G L
end Go.Proofs.Ytdegpgonphgbcaa
