/-
  An instruction stored in a variable, as one step.
-/
import Derived.Test.YtonbmijhbbodnaaZInW
namespace Go.Proofs.Ytonbmijhbbodnaa
open Go.RowKit

theorem store6 {w : World} {q : Nat} {x y : Ins} (h : Blk w q 50 (ICells y)) : ∃ w1, (storeVar 50 ⟨q, 0, none⟩ (IV x)).run Try.prog w = .ok () w1 ∧ Blk w1 q 50 (ICells x) ∧ Chg (fun k => k = q) w w1 := by
  have L := laid_setRow (vs := ICells x) h
  exact ⟨w.setRow q (ICells x).toArray, run_storeVar_row w q 50 50 (ICells y).toArray (ICells x).toArray h.heap (by kernel_rfl) (by simp) (by simp [Value.oneCell']), L.blk, L.chg⟩
end Go.Proofs.Ytonbmijhbbodnaa
