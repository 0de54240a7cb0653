/-
  Variables made in one statement.
-/
import Derived.Test.YtdegpgonphgbcaaZHeadq
namespace Go.Proofs.Ytdegpgonphgbcaa
open Go.RowKit
theorem AJ.call {base : Nat} {w0 w' : World} {val : Nat → Nat → Value} {ty : Nat → TypeId} {cs : Nat → List Value} {al : Nat → Prop} {b : Nat → Bool} {v : Nat → Value} {q : Nat → Nat} (h : AJ base w0 val ty cs al b v q w') {u : World} (hu : Below w'.heap.size w' u) : AJ base w0 val ty cs al b v q u :=
  ⟨h.below.trans (hu.mono h.size), Nat.le_trans h.size hu.size, fun i ha hi => ⟨(h.have_ i ha hi).1, (h.have_ i ha hi).2.1.below hu (h.have_ i ha hi).2.1.lt, (h.have_ i ha hi).2.2⟩, h.apart⟩
end Go.Proofs.Ytdegpgonphgbcaa
