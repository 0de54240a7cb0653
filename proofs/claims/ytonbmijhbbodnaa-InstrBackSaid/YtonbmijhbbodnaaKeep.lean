/-
  A cell that is kept by a store elsewhere, or by a new block: small laws.
-/
import Derived.Test.YtonbmijhbbodnaaMem
namespace Go.Proofs.Ytonbmijhbbodnaa
open Go.RowKit

theorem cell_set {w : World} {b o g k : Nat} {u v : Value} (hne : g ≠ b) (h : w.cell? ⟨b, o, none⟩ = some v) : (w.setCell ⟨g, k, none⟩ u).cell? ⟨b, o, none⟩ = some v :=
  (World.cell?_setCell_other w ⟨g, k, none⟩ ⟨b, o, none⟩ u (fun e => hne (by cases e; rfl))).trans h
theorem cell_alloc {w : World} {b o : Nat} {v : Value} {ob : Obj} (hb : b < w.heap.size) (h : w.cell? ⟨b, o, none⟩ = some v) : (w.alloc ob).cell? ⟨b, o, none⟩ = some v := (World.cell?_alloc_lt w ob ⟨b, o, none⟩ hb).trans h
theorem cell_drew {w : World} {p : Addr} {v : Value} (h : w.cell? p = some v) : w.drew.cell? p = some v := h
end Go.Proofs.Ytonbmijhbbodnaa
