/-
  What a block of memory holds, and what keeps it so: small laws that serve every walk. No program in sight.
-/
import Derived.Handy
import Derived.WalkSpells
import Derived.WalkLawsBesides
namespace Go.Proofs.Ytaokenpdaiabgaa
open Go.RowKit

/-- Block b holds the values vs from its head on, and may be written. -/
structure Has (w : World) (b : Nat) (vs : List Value) : Prop where
  cell : ∀ i v, vs[i]? = some v → w.cell? ⟨b, i, none⟩ = some v
  free : ∀ o, w.frozen? ⟨b, o, none⟩ = false

theorem Has.below {w w' : World} {b B : Nat} {vs : List Value} (h : Has w b vs) (hb : Below B w w') (hB : b < B) : Has w' b vs :=
  ⟨fun i v e => (hb.cell (p := ⟨b, i, none⟩) hB).trans (h.cell i v e), fun o => (hb.frozen (p := ⟨b, o, none⟩) hB).trans (h.free o)⟩
theorem Has.other {w : World} {b : Nat} {vs : List Value} (h : Has w b vs) {p : Addr} {v : Value} (hp : b ≠ p.block) : Has (w.setCell p v) b vs :=
  ⟨fun i u e => (World.cell?_setCell_other w p ⟨b, i, none⟩ v (fun e => hp (by rw [e]))).trans (h.cell i u e), fun o => (World.frozen?_setCell w p ⟨b, o, none⟩ v).trans (h.free o)⟩
theorem Has.set {w : World} {b : Nat} {vs : List Value} (h : Has w b vs) {k : Nat} (hk : k < vs.length) (v : Value) : Has (w.setCell ⟨b, k, none⟩ v) b (vs.set k v) := by
  refine ⟨fun i u e => ?_, fun o => (World.frozen?_setCell w _ ⟨b, o, none⟩ v).trans (h.free o)⟩
  rw [List.getElem?_set] at e
  by_cases hi : k = i
  · subst hi
    simp only [hk, if_true] at e
    cases e
    exact World.cell?_setCell_same w _ _ (h.cell k _ (List.getElem?_eq_getElem hk))
  · simp only [hi, if_false] at e
    exact (World.cell?_setCell_other w ⟨b, k, none⟩ ⟨b, i, none⟩ v (fun e => hi (by cases e; rfl))).trans (h.cell i u e)
theorem Has.set0 {w : World} {b : Nat} {x : Value} {l : List Value} (h : Has w b (x :: l)) (v : Value) : Has (w.setCell ⟨b, 0, none⟩ v) b (v :: l) := h.set (k := 0) (by simp) v
theorem Has.set1 {w : World} {b : Nat} {x y : Value} {l : List Value} (h : Has w b (x :: y :: l)) (v : Value) : Has (w.setCell ⟨b, 1, none⟩ v) b (x :: v :: l) := h.set (k := 1) (by simp) v
theorem Has.set2 {w : World} {b : Nat} {x y z : Value} {l : List Value} (h : Has w b (x :: y :: z :: l)) (v : Value) : Has (w.setCell ⟨b, 2, none⟩ v) b (x :: y :: v :: l) := h.set (k := 2) (by simp) v
theorem Has.mk1 {w : World} {b : Nat} {x : Value} (h0 : w.cell? ⟨b, 0, none⟩ = some x) (hf : ∀ o, w.frozen? ⟨b, o, none⟩ = false) : Has w b [x] :=
  ⟨fun i v e => by match i with | 0 => cases e; exact h0, hf⟩
theorem Has.mk2 {w : World} {b : Nat} {x y : Value} (h0 : w.cell? ⟨b, 0, none⟩ = some x) (h1 : w.cell? ⟨b, 1, none⟩ = some y) (hf : ∀ o, w.frozen? ⟨b, o, none⟩ = false) : Has w b [x, y] :=
  ⟨fun i v e => by match i with | 0 => cases e; exact h0 | 1 => cases e; exact h1, hf⟩
theorem Has.mk3 {w : World} {b : Nat} {x y z : Value} (h0 : w.cell? ⟨b, 0, none⟩ = some x) (h1 : w.cell? ⟨b, 1, none⟩ = some y) (h2 : w.cell? ⟨b, 2, none⟩ = some z) (hf : ∀ o, w.frozen? ⟨b, o, none⟩ = false) : Has w b [x, y, z] :=
  ⟨fun i v e => by match i with | 0 => cases e; exact h0 | 1 => cases e; exact h1 | 2 => cases e; exact h2, hf⟩
theorem Has.drew {w : World} {b : Nat} {vs : List Value} (h : Has w b vs) : Has w.drew b vs := ⟨h.cell, h.free⟩
theorem Has.drewN {w : World} {b : Nat} {vs : List Value} (h : Has w b vs) (n : Nat) : Has (w.drewN n) b vs := ⟨h.cell, h.free⟩
theorem Has.new (w : World) (vs : List Value) (t : TypeId) : Has (w.alloc (.cells vs.toArray t)) w.heap.size vs :=
  ⟨fun i v e => by rw [World.cell?_alloc_new]; simpa using e, fun o => World.frozen?_alloc_new w vs.toArray t o⟩
theorem Has.old {w : World} {b : Nat} {vs : List Value} (h : Has w b vs) {o : Obj} (hb : b < w.heap.size) : Has (w.alloc o) b vs :=
  ⟨fun i v e => (World.cell?_alloc_lt w o ⟨b, i, none⟩ hb).trans (h.cell i v e), fun i => (World.frozen?_alloc_old w o ⟨b, i, none⟩ (by simp; omega)).trans (h.free i)⟩
theorem Has.at {w : World} {b : Nat} {vs us : List Value} (h : Has w b vs) (e : vs = us) : Has w b us := e ▸ h
theorem Has.at' {w : World} {b c : Nat} {vs : List Value} (h : Has w b vs) (e : b = c) : Has w c vs := e ▸ h
theorem Has.lt {w : World} {b : Nat} {vs : List Value} (h : Has w b vs) (hn : 0 < vs.length) : b < w.heap.size :=
  World.block_lt_of_cell? w ⟨b, 0, none⟩ (h.cell 0 _ (List.getElem?_eq_getElem hn))
end Go.Proofs.Ytaokenpdaiabgaa
