/-
  What a block of memory holds, and what keeps it so: small laws that serve every walk. No program in sight.
-/
import Derived.Handy
import Derived.WalkSpells
import Derived.WalkLawsBesides
import Derived.WalkSmall
namespace Go.Proofs.Ytonbmijhbbodnaa
open Go.RowKit

/-- Block b holds the values vs from its head on, and may be written. -/
structure Has (w : World) (b : Nat) (vs : List Value) : Prop where
  cell : ∀ i v, vs[i]? = some v → w.cell? ⟨b, i, none⟩ = some v
  free : ∀ o, w.frozen? ⟨b, o, none⟩ = false

theorem Has.below {w w' : World} {b B : Nat} {vs : List Value} (h : Has w b vs) (hb : Below B w w') (hB : b < B) : Has w' b vs :=
  ⟨fun i v e => (hb.cell (p := ⟨b, i, none⟩) hB).trans (h.cell i v e), fun o => (hb.frozen (p := ⟨b, o, none⟩) hB).trans (h.free o)⟩
theorem Has.other {w : World} {b : Nat} {vs : List Value} (h : Has w b vs) {p : Addr} {v : Value} (hp : b ≠ p.block) : Has (w.setCell p v) b vs :=
  ⟨fun i u e => (World.cell?_setCell_other w p ⟨b, i, none⟩ v (fun e => hp (by rw [e]))).trans (h.cell i u e), fun o => (World.frozen?_setCell w p ⟨b, o, none⟩ v).trans (h.free o)⟩
theorem Has.set {w : World} {b : Nat} {vs : List Value} (h : Has w b vs) {k : Nat} (hk : k < vs.length) (v : Value) : Has (w.setCell ⟨b, k, none⟩ v) b (vs.set k v) := by
  refine ⟨fun i u e => ?_, fun o => (World.frozen?_setCell w _ ⟨b, o, none⟩ v).trans (h.free o)⟩
  rw [List.getElem?_set] at e
  by_cases hi : k = i
  · subst hi
    simp only [hk, if_true] at e
    cases e
    exact World.cell?_setCell_same w _ _ (h.cell k _ (List.getElem?_eq_getElem hk))
  · simp only [hi, if_false] at e
    exact (World.cell?_setCell_other w ⟨b, k, none⟩ ⟨b, i, none⟩ v (fun e => hi (by cases e; rfl))).trans (h.cell i u e)
theorem Has.set0 {w : World} {b : Nat} {x : Value} {l : List Value} (h : Has w b (x :: l)) (v : Value) : Has (w.setCell ⟨b, 0, none⟩ v) b (v :: l) := h.set (k := 0) (by simp) v
theorem Has.set1 {w : World} {b : Nat} {x y : Value} {l : List Value} (h : Has w b (x :: y :: l)) (v : Value) : Has (w.setCell ⟨b, 1, none⟩ v) b (x :: v :: l) := h.set (k := 1) (by simp) v
theorem Has.set2 {w : World} {b : Nat} {x y z : Value} {l : List Value} (h : Has w b (x :: y :: z :: l)) (v : Value) : Has (w.setCell ⟨b, 2, none⟩ v) b (x :: y :: v :: l) := h.set (k := 2) (by simp) v
theorem Has.mk1 {w : World} {b : Nat} {x : Value} (h0 : w.cell? ⟨b, 0, none⟩ = some x) (hf : ∀ o, w.frozen? ⟨b, o, none⟩ = false) : Has w b [x] :=
  ⟨fun i v e => by match i with | 0 => cases e; exact h0, hf⟩
theorem Has.mk2 {w : World} {b : Nat} {x y : Value} (h0 : w.cell? ⟨b, 0, none⟩ = some x) (h1 : w.cell? ⟨b, 1, none⟩ = some y) (hf : ∀ o, w.frozen? ⟨b, o, none⟩ = false) : Has w b [x, y] :=
  ⟨fun i v e => by match i with | 0 => cases e; exact h0 | 1 => cases e; exact h1, hf⟩
theorem Has.mk3 {w : World} {b : Nat} {x y z : Value} (h0 : w.cell? ⟨b, 0, none⟩ = some x) (h1 : w.cell? ⟨b, 1, none⟩ = some y) (h2 : w.cell? ⟨b, 2, none⟩ = some z) (hf : ∀ o, w.frozen? ⟨b, o, none⟩ = false) : Has w b [x, y, z] :=
  ⟨fun i v e => by match i with | 0 => cases e; exact h0 | 1 => cases e; exact h1 | 2 => cases e; exact h2, hf⟩
theorem Has.drew {w : World} {b : Nat} {vs : List Value} (h : Has w b vs) : Has w.drew b vs := ⟨h.cell, h.free⟩
theorem Has.drewN {w : World} {b : Nat} {vs : List Value} (h : Has w b vs) (n : Nat) : Has (w.drewN n) b vs := ⟨h.cell, h.free⟩
theorem Has.new (w : World) (vs : List Value) (t : TypeId) : Has (w.alloc (.cells vs.toArray t)) w.heap.size vs :=
  ⟨fun i v e => by rw [World.cell?_alloc_new]; simpa using e, fun o => World.frozen?_alloc_new w vs.toArray t o⟩
theorem Has.old {w : World} {b : Nat} {vs : List Value} (h : Has w b vs) {o : Obj} (hb : b < w.heap.size) : Has (w.alloc o) b vs :=
  ⟨fun i v e => (World.cell?_alloc_lt w o ⟨b, i, none⟩ hb).trans (h.cell i v e), fun i => (World.frozen?_alloc_old w o ⟨b, i, none⟩ (by simp; omega)).trans (h.free i)⟩
theorem Has.at {w : World} {b : Nat} {vs us : List Value} (h : Has w b vs) (e : vs = us) : Has w b us := e ▸ h
theorem Has.at' {w : World} {b c : Nat} {vs : List Value} (h : Has w b vs) (e : b = c) : Has w c vs := e ▸ h
theorem Has.lt {w : World} {b : Nat} {vs : List Value} (h : Has w b vs) (hn : 0 < vs.length) : b < w.heap.size :=
  World.block_lt_of_cell? w ⟨b, 0, none⟩ (h.cell 0 _ (List.getElem?_eq_getElem hn))

/-- The first blocks that a call makes, one behind the other, and what they hold; all that was there before is as it was. -/
structure Fr (w wr : World) (l : List (List Value)) : Prop where
  below : Below w.heap.size w wr
  size : w.heap.size + l.length ≤ wr.heap.size
  has : ∀ i vs, l[i]? = some vs → Has wr (w.heap.size + i) vs
theorem Fr.refl (w : World) : Fr w w [] := ⟨Below.refl _ _, Nat.le_refl _, fun i vs h => by simp at h⟩
theorem Fr.call {w wr w1 : World} {l : List (List Value)} (hb : Below wr.heap.size wr w1) (s : Fr w wr l) : Fr w w1 l :=
  ⟨s.below.trans (hb.mono (by have := s.size; omega)), Nat.le_trans s.size hb.size, fun i vs h => (s.has i vs h).below hb (by have := s.size; have := (List.getElem?_eq_some_iff.1 h).1; omega)⟩
theorem Fr.drew {w wr : World} {l : List (List Value)} (s : Fr w wr l) : Fr w wr.drew l := ⟨s.below.drew, s.size, fun i vs h => (s.has i vs h).drew⟩
theorem Fr.drewN {w wr : World} {l : List (List Value)} (s : Fr w wr l) (n : Nat) : Fr w (wr.drewN n) l := ⟨below_drewN s.below n, s.size, fun i vs h => (s.has i vs h).drewN n⟩
theorem Fr.more {w wr : World} {l : List (List Value)} (s : Fr w wr l) (o : Obj) : Fr w (wr.alloc o) l :=
  ⟨s.below.alloc (by have := s.size; omega) o, by have := s.size; rw [World.size_alloc]; omega, fun i vs h => (s.has i vs h).old (by have := s.size; have := (List.getElem?_eq_some_iff.1 h).1; omega)⟩
/-- A new block straight behind the others. -/
theorem Fr.new {w wr : World} {l : List (List Value)} (s : Fr w wr l) (hs : wr.heap.size = w.heap.size + l.length) (vs : List Value) (t : TypeId) : Fr w (wr.alloc (.cells vs.toArray t)) (l ++ [vs]) := by
  refine ⟨(s.more _).below, by rw [World.size_alloc]; simp; omega, fun i us h => ?_⟩
  rcases Nat.lt_or_ge i l.length with hi | hi
  · exact (s.more _).has i us (by rwa [List.getElem?_append_left hi] at h)
  · rw [List.getElem?_append_right hi] at h
    have hl : i - l.length < 1 := (List.getElem?_eq_some_iff.1 h).1
    have e : i = l.length := by omega
    subst e
    simp at h
    subst h
    exact (Has.new wr vs t).at' hs
/-- A store into one of the blocks. -/
theorem Fr.set {w wr : World} {l : List (List Value)} (s : Fr w wr l) (i k : Nat) (vs : List Value) (h : l[i]? = some vs) (hk : k < vs.length) (v : Value) : Fr w (wr.setCell ⟨w.heap.size + i, k, none⟩ v) (l.set i (vs.set k v)) := by
  refine ⟨s.below.setCell (by simp) _, by simpa using s.size, fun j us hj => ?_⟩
  rw [List.getElem?_set] at hj
  by_cases hij : i = j
  · subst hij
    rw [if_pos rfl, if_pos (List.getElem?_eq_some_iff.1 h).1] at hj
    cases hj
    exact (s.has i vs h).set hk v
  · rw [if_neg hij] at hj
    exact (s.has j us hj).other (by simp; omega)
theorem Fr.h0 {w wr : World} {v0 : List Value} {l : List (List Value)} (s : Fr w wr (v0 :: l)) : Has wr w.heap.size v0 := s.has 0 v0 rfl
theorem Fr.h1 {w wr : World} {v0 v1 : List Value} {l : List (List Value)} (s : Fr w wr (v0 :: v1 :: l)) : Has wr (w.heap.size + 1) v1 := s.has 1 v1 rfl
theorem Fr.h2 {w wr : World} {v0 v1 v2 : List Value} {l : List (List Value)} (s : Fr w wr (v0 :: v1 :: v2 :: l)) : Has wr (w.heap.size + 1 + 1) v2 := s.has 2 v2 rfl
theorem Fr.h3 {w wr : World} {v0 v1 v2 v3 : List Value} {l : List (List Value)} (s : Fr w wr (v0 :: v1 :: v2 :: v3 :: l)) : Has wr (w.heap.size + 1 + 1 + 1) v3 := s.has 3 v3 rfl
theorem Fr.h4 {w wr : World} {v0 v1 v2 v3 v4 : List Value} {l : List (List Value)} (s : Fr w wr (v0 :: v1 :: v2 :: v3 :: v4 :: l)) : Has wr (w.heap.size + 1 + 1 + 1 + 1) v4 := s.has 4 v4 rfl
end Go.Proofs.Ytonbmijhbbodnaa
