/-
  Memory in a walk: which old blocks a call changes (Chg), the blocks that a call has made (Fm), slices that read as lists (Row), and lists of lists that the call owns. Small laws, no program in sight.
-/
import Derived.Lib.Hide
import Derived.Laws.CopyOwn
import Derived.Deep.AppendLies
import Derived.Test.YtonbmijhbbodnaaHas
namespace Go.Proofs.Ytonbmijhbbodnaa
open Go.RowKit

/-- From w to w' no block that was there has changed, but for those in M. -/
structure Chg (M : Nat → Prop) (w w' : World) : Prop where
  os : w'.os = w.os
  tape : w'.tape = w.tape
  output : w'.output = w.output
  size : w.heap.size ≤ w'.heap.size
  block : ∀ k, k < w.heap.size → ¬ M k → w'.heap[k]? = w.heap[k]?

def Non (_ : Nat) : Prop := False
theorem Chg.refl {M : Nat → Prop} (w : World) : Chg M w w := ⟨rfl, rfl, rfl, Nat.le_refl _, fun _ _ _ => rfl⟩
theorem Chg.below {M : Nat → Prop} {w w' : World} {B : Nat} (h : Chg M w w') (hM : ∀ k, k < B → ¬ M k) (hB : B ≤ w.heap.size) : Below B w w' := ⟨h.os, h.tape, h.output, h.size, fun k hk => h.block k (by omega) (hM k hk)⟩
theorem Chg.below0 {w w' : World} (h : Chg Non w w') : Below w.heap.size w w' := h.below (fun _ _ => id) (Nat.le_refl _)
theorem Chg.of_below {M : Nat → Prop} {w w' : World} (h : Below w.heap.size w w') : Chg M w w' := ⟨h.os, h.tape, h.output, h.size, fun k hk _ => h.block k hk⟩
theorem Chg.of_below' {M : Nat → Prop} {w w' : World} {B : Nat} (h : Below B w w') (hM : ∀ k, B ≤ k → k < w.heap.size → M k) : Chg M w w' := ⟨h.os, h.tape, h.output, h.size, fun k hk hm => h.block k (Nat.lt_of_not_le fun e => hm (hM k e hk))⟩
theorem Chg.trans {M N : Nat → Prop} {a b c : World} (h : Chg M a b) (k : Chg N b c) (hN : ∀ k, k < a.heap.size → N k → M k) : Chg M a c :=
  ⟨k.os.trans h.os, k.tape.trans h.tape, k.output.trans h.output, Nat.le_trans h.size k.size, fun i hi hm => (k.block i (Nat.lt_of_lt_of_le hi h.size) (fun e => hm (hN i hi e))).trans (h.block i hi hm)⟩
theorem Chg.tr {M : Nat → Prop} {a b c : World} (h : Chg M a b) (k : Below b.heap.size b c) : Chg M a c := h.trans (N := Non) (Chg.of_below k) (fun _ _ e => e.elim)
theorem Chg.mono {M N : Nat → Prop} {a b : World} (h : Chg M a b) (hN : ∀ k, k < a.heap.size → M k → N k) : Chg N a b := ⟨h.os, h.tape, h.output, h.size, fun k hk hm => h.block k hk (fun e => hm (hN k hk e))⟩
theorem Chg.alloc {M : Nat → Prop} {a b : World} (h : Chg M a b) (o : Obj) : Chg M a (b.alloc o) := h.tr ((Below.refl _ _).alloc (Nat.le_refl _) _)
theorem Chg.drew {M : Nat → Prop} {a b : World} (h : Chg M a b) : Chg M a b.drew := ⟨h.os, h.tape, h.output, h.size, h.block⟩
theorem Chg.drewN {M : Nat → Prop} {a b : World} (h : Chg M a b) (n : Nat) : Chg M a (b.drewN n) := ⟨h.os, h.tape, h.output, h.size, h.block⟩
theorem Chg.setCell {M : Nat → Prop} {a b : World} (h : Chg M a b) {p : Addr} (hp : p.block < a.heap.size → M p.block) (v : Value) : Chg M a (b.setCell p v) :=
  ⟨h.os, h.tape, h.output, by rw [World.size_setCell]; exact h.size, fun i hi hm => (Below.heap_setCell b p v i (fun e => hm (e ▸ hp (e ▸ hi)))).trans (h.block i hi hm)⟩
theorem Chg.has {M : Nat → Prop} {w w' : World} {b : Nat} {vs : List Value} (h : Chg M w w') (hs : Has w b vs) (hb : b < w.heap.size) (hd : ¬ M b) : Has w' b vs :=
  ⟨fun i v e => (World.cell?_of_block (w := w) (a := ⟨b, i, none⟩) (h.block b hb hd)).trans (hs.cell i v e), fun o => (World.frozen?_of_block (w := w) (a := ⟨b, o, none⟩) (h.block b hb hd)).trans (hs.free o)⟩

theorem Chg.cell {M : Nat → Prop} {w w' : World} {b o : Nat} {v : Value} (h : Chg M w w') (hm : ¬ M b) (hc : w.cell? ⟨b, o, none⟩ = some v) : w'.cell? ⟨b, o, none⟩ = some v :=
  (World.cell?_of_block (w := w) (a := ⟨b, o, none⟩) (h.block b (World.block_lt_of_cell? w _ hc) hm)).trans hc
theorem Chg.frz {M : Nat → Prop} {w w' : World} {b o : Nat} (h : Chg M w w') (hm : ¬ M b) (hb : b < w.heap.size) (hc : w.frozen? ⟨b, o, none⟩ = false) : w'.frozen? ⟨b, o, none⟩ = false :=
  (World.frozen?_of_block (w := w) (a := ⟨b, o, none⟩) (h.block b hb hm)).trans hc
theorem frz_later {w w' : World} {b o B : Nat} (h : Below B w w') (hb : b < B) (hc : w.frozen? ⟨b, o, none⟩ = false) : w'.frozen? ⟨b, o, none⟩ = false := (h.frozen (p := ⟨b, o, none⟩) hb).trans hc
theorem store_there (P : Program) (w : World) (a : Addr) (v : Value) (hv : v.oneCell' = true) (h : (w.cell? a).isSome = true) (hf : w.frozen? a = false) : (store a v).run P w = .ok () (w.setCell a v) := by
  obtain ⟨u, hu⟩ := Option.isSome_iff_exists.1 h
  rw [run_store P w a v _ hv, hu]
  simp [hf]
theorem some_later {w w' : World} {b o B : Nat} (h : Below B w w') (hb : b < B) (hc : (w.cell? ⟨b, o, none⟩).isSome = true) : (w'.cell? ⟨b, o, none⟩).isSome = true := by rw [h.cell (p := ⟨b, o, none⟩) hb]; exact hc
theorem Chg.there {M : Nat → Prop} {w w' : World} {b o : Nat} (h : Chg M w w') (hm : ¬ M b) (hc : (w.cell? ⟨b, o, none⟩).isSome = true) : (w'.cell? ⟨b, o, none⟩).isSome = true := by
  obtain ⟨u, hu⟩ := Option.isSome_iff_exists.1 hc
  rw [h.cell hm hu]; rfl
theorem some_set {w : World} {b o : Nat} {p : Addr} {v : Value} (hc : (w.cell? ⟨b, o, none⟩).isSome = true) : ((w.setCell p v).cell? ⟨b, o, none⟩).isSome = true := by
  obtain ⟨u, hu⟩ := Option.isSome_iff_exists.1 hc
  by_cases e : p = ⟨b, o, none⟩
  · subst e; rw [World.cell?_setCell_same w _ _ hu]; rfl
  · rw [World.cell?_setCell_other w p ⟨b, o, none⟩ v e, hu]; rfl
/-! ### Blocks known whole -/
/-- Block b has exactly the cells vs, of type t, and may be written. -/
def Blk (w : World) (b : Nat) (t : TypeId) (vs : List Value) : Prop := w.heap[b]? = some (.cells vs.toArray t (0, 0))
theorem Blk.cell {w : World} {b : Nat} {t : TypeId} {vs : List Value} (h : Blk w b t vs) {i : Nat} {v : Value} (e : vs[i]? = some v) : w.cell? ⟨b, i, none⟩ = some v := by
  rw [cell_of_row w b i _ t (0, 0) h]; simpa using e
theorem Blk.free {w : World} {b : Nat} {t : TypeId} {vs : List Value} (h : Blk w b t vs) (o : Nat) : w.frozen? ⟨b, o, none⟩ = false := by
  unfold Blk at h; simp [World.frozen?, h]
theorem Blk.lt {w : World} {b : Nat} {t : TypeId} {vs : List Value} (h : Blk w b t vs) : b < w.heap.size := (Array.getElem?_eq_some_iff.1 h).1
theorem Blk.has {w : World} {b : Nat} {t : TypeId} {vs : List Value} (h : Blk w b t vs) : Has w b vs := ⟨fun _ _ e => h.cell e, h.free⟩
theorem Blk.of {w w' : World} {b : Nat} {t : TypeId} {vs : List Value} (h : Blk w b t vs) (e : w'.heap[b]? = w.heap[b]?) : Blk w' b t vs := e.trans h
theorem Blk.chg {M : Nat → Prop} {w w' : World} {b : Nat} {t : TypeId} {vs : List Value} (h : Blk w b t vs) (k : Chg M w w') (hd : ¬ M b) : Blk w' b t vs := h.of (k.block b h.lt hd)
theorem Blk.below {w w' : World} {b B : Nat} {t : TypeId} {vs : List Value} (h : Blk w b t vs) (k : Below B w w') (hd : b < B) : Blk w' b t vs := h.of (k.block b hd)
theorem Blk.other {w : World} {b : Nat} {t : TypeId} {vs : List Value} (h : Blk w b t vs) {p : Addr} (hp : b ≠ p.block) (v : Value) : Blk (w.setCell p v) b t vs := h.of (Below.heap_setCell w p v b (fun e => hp e))
theorem Blk.set {w : World} {b : Nat} {t : TypeId} {vs : List Value} (h : Blk w b t vs) (i : Nat) (v : Value) : Blk (w.setCell ⟨b, i, none⟩ v) b t (vs.set i v) := by
  unfold Blk at h ⊢
  simp only [World.setCell, Array.getElem?_modify, h]
  simp
theorem Blk.new (w : World) (vs : List Value) (t : TypeId) : Blk (w.alloc (.cells vs.toArray t)) w.heap.size t vs := heap_alloc_new w _
theorem Blk.old {w : World} {b : Nat} {t : TypeId} {vs : List Value} (h : Blk w b t vs) (o : Obj) : Blk (w.alloc o) b t vs := h.below ((Below.refl w.heap.size w).alloc (Nat.le_refl _) o) h.lt
theorem Blk.drew {w : World} {b : Nat} {t : TypeId} {vs : List Value} (h : Blk w b t vs) : Blk w.drew b t vs := h
theorem Blk.drewN {w : World} {b : Nat} {t : TypeId} {vs : List Value} (h : Blk w b t vs) (n : Nat) : Blk (w.drewN n) b t vs := h
theorem Blk.at {w : World} {b : Nat} {t : TypeId} {vs us : List Value} (h : Blk w b t vs) (e : vs = us) : Blk w b t us := e ▸ h
theorem Blk.at' {w : World} {b c : Nat} {t : TypeId} {vs : List Value} (h : Blk w b t vs) (e : b = c) : Blk w c t vs := e ▸ h
theorem Blk.heap {w : World} {b : Nat} {t : TypeId} {vs : List Value} (h : Blk w b t vs) : w.heap[b]? = some (.cells vs.toArray t (0, 0)) := h

/-! ### The frame of a walk: what has changed since the call began, and the blocks that it has made first, one behind the other -/
structure Fm (M : Nat → Prop) (w wr : World) (l : List (List Value)) : Prop where
  chg : Chg M w wr
  size : w.heap.size + l.length ≤ wr.heap.size
  has : ∀ i vs, l[i]? = some vs → Has wr (w.heap.size + i) vs
theorem Fm.start (M : Nat → Prop) (w : World) : Fm M w w [] := ⟨Chg.refl w, Nat.le_refl _, fun i vs h => by simp at h⟩
theorem Fm.call {M : Nat → Prop} {w wr w1 : World} {l : List (List Value)} (hb : Below wr.heap.size wr w1) (s : Fm M w wr l) : Fm M w w1 l :=
  ⟨s.chg.tr hb, Nat.le_trans s.size hb.size, fun i vs h => (s.has i vs h).below hb (by have := s.size; have := (List.getElem?_eq_some_iff.1 h).1; omega)⟩
/-- A call that changes old blocks, of those that were there before, those of M; of the call's own, none of the first ones. -/
theorem Fm.chgd {M N : Nat → Prop} {w wr w1 : World} {l : List (List Value)} (hb : Chg N wr w1) (s : Fm M w wr l) (hN : ∀ k, N k → (k < w.heap.size ∧ M k) ∨ w.heap.size + l.length ≤ k) : Fm M w w1 l :=
  ⟨s.chg.trans hb (fun k hk hn => (hN k hn).elim And.right (fun h => by omega)), Nat.le_trans s.size hb.size,
   fun i vs h => by
    have hi := (List.getElem?_eq_some_iff.1 h).1
    exact hb.has (s.has i vs h) (by have := s.size; omega) (fun hn => by rcases hN _ hn with h | h <;> omega)⟩
theorem Fm.drew {M : Nat → Prop} {w wr : World} {l : List (List Value)} (s : Fm M w wr l) : Fm M w wr.drew l := ⟨s.chg.drew, s.size, fun i vs h => (s.has i vs h).drew⟩
theorem Fm.drewN {M : Nat → Prop} {w wr : World} {l : List (List Value)} (s : Fm M w wr l) (n : Nat) : Fm M w (wr.drewN n) l := ⟨s.chg.drewN n, s.size, fun i vs h => (s.has i vs h).drewN n⟩
theorem Fm.more {M : Nat → Prop} {w wr : World} {l : List (List Value)} (s : Fm M w wr l) (o : Obj) : Fm M w (wr.alloc o) l :=
  ⟨s.chg.alloc o, by have := s.size; rw [World.size_alloc]; omega, fun i vs h => (s.has i vs h).old (by have := s.size; have := (List.getElem?_eq_some_iff.1 h).1; omega)⟩
theorem Fm.new {M : Nat → Prop} {w wr : World} {l : List (List Value)} (s : Fm M w wr l) (hs : wr.heap.size = w.heap.size + l.length) (vs : List Value) (t : TypeId) : Fm M w (wr.alloc (.cells vs.toArray t)) (l ++ [vs]) := by
  refine ⟨(s.more _).chg, by rw [World.size_alloc]; simp; omega, fun i us h => ?_⟩
  rcases Nat.lt_or_ge i l.length with hi | hi
  · exact (s.more _).has i us (by rwa [List.getElem?_append_left hi] at h)
  · rw [List.getElem?_append_right hi] at h
    have hl : i - l.length < 1 := (List.getElem?_eq_some_iff.1 h).1
    have e : i = l.length := by omega
    subst e
    simp at h
    subst h
    exact (Has.new wr vs t).at' hs
theorem Fm.set {M : Nat → Prop} {w wr : World} {l : List (List Value)} (s : Fm M w wr l) (i k : Nat) (vs : List Value) (h : l[i]? = some vs) (hk : k < vs.length) (v : Value) : Fm M w (wr.setCell ⟨w.heap.size + i, k, none⟩ v) (l.set i (vs.set k v)) := by
  refine ⟨s.chg.setCell (fun e => by simp at e; omega) _, by simpa using s.size, fun j us hj => ?_⟩
  rw [List.getElem?_set] at hj
  by_cases hij : i = j
  · subst hij
    rw [if_pos rfl, if_pos (List.getElem?_eq_some_iff.1 h).1] at hj
    cases hj
    exact (s.has i vs h).set hk v
  · rw [if_neg hij] at hj
    exact (s.has j us hj).other (by simp; omega)
theorem Fm.mono {M N : Nat → Prop} {w wr : World} {l : List (List Value)} (s : Fm M w wr l) (h : ∀ k, M k → N k) : Fm N w wr l := ⟨s.chg.mono (fun k _ hk => h k hk), s.size, s.has⟩
theorem Fm.non {N : Nat → Prop} {w wr : World} {l : List (List Value)} (s : Fm Non w wr l) : Fm N w wr l := s.mono (fun _ h => h.elim)
/-- A store behind the first blocks, or into an old block of M. -/
theorem Fm.far {M : Nat → Prop} {w wr : World} {l : List (List Value)} (s : Fm M w wr l) {p : Addr} (hp : (p.block < w.heap.size ∧ M p.block) ∨ w.heap.size + l.length ≤ p.block) (v : Value) : Fm M w (wr.setCell p v) l :=
  s.chgd (N := fun k => k = p.block) (Chg.setCell (M := fun k => k = p.block) (Chg.refl wr) (fun _ => rfl) v) (fun k hk => by subst hk; exact hp)
theorem Fm.h0 {M : Nat → Prop} {w wr : World} {v0 : List Value} {l : List (List Value)} (s : Fm M w wr (v0 :: l)) : Has wr w.heap.size v0 := s.has 0 v0 rfl
theorem Fm.h1 {M : Nat → Prop} {w wr : World} {v0 v1 : List Value} {l : List (List Value)} (s : Fm M w wr (v0 :: v1 :: l)) : Has wr (w.heap.size + 1) v1 := s.has 1 v1 rfl
theorem Fm.h2 {M : Nat → Prop} {w wr : World} {v0 v1 v2 : List Value} {l : List (List Value)} (s : Fm M w wr (v0 :: v1 :: v2 :: l)) : Has wr (w.heap.size + 1 + 1) v2 := s.has 2 v2 rfl
theorem Fm.h3 {M : Nat → Prop} {w wr : World} {v0 v1 v2 v3 : List Value} {l : List (List Value)} (s : Fm M w wr (v0 :: v1 :: v2 :: v3 :: l)) : Has wr (w.heap.size + 1 + 1 + 1) v3 := s.has 3 v3 rfl
theorem Fm.h4 {M : Nat → Prop} {w wr : World} {v0 v1 v2 v3 v4 : List Value} {l : List (List Value)} (s : Fm M w wr (v0 :: v1 :: v2 :: v3 :: v4 :: l)) : Has wr (w.heap.size + 1 + 1 + 1 + 1) v4 := s.has 4 v4 rfl
theorem Fm.h5 {M : Nat → Prop} {w wr : World} {v0 v1 v2 v3 v4 v5 : List Value} {l : List (List Value)} (s : Fm M w wr (v0 :: v1 :: v2 :: v3 :: v4 :: v5 :: l)) : Has wr (w.heap.size + 1 + 1 + 1 + 1 + 1) v5 := s.has 5 v5 rfl
theorem Fm.below {w wr : World} {l : List (List Value)} (s : Fm Non w wr l) : Below w.heap.size w wr := s.chg.below0

/-! ### Slices that read as lists. K: which blocks they lie in -/
abbrev Rd (α : Type) := (Nat → Prop) → World → Nat → Nat → α → Prop
/-- What is read at a place is read there still, where the blocks of K are as they were. -/
def Stays {α : Type} (R : Rd α) : Prop := ∀ (K : Nat → Prop) (w w' : World) (b o : Nat) (x : α), (∀ k, K k → k < w.heap.size → w'.heap[k]? = w.heap[k]?) → w.heap.size ≤ w'.heap.size → K b → R K w b o x → R K w' b o x
def Wider {α : Type} (R : Rd α) : Prop := ∀ (K K' : Nat → Prop) (w : World) (b o : Nat) (x : α), (∀ k, K k → k < w.heap.size → K' k) → R K w b o x → R K' w b o x
structure Row {α : Type} (R : Rd α) (sz : Nat) (K : Nat → Prop) (w : World) (a : Option Addr) (len cap : Nat) (xs : List α) : Prop where
  hlen : xs.length = len
  hcap : len ≤ cap
  hmax : cap ≤ 9223372036854775807
  hsz : len ≤ 17592186044416
  row : ∀ i x, xs[i]? = some x → ∃ b o, a = some ⟨b, o, none⟩ ∧ K b ∧ b < w.heap.size ∧ R K w b (o + i * sz) x
def RInt : Rd Int := fun _ w b o z => w.cell? ⟨b, o, none⟩ = some (.int .i64 z) ∧ -9223372036854775808 ≤ z ∧ z ≤ 9223372036854775807
def RSl {α : Type} (R : Rd α) (sz : Nat) : Rd (List α) := fun K w b o xs => ∃ a len cap, w.cell? ⟨b, o, none⟩ = some (.slice a len cap) ∧ Row R sz K w a len cap xs
abbrev Ints := Row RInt 1
abbrev Mat := Row (RSl RInt 1) 1
abbrev Cube := Row (RSl (RSl RInt 1) 1) 1

theorem cell_stays {K : Nat → Prop} {w w' : World} {b o : Nat} {v : Value} (h : ∀ k, K k → k < w.heap.size → w'.heap[k]? = w.heap[k]?) (hK : K b) (hc : w.cell? ⟨b, o, none⟩ = some v) : w'.cell? ⟨b, o, none⟩ = some v :=
  (World.cell?_of_block (w := w) (a := ⟨b, o, none⟩) (h b hK (World.block_lt_of_cell? w _ hc))).trans hc
theorem RInt.stays : Stays RInt := fun _ _ _ _ _ _ h _ hK hr => ⟨cell_stays h hK hr.1, hr.2⟩
theorem RInt.wider : Wider RInt := fun _ _ _ _ _ _ _ h => h
theorem Row.keeps {α : Type} {R : Rd α} {sz : Nat} (hR : Stays R) {K : Nat → Prop} {w w' : World} {a : Option Addr} {len cap : Nat} {xs : List α} (h : ∀ k, K k → k < w.heap.size → w'.heap[k]? = w.heap[k]?) (hs : w.heap.size ≤ w'.heap.size) (r : Row R sz K w a len cap xs) : Row R sz K w' a len cap xs :=
  ⟨r.hlen, r.hcap, r.hmax, r.hsz, fun i x e => by obtain ⟨b, o, e1, e2, e3, e4⟩ := r.row i x e; exact ⟨b, o, e1, e2, by omega, hR K w w' b _ x h hs e2 e4⟩⟩
theorem RSl.stays {α : Type} {R : Rd α} {sz : Nat} (hR : Stays R) : Stays (RSl R sz) := fun _ _ _ _ _ _ h hs hK ⟨a, len, cap, hc, hr⟩ => ⟨a, len, cap, cell_stays h hK hc, hr.keeps hR h hs⟩
theorem Row.wide {α : Type} {R : Rd α} {sz : Nat} (hR : Wider R) {K K' : Nat → Prop} {w : World} {a : Option Addr} {len cap : Nat} {xs : List α} (h : ∀ k, K k → k < w.heap.size → K' k) (r : Row R sz K w a len cap xs) : Row R sz K' w a len cap xs :=
  ⟨r.hlen, r.hcap, r.hmax, r.hsz, fun i x e => by obtain ⟨b, o, e1, e2, e3, e4⟩ := r.row i x e; exact ⟨b, o, e1, h b e2 e3, e3, hR K K' w b _ x h e4⟩⟩
theorem RSl.wider {α : Type} {R : Rd α} {sz : Nat} (hR : Wider R) : Wider (RSl R sz) := fun _ _ _ _ _ _ h ⟨a, len, cap, hc, hr⟩ => ⟨a, len, cap, hc, hr.wide hR h⟩
theorem Row.chg {α : Type} {R : Rd α} {sz : Nat} (hR : Stays R) {K M : Nat → Prop} {w w' : World} {a : Option Addr} {len cap : Nat} {xs : List α} (r : Row R sz K w a len cap xs) (h : Chg M w w') (hM : ∀ k, K k → ¬ M k) : Row R sz K w' a len cap xs :=
  r.keeps hR (fun k hk hl => h.block k hl (hM k hk)) h.size
theorem Row.below {α : Type} {R : Rd α} {sz : Nat} (hR : Stays R) {K : Nat → Prop} {w w' : World} {a : Option Addr} {len cap : Nat} {xs : List α} (r : Row R sz K w a len cap xs) (h : Below w.heap.size w w') : Row R sz K w' a len cap xs :=
  r.keeps hR (fun k _ hl => h.block k hl) h.size
theorem Row.nil {α : Type} (R : Rd α) (sz : Nat) (K : Nat → Prop) (w : World) (a : Option Addr) {cap : Nat} (h : cap ≤ 9223372036854775807) : Row R sz K w a 0 cap [] := ⟨rfl, Nat.zero_le _, h, Nat.zero_le _, fun i x e => by simp at e⟩
theorem Ints.below {K : Nat → Prop} {w w' : World} {a : Option Addr} {len cap : Nat} {xs : List Int} (r : Ints K w a len cap xs) (h : Below w.heap.size w w') : Ints K w' a len cap xs := Row.below RInt.stays r h
theorem Mat.below {K : Nat → Prop} {w w' : World} {a : Option Addr} {len cap : Nat} {xs : List (List Int)} (r : Mat K w a len cap xs) (h : Below w.heap.size w w') : Mat K w' a len cap xs := Row.below (RSl.stays RInt.stays) r h
theorem Ints.chg {K M : Nat → Prop} {w w' : World} {a : Option Addr} {len cap : Nat} {xs : List Int} (r : Ints K w a len cap xs) (h : Chg M w w') (hM : ∀ k, K k → ¬ M k) : Ints K w' a len cap xs := Row.chg RInt.stays r h hM
theorem Mat.chg {K M : Nat → Prop} {w w' : World} {a : Option Addr} {len cap : Nat} {xs : List (List Int)} (r : Mat K w a len cap xs) (h : Chg M w w') (hM : ∀ k, K k → ¬ M k) : Mat K w' a len cap xs := Row.chg (RSl.stays RInt.stays) r h hM
theorem Ints.get {K : Nat → Prop} {w : World} {a : Option Addr} {len cap : Nat} {xs : List Int} (r : Ints K w a len cap xs) {i : Nat} (h : i < len) :
    ∃ b o z, a = some ⟨b, o, none⟩ ∧ xs[i]? = some z ∧ w.cell? ⟨b, o + i, none⟩ = some (.int .i64 z) ∧ -9223372036854775808 ≤ z ∧ z ≤ 9223372036854775807 ∧ K b ∧ b < w.heap.size := by
  obtain ⟨x0, e⟩ : ∃ x, xs[i]? = some x := ⟨_, List.getElem?_eq_getElem (by rw [r.hlen]; exact h)⟩
  obtain ⟨b, o, e1, e2, e3, e4⟩ := r.row i _ e
  rw [Nat.mul_one] at e4
  exact ⟨b, o, _, e1, e, e4.1, e4.2.1, e4.2.2, e2, e3⟩
theorem Rows.get {α : Type} {R : Rd α} {K : Nat → Prop} {w : World} {a : Option Addr} {len cap : Nat} {xs : List (List α)} (r : Row (RSl R 1) 1 K w a len cap xs) {i : Nat} (h : i < len) :
    ∃ b o x ra rl rc, a = some ⟨b, o, none⟩ ∧ xs[i]? = some x ∧ w.cell? ⟨b, o + i, none⟩ = some (.slice ra rl rc) ∧ Row R 1 K w ra rl rc x ∧ K b ∧ b < w.heap.size := by
  obtain ⟨x0, e⟩ : ∃ x, xs[i]? = some x := ⟨_, List.getElem?_eq_getElem (by rw [r.hlen]; exact h)⟩
  obtain ⟨b, o, e1, e2, e3, ra, rl, rc, e4, e5⟩ := r.row i _ e
  rw [Nat.mul_one] at e4
  exact ⟨b, o, _, ra, rl, rc, e1, e, e4, e5, e2, e3⟩
def RU8 : Rd Int := fun _ w b o z => w.cell? ⟨b, o, none⟩ = some (.int .u8 z) ∧ 0 ≤ z ∧ z ≤ 255
theorem RU8.stays : Stays RU8 := fun _ _ _ _ _ _ h _ hK hr => ⟨cell_stays h hK hr.1, hr.2⟩
abbrev Bytes := Row RU8 1
theorem Bytes.get {K : Nat → Prop} {w : World} {a : Option Addr} {len cap : Nat} {xs : List Int} (r : Bytes K w a len cap xs) {i : Nat} (h : i < len) :
    ∃ b o z, a = some ⟨b, o, none⟩ ∧ xs[i]? = some z ∧ w.cell? ⟨b, o + i, none⟩ = some (.int .u8 z) ∧ 0 ≤ z ∧ z ≤ 255 ∧ K b ∧ b < w.heap.size := by
  obtain ⟨x0, e⟩ : ∃ x, xs[i]? = some x := ⟨_, List.getElem?_eq_getElem (by rw [r.hlen]; exact h)⟩
  obtain ⟨b, o, e1, e2, e3, e4⟩ := r.row i _ e
  rw [Nat.mul_one] at e4
  exact ⟨b, o, _, e1, e, e4.1, e4.2.1, e4.2.2, e2, e3⟩
theorem Row.len63 {α : Type} {R : Rd α} {sz : Nat} {K : Nat → Prop} {w : World} {a : Option Addr} {len cap : Nat} {xs : List α} (r : Row R sz K w a len cap xs) : len ≤ 17592186044416 := r.hsz
end Go.Proofs.Ytonbmijhbbodnaa
