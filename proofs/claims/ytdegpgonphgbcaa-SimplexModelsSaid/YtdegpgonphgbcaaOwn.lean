/-
  Lists, and lists of lists, in blocks that a call owns: every block of such a list belongs to one place of it alone. Small laws, no program in sight.
-/
import Derived.Test.YtdegpgonphgbcaaMem
namespace Go.Proofs.Ytdegpgonphgbcaa
open Go.RowKit

/-- R w fp v x: the value v stands for x, its blocks are among fp, and may be written. -/
abbrev Ow (α : Type) := World → (Nat → Prop) → Value → α → Prop
def OInt : Ow Int := fun _ _ v z => v = .int .i64 z ∧ -9223372036854775808 ≤ z ∧ z ≤ 9223372036854775807
def OBool : Ow Bool := fun _ _ v z => v = .bool z
structure OwnAt {α : Type} (R : Ow α) (t : TypeId) (w : World) (fp : Nat → Prop) (b cap : Nat) (vs sp : List Value) (fps : Nat → Nat → Prop) (xs : List α) : Prop where
  blk : Blk w b t (vs ++ sp)
  hlen : vs.length = xs.length
  hcap : cap = xs.length + sp.length
  hmax : cap ≤ 9223372036854775807
  hsz : xs.length ≤ 17592186044416
  own : fp b
  row : ∀ i x, xs[i]? = some x → ∃ u, vs[i]? = some u ∧ R w (fps i) u x
  sub : ∀ i k, i < xs.length → fps i k → fp k ∧ k ≠ b ∧ k < w.heap.size
  apart : ∀ i j k, i < xs.length → j < xs.length → fps i k → fps j k → i = j
def OwnRow {α : Type} (R : Ow α) (t : TypeId) : Ow (List α) := fun w fp v xs =>
  (v = .slice none 0 0 ∧ xs = []) ∨ ∃ b cap vs sp fps, v = .slice (some ⟨b, 0, none⟩) xs.length cap ∧ OwnAt R t w fp b cap vs sp fps xs
abbrev OInts := OwnRow OInt 3
abbrev OMat := OwnRow OInts 22

def Ge (B : Nat) (k : Nat) : Prop := B ≤ k
def Local {α : Type} (R : Ow α) : Prop := ∀ (w w' : World) (fp : Nat → Prop) (v : Value) (x : α), (∀ k, fp k → k < w.heap.size → w'.heap[k]? = w.heap[k]?) → w.heap.size ≤ w'.heap.size → R w fp v x → R w' fp v x
def Wid {α : Type} (R : Ow α) : Prop := ∀ (w : World) (fp fp' : Nat → Prop) (v : Value) (x : α), (∀ k, fp k → fp' k) → R w fp v x → R w fp' v x
theorem OInt.loc : Local OInt := fun _ _ _ _ _ _ _ h => h
theorem OInt.wid : Wid OInt := fun _ _ _ _ _ _ h => h
theorem OwnAt.keeps {α : Type} {R : Ow α} (hR : Local R) {t : TypeId} {w w' : World} {fp : Nat → Prop} {b cap : Nat} {vs sp : List Value} {fps : Nat → Nat → Prop} {xs : List α} (h : ∀ k, fp k → k < w.heap.size → w'.heap[k]? = w.heap[k]?) (hs : w.heap.size ≤ w'.heap.size) (r : OwnAt R t w fp b cap vs sp fps xs) : OwnAt R t w' fp b cap vs sp fps xs :=
  ⟨r.blk.of (h b r.own r.blk.lt), r.hlen, r.hcap, r.hmax, r.hsz, r.own,
   fun i x e => by
    obtain ⟨u, hu, hr⟩ := r.row i x e
    exact ⟨u, hu, hR w w' _ u x (fun k hk hl => h k (r.sub i k (List.getElem?_eq_some_iff.1 e).1 hk).1 hl) hs hr⟩,
   fun i k hi hk => by have := r.sub i k hi hk; exact ⟨this.1, this.2.1, by omega⟩, r.apart⟩
theorem OwnRow.loc {α : Type} {R : Ow α} (hR : Local R) (t : TypeId) : Local (OwnRow R t) := fun w w' fp v x h hs r => by
  rcases r with r | ⟨b, cap, vs, sp, fps, hv, r⟩
  · exact .inl r
  · exact .inr ⟨b, cap, vs, sp, fps, hv, r.keeps hR h hs⟩
theorem OwnRow.wid {α : Type} {R : Ow α} (t : TypeId) : Wid (OwnRow R t) := fun w fp fp' v x h r => by
  rcases r with r | ⟨b, cap, vs, sp, fps, hv, r⟩
  · exact .inl r
  · exact .inr ⟨b, cap, vs, sp, fps, hv, r.blk, r.hlen, r.hcap, r.hmax, r.hsz, h _ r.own, r.row, fun i k hi hk => ⟨h _ (r.sub i k hi hk).1, (r.sub i k hi hk).2⟩, r.apart⟩
theorem OInts.loc : Local OInts := OwnRow.loc OInt.loc _
theorem OMat.loc : Local OMat := OwnRow.loc OInts.loc _
theorem Local.chg {α : Type} {R : Ow α} (hR : Local R) {M : Nat → Prop} {w w' : World} {fp : Nat → Prop} {v : Value} {x : α} (r : R w fp v x) (h : Chg M w w') (hM : ∀ k, fp k → k < w.heap.size → ¬ M k) : R w' fp v x :=
  hR w w' fp v x (fun k hk hl => h.block k hl (hM k hk hl)) h.size r
theorem Local.below {α : Type} {R : Ow α} (hR : Local R) {w w' : World} {fp : Nat → Prop} {v : Value} {x : α} (r : R w fp v x) (h : Below w.heap.size w w') : R w' fp v x :=
  hR w w' fp v x (fun k _ hl => h.block k hl) h.size r

/-- What is owned is read. -/
def Reads {α : Type} (R : Ow α) (Q : Rd α) : Prop := ∀ (w : World) (fp K : Nat → Prop) (v : Value) (x : α) (b o : Nat), (∀ k, fp k → K k) → w.cell? ⟨b, o, none⟩ = some v → R w fp v x → Q K w b o x
theorem OInt.reads : Reads OInt RInt := fun _ _ _ _ _ _ _ _ hc h => ⟨h.1 ▸ hc, h.2⟩
theorem OwnAt.read {α : Type} {R : Ow α} {Q : Rd α} (hR : Reads R Q) {t : TypeId} {w : World} {fp K : Nat → Prop} {b cap : Nat} {vs sp : List Value} {fps : Nat → Nat → Prop} {xs : List α} (hK : ∀ k, fp k → K k) (r : OwnAt R t w fp b cap vs sp fps xs) : Row Q 1 K w (some ⟨b, 0, none⟩) xs.length cap xs :=
  ⟨rfl, by have := r.hcap; omega, r.hmax, r.hsz, fun i x e => by
    obtain ⟨u, hu, hr⟩ := r.row i x e
    have hi := (List.getElem?_eq_some_iff.1 e).1
    refine ⟨b, 0, rfl, hK _ r.own, r.blk.lt, hR w (fps i) K u x b _ (fun k hk => hK _ (r.sub i k hi hk).1) (r.blk.cell ?_) hr⟩
    rw [Nat.zero_add, Nat.mul_one, List.getElem?_append_left (by rw [r.hlen]; exact hi)]
    exact hu⟩
theorem OwnRow.read {α : Type} {R : Ow α} {Q : Rd α} (hR : Reads R Q) {t : TypeId} {w : World} {fp K : Nat → Prop} {a : Option Addr} {len cap : Nat} {xs : List α} (hK : ∀ k, fp k → K k) (r : OwnRow R t w fp (.slice a len cap) xs) : Row Q 1 K w a len cap xs := by
  rcases r with ⟨hv, rfl⟩ | ⟨b, cap', vs, sp, fps, hv, r⟩
  · cases hv; exact Row.nil Q 1 K w _ (by decide)
  · cases hv; exact r.read hR hK
theorem OwnRow.form {α : Type} {R : Ow α} {t : TypeId} {w : World} {fp : Nat → Prop} {v : Value} {xs : List α} (r : OwnRow R t w fp v xs) : ∃ a cap, v = .slice a xs.length cap := by
  rcases r with ⟨hv, rfl⟩ | ⟨b, cap', vs, sp, fps, hv, r⟩
  · exact ⟨_, _, hv⟩
  · exact ⟨_, _, hv⟩
theorem OwnRow.reads {α : Type} {R : Ow α} {Q : Rd α} (hR : Reads R Q) (t : TypeId) : Reads (OwnRow R t) (RSl Q 1) := fun w fp K v x b o hK hc r => by
  obtain ⟨a, cap, rfl⟩ := r.form
  exact ⟨a, _, cap, hc, r.read hR hK⟩
theorem OInts.read {w : World} {fp K : Nat → Prop} {a : Option Addr} {len cap : Nat} {xs : List Int} (hK : ∀ k, fp k → K k) (r : OInts w fp (.slice a len cap) xs) : Ints K w a len cap xs := OwnRow.read OInt.reads hK r
theorem OMat.read {w : World} {fp K : Nat → Prop} {a : Option Addr} {len cap : Nat} {xs : List (List Int)} (hK : ∀ k, fp k → K k) (r : OMat w fp (.slice a len cap) xs) : Mat K w a len cap xs := OwnRow.read (OwnRow.reads OInt.reads _) hK r

/-- The element at i was changed in place, in its own blocks alone. -/
theorem OwnAt.inner {α : Type} {R : Ow α} (hR : Local R) {t : TypeId} {w w' : World} {fp : Nat → Prop} {b cap : Nat} {vs sp : List Value} {fps : Nat → Nat → Prop} {xs : List α} (r : OwnAt R t w fp b cap vs sp fps xs)
    {i : Nat} (hi : i < xs.length) {u : Value} (hu : vs[i]? = some u) {x : α} (h : Chg (fps i) w w') (hx : R w' (fps i) u x) : OwnAt R t w' fp b cap vs sp fps (xs.set i x) := by
  have hb : ¬ fps i b := fun hk => (r.sub i b hi hk).2.1 rfl
  refine ⟨r.blk.chg h hb, by rw [List.length_set]; exact r.hlen, by rw [List.length_set]; exact r.hcap, r.hmax, by rw [List.length_set]; exact r.hsz, r.own, fun j y hj => ?_, fun j k hj hk => ?_, fun j l k hj hl => r.apart j l k (by rwa [List.length_set] at hj) (by rwa [List.length_set] at hl)⟩
  · rw [List.getElem?_set] at hj
    by_cases e : i = j
    · subst e
      rw [if_pos rfl, if_pos hi] at hj
      cases hj
      exact ⟨u, hu, hx⟩
    · rw [if_neg e] at hj
      have hjl := (List.getElem?_eq_some_iff.1 hj).1
      obtain ⟨v, hv, hr⟩ := r.row j y hj
      exact ⟨v, hv, hR.chg hr h fun k hk _ hm => e (r.apart i j k hi hjl hm hk)⟩
  · have := r.sub j k (by rwa [List.length_set] at hj) hk
    exact ⟨this.1, this.2.1, by have := h.size; omega⟩
/-- The element at i is overwritten by a value that stands for x. -/
theorem OwnAt.put {α : Type} {R : Ow α} (hR : Local R) {t : TypeId} {w : World} {fp f : Nat → Prop} {b cap : Nat} {vs sp : List Value} {fps : Nat → Nat → Prop} {xs : List α} (r : OwnAt R t w fp b cap vs sp fps xs)
    {i : Nat} (hi : i < xs.length) {u : Value} {x : α} (hx : R w f u x) (hf : ∀ k, f k → fp k ∧ k ≠ b ∧ k < w.heap.size ∧ ∀ j, j < xs.length → j ≠ i → ¬ fps j k) :
    OwnAt R t (w.setCell ⟨b, i, none⟩ u) fp b cap (vs.set i u) sp (fun j => if j = i then f else fps j) (xs.set i x) := by
  have hc : Chg (fun k => k = b) w (w.setCell ⟨b, i, none⟩ u) := Chg.setCell (M := fun k => k = b) (Chg.refl w) (fun _ => rfl) u
  refine ⟨(r.blk.set i u).at (by rw [List.set_append_left _ _ (by rw [r.hlen]; exact hi)]), by simp only [List.length_set]; exact r.hlen, by rw [List.length_set]; exact r.hcap, r.hmax, by rw [List.length_set]; exact r.hsz, r.own, fun j y hj => ?_, fun j k hj hk => ?_, fun j l k hj hl h1 h2 => ?_⟩
  · rw [List.getElem?_set] at hj
    by_cases e : i = j
    · subst e
      rw [if_pos rfl, if_pos hi] at hj
      cases hj
      refine ⟨u, by rw [List.getElem?_set_self (by rw [r.hlen]; exact hi)], ?_⟩
      simp only [if_true]
      exact hR.chg hx hc fun k hk _ hm => (hf k hk).2.1 hm
    · rw [if_neg e] at hj
      have hjl := (List.getElem?_eq_some_iff.1 hj).1
      obtain ⟨v, hv, hr⟩ := r.row j y hj
      refine ⟨v, by rw [List.getElem?_set_ne e]; exact hv, ?_⟩
      rw [if_neg (fun h => e h.symm)]
      exact hR.chg hr hc fun k hk _ hm => (r.sub j k hjl hk).2.1 hm
  · simp only [List.length_set] at hj
    rw [World.size_setCell]
    split at hk
    · have := hf k hk; exact ⟨this.1, this.2.1, this.2.2.1⟩
    · exact r.sub j k hj hk
  · simp only [List.length_set] at hj hl
    split at h1 <;> split at h2
    · omega
    · exact absurd h2 ((hf k h1).2.2.2 l hl (by assumption))
    · exact absurd h1 ((hf k h2).2.2.2 j hj (by assumption))
    · exact r.apart j l k hj hl h1 h2
end Go.Proofs.Ytdegpgonphgbcaa
