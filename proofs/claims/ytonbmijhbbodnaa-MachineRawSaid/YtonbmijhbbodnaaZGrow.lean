/-
  Lists that are built by append, element by element, in memory that the call makes. Small laws.
  append of one element, the length given by name.
  Flat lists under construction (bytes, instructions): owned rows of cells; what they read as. Small laws.
-/
import Derived.Test.YtonbmijhbbodnaaZOwn
import Derived.Test.YtonbmijhbbodnaaZInA
namespace Go.Proofs.Ytonbmijhbbodnaa
open Go.RowKit

/-- The slice v has the elements vs, which stand for xs; all of it lies in blocks from B to N, each of one element alone. -/
structure Grw {α : Type} (R : Ow α) (t : TypeId) (w : World) (B N : Nat) (v : Value) (vs : List Value) (fps : Nat → Nat → Prop) (xs : List α) : Prop where
  owns : w.ownsRow B t 1 v xs.length vs
  row : ∀ i x, xs[i]? = some x → ∃ u, vs[i]? = some u ∧ R w (fps i) u x
  sub : ∀ i k, i < xs.length → fps i k → B ≤ k ∧ k < N ∧ v.ownBlock ≠ some k
  apart : ∀ i j k, i < xs.length → j < xs.length → fps i k → fps j k → i = j
  own : ∀ k, v.ownBlock = some k → B ≤ k ∧ k < N
  hB : B ≤ N
  hN : N ≤ w.heap.size

theorem Grw.nil {α : Type} (R : Ow α) (t : TypeId) (w : World) (B : Nat) (h : B ≤ w.heap.size) : Grw R t w B B (.slice none 0 0) [] (fun _ _ => False) [] :=
  ⟨World.ownsRow_nil w B t 1, fun i x h => by simp at h, fun _ _ _ h => h.elim, fun _ _ _ _ _ h => h.elim, fun k h => by simp [Value.ownBlock] at h, Nat.le_refl _, h⟩
theorem ownsRow_of {w w' : World} {base : Nat} {e : TypeId} {size : Nat} {v : Value} {n : Nat} {xs : List Value} (h : w.ownsRow base e size v n xs) (hb : ∀ k, v.ownBlock = some k → w'.heap[k]? = w.heap[k]?) : w'.ownsRow base e size v n xs := by
  refine ⟨h.1, ?_⟩
  rcases h.2 with hn | ⟨g, cap, cur, rfl, hbg, hg, rest⟩
  · exact .inl hn
  · exact .inr ⟨g, cap, cur, rfl, hbg, (hb g rfl).trans hg, rest⟩
theorem Grw.keeps {α : Type} {R : Ow α} (hR : Local R) {t : TypeId} {w w' : World} {B N : Nat} {v : Value} {vs : List Value} {fps : Nat → Nat → Prop} {xs : List α} (r : Grw R t w B N v vs fps xs)
    (h : ∀ k, B ≤ k → k < N → w'.heap[k]? = w.heap[k]?) (hs : w.heap.size ≤ w'.heap.size) : Grw R t w' B N v vs fps xs :=
  ⟨ownsRow_of r.owns fun k hk => h k (r.own k hk).1 (r.own k hk).2,
   fun i x e => by
    obtain ⟨u, hu, hr⟩ := r.row i x e
    exact ⟨u, hu, hR w w' _ u x (fun k hk _ => h k (r.sub i k (List.getElem?_eq_some_iff.1 e).1 hk).1 (r.sub i k (List.getElem?_eq_some_iff.1 e).1 hk).2.1) hs hr⟩,
   r.sub, r.apart, r.own, r.hB, Nat.le_trans r.hN hs⟩
theorem Grw.chg {α : Type} {R : Ow α} (hR : Local R) {M : Nat → Prop} {t : TypeId} {w w' : World} {B N : Nat} {v : Value} {vs : List Value} {fps : Nat → Nat → Prop} {xs : List α} (r : Grw R t w B N v vs fps xs)
    (h : Chg M w w') (hM : ∀ k, B ≤ k → k < N → ¬ M k) : Grw R t w' B N v vs fps xs := r.keeps hR (fun k h1 h2 => h.block k (by have := r.hN; omega) (hM k h1 h2)) h.size
theorem Grw.below {α : Type} {R : Ow α} (hR : Local R) {t : TypeId} {w w' : World} {B N : Nat} {v : Value} {vs : List Value} {fps : Nat → Nat → Prop} {xs : List α} (r : Grw R t w B N v vs fps xs)
    (h : Below w.heap.size w w') : Grw R t w' B N v vs fps xs := r.keeps hR (fun k _ h2 => h.block k (by have := r.hN; omega)) h.size
theorem Grw.alloc {α : Type} {R : Ow α} (hR : Local R) {t : TypeId} {w : World} {B N : Nat} {v : Value} {vs : List Value} {fps : Nat → Nat → Prop} {xs : List α} (r : Grw R t w B N v vs fps xs) (o : Obj) : Grw R t (w.alloc o) B N v vs fps xs :=
  r.below hR ((Below.refl _ _).alloc (Nat.le_refl _) _)
/-- Behind an append of one element u that stands for x and lies in blocks from N on. -/
theorem Grw.more {α : Type} {R : Ow α} (hR : Local R) {t : TypeId} {w w' : World} {B N : Nat} {v : Value} {vs : List Value} {fps : Nat → Nat → Prop} {xs : List α} (r : Grw R t w B N v vs fps xs)
    {f : Nat → Prop} {u : Value} {x : α} (hx : R w f u x) (hf : ∀ k, f k → N ≤ k ∧ k < w.heap.size) {g cap : Nat}
    (hown : w'.ownsRow B t 1 (.slice (some ⟨g, 0, none⟩) (xs.length + 1) cap) (xs.length + 1) (vs ++ [u])) (hgrow : w.grownBy w' v.ownBlock) (hat : v.ownBlock = some g ∨ g = w.heap.size) (hlt : g < w'.heap.size) :
    Grw R t w' B w'.heap.size (.slice (some ⟨g, 0, none⟩) (xs.length + 1) cap) (vs ++ [u]) (fun i => if i < xs.length then fps i else f) (xs ++ [x]) := by
  have hvl : vs.length = xs.length := by have := r.owns.1; omega
  have hB := r.hB; have hN := r.hN
  have hkeep : ∀ k, k < w.heap.size → v.ownBlock ≠ some k → w'.heap[k]? = w.heap[k]? := fun k h1 h2 => hgrow.block k h1 (fun e => h2 e.symm)
  have hgB : B ≤ g := (hown.lt g rfl).1
  refine ⟨by rw [List.length_append]; exact hown, fun i y e => ?_, fun i k hi hk => ?_, fun i j k hi hj h1 h2 => ?_, fun k hk => ?_, by have := hgrow.size; omega, Nat.le_refl _⟩
  · rcases Nat.lt_or_ge i xs.length with hi | hi
    · rw [List.getElem?_append_left hi] at e
      obtain ⟨z, hz, hr⟩ := r.row i y e
      refine ⟨z, by rw [List.getElem?_append_left (by omega)]; exact hz, ?_⟩
      simp only [hi, if_true]
      exact hR w w' _ z y (fun k hk _ => hkeep k (by have := r.sub i k hi hk; omega) (r.sub i k hi hk).2.2) hgrow.size hr
    · have hl := (List.getElem?_eq_some_iff.1 e).1
      rw [List.length_append, List.length_singleton] at hl
      obtain rfl : i = xs.length := by omega
      rw [List.getElem?_append_right (Nat.le_refl _)] at e
      simp at e
      subst e
      refine ⟨u, by rw [List.getElem?_append_right (by omega)]; simp [hvl], ?_⟩
      simp only [Nat.lt_irrefl, if_false]
      refine hR w w' _ u x (fun k hk _ => hkeep k (hf k hk).2 (fun e => ?_)) hgrow.size hx
      have := r.own k e; have := hf k hk; omega
  · rw [List.length_append, List.length_singleton] at hi
    have hne : ∀ k, k < w.heap.size → v.ownBlock ≠ some k → (Value.slice (some ⟨g, 0, none⟩) (xs.length + 1) cap).ownBlock ≠ some k := fun k h1 h2 e => by
      simp [Value.ownBlock] at e
      subst e
      rcases hat with h | h
      · exact h2 h
      · omega
    split at hk
    · have := r.sub i k (by assumption) hk
      exact ⟨this.1, by have := hgrow.size; omega, hne k (by omega) this.2.2⟩
    · have := hf k hk
      exact ⟨by omega, by have := hgrow.size; omega, hne k this.2 (fun e => by have := r.own k e; omega)⟩
  · rw [List.length_append, List.length_singleton] at hi hj
    split at h1 <;> split at h2
    · exact r.apart i j k (by assumption) (by assumption) h1 h2
    · have := r.sub i k (by assumption) h1; have := hf k h2; omega
    · have := r.sub j k (by assumption) h2; have := hf k h1; omega
    · omega
  · simp [Value.ownBlock] at hk
    subst hk
    exact ⟨hgB, hlt⟩
theorem Grw.done {α : Type} {R : Ow α} {t : TypeId} {w : World} {B N : Nat} {v : Value} {vs : List Value} {fps : Nat → Nat → Prop} {xs : List α} (r : Grw R t w B N v vs fps xs) (hl : xs.length ≤ 17592186044416) : OwnRow R t w (Ge B) v xs := by
  obtain ⟨h1, h2⟩ := r.owns
  rcases h2 with ⟨h2, h3⟩ | ⟨g, cap, cur, rfl, hg, hb, hn, hm, hs, ht⟩
  · exact .inl ⟨h2, List.eq_nil_of_length_eq_zero h3⟩
  · rw [Nat.mul_one] at h1 hs ht
    have e : cur = (vs ++ cur.toList.drop xs.length).toArray := by rw [← ht, List.take_append_drop, Array.toArray_toList]
    refine .inr ⟨g, cap, vs, cur.toList.drop xs.length, fps, rfl, ⟨by rw [Blk, ← e]; exact hb, h1, by have e2 : cur.toList.length = cur.size := Array.length_toList; rw [List.length_drop]; omega, by unfold maxLen at hm; omega, hl, hg, r.row, fun i k hi hk => ?_, r.apart⟩⟩
    have := r.sub i k hi hk
    exact ⟨this.1, fun e => this.2.2 (by rw [e]; rfl), by have := r.hN; omega⟩

def Bt (B C k : Nat) : Prop := B ≤ k ∧ k < C
theorem OwnRow.bt1 {α : Type} {R : Ow α} {t : TypeId} {w : World} {B : Nat} {v : Value} {xs : List α} (h : OwnRow R t w (Ge B) v xs) : OwnRow R t w (Bt B w.heap.size) v xs := by
  rcases h with h | ⟨b, cap, vs, sp, fps, hv, r⟩
  · exact .inl h
  · exact .inr ⟨b, cap, vs, sp, fps, hv, r.blk, r.hlen, r.hcap, r.hmax, r.hsz, ⟨r.own, r.blk.lt⟩, r.row, fun i k hi hk => ⟨⟨(r.sub i k hi hk).1, (r.sub i k hi hk).2.2⟩, (r.sub i k hi hk).2⟩, r.apart⟩
theorem Grw.form {α : Type} {R : Ow α} {t : TypeId} {w : World} {B N : Nat} {v : Value} {vs : List Value} {fps : Nat → Nat → Prop} {xs : List α} (r : Grw R t w B N v vs fps xs) {n : Nat} (h : xs.length = n) : ∃ a cap, v = .slice a n cap := by
  subst h
  rcases r.owns.2 with ⟨h2, h3⟩ | ⟨g, cap, cur, h2, _⟩
  · exact ⟨none, 0, by rw [h2, h3]⟩
  · exact ⟨_, _, h2⟩
/-- The new cell of 'append(l, x)'. -/
theorem news_one {w : World} {B : Nat} {u : Value} {t : TypeId} (h : Blk w B t [u]) : ∀ j v, [u][j]? = some v → w.cell? ((⟨B, 0, none⟩ : Addr).add j) = some v := World.news_of_block (cs := #[u]) h
theorem Grw.read {α : Type} {R : Ow α} {Q : Rd α} (hR : Reads R Q) {t : TypeId} {w : World} {B N : Nat} {a : Option Addr} {len cap : Nat} {vs : List Value} {fps : Nat → Nat → Prop} {xs : List α} {K : Nat → Prop} (r : Grw R t w B N (.slice a len cap) vs fps xs) (hl : xs.length ≤ 17592186044416) (hK : ∀ k, B ≤ k → K k) : Row Q 1 K w a len cap xs :=
  OwnRow.read hR (fun k hk => hK k hk) (r.done hl)
theorem Chg.of_grown {w w' : World} {row : Option Nat} (h : w.grownBy w' row) : Chg (fun k => row = some k) w w' := ⟨h.os, h.tape, h.output, h.size, fun k hk hm => h.block k hk (fun e => hm e.symm)⟩
/-- What an append of one element leaves. -/
structure Appended {α : Type} (R : Ow α) (t : TypeId) (B : Nat) (v : Value) (vs : List Value) (fps : Nat → Nat → Prop) (xs : List α) (u : Value) (x : α) (f : Nat → Prop) (w w' : World) (v' : Value) : Prop where
  grw : Grw R t w' B w'.heap.size v' (vs ++ [u]) (fun i => if i < xs.length then fps i else f) (xs ++ [x])
  chg : Chg (fun k => v.ownBlock = some k) w w'
theorem append_parts {P : Program} {e : TypeId} {z : Value} {bytes : Nat} (hinfo : (P.info? e).map (fun i => (i.zero, i.size, i.bytes)) = some (some z, 1, bytes)) : ∃ i, P.info? e = some i ∧ i.zero = some z ∧ i.size = 1 ∧ i.bytes = bytes := by
  obtain ⟨i, hi, hzz⟩ := Option.map_eq_some_iff.1 hinfo
  simp only [Prod.mk.injEq] at hzz
  exact ⟨i, hi, hzz⟩
theorem wpList_append_grw {P : Program} {w : World} {ops : Array Oper} {rest : List Oper} {o : Oper} {a : Act} {Q : Exit → Act → World → Prop} (hgd : o.guard = none) (s y : Operand) (t : TypeId)
    (ho : o.op = .call { callee := .builtin .append, args := #[s, y], argTypes := #[t, t] }) (e : TypeId) (ht : P.underlying t = some (.slice e)) {z : Value} {bytes : Nat} (hinfo : (P.info? e).map (fun i => (i.zero, i.size, i.bytes)) = some (some z, 1, bytes)) (hz : z.cells.size = 1)
    {α : Type} {R : Ow α} (hR : Local R) {B N : Nat} {v : Value} {vs : List Value} {fps : Nat → Nat → Prop} {xs : List α} (r : Grw R e w B N v vs fps xs) (hs : a.eval s = v)
    (ab : Nat) (u : Value) (t' : TypeId) (hb : Blk w ab t' [u]) (hy : a.eval y = .slice (some ⟨ab, 0, none⟩) 1 1) {f : Nat → Prop} {x : α} (hx : R w f u x) (hf : ∀ k, f k → N ≤ k ∧ k < w.heap.size) (h1 : u.oneCell' = true)
    (h63 : xs.length < 1000000) (hby : bytes ≤ 1000)
    (h : ∀ g cap w', Hid (Appended R e B v vs fps xs u x f w w' (.slice (some ⟨g, 0, none⟩) (xs.length + 1) cap)) → wpList P ops Q rest (a.put o.dst (.slice (some ⟨g, 0, none⟩) (xs.length + 1) cap)) w') : wpList P ops Q (o :: rest) a w := by
  obtain ⟨i, hi, hz0, hz1, hz2⟩ := append_parts hinfo
  refine wpList_append_lies w hgd s y t ho B e i z 1 bytes ht hi hz0 hz1 hz2 hz (by omega) v xs.length vs hs r.owns ⟨ab, 0, none⟩ 1 1 [u] hy rfl (news_one hb) (fun u' hu' => by simp at hu'; subst hu'; exact h1) (by omega) (by unfold maxLen; omega) ?_ (by have := r.hB; have := r.hN; omega) w.heap.size rfl ?_
  · exact Nat.le_trans (Nat.mul_le_mul (show xs.length + 1 ≤ 1000000 by omega) hby) (by decide)
  · intro g cap w' hown hgrow hat hlt
    exact h g cap w' ⟨r.more hR hx hf hown hgrow hat hlt, Chg.of_grown hgrow⟩
theorem step_append_grw {P : Program} {ops : Array Oper} {o : Oper} {a : Act} {w : World} {K : Act → World → Prop} {Q : Exit → Act → World → Prop} {E : Prop} (hgd : o.guard = none) (s y : Operand) (t : TypeId)
    (ho : o.op = .call { callee := .builtin .append, args := #[s, y], argTypes := #[t, t] }) (e : TypeId) (ht : P.underlying t = some (.slice e)) {z : Value} {bytes : Nat} (hinfo : (P.info? e).map (fun i => (i.zero, i.size, i.bytes)) = some (some z, 1, bytes)) (hz : z.cells.size = 1)
    {α : Type} {R : Ow α} (hR : Local R) {B N : Nat} {v : Value} {vs : List Value} {fps : Nat → Nat → Prop} {xs : List α} (r : Grw R e w B N v vs fps xs) (hs : a.eval s = v)
    (ab : Nat) (u : Value) (t' : TypeId) (hb : Blk w ab t' [u]) (hy : a.eval y = .slice (some ⟨ab, 0, none⟩) 1 1) {f : Nat → Prop} {x : α} (hx : R w f u x) (hf : ∀ k, f k → N ≤ k ∧ k < w.heap.size) (h1 : u.oneCell' = true)
    (h63 : xs.length < 1000000) (hby : bytes ≤ 1000)
    (h : ∀ g cap w', Hid (Appended R e B v vs fps xs u x f w w' (.slice (some ⟨g, 0, none⟩) (xs.length + 1) cap)) → K (a.put o.dst (.slice (some ⟨g, 0, none⟩) (xs.length + 1) cap)) w') :
    if Region.wanted o (yielded ops a.tmps) = true then Oper.wp P o a w K Q else E := by
  obtain ⟨i, hi, hz0, hz1, hz2⟩ := append_parts hinfo
  refine step_append_lies w hgd s y t ho B e i z 1 bytes ht hi hz0 hz1 hz2 hz (by omega) v xs.length vs hs r.owns ⟨ab, 0, none⟩ 1 1 [u] hy rfl (news_one hb) (fun u' hu' => by simp at hu'; subst hu'; exact h1) (by omega) (by unfold maxLen; omega) ?_ (by have := r.hB; have := r.hN; omega) w.heap.size rfl ?_
  · exact Nat.le_trans (Nat.mul_le_mul (show xs.length + 1 ≤ 1000000 by omega) hby) (by decide)
  · intro g cap w' hown hgrow hat hlt
    exact h g cap w' ⟨r.more hR hx hf hown hgrow hat hlt, Chg.of_grown hgrow⟩

theorem wpList_append_n {P : Program} {w : World} {ops : Array Oper} {rest : List Oper} {o : Oper} {a : Act} {Q : Exit → Act → World → Prop} (n : Nat) (hgd : o.guard = none) (s y : Operand) (t : TypeId)
    (ho : o.op = .call { callee := .builtin .append, args := #[s, y], argTypes := #[t, t] }) (e : TypeId) (ht : P.underlying t = some (.slice e)) {z : Value} {bytes : Nat} (hinfo : (P.info? e).map (fun i => (i.zero, i.size, i.bytes)) = some (some z, 1, bytes)) (hz : z.cells.size = 1)
    {α : Type} {R : Ow α} (hR : Local R) {B N : Nat} {v : Value} {vs : List Value} {fps : Nat → Nat → Prop} {xs : List α} (r : Grw R e w B N v vs fps xs) (hs : a.eval s = v)
    (ab : Nat) (u : Value) (t' : TypeId) (hb : Blk w ab t' [u]) (hy : a.eval y = .slice (some ⟨ab, 0, none⟩) 1 1) {f : Nat → Prop} {x : α} (hx : R w f u x) (hf : ∀ k, f k → N ≤ k ∧ k < w.heap.size) (h1 : u.oneCell' = true)
    (hn : xs.length = n) (h63 : n < 1000000) (hby : bytes ≤ 1000)
    (h : ∀ g cap w', Hid (Appended R e B v vs fps xs u x f w w' (.slice (some ⟨g, 0, none⟩) (n + 1) cap)) → wpList P ops Q rest (a.put o.dst (.slice (some ⟨g, 0, none⟩) (n + 1) cap)) w') : wpList P ops Q (o :: rest) a w := by
  subst hn
  exact wpList_append_grw hgd s y t ho e ht hinfo hz hR r hs ab u t' hb hy hx hf h1 h63 hby h
theorem step_append_n {P : Program} {ops : Array Oper} {o : Oper} {a : Act} {w : World} {K : Act → World → Prop} {Q : Exit → Act → World → Prop} {E : Prop} (n : Nat) (hgd : o.guard = none) (s y : Operand) (t : TypeId)
    (ho : o.op = .call { callee := .builtin .append, args := #[s, y], argTypes := #[t, t] }) (e : TypeId) (ht : P.underlying t = some (.slice e)) {z : Value} {bytes : Nat} (hinfo : (P.info? e).map (fun i => (i.zero, i.size, i.bytes)) = some (some z, 1, bytes)) (hz : z.cells.size = 1)
    {α : Type} {R : Ow α} (hR : Local R) {B N : Nat} {v : Value} {vs : List Value} {fps : Nat → Nat → Prop} {xs : List α} (r : Grw R e w B N v vs fps xs) (hs : a.eval s = v)
    (ab : Nat) (u : Value) (t' : TypeId) (hb : Blk w ab t' [u]) (hy : a.eval y = .slice (some ⟨ab, 0, none⟩) 1 1) {f : Nat → Prop} {x : α} (hx : R w f u x) (hf : ∀ k, f k → N ≤ k ∧ k < w.heap.size) (h1 : u.oneCell' = true)
    (hn : xs.length = n) (h63 : n < 1000000) (hby : bytes ≤ 1000)
    (h : ∀ g cap w', Hid (Appended R e B v vs fps xs u x f w w' (.slice (some ⟨g, 0, none⟩) (n + 1) cap)) → K (a.put o.dst (.slice (some ⟨g, 0, none⟩) (n + 1) cap)) w') :
    if Region.wanted o (yielded ops a.tmps) = true then Oper.wp P o a w K Q else E := by
  subst hn
  exact step_append_grw hgd s y t ho e ht hinfo hz hR r hs ab u t' hb hy hx hf h1 h63 hby h
/-- From w to w' only the own block of v and what was made since B has changed. -/
theorem Appended.non {α : Type} {R : Ow α} {t : TypeId} {B N : Nat} {v : Value} {vs : List Value} {fps : Nat → Nat → Prop} {xs : List α} {u : Value} {x : α} {f : Nat → Prop} {w w' w0 : World} {v' : Value} (h : Appended R t B v vs fps xs u x f w w' v') (r : Grw R t w B N v vs fps xs)
    (h0 : Chg Non w0 w) (hB : w0.heap.size ≤ B) : Chg Non w0 w' := h0.trans h.chg (fun k hk e => by have := (r.own k e).1; omega)
theorem Appended.chg' {α : Type} {R : Ow α} {t : TypeId} {B N : Nat} {v : Value} {vs : List Value} {fps : Nat → Nat → Prop} {xs : List α} {u : Value} {x : α} {f : Nat → Prop} {w w' w0 : World} {v' : Value} {M : Nat → Prop} (h : Appended R t B v vs fps xs u x f w w' v') (r : Grw R t w B N v vs fps xs)
    (h0 : Chg M w0 w) (hB : ∀ k, B ≤ k → k < w0.heap.size → M k) : Chg M w0 w' := h0.trans h.chg (fun k hk e => hB k (r.own k e).1 hk)

theorem flat_of {w w' : World} {B : Nat} {e : TypeId} {size : Nat} {v : Value} {n : Nat} {xs : List Value} (h : w.ownsRow B e size v n xs) {M : Nat → Prop} (hc : Chg M w w') (hM : ∀ k, B ≤ k → k < w.heap.size → ¬ M k) : w'.ownsRow B e size v n xs :=
  ownsRow_of h fun k hk => hc.block k (h.lt k hk).2 (hM k (h.lt k hk).1 (h.lt k hk).2)
theorem flat_below {w w' : World} {B : Nat} {e : TypeId} {size : Nat} {v : Value} {n : Nat} {xs : List Value} (h : w.ownsRow B e size v n xs) (hc : Below w.heap.size w w') : w'.ownsRow B e size v n xs :=
  ownsRow_of h fun k hk => hc.block k (h.lt k hk).2
theorem flat_ge {w : World} {B B' : Nat} {e : TypeId} {size : Nat} {v : Value} {n : Nat} {xs : List Value} (h : w.ownsRow B e size v n xs) (hB : B' ≤ B) : w.ownsRow B' e size v n xs := by
  refine ⟨h.1, ?_⟩
  rcases h.2 with hn | ⟨g, cap, cur, h1, h2, h3⟩
  · exact .inl hn
  · exact .inr ⟨g, cap, cur, h1, Nat.le_trans hB h2, h3⟩
theorem flat_form {w : World} {B : Nat} {e : TypeId} {size : Nat} {v : Value} {n : Nat} {xs : List Value} (h : w.ownsRow B e size v n xs) : ∃ a cap, v = .slice a n cap := by
  rcases h.2 with ⟨h1, h2⟩ | ⟨g, cap, cur, h1, _⟩
  · exact ⟨none, 0, by rw [h1, h2]⟩
  · exact ⟨_, _, h1⟩
/-- What an append of m elements leaves. -/
structure FApp (t : TypeId) (sz B : Nat) (v : Value) (n m : Nat) (cs news : List Value) (w w' : World) (v' : Value) : Prop where
  owns : w'.ownsRow B t sz v' (n + m) (cs ++ news)
  chg : Chg (fun k => v.ownBlock = some k) w w'
theorem wpList_append_flat {P : Program} {w : World} {ops : Array Oper} {rest : List Oper} {o : Oper} {a : Act} {Q : Exit → Act → World → Prop} (hgd : o.guard = none) (s y : Operand) (t : TypeId)
    (ho : o.op = .call { callee := .builtin .append, args := #[s, y], argTypes := #[t, t] }) (e : TypeId) (ht : P.underlying t = some (.slice e)) {z : Value} {sz bytes : Nat} (hinfo : (P.info? e).map (fun i => (i.zero, i.size, i.bytes)) = some (some z, sz, bytes)) (hz : z.cells.size = sz) (hsz : 0 < sz)
    {B : Nat} {v : Value} {n : Nat} {cs : List Value} (r : w.ownsRow B e sz v n cs) (hs : a.eval s = v) (hB : B ≤ w.heap.size)
    (ad : Addr) (m c : Nat) (news : List Value) (hy : a.eval y = .slice (some ad) m c) (hl : news.length = m * sz) (hnews : ∀ j u, news[j]? = some u → w.cell? (ad.add j) = some u) (h1 : ∀ u ∈ news, u.oneCell' = true)
    (hm : 0 < m) (h63 : n + m ≤ 1000000) (hby : bytes ≤ 1000)
    (h : ∀ g cap w', Hid (FApp e sz B v n m cs news w w' (.slice (some ⟨g, 0, none⟩) (n + m) cap)) → wpList P ops Q rest (a.put o.dst (.slice (some ⟨g, 0, none⟩) (n + m) cap)) w') : wpList P ops Q (o :: rest) a w := by
  obtain ⟨i, hi, hzz⟩ := Option.map_eq_some_iff.1 hinfo
  simp only [Prod.mk.injEq] at hzz
  refine wpList_append_lies w hgd s y t ho B e i z sz bytes ht hi hzz.1 hzz.2.1 hzz.2.2 hz hsz v n cs hs r ad m c news hy hl hnews h1 hm (by unfold maxLen; omega) (Nat.le_trans (Nat.mul_le_mul h63 hby) (by decide)) hB w.heap.size rfl ?_
  intro g cap w' hown hgrow _ _
  exact h g cap w' ⟨hown, Chg.of_grown hgrow⟩
/-- Behind an append only what was made since B has changed. -/
theorem FApp.non {t : TypeId} {sz B n m : Nat} {v v' : Value} {cs news : List Value} {w w' w0 : World} (h : FApp t sz B v n m cs news w w' v') (r : w.ownsRow B t sz v n cs) {M : Nat → Prop} (h0 : Chg M w0 w) (hB : w0.heap.size ≤ B) : Chg M w0 w' :=
  h0.trans h.chg (fun k hk e => by have := (r.lt k e).1; omega)

/-! ### Bytes -/
def bcs (l : List Int) : List Value := l.map (Value.int .u8)
theorem bcs_length (l : List Int) : (bcs l).length = l.length := List.length_map _
theorem bcs_append (l m : List Int) : bcs (l ++ m) = bcs l ++ bcs m := List.map_append
theorem bcs_get {l : List Int} {i : Nat} {z : Int} (h : l[i]? = some z) : (bcs l)[i]? = some (.int .u8 z) := by unfold bcs; rw [List.getElem?_map, h]; rfl
theorem bcs_one {l : List Int} : ∀ v ∈ bcs l, v.oneCell' = true := fun v h => by
  obtain ⟨z, _, rfl⟩ := List.mem_map.1 h; rfl
def Byt (l : List Int) : Prop := ∀ z ∈ l, 0 ≤ z ∧ z ≤ 255
theorem info_u8 : (Try.prog.info? 5).map (fun i => (i.zero, i.size, i.bytes)) = some (some (.int .u8 0), 1, 1) := by kernel_rfl
theorem info_ins : (Try.prog.info? 50).map (fun i => (i.zero, i.size, i.bytes)) = some (some (IV ⟨0, 0, 0, 0, 0, 0⟩), 6, 48) := by kernel_rfl
theorem flat_cells {w : World} {B : Nat} {e : TypeId} {size : Nat} {a : Option Addr} {n c k : Nat} {xs : List Value} (h : w.ownsRow B e size (.slice a n c) k xs) (hk : 0 < k) : ∃ g, a = some ⟨g, 0, none⟩ ∧ B ≤ g ∧ g < w.heap.size ∧ n = k ∧ n ≤ c ∧ c ≤ maxLen ∧ ∀ j v, xs[j]? = some v → w.cell? ⟨g, j, none⟩ = some v := by
  rcases h.2 with ⟨_, h2⟩ | ⟨g, cap, cur, h1, h2, h3, h4, h5, h6, h7⟩
  · omega
  · cases h1
    refine ⟨g, rfl, h2, (Array.getElem?_eq_some_iff.1 h3).1, rfl, h4, h5, fun j v hj => ?_⟩
    rw [cell_of_row w g j cur e (0, 0) h3]
    have : cur.toList[j]? = some v := by
      rw [← h7, List.getElem?_take] at hj
      split at hj
      · exact hj
      · cases hj
    simpa using this
theorem flat_len {w : World} {B : Nat} {e : TypeId} {size : Nat} {a : Option Addr} {n c k : Nat} {xs : List Value} (h : w.ownsRow B e size (.slice a n c) k xs) : n = k ∧ n ≤ c ∧ c ≤ maxLen := by
  rcases h.2 with ⟨h1, h2⟩ | ⟨g, cap, cur, h1, h2, h3, h4, h5, h6, h7⟩
  · cases h1; exact ⟨h2.symm, Nat.le_refl _, Nat.zero_le _⟩
  · cases h1; exact ⟨rfl, h4, h5⟩
theorem flat_bytes {w : World} {B : Nat} {K : Nat → Prop} {a : Option Addr} {n c k : Nat} {l : List Int} (h : w.ownsRow B 5 1 (.slice a n c) k (bcs l)) (hl : Byt l) (hm : k ≤ 1000000) (hK : ∀ j, B ≤ j → K j) : Bytes K w a n c l := by
  have hlen : l.length = k := by have := h.1; rw [bcs_length] at this; omega
  obtain ⟨h1, h2, h3⟩ := flat_len h
  refine ⟨by omega, h2, by unfold maxLen at h3; omega, by omega, fun i x hx => ?_⟩
  have hi := (List.getElem?_eq_some_iff.1 hx).1
  obtain ⟨g, rfl, g1, g2, _, _, _, hc⟩ := flat_cells h (by omega)
  refine ⟨g, 0, rfl, hK g g1, g2, ?_, hl x (List.mem_of_getElem? hx)⟩
  rw [Nat.zero_add, Nat.mul_one]
  exact hc i _ (bcs_get hx)

/-! ### Instructions -/
def ics (l : List Ins) : List Value := l.flatMap ICells
def RIns : Rd Ins := fun _ w b o x => (∀ i v, (ICells x)[i]? = some v → w.cell? ⟨b, o + i, none⟩ = some v) ∧ x.In
theorem RIns.stays : Stays RIns := fun _ _ _ _ _ _ h _ hK hr => ⟨fun i v e => cell_stays h hK (hr.1 i v e), hr.2⟩
abbrev InsL := Row RIns 6
theorem ics_length (l : List Ins) : (ics l).length = l.length * 6 := by
  induction l with
  | nil => rfl
  | cons x l ih => unfold ics at ih ⊢; rw [List.flatMap_cons, List.length_append, ih]; simp; omega
theorem ics_append (l m : List Ins) : ics (l ++ m) = ics l ++ ics m := by unfold ics; rw [List.flatMap_append]
theorem ics_one {l : List Ins} : ∀ v ∈ ics l, v.oneCell' = true := fun v h => by
  obtain ⟨x, _, hx⟩ := List.mem_flatMap.1 h
  simp at hx
  rcases hx with rfl | rfl | rfl | rfl | rfl | rfl <;> rfl
theorem ics_get : ∀ {l : List Ins} {i j : Nat} {x : Ins} {v : Value}, l[i]? = some x → (ICells x)[j]? = some v → (ics l)[i * 6 + j]? = some v
  | [], i, j, x, v, h, _ => by simp at h
  | y :: l, 0, j, x, v, h, hv => by
    simp at h; subst h
    unfold ics
    rw [List.flatMap_cons, Nat.zero_mul, Nat.zero_add, List.getElem?_append_left (List.getElem?_eq_some_iff.1 hv).1]
    exact hv
  | y :: l, i + 1, j, x, v, h, hv => by
    have ih := ics_get (l := l) (i := i) (j := j) (x := x) (v := v) (by simpa using h) hv
    unfold ics at ih ⊢
    rw [List.flatMap_cons, List.getElem?_append_right (by simp; omega)]
    rw [show (i + 1) * 6 + j - (ICells y).length = i * 6 + j by simp; omega]
    exact ih
theorem InsL.get {K : Nat → Prop} {w : World} {a : Option Addr} {len cap : Nat} {l : List Ins} (r : InsL K w a len cap l) {i : Nat} (h : i < len) :
    ∃ b o x, a = some ⟨b, o, none⟩ ∧ l[i]? = some x ∧ x.In ∧ K b ∧ b < w.heap.size ∧ w.cell? ⟨b, o + i * 6, none⟩ = some (.int .i64 x.k) ∧ w.cell? ⟨b, o + i * 6 + 1, none⟩ = some (.int .i64 x.a) ∧ w.cell? ⟨b, o + i * 6 + 2, none⟩ = some (.int .i64 x.b) ∧ w.cell? ⟨b, o + i * 6 + 3, none⟩ = some (.int .i64 x.c) ∧ w.cell? ⟨b, o + i * 6 + 4, none⟩ = some (.int .i64 x.op) ∧ w.cell? ⟨b, o + i * 6 + 5, none⟩ = some (.int .i64 x.imm) := by
  obtain ⟨x, e⟩ : ∃ x, l[i]? = some x := ⟨_, List.getElem?_eq_getElem (by rw [r.hlen]; exact h)⟩
  obtain ⟨b, o, e1, e2, e3, e4, e5⟩ := r.row i _ e
  exact ⟨b, o, x, e1, e, e5, e2, e3, e4 0 _ rfl, e4 1 _ rfl, e4 2 _ rfl, e4 3 _ rfl, e4 4 _ rfl, e4 5 _ rfl⟩
theorem flat_ins {w : World} {B : Nat} {K : Nat → Prop} {a : Option Addr} {n c k : Nat} {l : List Ins} (h : w.ownsRow B 50 6 (.slice a n c) k (ics l)) (hl : ∀ x ∈ l, x.In) (hm : k ≤ 1000000) (hK : ∀ j, B ≤ j → K j) : InsL K w a n c l := by
  have hlen : l.length = k := by have := h.1; rw [ics_length] at this; omega
  obtain ⟨h1, h2, h3⟩ := flat_len h
  refine ⟨by omega, h2, by unfold maxLen at h3; omega, by omega, fun i x hx => ?_⟩
  have hi := (List.getElem?_eq_some_iff.1 hx).1
  obtain ⟨g, rfl, g1, g2, _, _, _, hc⟩ := flat_cells h (by omega)
  refine ⟨g, 0, rfl, hK g g1, g2, fun j v hv => ?_, hl x (List.mem_of_getElem? hx)⟩
  rw [Nat.zero_add]
  exact hc _ _ (ics_get hx hv)
theorem Row.nilK {α : Type} {R : Rd α} {sz : Nat} {K : Nat → Prop} {w : World} {a : Option Addr} {len cap : Nat} {l : List α} (r : Row R sz K w a len cap l) (h : l = []) : len = 0 := by rw [← r.hlen, h]; rfl
end Go.Proofs.Ytonbmijhbbodnaa
