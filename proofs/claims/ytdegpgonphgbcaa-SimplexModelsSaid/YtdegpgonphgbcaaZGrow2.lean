/-
  append of one element, the length given by name.
  append of a row of integers to a literal without elements.
  Flat lists under construction, of elements of any size: owned rows of cells. Small laws (out of my text InP).
-/
import Derived.Deep.DeepCutAuto
import Derived.Test.YtdegpgonphgbcaaGrow
namespace Go.Proofs.Ytdegpgonphgbcaa
open Go.RowKit

theorem wpList_append_n {P : Program} {w : World} {ops : Array Oper} {rest : List Oper} {o : Oper} {a : Act} {Q : Exit → Act → World → Prop} (n : Nat) (hgd : o.guard = none) (s y : Operand) (t : TypeId)
    (ho : o.op = .call { callee := .builtin .append, args := #[s, y], argTypes := #[t, t] }) (e : TypeId) (ht : P.underlying t = some (.slice e)) {z : Value} {bytes : Nat} (hinfo : (P.info? e).map (fun i => (i.zero, i.size, i.bytes)) = some (some z, 1, bytes)) (hz : z.cells.size = 1)
    {α : Type} {R : Ow α} (hR : Local R) {B N : Nat} {v : Value} {vs : List Value} {fps : Nat → Nat → Prop} {xs : List α} (r : Grw R e w B N v vs fps xs) (hs : a.eval s = v)
    (ab : Nat) (u : Value) (t' : TypeId) (hb : Blk w ab t' [u]) (hy : a.eval y = .slice (some ⟨ab, 0, none⟩) 1 1) {f : Nat → Prop} {x : α} (hx : R w f u x) (hf : ∀ k, f k → N ≤ k ∧ k < w.heap.size) (h1 : u.oneCell' = true)
    (hn : xs.length = n) (h63 : n < 1000000) (hby : bytes ≤ 1000)
    (h : ∀ g cap w', Hid (Appended R e B v vs fps xs u x f w w' (.slice (some ⟨g, 0, none⟩) (n + 1) cap)) → wpList P ops Q rest (a.put o.dst (.slice (some ⟨g, 0, none⟩) (n + 1) cap)) w') : wpList P ops Q (o :: rest) a w := by
  subst hn
  exact wpList_append_grw hgd s y t ho e ht hinfo hz hR r hs ab u t' hb hy hx hf h1 h63 hby h
theorem step_append_n {P : Program} {ops : Array Oper} {o : Oper} {a : Act} {w : World} {K : Act → World → Prop} {Q : Exit → Act → World → Prop} {E : Prop} (n : Nat) (hgd : o.guard = none) (s y : Operand) (t : TypeId)
    (ho : o.op = .call { callee := .builtin .append, args := #[s, y], argTypes := #[t, t] }) (e : TypeId) (ht : P.underlying t = some (.slice e)) {z : Value} {bytes : Nat} (hinfo : (P.info? e).map (fun i => (i.zero, i.size, i.bytes)) = some (some z, 1, bytes)) (hz : z.cells.size = 1)
    {α : Type} {R : Ow α} (hR : Local R) {B N : Nat} {v : Value} {vs : List Value} {fps : Nat → Nat → Prop} {xs : List α} (r : Grw R e w B N v vs fps xs) (hs : a.eval s = v)
    (ab : Nat) (u : Value) (t' : TypeId) (hb : Blk w ab t' [u]) (hy : a.eval y = .slice (some ⟨ab, 0, none⟩) 1 1) {f : Nat → Prop} {x : α} (hx : R w f u x) (hf : ∀ k, f k → N ≤ k ∧ k < w.heap.size) (h1 : u.oneCell' = true)
    (hn : xs.length = n) (h63 : n < 1000000) (hby : bytes ≤ 1000)
    (h : ∀ g cap w', Hid (Appended R e B v vs fps xs u x f w w' (.slice (some ⟨g, 0, none⟩) (n + 1) cap)) → K (a.put o.dst (.slice (some ⟨g, 0, none⟩) (n + 1) cap)) w') :
    if Region.wanted o (yielded ops a.tmps) = true then Oper.wp P o a w K Q else E := by
  subst hn
  exact step_append_grw hgd s y t ho e ht hinfo hz hR r hs ab u t' hb hy hx hf h1 h63 hby h
/-- From w to w' only the own block of v and what was made since B has changed. -/
theorem Appended.non {α : Type} {R : Ow α} {t : TypeId} {B N : Nat} {v : Value} {vs : List Value} {fps : Nat → Nat → Prop} {xs : List α} {u : Value} {x : α} {f : Nat → Prop} {w w' w0 : World} {v' : Value} (h : Appended R t B v vs fps xs u x f w w' v') (r : Grw R t w B N v vs fps xs)
    (h0 : Chg Non w0 w) (hB : w0.heap.size ≤ B) : Chg Non w0 w' := h0.trans h.chg (fun k hk e => by have := (r.own k e).1; omega)
theorem Appended.chg' {α : Type} {R : Ow α} {t : TypeId} {B N : Nat} {v : Value} {vs : List Value} {fps : Nat → Nat → Prop} {xs : List α} {u : Value} {x : α} {f : Nat → Prop} {w w' w0 : World} {v' : Value} {M : Nat → Prop} (h : Appended R t B v vs fps xs u x f w w' v') (r : Grw R t w B N v vs fps xs)
    (h0 : Chg M w0 w) (hB : ∀ k, B ≤ k → k < w0.heap.size → M k) : Chg M w0 w' := h0.trans h.chg (fun k hk e => hB k (r.own k e).1 hk)
end Go.Proofs.Ytdegpgonphgbcaa
namespace Go.Proofs.Ytdegpgonphgbcaa
open Go.RowKit

/-- append of a row of integers to a literal without elements. -/
theorem step_append_ints {P : Program} {ops : Array Oper} {o : Oper} {a : Act} {w : World} {K : Act → World → Prop} {Q : Exit → Act → World → Prop} {E : Prop} (hgd : o.guard = none) (s y : Operand) (t : TypeId)
    (ho : o.op = .call { callee := .builtin .append, args := #[s, y], argTypes := #[t, t] }) (ht : P.underlying t = some (.slice 3)) {z : Value} (hinfo : (P.info? 3).map (fun i => (i.zero, i.size, i.bytes)) = some (some z, 1, 8)) (hz : z.cells.size = 1)
    (b : Nat) (hb : Blk w b 3 []) (hs : a.eval s = .slice (some ⟨b, 0, none⟩) 0 0)
    {L : Nat → Prop} {ra : Option Addr} {n rc : Nat} {xs : List Int} (r : Ints L w ra n rc xs) (hn : 0 < n) (hn1 : n ≤ 1000000) (hy : a.eval y = .slice ra n rc)
    (h : ∀ g cap w', Hid (b ≤ g ∧ g < w'.heap.size ∧ OInts w' (fun j => j = g) (.slice (some ⟨g, 0, none⟩) n cap) xs ∧ Chg (fun k => k = b) w w') → K (a.put o.dst (.slice (some ⟨g, 0, none⟩) n cap)) w') :
    if Region.wanted o (yielded ops a.tmps) = true then Oper.wp P o a w K Q else E := by
  obtain ⟨i, hi, hz0, hz1, hz2⟩ := append_parts hinfo
  have hlen := r.hlen
  obtain ⟨e1, o1, hra, _, _, hcells⟩ := r.src hn
  have hb' : b < w.heap.size := hb.lt
  refine step_append_lies w hgd s y t ho b 3 i z 1 8 ht hi hz0 hz1 hz2 hz (by omega) _ 0 [] hs ⟨rfl, .inr ⟨b, 0, #[], rfl, Nat.le_refl _, hb, Nat.le_refl _, by decide, rfl, rfl⟩⟩ ⟨e1, o1, none⟩ n rc (ivs xs) (by rw [hy, hra]) (by rw [ivs_length]; omega) hcells ivs_one hn (by unfold maxLen; omega) (Nat.le_trans (Nat.mul_le_mul (show 0 + n ≤ 1000000 by omega) (Nat.le_refl 8)) (by decide)) (by omega) w.heap.size rfl ?_
  intro g cap w' hown hgrow hat hlt
  rw [Nat.zero_add] at hown ⊢
  refine h g cap w' ⟨?_, hlt, ?_, (Chg.of_grown hgrow).mono (fun k _ e => by cases e; rfl)⟩
  · rcases hat with e | e
    · cases e; exact Nat.le_refl _
    · omega
  · rcases hown.2 with ⟨e, _⟩ | ⟨g', cap', cur, e, hbg, hheap, hnc, hcm, hcs, htk⟩
    · cases e
    · cases e
      have hcur : cur.toList = ivs xs ++ cur.toList.drop n := by
        conv => lhs; rw [← List.take_append_drop n cur.toList]
        rw [Nat.mul_one] at htk
        rw [htk]; rfl
      refine OInts.mk (sp := cur.toList.drop n) ?_ (by omega) ?_ (by unfold maxLen at hcm; omega) (by omega) rfl ?_
      · show w'.heap[g]? = some (.cells (ivs xs ++ cur.toList.drop n).toArray 3 (0, 0))
        rw [← hcur, hheap]
      · have hcl : cur.toList.length = cap * 1 := by rw [Array.length_toList]; exact hcs
        rw [List.length_drop]; omega
      · intro v hv
        obtain ⟨j, hj⟩ := List.getElem?_of_mem hv
        obtain ⟨_, _, _, _, _, _, h1⟩ := r.row j v hj
        exact h1
end Go.Proofs.Ytdegpgonphgbcaa
namespace Go.Proofs.Ytdegpgonphgbcaa
open Go.RowKit

theorem flat_of {w w' : World} {B : Nat} {e : TypeId} {size : Nat} {v : Value} {n : Nat} {xs : List Value} (h : w.ownsRow B e size v n xs) {M : Nat → Prop} (hc : Chg M w w') (hM : ∀ k, B ≤ k → k < w.heap.size → ¬ M k) : w'.ownsRow B e size v n xs :=
  ownsRow_of h fun k hk => hc.block k (h.lt k hk).2 (hM k (h.lt k hk).1 (h.lt k hk).2)
theorem flat_below {w w' : World} {B : Nat} {e : TypeId} {size : Nat} {v : Value} {n : Nat} {xs : List Value} (h : w.ownsRow B e size v n xs) (hc : Below w.heap.size w w') : w'.ownsRow B e size v n xs :=
  ownsRow_of h fun k hk => hc.block k (h.lt k hk).2
theorem flat_ge {w : World} {B B' : Nat} {e : TypeId} {size : Nat} {v : Value} {n : Nat} {xs : List Value} (h : w.ownsRow B e size v n xs) (hB : B' ≤ B) : w.ownsRow B' e size v n xs := by
  refine ⟨h.1, ?_⟩
  rcases h.2 with hn | ⟨g, cap, cur, h1, h2, h3⟩
  · exact .inl hn
  · exact .inr ⟨g, cap, cur, h1, Nat.le_trans hB h2, h3⟩
theorem flat_form {w : World} {B : Nat} {e : TypeId} {size : Nat} {v : Value} {n : Nat} {xs : List Value} (h : w.ownsRow B e size v n xs) : ∃ a cap, v = .slice a n cap := by
  rcases h.2 with ⟨h1, h2⟩ | ⟨g, cap, cur, h1, _⟩
  · exact ⟨none, 0, by rw [h1, h2]⟩
  · exact ⟨_, _, h1⟩
/-- What an append of m elements leaves. -/
structure FApp (t : TypeId) (sz B : Nat) (v : Value) (n m : Nat) (cs news : List Value) (w w' : World) (v' : Value) : Prop where
  owns : w'.ownsRow B t sz v' (n + m) (cs ++ news)
  chg : Chg (fun k => v.ownBlock = some k) w w'
theorem wpList_append_flat {P : Program} {w : World} {ops : Array Oper} {rest : List Oper} {o : Oper} {a : Act} {Q : Exit → Act → World → Prop} (hgd : o.guard = none) (s y : Operand) (t : TypeId)
    (ho : o.op = .call { callee := .builtin .append, args := #[s, y], argTypes := #[t, t] }) (e : TypeId) (ht : P.underlying t = some (.slice e)) {z : Value} {sz bytes : Nat} (hinfo : (P.info? e).map (fun i => (i.zero, i.size, i.bytes)) = some (some z, sz, bytes)) (hz : z.cells.size = sz) (hsz : 0 < sz)
    {B : Nat} {v : Value} {n : Nat} {cs : List Value} (r : w.ownsRow B e sz v n cs) (hs : a.eval s = v) (hB : B ≤ w.heap.size)
    (ad : Addr) (m c : Nat) (news : List Value) (hy : a.eval y = .slice (some ad) m c) (hl : news.length = m * sz) (hnews : ∀ j u, news[j]? = some u → w.cell? (ad.add j) = some u) (h1 : ∀ u ∈ news, u.oneCell' = true)
    (hm : 0 < m) (h63 : n + m ≤ 1000000) (hby : bytes ≤ 1000)
    (h : ∀ g cap w', Hid (FApp e sz B v n m cs news w w' (.slice (some ⟨g, 0, none⟩) (n + m) cap)) → wpList P ops Q rest (a.put o.dst (.slice (some ⟨g, 0, none⟩) (n + m) cap)) w') : wpList P ops Q (o :: rest) a w := by
  obtain ⟨i, hi, hzz⟩ := Option.map_eq_some_iff.1 hinfo
  simp only [Prod.mk.injEq] at hzz
  refine wpList_append_lies w hgd s y t ho B e i z sz bytes ht hi hzz.1 hzz.2.1 hzz.2.2 hz hsz v n cs hs r ad m c news hy hl hnews h1 hm (by unfold maxLen; omega) (Nat.le_trans (Nat.mul_le_mul h63 hby) (by decide)) hB w.heap.size rfl ?_
  intro g cap w' hown hgrow _ _
  exact h g cap w' ⟨hown, Chg.of_grown hgrow⟩
theorem step_append_flat {P : Program} {w : World} {ops : Array Oper} {o : Oper} {a : Act} {K : Act → World → Prop} {Q : Exit → Act → World → Prop} {E : Prop} (hgd : o.guard = none) (s y : Operand) (t : TypeId)
    (ho : o.op = .call { callee := .builtin .append, args := #[s, y], argTypes := #[t, t] }) (e : TypeId) (ht : P.underlying t = some (.slice e)) {z : Value} {sz bytes : Nat} (hinfo : (P.info? e).map (fun i => (i.zero, i.size, i.bytes)) = some (some z, sz, bytes)) (hz : z.cells.size = sz) (hsz : 0 < sz)
    {B : Nat} {v : Value} {n : Nat} {cs : List Value} (r : w.ownsRow B e sz v n cs) (hs : a.eval s = v) (hB : B ≤ w.heap.size)
    (ad : Addr) (m c : Nat) (news : List Value) (hy : a.eval y = .slice (some ad) m c) (hl : news.length = m * sz) (hnews : ∀ j u, news[j]? = some u → w.cell? (ad.add j) = some u) (h1 : ∀ u ∈ news, u.oneCell' = true)
    (hm : 0 < m) (h63 : n + m ≤ 1000000) (hby : bytes ≤ 1000)
    (h : ∀ g cap w', Hid (FApp e sz B v n m cs news w w' (.slice (some ⟨g, 0, none⟩) (n + m) cap)) → K (a.put o.dst (.slice (some ⟨g, 0, none⟩) (n + m) cap)) w') :
    if Region.wanted o (yielded ops a.tmps) = true then Oper.wp P o a w K Q else E := by
  obtain ⟨i, hi, hzz⟩ := Option.map_eq_some_iff.1 hinfo
  simp only [Prod.mk.injEq] at hzz
  refine step_append_lies w hgd s y t ho B e i z sz bytes ht hi hzz.1 hzz.2.1 hzz.2.2 hz hsz v n cs hs r ad m c news hy hl hnews h1 hm (by unfold maxLen; omega) (Nat.le_trans (Nat.mul_le_mul h63 hby) (by decide)) hB w.heap.size rfl ?_
  intro g cap w' hown hgrow _ _
  exact h g cap w' ⟨hown, Chg.of_grown hgrow⟩
/-- Behind an append only what was made since B has changed. -/
theorem FApp.non {t : TypeId} {sz B n m : Nat} {v v' : Value} {cs news : List Value} {w w' w0 : World} (h : FApp t sz B v n m cs news w w' v') (r : w.ownsRow B t sz v n cs) {M : Nat → Prop} (h0 : Chg M w0 w) (hB : w0.heap.size ≤ B) : Chg M w0 w' :=
  h0.trans h.chg (fun k hk e => by have := (r.lt k e).1; omega)

theorem flat_cells {w : World} {B : Nat} {e : TypeId} {size : Nat} {a : Option Addr} {n c k : Nat} {xs : List Value} (h : w.ownsRow B e size (.slice a n c) k xs) (hk : 0 < k) : ∃ g, a = some ⟨g, 0, none⟩ ∧ B ≤ g ∧ g < w.heap.size ∧ n = k ∧ n ≤ c ∧ c ≤ maxLen ∧ ∀ j v, xs[j]? = some v → w.cell? ⟨g, j, none⟩ = some v := by
  rcases h.2 with ⟨_, h2⟩ | ⟨g, cap, cur, h1, h2, h3, h4, h5, h6, h7⟩
  · omega
  · cases h1
    refine ⟨g, rfl, h2, (Array.getElem?_eq_some_iff.1 h3).1, rfl, h4, h5, fun j v hj => ?_⟩
    rw [cell_of_row w g j cur e (0, 0) h3]
    have : cur.toList[j]? = some v := by
      rw [← h7, List.getElem?_take] at hj
      split at hj
      · exact hj
      · cases hj
    simpa using this
theorem flat_len {w : World} {B : Nat} {e : TypeId} {size : Nat} {a : Option Addr} {n c k : Nat} {xs : List Value} (h : w.ownsRow B e size (.slice a n c) k xs) : n = k ∧ n ≤ c ∧ c ≤ maxLen := by
  rcases h.2 with ⟨h1, h2⟩ | ⟨g, cap, cur, h1, h2, h3, h4, h5, h6, h7⟩
  · cases h1; exact ⟨h2.symm, Nat.le_refl _, Nat.zero_le _⟩
  · cases h1; exact ⟨rfl, h4, h5⟩
end Go.Proofs.Ytdegpgonphgbcaa
