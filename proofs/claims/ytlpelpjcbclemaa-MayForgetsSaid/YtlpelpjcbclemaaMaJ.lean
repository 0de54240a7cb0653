/-
  append of a row of slices to a list that the call owns; what is read of it. Small laws.
-/
import Derived.Test.YtlpelpjcbclemaaMuN
import Derived.Test.YtlpelpjcbclemaaMuI
namespace Go.Proofs.Ytlpelpjcbclemaa
open Go.RowKit

/-- v holds the cells vs; its block, if it has one, is of F. -/
structure Coll (w : World) (F : Nat → Prop) (v : Value) (vs : List Value) : Prop where
  owns : w.ownsRow 0 22 1 v vs.length vs
  own : ∀ k, v.ownBlock = some k → F k ∧ k < w.heap.size
theorem Coll.nil (w : World) (F : Nat → Prop) : Coll w F (.slice none 0 0) [] := ⟨World.ownsRow_nil w 0 _ 1, fun k h => by simp [Value.ownBlock] at h⟩
theorem Coll.chg {w w' : World} {F M : Nat → Prop} {v : Value} {vs : List Value} (h : Coll w F v vs) (k : Chg M w w') (hM : ∀ j, F j → ¬ M j) : Coll w' F v vs :=
  ⟨ownsRow_of h.owns fun j hj => k.block j (h.own j hj).2 (hM j (h.own j hj).1), fun j hj => ⟨(h.own j hj).1, Nat.lt_of_lt_of_le (h.own j hj).2 k.size⟩⟩
theorem run_append_coll {P : Program} (w : World) (t ty : TypeId) (ht : P.underlying t = some (.slice 22)) {z : Value} (hinfo : (P.info? 22).map (fun i => (i.zero, i.size, i.bytes)) = some (some z, 1, 24)) (hz : z.cells.size = 1)
    {F : Nat → Prop} {v : Value} {vs : List Value} (r : Coll w F v vs) (ad : Addr) (m rc : Nat) (cs : List Value) (hl : cs.length = m) (hc : ∀ j u, cs[j]? = some u → w.cell? (ad.add j) = some u) (h1 : ∀ u ∈ cs, u.oneCell' = true) (hn : vs.length + m ≤ 1000000) :
    ∃ v' w', (Builtin.append_ #[t, t] ty #[v, .slice (some ad) m rc]).run P w = .ok v' w' ∧ Coll w' (Grown F w) v' (vs ++ cs) ∧ Chg F w w' := by
  obtain ⟨i, hi, hz0, hz1, hz2⟩ := append_parts hinfo
  obtain ⟨v', w', k1, k2, k3, _, k5⟩ := run_append_own_at (P := P) w 0 t ty 22 i z 1 24 ht hi hz0 hz1 hz2 hz (by omega) v vs.length vs r.owns ad m rc cs (by omega) hc h1 (by unfold maxLen; omega) (Nat.le_trans (Nat.mul_le_mul hn (Nat.le_refl 24)) (by decide)) (Nat.zero_le _)
  have hcg := Chg.of_grown k3
  refine ⟨v', w', k1, ⟨by rw [List.length_append, hl]; exact k2, fun k hk => ?_⟩, hcg.mono fun k _ hk => (r.own k hk).1⟩
  have hlt := (k2.lt k hk).2
  rcases k5 with e | e
  · exact ⟨.inl (r.own k (by rw [← e]; exact hk)).1, hlt⟩
  · rw [e] at hk; cases hk; exact ⟨.inr (Nat.le_refl _), hlt⟩
theorem step_append_coll {P : Program} {ops : Array Oper} {o : Oper} {a : Act} {w : World} {K : Act → World → Prop} {Q : Exit → Act → World → Prop} {E : Prop} (hgd : o.guard = none) (s y : Operand) (t : TypeId)
    (ho : o.op = .call { callee := .builtin .append, args := #[s, y], argTypes := #[t, t] }) (ht : P.underlying t = some (.slice 22)) {z : Value} (hinfo : (P.info? 22).map (fun i => (i.zero, i.size, i.bytes)) = some (some z, 1, 24)) (hz : z.cells.size = 1)
    {F : Nat → Prop} {v : Value} {vs : List Value} (r : Coll w F v vs) (hs : a.eval s = v) (ad : Addr) (m rc : Nat) (cs : List Value) (hy : a.eval y = .slice (some ad) m rc) (hl : cs.length = m) (hc : ∀ j u, cs[j]? = some u → w.cell? (ad.add j) = some u) (h1 : ∀ u ∈ cs, u.oneCell' = true) (hn : vs.length + m ≤ 1000000)
    (h : ∀ v' w', Hid (Coll w' (Grown F w) v' (vs ++ cs) ∧ Chg F w w') → K (a.put o.dst v') w') : if Region.wanted o (yielded ops a.tmps) = true then Oper.wp P o a w K Q else E := by
  obtain ⟨v', w', k1, k2⟩ := run_append_coll (P := P) w t o.type ht hinfo hz r ad m rc cs hl hc h1 hn
  have hw : Region.wanted o (yielded ops a.tmps) = true := by simp [Region.wanted, hgd]
  rw [if_pos hw]
  unfold Oper.wp execOp
  simp only [ho, resolve, invoke, builtin, Sem.run_bind, Sem.run_pure, Result.andThen_ok, List.map_toArray, List.map_cons, List.map_nil, hs, hy, k1]
  exact h v' w' k2
/-- The cells of a list of lists. -/
structure Vals (K : Nat → Prop) (w : World) (ad : Addr) (g : List (List Int)) (cs : List Value) : Prop where
  len : cs.length = g.length
  cell : ∀ j u, cs[j]? = some u → w.cell? (ad.add j) = some u
  one : ∀ u ∈ cs, u.oneCell' = true
  row : ∀ (j : Nat) l, g[j]? = some l → ∃ a n c, cs[j]? = some (.slice a n c) ∧ Ints K w a n c l
theorem Mat.vals {K : Nat → Prop} {w : World} {b o n c : Nat} {g : List (List Int)} (r : Mat K w (some ⟨b, o, none⟩) n c g) : ∃ cs, Vals K w ⟨b, o, none⟩ g cs := by
  have each : ∀ i, i < g.length → ∃ y : Option Addr × Nat × Nat, w.cell? ⟨b, o + i, none⟩ = some (.slice y.1 y.2.1 y.2.2) ∧ ∀ l, g[i]? = some l → Ints K w y.1 y.2.1 y.2.2 l := fun i hi => by
    obtain ⟨b', o', l, ra, rl, rc, e, hl, hcw, hr, _⟩ := Rows.get r (i := i) (by rw [← r.hlen]; exact hi)
    cases e
    exact ⟨(ra, rl, rc), hcw, fun l' hl' => by rw [hl] at hl'; cases hl'; exact hr⟩
  have each' : ∀ i : Fin g.length, ∃ y : Option Addr × Nat × Nat, w.cell? ⟨b, o + i.1, none⟩ = some (.slice y.1 y.2.1 y.2.2) ∧ ∀ l, g[i.1]? = some l → Ints K w y.1 y.2.1 y.2.2 l := fun i => each i.1 i.2
  have hch : ∃ f : Fin g.length → Option Addr × Nat × Nat, ∀ i, w.cell? ⟨b, o + i.1, none⟩ = some (.slice (f i).1 (f i).2.1 (f i).2.2) ∧ ∀ l, g[i.1]? = some l → Ints K w (f i).1 (f i).2.1 (f i).2.2 l := ⟨fun i => Classical.choose (each' i), fun i => Classical.choose_spec (each' i)⟩
  obtain ⟨f, hf⟩ := hch
  have hget : ∀ (j : Nat) u, (List.ofFn fun i => Value.slice (f i).1 (f i).2.1 (f i).2.2)[j]? = some u → ∃ h : j < g.length, u = .slice (f ⟨j, h⟩).1 (f ⟨j, h⟩).2.1 (f ⟨j, h⟩).2.2 := fun j u hu => by
    rw [List.getElem?_ofFn] at hu
    split at hu
    · rename_i h; cases hu; exact ⟨h, rfl⟩
    · cases hu
  refine ⟨List.ofFn fun i => .slice (f i).1 (f i).2.1 (f i).2.2, by simp, fun j u hu => ?_, fun u hu => ?_, fun j l hl => ?_⟩
  · obtain ⟨h, rfl⟩ := hget j u hu
    rw [Go.WideShapes.add_plain]
    exact (hf ⟨j, h⟩).1
  · obtain ⟨i, rfl⟩ := List.mem_ofFn.1 hu; rfl
  · have h := (List.getElem?_eq_some_iff.1 hl).1
    exact ⟨_, _, _, by rw [List.getElem?_ofFn, dif_pos h], (hf ⟨j, h⟩).2 l hl⟩
theorem Vals.chg {K M : Nat → Prop} {w w' : World} {ad : Addr} {g : List (List Int)} {cs : List Value} (h : Vals K w ad g cs) (k : Chg M w w') (hM : ∀ j, K j → ¬ M j) : ∀ (j : Nat) l, g[j]? = some l → ∃ a n c, cs[j]? = some (.slice a n c) ∧ Ints K w' a n c l := fun j l hl => by
  obtain ⟨a, n, c, h1, h2⟩ := h.row j l hl
  exact ⟨a, n, c, h1, h2.chg k hM⟩
/-- What was collected reads as the lists. -/
theorem Coll.mat {K F : Nat → Prop} {w : World} {a : Option Addr} {n c : Nat} {vs : List Value} {g : List (List Int)} (h : Coll w F (.slice a n c) vs) (hl : vs.length = g.length) (hg : g.length ≤ 1000000) (hr : ∀ (j : Nat) l, g[j]? = some l → ∃ a n c, vs[j]? = some (.slice a n c) ∧ Ints K w a n c l) (hF : ∀ j, F j → j < w.heap.size → K j) : Mat K w a n c g := by
  rcases h.owns.2 with ⟨h2, h3⟩ | ⟨b, cap, cur, h2, _, hb, hn, hm, hs, ht⟩
  · simp only [Value.slice.injEq] at h2
    obtain ⟨rfl, rfl, rfl⟩ := h2
    have e : g = [] := List.eq_nil_of_length_eq_zero (by omega)
    subst e
    exact Row.nil _ _ _ _ _ (by decide)
  · simp only [Value.slice.injEq] at h2
    obtain ⟨rfl, rfl, rfl⟩ := h2
    have hown := h.own b rfl
    rw [Nat.mul_one] at hs ht
    refine ⟨hl.symm, hn, by unfold maxLen at hm; omega, by omega, fun i l e => ?_⟩
    obtain ⟨ra, rn, rc, hv, hri⟩ := hr i l e
    refine ⟨b, 0, rfl, hF b hown.1 hown.2, hown.2, ra, rn, rc, ?_, hri⟩
    have hi : i < vs.length := (List.getElem?_eq_some_iff.1 hv).1
    have hcell : cur.toList[i]? = some (.slice ra rn rc) := by
      have h9 : (List.take vs.length cur.toList)[i]? = some (.slice ra rn rc) := by rw [ht]; exact hv
      rw [List.getElem?_take, if_pos hi] at h9
      exact h9
    rw [Nat.zero_add, Nat.mul_one, cell_of_row w b i cur 22 (0, 0) hb]
    simpa using hcell
end Go.Proofs.Ytlpelpjcbclemaa
