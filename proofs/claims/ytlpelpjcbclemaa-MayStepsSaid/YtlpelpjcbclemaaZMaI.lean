/-
  The join of two states of lines that can be there. Plain laws of lists, no program in sight.
  append of a row of slices to a list that the call owns; what is read of it. Small laws.
-/
import Derived.Test.YtlpelpjcbclemaaZMaB
import Derived.Test.YtlpelpjcbclemaaMuN
import Derived.Test.YtlpelpjcbclemaaMuI
namespace Go.Proofs.Ytlpelpjcbclemaa

/-- The younger one of a line's two ages. -/
def minF (W : Nat) (f : List (List Int)) (p : Nat) (g : List (List Int)) (o : Nat) (y : Int) : Nat := min (ageF W f p y) (ageF W g o y)
/-- A line comes in at its age, if it is young enough and not there yet. -/
def jStep (W : Nat) (n : Int → Nat) (out : List (List Int)) (x : Int) : List (List Int) := if n x < W ∧ ¬ plc out x < out.length then put out (n x) x else out
def jL (W : Nat) (n : Int → Nat) (out : List (List Int)) (l : List Int) : List (List Int) := l.foldl (jStep W n) out
def joinY (W : Nat) (f : List (List Int)) (p : Nat) (g : List (List Int)) (o : Nat) : List (List Int) := jL W (minF W f p g o) (List.replicate W []) (f ++ g).flatten
theorem jL_snoc {W : Nat} {n : Int → Nat} {out : List (List Int)} {l : List Int} {j : Nat} {x : Int} (h : l[j]? = some x) : jL W n out (l.take (j + 1)) = jStep W n (jL W n out (l.take j)) x := by
  unfold jL; rw [List.take_add_one, h, List.foldl_append]; rfl
theorem jL_append {W : Nat} {n : Int → Nat} {out : List (List Int)} {l k : List Int} : jL W n out (l ++ k) = jL W n (jL W n out l) k := List.foldl_append
theorem jL_spec {P : Int → Prop} {W : Nat} {n : Int → Nat} : ∀ {l : List Int} {out : List (List Int)}, WSet P W out → (∀ i y, At out i y → i = n y) → (∀ x ∈ l, P x) →
    WSet P W (jL W n out l) ∧ ∀ i y, At (jL W n out l) i y ↔ At out i y ∨ (y ∈ l ∧ i = n y ∧ i < W)
  | [], out, ho, _, _ => ⟨ho, fun i y => by simp [jL]⟩
  | x :: l, out, ho, hn, hx => by
    have hx0 := hx x (by simp)
    show WSet P W (jL W n (jStep W n out x) l) ∧ ∀ i y, At (jL W n (jStep W n out x) l) i y ↔ _
    by_cases e : n x < W ∧ ¬ plc out x < out.length
    · have e1 : jStep W n out x = put out (n x) x := if_pos e
      have hno : ∀ i, ¬ At out i x := plc_none (by have := plc_le out x; omega)
      rw [e1]
      obtain ⟨h1, h2⟩ := jL_spec (n := n) (l := l) (ho.put hx0 hno (n x)) (fun i y hi => by
        rcases at_put.1 hi with k | ⟨k1, k2, _⟩
        · exact hn i y k
        · rw [k1, k2]) (fun y hy => hx y (by simp [hy]))
      refine ⟨h1, fun i y => ?_⟩
      rw [h2, at_put, ho.len]
      constructor
      · rintro ((k | ⟨rfl, rfl, k⟩) | ⟨k1, k2⟩)
        · exact .inl k
        · exact .inr ⟨by simp, rfl, k⟩
        · exact .inr ⟨by simp [k1], k2⟩
      · rintro (k | ⟨k1, k2, k3⟩)
        · exact .inl (.inl k)
        · rcases List.mem_cons.1 k1 with k5 | k5
          · subst k5; exact .inl (.inr ⟨k2, rfl, by omega⟩)
          · exact .inr ⟨k5, k2, k3⟩
    · have e1 : jStep W n out x = out := if_neg e
      rw [e1]
      obtain ⟨h1, h2⟩ := jL_spec (n := n) (l := l) ho hn (fun y hy => hx y (by simp [hy]))
      refine ⟨h1, fun i y => ?_⟩
      rw [h2]
      constructor
      · rintro (k | ⟨k1, k2⟩)
        · exact .inl k
        · exact .inr ⟨by simp [k1], k2⟩
      · rintro (k | ⟨k1, k2, k3⟩)
        · exact .inl k
        · rcases List.mem_cons.1 k1 with k5 | k5
          · subst k5
            have hp : plc out y < out.length := by
              rcases Nat.lt_or_ge (plc out y) out.length with h | h
              · exact h
              · exact absurd ⟨by omega, by omega⟩ e
            have ha := plc_found hp
            have := hn _ _ ha
            rw [this, ← k2] at ha
            exact .inl ha
          · exact .inr ⟨k5, k2, k3⟩
theorem mem_flat {f : List (List Int)} {y : Int} : y ∈ f.flatten ↔ ∃ i, At f i y := by
  rw [List.mem_flatten]
  constructor
  · rintro ⟨l, hl, hy⟩; obtain ⟨i, hi⟩ := List.getElem?_of_mem hl; exact ⟨i, l, hi, hy⟩
  · rintro ⟨i, l, hi, hy⟩; exact ⟨l, List.mem_of_getElem? hi, hy⟩
def Kn (f g : List (List Int)) (y : Int) : Prop := (∃ i, At f i y) ∨ ∃ i, At g i y
theorem mem_kn {f g : List (List Int)} {y : Int} : y ∈ (f ++ g).flatten ↔ Kn f g y := by rw [List.flatten_append, List.mem_append, mem_flat, mem_flat]; rfl
theorem joinY_spec {P : Int → Prop} {W p o : Nat} {f g : List (List Int)} (hf : YSet P W f p) (hg : YSet P W g o) :
    WSet P W (joinY W f p g o) ∧ ∀ i y, At (joinY W f p g o) i y ↔ Kn f g y ∧ i = minF W f p g o y := by
  obtain ⟨h1, h2⟩ := jL_spec (P := P) (W := W) (n := minF W f p g o) (l := (f ++ g).flatten) (WSet.nils P W) (fun i y h => absurd h not_at_nils) (fun x hx => by
    rcases mem_kn.1 hx with ⟨i, h⟩ | ⟨i, h⟩
    · exact hf.ws.mem i x h
    · exact hg.ws.mem i x h)
  refine ⟨h1, fun i y => ?_⟩
  show At (jL W _ _ _) i y ↔ _
  rw [h2, mem_kn]
  constructor
  · rintro (k | ⟨k1, k2, _⟩)
    · exact absurd k not_at_nils
    · exact ⟨k1, k2⟩
  · rintro ⟨k1, k2⟩
    refine .inr ⟨k1, k2, ?_⟩
    rw [k2]
    unfold minF
    rcases k1 with ⟨i, h⟩ | ⟨i, h⟩
    · have := ageF_at hf h; have := h.lt; have := hf.ws.len; omega
    · have := ageF_at hg h; have := h.lt; have := hg.ws.len; omega
theorem minF_le {P : Int → Prop} {W p o : Nat} {f g : List (List Int)} (hf : YSet P W f p) (hg : YSet P W g o) (y : Int) : minF W f p g o y ≤ min p o := by
  have := ageF_le hf y; have := ageF_le hg y; unfold minF; omega
theorem join_yset {P : Int → Prop} {W p o : Nat} {f g : List (List Int)} (hf : YSet P W f p) (hg : YSet P W g o) : YSet P W (joinY W f p g o) (min p o) :=
  ⟨(joinY_spec hf hg).1, by have := hf.ole; omega, fun i y h => by rw [(((joinY_spec hf hg).2 i y).1 h).2]; exact minF_le hf hg y⟩
theorem join_ageF {P : Int → Prop} {W p o : Nat} {f g : List (List Int)} (hf : YSet P W f p) (hg : YSet P W g o) (y : Int) : ageF W (joinY W f p g o) (min p o) y = minF W f p g o y := by
  have hj := join_yset hf hg
  by_cases k : Kn f g y
  · exact ageF_at hj (((joinY_spec hf hg).2 _ y).2 ⟨k, rfl⟩)
  · rw [ageF_no hj fun i h => k (((joinY_spec hf hg).2 i y).1 h).1]
    unfold minF
    rw [ageF_no hf fun i h => k (.inl ⟨i, h⟩), ageF_no hg fun i h => k (.inr ⟨i, h⟩)]
/-! ### States -/
def joinYm (S W : Nat) (m : List (List (List Int))) (o : List Int) (q : List (List (List Int))) (r : List Int) : List (List (List Int)) := (List.range S).map fun s => joinY W (m.getD s []) (o.getD s 0).toNat (q.getD s []) (r.getD s 0).toNat
def joinYo (S : Nat) (o r : List Int) : List Int := (List.range S).map fun s => min (o.getD s 0) (r.getD s 0)
theorem joinYm_len {S W : Nat} {m q : List (List (List Int))} {o r : List Int} : (joinYm S W m o q r).length = S := by unfold joinYm; simp
theorem joinYo_len {S : Nat} {o r : List Int} : (joinYo S o r).length = S := by unfold joinYo; simp
theorem joinYm_get {S W s : Nat} {m q : List (List (List Int))} {o r : List Int} {f g : List (List Int)} {k l : Nat} (hs : s < S) (h1 : m.getD s [] = f) (h2 : o.getD s 0 = (k : Int)) (h3 : q.getD s [] = g) (h4 : r.getD s 0 = (l : Int)) : (joinYm S W m o q r)[s]? = some (joinY W f k g l) := by
  unfold joinYm; rw [List.getElem?_map, List.getElem?_range hs, Option.map_some, h1, h2, h3, h4, Int.toNat_natCast, Int.toNat_natCast]
theorem joinYo_get {S s : Nat} {o r : List Int} {k l : Nat} (hs : s < S) (h2 : o.getD s 0 = (k : Int)) (h4 : r.getD s 0 = (l : Int)) : (joinYo S o r)[s]? = some ((min k l : Nat) : Int) := by
  unfold joinYo; rw [List.getElem?_map, List.getElem?_range hs, Option.map_some, h2, h4]; congr 1; omega
theorem YSt.union {U V : List Int} {S W : Nat} {m : List (List (List Int))} {o : List Int} (h : YSt U S W m o) (hU : ∀ x ∈ U, x ∈ V) : YSt V S W m o := ⟨h.len, h.olen, fun s g hs => by
  obtain ⟨k, hk, hy⟩ := h.set s g hs
  exact ⟨k, hk, hy.mono fun x hx => ⟨hx.1, hx.2.1, hx.2.2.1, hU x hx.2.2.2⟩⟩⟩
theorem yjoin_st {U : List Int} {S W : Nat} {m q : List (List (List Int))} {o r : List Int} (h : YSt U S W m o) (k : YSt U S W q r) : YSt U S W (joinYm S W m o q r) (joinYo S o r) := by
  refine ⟨joinYm_len, joinYo_len, fun s g hs => ?_⟩
  have hlt : s < S := by have := (List.getElem?_eq_some_iff.1 hs).1; rw [joinYm_len] at this; exact this
  obtain ⟨f, i, _, _, e1, e2, hf⟩ := h.at hlt
  obtain ⟨f', j, _, _, e3, e4, hg⟩ := k.at hlt
  rw [joinYm_get hlt e1 e2 e3 e4] at hs
  cases hs
  exact ⟨min i j, joinYo_get hlt e2 e4, join_yset hf hg⟩
end Go.Proofs.Ytlpelpjcbclemaa
namespace Go.Proofs.Ytlpelpjcbclemaa
open Go.RowKit

/-- v holds the cells vs; its block, if it has one, is of F. -/
structure Coll (w : World) (F : Nat → Prop) (v : Value) (vs : List Value) : Prop where
  owns : w.ownsRow 0 22 1 v vs.length vs
  own : ∀ k, v.ownBlock = some k → F k ∧ k < w.heap.size
theorem Coll.nil (w : World) (F : Nat → Prop) : Coll w F (.slice none 0 0) [] := ⟨World.ownsRow_nil w 0 _ 1, fun k h => by simp [Value.ownBlock] at h⟩
theorem Coll.chg {w w' : World} {F M : Nat → Prop} {v : Value} {vs : List Value} (h : Coll w F v vs) (k : Chg M w w') (hM : ∀ j, F j → ¬ M j) : Coll w' F v vs :=
  ⟨ownsRow_of h.owns fun j hj => k.block j (h.own j hj).2 (hM j (h.own j hj).1), fun j hj => ⟨(h.own j hj).1, Nat.lt_of_lt_of_le (h.own j hj).2 k.size⟩⟩
theorem run_append_coll {P : Program} (w : World) (t ty : TypeId) (ht : P.underlying t = some (.slice 22)) {z : Value} (hinfo : (P.info? 22).map (fun i => (i.zero, i.size, i.bytes)) = some (some z, 1, 24)) (hz : z.cells.size = 1)
    {F : Nat → Prop} {v : Value} {vs : List Value} (r : Coll w F v vs) (ad : Addr) (m rc : Nat) (cs : List Value) (hl : cs.length = m) (hc : ∀ j u, cs[j]? = some u → w.cell? (ad.add j) = some u) (h1 : ∀ u ∈ cs, u.oneCell' = true) (hn : vs.length + m ≤ 1000000) :
    ∃ v' w', (Builtin.append_ #[t, t] ty #[v, .slice (some ad) m rc]).run P w = .ok v' w' ∧ Coll w' (Grown F w) v' (vs ++ cs) ∧ Chg F w w' := by
  obtain ⟨i, hi, hz0, hz1, hz2⟩ := append_parts hinfo
  obtain ⟨v', w', k1, k2, k3, _, k5⟩ := run_append_own_at (P := P) w 0 t ty 22 i z 1 24 ht hi hz0 hz1 hz2 hz (by omega) v vs.length vs r.owns ad m rc cs (by omega) hc h1 (by unfold maxLen; omega) (Nat.le_trans (Nat.mul_le_mul hn (Nat.le_refl 24)) (by decide)) (Nat.zero_le _)
  have hcg := Chg.of_grown k3
  refine ⟨v', w', k1, ⟨by rw [List.length_append, hl]; exact k2, fun k hk => ?_⟩, hcg.mono fun k _ hk => (r.own k hk).1⟩
  have hlt := (k2.lt k hk).2
  rcases k5 with e | e
  · exact ⟨.inl (r.own k (by rw [← e]; exact hk)).1, hlt⟩
  · rw [e] at hk; cases hk; exact ⟨.inr (Nat.le_refl _), hlt⟩
theorem step_append_coll {P : Program} {ops : Array Oper} {o : Oper} {a : Act} {w : World} {K : Act → World → Prop} {Q : Exit → Act → World → Prop} {E : Prop} (hgd : o.guard = none) (s y : Operand) (t : TypeId)
    (ho : o.op = .call { callee := .builtin .append, args := #[s, y], argTypes := #[t, t] }) (ht : P.underlying t = some (.slice 22)) {z : Value} (hinfo : (P.info? 22).map (fun i => (i.zero, i.size, i.bytes)) = some (some z, 1, 24)) (hz : z.cells.size = 1)
    {F : Nat → Prop} {v : Value} {vs : List Value} (r : Coll w F v vs) (hs : a.eval s = v) (ad : Addr) (m rc : Nat) (cs : List Value) (hy : a.eval y = .slice (some ad) m rc) (hl : cs.length = m) (hc : ∀ j u, cs[j]? = some u → w.cell? (ad.add j) = some u) (h1 : ∀ u ∈ cs, u.oneCell' = true) (hn : vs.length + m ≤ 1000000)
    (h : ∀ v' w', Hid (Coll w' (Grown F w) v' (vs ++ cs) ∧ Chg F w w') → K (a.put o.dst v') w') : if Region.wanted o (yielded ops a.tmps) = true then Oper.wp P o a w K Q else E := by
  obtain ⟨v', w', k1, k2⟩ := run_append_coll (P := P) w t o.type ht hinfo hz r ad m rc cs hl hc h1 hn
  have hw : Region.wanted o (yielded ops a.tmps) = true := by simp [Region.wanted, hgd]
  rw [if_pos hw]
  unfold Oper.wp execOp
  simp only [ho, resolve, invoke, builtin, Sem.run_bind, Sem.run_pure, Result.andThen_ok, List.map_toArray, List.map_cons, List.map_nil, hs, hy, k1]
  exact h v' w' k2
/-- The cells of a list of lists. -/
structure Vals (K : Nat → Prop) (w : World) (ad : Addr) (g : List (List Int)) (cs : List Value) : Prop where
  len : cs.length = g.length
  cell : ∀ j u, cs[j]? = some u → w.cell? (ad.add j) = some u
  one : ∀ u ∈ cs, u.oneCell' = true
  row : ∀ (j : Nat) l, g[j]? = some l → ∃ a n c, cs[j]? = some (.slice a n c) ∧ Ints K w a n c l
theorem Mat.vals {K : Nat → Prop} {w : World} {b o n c : Nat} {g : List (List Int)} (r : Mat K w (some ⟨b, o, none⟩) n c g) : ∃ cs, Vals K w ⟨b, o, none⟩ g cs := by
  have each : ∀ i, i < g.length → ∃ y : Option Addr × Nat × Nat, w.cell? ⟨b, o + i, none⟩ = some (.slice y.1 y.2.1 y.2.2) ∧ ∀ l, g[i]? = some l → Ints K w y.1 y.2.1 y.2.2 l := fun i hi => by
    obtain ⟨b', o', l, ra, rl, rc, e, hl, hcw, hr, _⟩ := Rows.get r (i := i) (by rw [← r.hlen]; exact hi)
    cases e
    exact ⟨(ra, rl, rc), hcw, fun l' hl' => by rw [hl] at hl'; cases hl'; exact hr⟩
  have each' : ∀ i : Fin g.length, ∃ y : Option Addr × Nat × Nat, w.cell? ⟨b, o + i.1, none⟩ = some (.slice y.1 y.2.1 y.2.2) ∧ ∀ l, g[i.1]? = some l → Ints K w y.1 y.2.1 y.2.2 l := fun i => each i.1 i.2
  have hch : ∃ f : Fin g.length → Option Addr × Nat × Nat, ∀ i, w.cell? ⟨b, o + i.1, none⟩ = some (.slice (f i).1 (f i).2.1 (f i).2.2) ∧ ∀ l, g[i.1]? = some l → Ints K w (f i).1 (f i).2.1 (f i).2.2 l := ⟨fun i => Classical.choose (each' i), fun i => Classical.choose_spec (each' i)⟩
  obtain ⟨f, hf⟩ := hch
  have hget : ∀ (j : Nat) u, (List.ofFn fun i => Value.slice (f i).1 (f i).2.1 (f i).2.2)[j]? = some u → ∃ h : j < g.length, u = .slice (f ⟨j, h⟩).1 (f ⟨j, h⟩).2.1 (f ⟨j, h⟩).2.2 := fun j u hu => by
    rw [List.getElem?_ofFn] at hu
    split at hu
    · rename_i h; cases hu; exact ⟨h, rfl⟩
    · cases hu
  refine ⟨List.ofFn fun i => .slice (f i).1 (f i).2.1 (f i).2.2, by simp, fun j u hu => ?_, fun u hu => ?_, fun j l hl => ?_⟩
  · obtain ⟨h, rfl⟩ := hget j u hu
    rw [Go.WideShapes.add_plain]
    exact (hf ⟨j, h⟩).1
  · obtain ⟨i, rfl⟩ := List.mem_ofFn.1 hu; rfl
  · have h := (List.getElem?_eq_some_iff.1 hl).1
    exact ⟨_, _, _, by rw [List.getElem?_ofFn, dif_pos h], (hf ⟨j, h⟩).2 l hl⟩
theorem Vals.chg {K M : Nat → Prop} {w w' : World} {ad : Addr} {g : List (List Int)} {cs : List Value} (h : Vals K w ad g cs) (k : Chg M w w') (hM : ∀ j, K j → ¬ M j) : ∀ (j : Nat) l, g[j]? = some l → ∃ a n c, cs[j]? = some (.slice a n c) ∧ Ints K w' a n c l := fun j l hl => by
  obtain ⟨a, n, c, h1, h2⟩ := h.row j l hl
  exact ⟨a, n, c, h1, h2.chg k hM⟩
/-- What was collected reads as the lists. -/
theorem Coll.mat {K F : Nat → Prop} {w : World} {a : Option Addr} {n c : Nat} {vs : List Value} {g : List (List Int)} (h : Coll w F (.slice a n c) vs) (hl : vs.length = g.length) (hg : g.length ≤ 1000000) (hr : ∀ (j : Nat) l, g[j]? = some l → ∃ a n c, vs[j]? = some (.slice a n c) ∧ Ints K w a n c l) (hF : ∀ j, F j → j < w.heap.size → K j) : Mat K w a n c g := by
  rcases h.owns.2 with ⟨h2, h3⟩ | ⟨b, cap, cur, h2, _, hb, hn, hm, hs, ht⟩
  · simp only [Value.slice.injEq] at h2
    obtain ⟨rfl, rfl, rfl⟩ := h2
    have e : g = [] := List.eq_nil_of_length_eq_zero (by omega)
    subst e
    exact Row.nil _ _ _ _ _ (by decide)
  · simp only [Value.slice.injEq] at h2
    obtain ⟨rfl, rfl, rfl⟩ := h2
    have hown := h.own b rfl
    rw [Nat.mul_one] at hs ht
    refine ⟨hl.symm, hn, by unfold maxLen at hm; omega, by omega, fun i l e => ?_⟩
    obtain ⟨ra, rn, rc, hv, hri⟩ := hr i l e
    refine ⟨b, 0, rfl, hF b hown.1 hown.2, hown.2, ra, rn, rc, ?_, hri⟩
    have hi : i < vs.length := (List.getElem?_eq_some_iff.1 hv).1
    have hcell : cur.toList[i]? = some (.slice ra rn rc) := by
      have h9 : (List.take vs.length cur.toList)[i]? = some (.slice ra rn rc) := by rw [ht]; exact hv
      rw [List.getElem?_take, if_pos hi] at h9
      exact h9
    rw [Nat.zero_add, Nat.mul_one, cell_of_row w b i cur 22 (0, 0) hb]
    simpa using hcell
end Go.Proofs.Ytlpelpjcbclemaa
