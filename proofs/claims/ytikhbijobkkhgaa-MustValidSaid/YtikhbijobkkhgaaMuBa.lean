/-
  append of one element without blocks of its own to an owned list; the tail of a slice. Small laws.
-/
import Derived.Test.YtikhbijobkkhgaaMuAb
import Derived.Test.YtikhbijobkkhgaaMuN
namespace Go.Proofs.Ytikhbijobkkhgaa
open Go.RowKit

def AppG {α : Type} (R : Ow α) (t : TypeId) (f : Nat → Prop) (xs : List α) (w : World) (v : Value) (w' : World) : Prop := OwnRow R t w' (Grown f w) v xs ∧ Chg f w w'
theorem run_append_one {P : Program} (w : World) (t ty e : TypeId) (ht : P.underlying t = some (.slice e)) {z : Value} {bytes : Nat} (hinfo : (P.info? e).map (fun i => (i.zero, i.size, i.bytes)) = some (some z, 1, bytes)) (hz : z.cells.size = 1) (hby : bytes ≤ 1000)
    {α : Type} {R : Ow α} (hR : Local R) {f : Nat → Prop} {v : Value} {xs : List α} (r : OwnRow R e w f v xs) (ab : Nat) (u : Value) (t' : TypeId) (hb : Blk w ab t' [u]) {x : α} (hx : ∀ w, R w (fun _ => False) u x) (h1 : u.oneCell' = true) (hn : xs.length < 1000000) :
    ∃ v' w', (Builtin.append_ #[t, t] ty #[v, .slice (some ⟨ab, 0, none⟩) 1 1]).run P w = .ok v' w' ∧ AppG R e f (xs ++ [x]) w v' w' := by
  obtain ⟨i, hi, hz0, hz1, hz2⟩ := append_parts hinfo
  have hby' : (xs.length + 1) * bytes ≤ 140737488355328 := Nat.le_trans (Nat.mul_le_mul (show xs.length + 1 ≤ 1000000 by omega) hby) (by decide)
  obtain ⟨vs, fps, hvl, ho, hown, hrow, hsub, hap⟩ : ∃ (vs : List Value) (fps : Nat → Nat → Prop), vs.length = xs.length ∧ w.ownsRow 0 e 1 v xs.length vs ∧ (∀ k, v.ownBlock = some k → f k ∧ k < w.heap.size) ∧ (∀ (i : Nat) x, xs[i]? = some x → ∃ u, vs[i]? = some u ∧ R w (fps i) u x) ∧ (∀ i k, i < xs.length → fps i k → f k ∧ v.ownBlock ≠ some k ∧ k < w.heap.size) ∧ (∀ i j k, i < xs.length → j < xs.length → fps i k → fps j k → i = j) := by
    rcases r with ⟨rfl, rfl⟩ | ⟨b, cap, vs, sp, fps, rfl, r⟩
    · exact ⟨[], fun _ _ => False, rfl, World.ownsRow_nil w 0 e 1, fun k h => by simp [Value.ownBlock] at h, fun i x h => by simp at h, fun _ _ _ h => h.elim, fun _ _ _ _ _ h => h.elim⟩
    · have hl := r.hlen; have hc := r.hcap; have hm := r.hmax
      refine ⟨vs, fps, hl, ⟨by omega, .inr ⟨b, cap, (vs ++ sp).toArray, rfl, Nat.zero_le _, r.blk, by omega, by unfold maxLen; omega, by simp; omega, ?_⟩⟩, fun k hk => ?_, r.row, fun i k hi hk => ?_, r.apart⟩
      · simp only [Nat.mul_one]
        rw [List.take_append_of_le_length (by omega), List.take_of_length_le (by omega)]
      · simp [Value.ownBlock] at hk; subst hk; exact ⟨r.own, r.blk.lt⟩
      · have := r.sub i k hi hk
        exact ⟨this.1, fun e => by simp [Value.ownBlock] at e; exact this.2.1 e.symm, this.2.2⟩
  obtain ⟨v', w', k1, k2, k3, _, k5⟩ := run_append_own_at (P := P) w 0 t ty e i z 1 bytes ht hi hz0 hz1 hz2 hz (by omega) v xs.length vs ho ⟨ab, 0, none⟩ 1 1 [u] rfl (news_one hb) (fun u' hu' => by simp at hu'; subst hu'; exact h1) (by unfold maxLen; omega) hby' (Nat.zero_le _)
  refine ⟨v', w', k1, ?_, (Chg.of_grown k3).mono fun k _ hk => (hown k hk).1⟩
  have hchg := Chg.of_grown k3
  rcases k2.2 with ⟨_, h0⟩ | ⟨g, cap, cur, rfl, _, hgb, hgn, hgm, hgs, hgt⟩
  · omega
  · rw [Nat.mul_one] at hgs hgt
    have hcur : cur = ((vs ++ [u]) ++ cur.toList.drop (xs.length + 1)).toArray := by rw [← hgt, List.take_append_drop, Array.toArray_toList]
    have e2 : cur.toList.length = cur.size := Array.length_toList
    have hgg : v.ownBlock = some g ∨ w.heap.size ≤ g := by
      rcases k5 with e | e
      · exact .inl (by rw [← e]; rfl)
      · cases e; exact .inr (Nat.le_refl _)
    refine .inr ⟨g, cap, vs ++ [u], cur.toList.drop (xs.length + 1), fun j k => j < xs.length ∧ fps j k, by simp, by rw [Blk, ← hcur]; exact hgb, by simp [hvl], by rw [List.length_drop]; simp; omega, by unfold maxLen at hgm; omega, by simp; omega, ?_, fun j y hj => ?_, fun j k hj hk => ?_, fun j l k hj hl h1 h2 => hap j l k h1.1 h2.1 h1.2 h2.2⟩
    · rcases hgg with h | h
      · exact .inl (hown g h).1
      · exact .inr h
    · rcases Nat.lt_or_ge j xs.length with hjl | hjl
      · rw [List.getElem?_append_left hjl] at hj
        obtain ⟨q, hq, hr⟩ := hrow j y hj
        refine ⟨q, by rw [List.getElem?_append_left (by omega)]; exact hq, ?_⟩
        have e : (fun k => j < xs.length ∧ fps j k) = fps j := by funext k; simp [hjl]
        rw [e]
        exact hR.chg hr hchg (fun k hk _ e => (hsub j k hjl hk).2.1 e)
      · have hl := (List.getElem?_eq_some_iff.1 hj).1
        rw [List.length_append, List.length_singleton] at hl
        obtain rfl : j = xs.length := by omega
        rw [List.getElem?_append_right (Nat.le_refl _)] at hj
        simp at hj
        subst hj
        refine ⟨u, by rw [List.getElem?_append_right (by omega)]; simp [hvl], ?_⟩
        have e : (fun k => xs.length < xs.length ∧ fps xs.length k) = fun _ => False := by funext k; simp
        rw [e]
        exact hx w'
    · have h := hsub j k hk.1 hk.2
      refine ⟨.inl h.1, fun e => ?_, by have := hchg.size; omega⟩
      subst e
      rcases hgg with h' | h'
      · exact h.2.1 h'
      · omega
theorem step_append_one {P : Program} {ops : Array Oper} {o : Oper} {a : Act} {w : World} {K : Act → World → Prop} {Q : Exit → Act → World → Prop} {E : Prop} (hgd : o.guard = none) (s y : Operand) (t : TypeId)
    (ho : o.op = .call { callee := .builtin .append, args := #[s, y], argTypes := #[t, t] }) (e : TypeId) (ht : P.underlying t = some (.slice e)) {z : Value} {bytes : Nat} (hinfo : (P.info? e).map (fun i => (i.zero, i.size, i.bytes)) = some (some z, 1, bytes)) (hz : z.cells.size = 1) (hby : bytes ≤ 1000)
    {α : Type} {R : Ow α} (hR : Local R) {f : Nat → Prop} {v : Value} {xs : List α} (r : OwnRow R e w f v xs) (hs : a.eval s = v) (ab : Nat) (u : Value) (t' : TypeId) (hb : Blk w ab t' [u]) (hy : a.eval y = .slice (some ⟨ab, 0, none⟩) 1 1) {x : α} (hx : ∀ w, R w (fun _ => False) u x) (h1 : u.oneCell' = true) (hn : xs.length < 1000000)
    (h : ∀ v' w', Hid (AppG R e f (xs ++ [x]) w v' w') → K (a.put o.dst v') w') : if Region.wanted o (yielded ops a.tmps) = true then Oper.wp P o a w K Q else E := by
  obtain ⟨v', w', k1, k2⟩ := run_append_one (P := P) w t o.type e ht hinfo hz hby hR r ab u t' hb hx h1 hn
  have hw : Region.wanted o (yielded ops a.tmps) = true := by simp [Region.wanted, hgd]
  rw [if_pos hw]
  unfold Oper.wp execOp
  simp only [ho, resolve, invoke, builtin, Sem.run_bind, Sem.run_pure, Result.andThen_ok, List.map_toArray, List.map_cons, List.map_nil, hs, hy, k1]
  exact h v' w' k2
theorem Row.tail {α : Type} {R : Rd α} {K : Nat → Prop} {w : World} {b o n cap : Nat} {xs : List α} (r : Row R 1 K w (some ⟨b, o, none⟩) (n + 1) cap xs) : Row R 1 K w (some ⟨b, o + 1, none⟩) n (cap - 1) (xs.drop 1) := by
  have h1 := r.hlen; have h2 := r.hcap; have h3 := r.hmax; have h4 := r.hsz
  refine ⟨by rw [List.length_drop]; omega, by omega, by omega, by omega, fun i x e => ?_⟩
  rw [List.getElem?_drop] at e
  obtain ⟨b', o', e1, e2, e3, e4⟩ := r.row _ x e
  cases e1
  exact ⟨b, o + 1, rfl, e2, e3, by rw [Nat.mul_one, Nat.add_assoc]; rw [Nat.mul_one] at e4; exact e4⟩
theorem BoolRet.to {p : Prop} {b : Bool} (hb : b = true ↔ p) {w w' : World} {e : Ending} (h : BoolRet p w e w') : e = .returned (.bool b) ∧ Below w.heap.size w w' := by
  obtain ⟨c, rfl, hc, h2⟩ := h
  have : c = b := by cases b <;> cases c <;> simp_all
  rw [this]; exact ⟨rfl, h2⟩
end Go.Proofs.Ytikhbijobkkhgaa
