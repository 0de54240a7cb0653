/-
  ages.lists: whether the lists of a set are right; the map of the lines seen so far.
-/
import Derived.Test.YtikhbijobkkhgaaMuC
import Derived.Test.YtikhbijobkkhgaaKeep2
import Derived.Maps.Own
import Derived.Maps.OwnSet
import Derived.Maps.Views
namespace Go.Proofs.Ytikhbijobkkhgaa
open Go.RowKit

/-- Block b is a map of at most n numbers, those of xs, each true. -/
def Seen (w : World) (b n : Nat) (xs : List Int) : Prop := ∃ D : DataW Unit, w.ownsMap Try.prog 3 (plainElem Try.prog 4) b n D ∧ ∀ z, D.atKey (.int .i64 z) (.lit (.bool false)) = .lit (.bool (decide (z ∈ xs)))
theorem key_law : Maps.Keyed Try.prog 3 := Maps.int_keyed Try.underlying3
theorem zero_bool (w : World) : (zeroValue 4).run Try.prog w = .ok (.bool false) w := by kernel_rfl
theorem wf_i64 {x : Int} (h : -9223372036854775808 ≤ x ∧ x ≤ 9223372036854775807) : (Lit.int .i64 x).wf = true := by
  simp [Lit.wf, IntKind.min, IntKind.max, IntKind.signed, IntKind.bits]; omega
theorem Seen.look {w : World} {b n : Nat} {xs : List Int} (h : Seen w b n xs) {x : Int} (hx : -9223372036854775808 ≤ x ∧ x ≤ 9223372036854775807) :
    (Instr.lookup 70 (.map (some b)) (.int .i64 x) false).run Try.prog w = .ok (.bool (decide (x ∈ xs))) w := by
  obtain ⟨D, h, hat⟩ := h
  obtain ⟨v, ps, hrun, hv⟩ := h.lookup key_law Try.underlying70 (zero_bool w) (plainElem_bool Try.underlying4 false) (Maps.keyOf_int_mk Try.underlying3 (wf_i64 hx))
  rw [hrun]
  rw [hat x] at hv
  unfold plainElem at hv
  rw [Try.underlying4] at hv
  cases v <;> simp at hv
  rw [hv.1]
theorem Seen.made (w : World) : Seen (w.alloc (.map #[] 0)) w.heap.size 0 [] := ⟨_, World.ownsMap_made _ _ _ _, fun z => by simp []; rfl⟩
theorem Seen.mono {w : World} {b n n' : Nat} {xs : List Int} (h : Seen w b n xs) (hn : n ≤ n') : Seen w b n' xs := by
  obtain ⟨D, h, hat⟩ := h
  exact ⟨D, h.mono hn, hat⟩
theorem Seen.lt {w : World} {b n : Nat} {xs : List Int} (h : Seen w b n xs) : b < w.heap.size := by
  obtain ⟨D, h, hat⟩ := h
  exact h.lt
theorem Seen.chg {M : Nat → Prop} {w w' : World} {b n : Nat} {xs : List Int} (h : Seen w b n xs) (hc : Chg M w w') (hb : ¬ M b) : Seen w' b n xs := by
  obtain ⟨D, ⟨es, clock, h1, h2⟩, hat⟩ := h
  exact ⟨D, ⟨es, clock, (hc.block b (Array.getElem?_eq_some_iff.1 h1).1 hb).trans h1, h2⟩, hat⟩
theorem Seen.below {w w' : World} {b n : Nat} {xs : List Int} (h : Seen w b n xs) (hc : Below w.heap.size w w') : Seen w' b n xs := h.chg (M := Non) (Chg.of_below hc) (fun h => h)
theorem Seen.same {w : World} {b n : Nat} {xs ys : List Int} (h : Seen w b n xs) (e : xs = ys) : Seen w b n ys := e ▸ h
theorem wpList_seen {w : World} {ops : Array Oper} {rest : List Oper} {o : Oper} {a : Act} {Q : Exit → Act → World → Prop} (hg : o.guard = none) (m x v : Operand) (hop : o.op = Op.mapUpdate 70 m x v)
    (b n : Nat) (xs : List Int) (z : Int) (hm : a.eval m = .map (some b)) (h : Seen w b n xs) (hn : n < 9223372036854775807) (hz : -9223372036854775808 ≤ z ∧ z ≤ 9223372036854775807) (hx : a.eval x = .int .i64 z) (hv : a.eval v = .bool true)
    (hK : ∀ w', Seen w' b (n + 1) (xs ++ [z]) → Chg (fun k => k = b) w w' → wpList Try.prog ops Q rest (a.put o.dst undef) w') : wpList Try.prog ops Q (o :: rest) a w := by
  obtain ⟨D, h, hat⟩ := h
  refine wpList_mapUpdate_own w hg m x v 70 hop 3 4 key_law Try.underlying70 _ b n D hm h (by unfold maxLen; omega) _ _ (.int .i64 z) hx hv (Maps.keyOf_int_mk Try.underlying3 (wf_i64 hz)) (.lit (.bool true)) [] (plainElem_bool Try.underlying4 true) ?_
  intro w' h' hgr
  refine hK w' ⟨_, h', fun y => ?_⟩ ((Chg.of_grown hgr).mono (fun k _ hk => (Option.some.inj hk).symm))
  by_cases hy : y = z
  · subst hy
    rw [Maps.atKey_put_same (World.ownsMap.isMap h) (show WideAt.IsKeyLit (.int .i64 y) from trivial)]
    simp
  · rw [Maps.atKey_put_other (by simpa using hy), hat y]
    simp [hy]
end Go.Proofs.Ytikhbijobkkhgaa
