/-
  append of one element, the length given by name.
-/
import Derived.Test.YtonbmijhbbodnaaGrow
namespace Go.Proofs.Ytonbmijhbbodnaa
open Go.RowKit

theorem wpList_append_n {P : Program} {w : World} {ops : Array Oper} {rest : List Oper} {o : Oper} {a : Act} {Q : Exit → Act → World → Prop} (n : Nat) (hgd : o.guard = none) (s y : Operand) (t : TypeId)
    (ho : o.op = .call { callee := .builtin .append, args := #[s, y], argTypes := #[t, t] }) (e : TypeId) (ht : P.underlying t = some (.slice e)) {z : Value} {bytes : Nat} (hinfo : (P.info? e).map (fun i => (i.zero, i.size, i.bytes)) = some (some z, 1, bytes)) (hz : z.cells.size = 1)
    {α : Type} {R : Ow α} (hR : Local R) {B N : Nat} {v : Value} {vs : List Value} {fps : Nat → Nat → Prop} {xs : List α} (r : Grw R e w B N v vs fps xs) (hs : a.eval s = v)
    (ab : Nat) (u : Value) (t' : TypeId) (hb : Blk w ab t' [u]) (hy : a.eval y = .slice (some ⟨ab, 0, none⟩) 1 1) {f : Nat → Prop} {x : α} (hx : R w f u x) (hf : ∀ k, f k → N ≤ k ∧ k < w.heap.size) (h1 : u.oneCell' = true)
    (hn : xs.length = n) (h63 : n < 1000000) (hby : bytes ≤ 1000)
    (h : ∀ g cap w', Hid (Appended R e B v vs fps xs u x f w w' (.slice (some ⟨g, 0, none⟩) (n + 1) cap)) → wpList P ops Q rest (a.put o.dst (.slice (some ⟨g, 0, none⟩) (n + 1) cap)) w') : wpList P ops Q (o :: rest) a w := by
  subst hn
  exact wpList_append_grw hgd s y t ho e ht hinfo hz hR r hs ab u t' hb hy hx hf h1 h63 hby h
theorem step_append_n {P : Program} {ops : Array Oper} {o : Oper} {a : Act} {w : World} {K : Act → World → Prop} {Q : Exit → Act → World → Prop} {E : Prop} (n : Nat) (hgd : o.guard = none) (s y : Operand) (t : TypeId)
    (ho : o.op = .call { callee := .builtin .append, args := #[s, y], argTypes := #[t, t] }) (e : TypeId) (ht : P.underlying t = some (.slice e)) {z : Value} {bytes : Nat} (hinfo : (P.info? e).map (fun i => (i.zero, i.size, i.bytes)) = some (some z, 1, bytes)) (hz : z.cells.size = 1)
    {α : Type} {R : Ow α} (hR : Local R) {B N : Nat} {v : Value} {vs : List Value} {fps : Nat → Nat → Prop} {xs : List α} (r : Grw R e w B N v vs fps xs) (hs : a.eval s = v)
    (ab : Nat) (u : Value) (t' : TypeId) (hb : Blk w ab t' [u]) (hy : a.eval y = .slice (some ⟨ab, 0, none⟩) 1 1) {f : Nat → Prop} {x : α} (hx : R w f u x) (hf : ∀ k, f k → N ≤ k ∧ k < w.heap.size) (h1 : u.oneCell' = true)
    (hn : xs.length = n) (h63 : n < 1000000) (hby : bytes ≤ 1000)
    (h : ∀ g cap w', Hid (Appended R e B v vs fps xs u x f w w' (.slice (some ⟨g, 0, none⟩) (n + 1) cap)) → K (a.put o.dst (.slice (some ⟨g, 0, none⟩) (n + 1) cap)) w') :
    if Region.wanted o (yielded ops a.tmps) = true then Oper.wp P o a w K Q else E := by
  subst hn
  exact step_append_grw hgd s y t ho e ht hinfo hz hR r hs ab u t' hb hy hx hf h1 h63 hby h
/-- From w to w' only the own block of v and what was made since B has changed. -/
theorem Appended.non {α : Type} {R : Ow α} {t : TypeId} {B N : Nat} {v : Value} {vs : List Value} {fps : Nat → Nat → Prop} {xs : List α} {u : Value} {x : α} {f : Nat → Prop} {w w' w0 : World} {v' : Value} (h : Appended R t B v vs fps xs u x f w w' v') (r : Grw R t w B N v vs fps xs)
    (h0 : Chg Non w0 w) (hB : w0.heap.size ≤ B) : Chg Non w0 w' := h0.trans h.chg (fun k hk e => by have := (r.own k e).1; omega)
theorem Appended.chg' {α : Type} {R : Ow α} {t : TypeId} {B N : Nat} {v : Value} {vs : List Value} {fps : Nat → Nat → Prop} {xs : List α} {u : Value} {x : α} {f : Nat → Prop} {w w' w0 : World} {v' : Value} {M : Nat → Prop} (h : Appended R t B v vs fps xs u x f w w' v') (r : Grw R t w B N v vs fps xs)
    (h0 : Chg M w0 w) (hB : ∀ k, B ≤ k → k < w0.heap.size → M k) : Chg M w0 w' := h0.trans h.chg (fun k hk e => hB k (r.own k e).1 hk)
end Go.Proofs.Ytonbmijhbbodnaa
