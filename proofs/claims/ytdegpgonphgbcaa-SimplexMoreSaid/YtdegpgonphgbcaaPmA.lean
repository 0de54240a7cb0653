/-
  SimplexMore: a list of rows copied; small laws.
-/
import Derived.Deep.CutBlock
import Derived.Test.YtdegpgonphgbcaaZSoA
import Derived.Test.YtdegpgonphgbcaaSyG
import Derived.Test.YtdegpgonphgbcaaZSxV
import Derived.Test.YtdegpgonphgbcaaZFxX
import Derived.Test.YtdegpgonphgbcaaSyC
namespace Go.Proofs.Ytdegpgonphgbcaa
open Go.RowKit

theorem step_pm {P : Program} {ops : Array Oper} {o : Oper} {a : Act} {w : World} {K : Act → World → Prop} {Q : Exit → Act → World → Prop} {E : Prop} (hgd : o.guard = none) (h : Oper.wp P o a w K Q) : if Region.wanted o (yielded ops a.tmps) = true then Oper.wp P o a w K Q else E := by
  rw [if_pos (by simp [Region.wanted, hgd])]; exact h
/-- append(nil, rows...): a list of its own, of the same terms. -/
theorem op_copy {K0 : Nat → Prop} {w : World} {ra : Option Addr} {rn rc : Nat} {rows : List MRow} (R : Row RRw 2 K0 w ra rn rc rows) (h6 : rn ≤ 6) (d s : Nat) (a : Act) (K : Act → World → Prop) (Q : Exit → Act → World → Prop) (after : Array Edge) (pos : String)
    (hs : a.tmps[s]?.getD undef = .slice ra rn rc)
    (h : ∀ (va : Option Addr) (vc : Nat) (us : List Value) (w' : World), Hid (w'.ownsRow w.heap.size 50 2 (.slice va rn vc) rn (rcs us rows) ∧ TmsAt K0 w' us rows ∧ Below w.heap.size w w') → K (a.put (some d) (.slice va rn vc)) w') :
    Oper.wp Try.prog { dst := some d, op := Op.call { callee := Callee.builtin Builtin.append, args := #[Operand.const (Value.slice none 0 0), Operand.tmp s], argTypes := #[25, 25] }, type := 25, pos := pos, after := after, guard := none } a w K Q := by
  rcases Nat.eq_zero_or_pos rn with h0 | h0
  · subst h0
    have hnil : rows = [] := List.eq_nil_of_length_eq_zero R.hlen
    have h1 := h none 0 [] w ⟨by rw [hnil]; exact World.ownsRow_nil _ _ _ _, by rw [hnil]; exact TmsAt.nil _ _, Below.refl _ _⟩
    clear h R
    rcases ra with _ | ad
    · go_simp
      exact h1
    · go_simp
      exact h1
  · obtain ⟨ad, us, had, hts, hcells⟩ := rw_cells R h0
    subst had
    have hl := R.hlen
    have st := step_append_flat (P := Try.prog) (ops := #[]) (o := { dst := some d, op := Op.call { callee := Callee.builtin Builtin.append, args := #[Operand.const (Value.slice none 0 0), Operand.tmp s], argTypes := #[25, 25] }, type := 25, pos := pos, after := after, guard := none }) (a := a) (w := w) (K := K) (Q := Q) (E := False) rfl (.const (.slice none 0 0)) (.tmp s) 25 rfl 50 Try.underlying25 info_rw rfl (by decide) (World.ownsRow_nil w w.heap.size 50 2) rfl (Nat.le_refl _) ad rn rc (rcs us rows) ((get_eval a s).symm.trans hs) (by rw [rcs_length hts.1, hl]) hcells (rcs_one hts) h0 (by omega) (by decide) (by
      intro g cap w' hap
      rw [Nat.zero_add] at hap ⊢
      have ho := hap.out.owns
      rw [List.nil_append, Nat.zero_add] at ho
      have c : Chg Non w w' := hap.out.chg.mono (fun k _ e => by cases e)
      exact h _ _ us w' ⟨ho, hts.chg c (fun _ _ h => h), c.below0⟩)
    rw [if_pos (by simp [Region.wanted])] at st
    exact st
theorem tm_below {K : Nat → Prop} {w : World} {a : Option Addr} {n c : Nat} {xs : List (Int × Int)} (h : Row RTm 2 K w a n c xs) : Row RTm 2 (fun k => K k ∧ k < w.heap.size) w a n c xs :=
  ⟨h.hlen, h.hcap, h.hmax, h.hsz, fun i x hx => by
    obtain ⟨b, o, e, hk, hl, hr⟩ := h.row i x hx
    exact ⟨b, o, e, ⟨hk, hl⟩, hl, hr⟩⟩
theorem rw_below {K : Nat → Prop} {w : World} {a : Option Addr} {n c : Nat} {xs : List MRow} (h : Row RRw 2 K w a n c xs) : Row RRw 2 (fun k => K k ∧ k < w.heap.size) w a n c xs :=
  ⟨h.hlen, h.hcap, h.hmax, h.hsz, fun i x hx => by
    obtain ⟨b, o, e, hk, hl, ⟨a', n', c', e', hr⟩, e2⟩ := h.row i x hx
    exact ⟨b, o, e, ⟨hk, hl⟩, hl, ⟨a', n', c', e', tm_below hr⟩, e2⟩⟩
/-- Cells of a block, from the place o on. -/
def CellsAt (b o : Nat) (cs : List Value) (w : World) : Prop := ∀ (j : Nat) (u : Value), cs[j]? = some u → w.cell? ⟨b, o + j, none⟩ = some u
theorem CellsAt.chg {b o : Nat} {cs : List Value} {M : Nat → Prop} {w w' : World} (h : CellsAt b o cs w) (c : Chg M w w') (hM : ¬ M b) : CellsAt b o cs w' := fun j u hj => c.cell hM (h j u hj)
/-- One row behind the copied ones. -/
theorem app_row {B n8 rn : Nat} {K : Nat → Prop} {w w' : World} {va a8 : Option Addr} {vc c8 g cap : Nat} {us : List Value} {rows : List MRow} {l8 : List (Int × Int)} {z : Int}
    (own : w.ownsRow B 50 2 (.slice va rn vc) rn (rcs us rows)) (t : TmsAt (fun k => K k ∧ ¬ (Value.slice va rn vc).ownBlock = some k) w us rows) (hl : rows.length = rn) (h6 : rn ≤ 6) (hB : ∀ k, B ≤ k → K k)
    (r8 : Row RTm 2 (fun k => K k ∧ ¬ (Value.slice va rn vc).ownBlock = some k) w a8 n8 c8 l8)
    (hap : FApp 50 2 B (.slice va rn vc) rn 1 (rcs us rows) [.slice a8 n8 c8, .int .i64 z] w w' (.slice (some ⟨g, 0, none⟩) (rn + 1) cap)) :
    Row RRw 2 K w' (some ⟨g, 0, none⟩) (rn + 1) cap (rows ++ [(l8, z)]) ∧ Chg (fun k => B ≤ k) w w' := by
  have ho := hap.owns
  have e := rcs_snoc t.1 (.slice a8 n8 c8) (l8, z)
  rw [← e] at ho
  refine ⟨rw_read ho (by rw [List.length_append, hl]; rfl) (by omega) (((t.snoc r8).chg hap.chg (fun k hk => hk.2)).wide (fun k hk => hk.1)) hB, hap.chg.mono (fun k _ h => (own.lt k h).1)⟩
theorem fit_valid2 {x : Rat} (h : Fit x) (w : World) : Calls Try.prog 20 #[FrV x] w (BoolB true w) :=
  rvalid_yes x.num x.den h.1 h.2.1 (den_one x) h.d (by have := x.reduced; show Nat.gcd _ _ = 1; simpa using this) w
end Go.Proofs.Ytdegpgonphgbcaa
