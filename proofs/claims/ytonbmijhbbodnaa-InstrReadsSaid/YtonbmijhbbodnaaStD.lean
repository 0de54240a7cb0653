/-
  The document's Step.
-/
import Derived.Test.YtonbmijhbbodnaaZSt10
import Derived.Test.YtonbmijhbbodnaaImF
namespace Go.Proofs.Ytonbmijhbbodnaa
open Go.RowKit

def Or2 (K : Nat → Prop) (B : Nat) (k : Nat) : Prop := K k ∨ B ≤ k
/-- What Step leaves. -/
def StepR (m : Img) (c : Co) (K : Nat → Prop) (w : World) (e : Ending) (w' : World) : Prop :=
  ∃ ra rn rc da dn dc ha hn hc d v er, e = .returned (.tuple #[CoV ra rn rc da dn dc ha hn hc d.pc d.ended, EvV v, .int .i64 er]) ∧ StepIs m c d v er ∧ IsCo (Or2 K w.heap.size) w' ra rn rc da dn dc ha hn hc d ∧ Below w.heap.size w w'
theorem IsCo.wide {K K' : Nat → Prop} {w : World} {ra : Option Addr} {rn rc : Nat} {da : Option Addr} {dn dc : Nat} {ha : Option Addr} {hn hc : Nat} {c : Co} (h : IsCo K w ra rn rc da dn dc ha hn hc c) (hk : ∀ k, K k → K' k) : IsCo K' w ra rn rc da dn dc ha hn hc c :=
  ⟨Row.wide RInt.wider (fun k h _ => hk k h) h.regs, Row.wide RInt.wider (fun k h _ => hk k h) h.data, Row.wide (fun _ _ _ _ _ _ _ h => h) (fun k h _ => hk k h) h.held, h.pc⟩
theorem flat_i64 {w : World} {B n c : Nat} {K : Nat → Prop} {a : Option Addr} {l : List Int} (h : w.ownsRow B 3 1 (.slice a n c) n (ivs l)) (hl : ∀ z ∈ l, I64 z) (hm : n ≤ 1000000) (hK : ∀ j, B ≤ j → K j) : Ints K w a n c l := by
  have hlen : l.length = n := by have := h.1; rw [ivs_length] at this; omega
  obtain ⟨h1, h2, h3⟩ := flat_len h
  refine ⟨hlen, h2, by unfold maxLen at h3; omega, by omega, fun i x hx => ?_⟩
  have hi := (List.getElem?_eq_some_iff.1 hx).1
  obtain ⟨g, rfl, g1, g2, _, _, _, hc⟩ := flat_cells h (by omega)
  refine ⟨g, 0, rfl, hK g g1, g2, ?_, hl x (List.mem_of_getElem? hx)⟩
  rw [Nat.zero_add, Nat.mul_one]
  exact hc i _ (ivs_get hx)
theorem flat_bools {w : World} {B n c : Nat} {K : Nat → Prop} {a : Option Addr} {l : List Bool} (h : w.ownsRow B 4 1 (.slice a n c) n (bvs l)) (hm : n ≤ 1000000) (hK : ∀ j, B ≤ j → K j) : Bools K w a n c l := by
  have hlen : l.length = n := by have := h.1; rw [bvs_length] at this; omega
  obtain ⟨h1, h2, h3⟩ := flat_len h
  refine ⟨hlen, h2, by unfold maxLen at h3; omega, by omega, fun i x hx => ?_⟩
  have hi := (List.getElem?_eq_some_iff.1 hx).1
  obtain ⟨g, rfl, g1, g2, _, _, _, hc⟩ := flat_cells h (by omega)
  refine ⟨g, 0, rfl, hK g g1, g2, ?_⟩
  rw [Nat.zero_add, Nat.mul_one]
  exact hc i _ (bvs_get hx)
/-- Words stay words. -/
theorem wds_set {l : List Int} (h : wds l = true) (i : Nat) {z : Int} (hz : Wd z) : wds (l.set i z) = true := by
  unfold wds at h ⊢
  rw [List.all_eq_true] at h ⊢
  intro y hy
  rcases List.mem_or_eq_of_mem_set hy with h1 | h1
  · exact h y h1
  · subst h1; unfold Wd at hz; simp [wordB]; omega
theorem wds_at {l : List Int} (h : wds l = true) (i : Int) : Wd (rAt l i) := by
  unfold rAt
  rw [List.getD_eq_getElem?_getD]
  cases hx : l[i.toNat]? with
  | none => simp [Wd]
  | some z => exact wds_get h hx
theorem step_words {x : Ins} {cn : Nat} {D : Int} {c d : Co} {v : Ev} (h : stepP x cn D c = .inr (v, d)) (hch : chkI x = 0) (hr : wds c.regs = true) (hd : wds c.data = true) : wds d.regs = true ∧ wds d.data = true := by
  have hs := small_of hch
  unfold stepP at h
  split at h
  · cases h
  · split at h
    · cases h
    · cases h
      refine ⟨?_, ?_⟩
      · unfold effR
        refine wds_set ?_ 0 (by unfold Wd; omega)
        split
        · exact wds_set hr _ ⟨hs.i0, by have := hs.i1; omega⟩
        · split
          · exact wds_set hr _ (wds_at hr _)
          · split
            · exact wds_set hr _ (w32_wd _)
            · split
              · exact wds_set hr _ (wds_at hd _)
              · exact hr
      · unfold effD
        split
        · exact wds_set hd _ (wds_at hr _)
        · exact hd
theorem step_lens {x : Ins} {cn : Nat} {D : Int} {c d : Co} {v : Ev} (h : stepP x cn D c = .inr (v, d)) : d.regs.length = c.regs.length ∧ d.data.length = c.data.length ∧ d.held.length = c.held.length := by
  unfold stepP at h
  split at h
  · cases h
  · split at h
    · cases h
    · cases h
      refine ⟨?_, ?_, ?_⟩
      · unfold effR; (repeat' split) <;> simp
      · unfold effD; (repeat' split) <;> simp
      · unfold effH; (repeat' split) <;> simp
theorem wds_i64 {l : List Int} (h : wds l = true) : ∀ z ∈ l, I64 z := fun z hz => by
  obtain ⟨i, hi⟩ := List.getElem?_of_mem hz
  have := wds_get h hi
  unfold Wd at this
  exact ⟨by omega, by omega⟩
end Go.Proofs.Ytonbmijhbbodnaa
