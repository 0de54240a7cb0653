/-
  A region that draws its order, in which a condition S on the world holds until one operation r is done (a store to what was loaded): loads under S first, operations that ask nothing of the world at any time, then the one operation that may come up.
-/
import Derived.Test.YtonbmijhbbodnaaHeadr
namespace Go.Proofs.Ytonbmijhbbodnaa
open Go.RowKit

section
variable {P : Program} {ops : Array Oper} {Q : Exit → Act → World → Prop} {md : Region.Mode} {S : World → Prop} {n r : Nat}

def Pend (S : World → Prop) (r : Nat) (listed : Array Bool) (w : World) : Prop := listed.getD r true = false → S w
def wpHr (P : Program) (md : Region.Mode) (ops : Array Oper) (Q : Exit → Act → World → Prop) (S : World → Prop) (r : Nat) : Nat → Array Bool → Act → World → Prop
  | 0, listed, a, w => Region.ready md ops listed = [] ∧ Q .normal a w
  | f + 1, listed, a, w => Region.ready md ops listed ≠ [] ∧ ∀ i ∈ Region.ready md ops listed, wpOp P ops Q i (fun a' w' => Pend S r (listed.setIfInBounds i true) w' ∧ wpHr P md ops Q S r f (listed.setIfInBounds i true) a' w') a w
theorem wpAny_of_hr : ∀ (f : Nat) (listed : Array Bool) (a : Act) (w : World), wpHr P md ops Q S r f listed a w → wpAny P md ops Q f listed a w
  | 0, listed, a, w, h => ⟨by rw [h.1], h.2⟩
  | f + 1, listed, a, w, h => ⟨fun h0 => absurd h0 h.1, fun i hi => wpOp_mono (fun a' w' h' => wpAny_of_hr f _ a' w' h'.2) (h.2 i hi)⟩
/-- What waits for i, straight or through others. -/
def upB (md : Region.Mode) (ops : Array Oper) : Nat → Nat → Nat → Bool
  | 0, _, _ => false
  | f + 1, r, i => match ops[r]? with
    | some o => o.after.any fun e => Region.binds md e && (e.on == i || upB md ops f e.on i)
    | none => false
theorem upB_spec {listed : Array Bool} {i : Nat} (inv : HeadInv md ops n listed) : ∀ (f r : Nat), upB md ops f r i = true → (∀ o, ops[r]? = some o → ∀ e ∈ o.after, Region.binds md e = true → listed.getD e.on false = true) → listed.getD i false = true := by
  intro f
  induction f with
  | zero => intro r h; cases h
  | succ f ih =>
    intro r h hr
    unfold upB at h
    split at h
    · rename_i o ho
      obtain ⟨e, he, hb⟩ := Array.any_eq_true'.1 h
      simp only [Bool.and_eq_true, Bool.or_eq_true, beq_iff_eq] at hb
      have h1 := hr o ho e he hb.1
      rcases hb.2 with h2 | h2
      · rw [← h2]; exact h1
      · exact ih e.on h2 fun o' ho' e' he' hb' => inv.closed e.on o' ho' h1 e' he' hb'
    · cases h
theorem up_waits {listed : Array Bool} {i f : Nat} (inv : HeadInv md ops n listed) (h : upB md ops f r i = true) (hun : listed.getD i true = false) {j : Nat} (hj : j ∈ Region.ready md ops listed) : j ≠ r := by
  rintro rfl
  obtain ⟨_, oj, hoj, hall⟩ := mem_ready.1 hj
  have h1 := upB_spec inv f j h (fun o ho e he hb => by rw [hoj] at ho; cases ho; exact hall e he hb)
  rw [getD_both hun] at h1
  cases h1
theorem pend_set {listed : Array Bool} {i : Nat} (h : i ≠ r) {w : World} : Pend S r (listed.setIfInBounds i true) w ↔ Pend S r listed w := by
  unfold Pend; rw [getD_set_ne true h]
theorem wpHr_first {i g : Nat} {oi : Oper} {v : Value} (hi : ops[i]? = some oi) (hsel : ∀ (j : Nat) (o : Oper) cs b, ops[j]? = some o → o.op ≠ .select cs b)
    (hQ : ∀ c a w, Q (.panic c) (a.put oi.dst v) w → Q (.panic c) a w) (hn : n = ops.size) (hir : i ≠ r) (hup : upB md ops g r i = true) :
    ∀ (f : Nat) (listed : Array Bool) (a : Act) (w : World), HeadInv md ops n listed →
      (∀ j oj, ops[j]? = some oj → j ≠ i → listed.getD j true = false → (∀ e ∈ oj.after, Region.binds md e = true → e.on ≠ i) → oi.apart ops oj = true) →
      i ∈ Region.ready md ops listed → YieldsIf P ops S oi v a → S w → listed.getD r true = false →
      wpHr P md ops Q S r f (listed.setIfInBounds i true) (a.put oi.dst v) w → wpHr P md ops Q S r (f + 1) listed a w := by
  intro f
  induction f with
  | zero =>
    intro listed a w inv _ hr hy hS _ H
    have hun := (mem_ready.1 hr).1
    refine ⟨fun h => (by rw [h] at hr; cases hr), fun j hj => ?_⟩
    by_cases hji : j = i
    · subst hji; exact hy.wpOp hi hS ⟨fun _ => hS, H⟩
    · have h1 := ready_mono hj hji
      rw [H.1] at h1; cases h1
  | succ f ih =>
    intro listed a w inv hfree hr hy hS hru H
    have hun := (mem_ready.1 hr).1
    refine ⟨fun h => (by rw [h] at hr; cases hr), fun j hj => ?_⟩
    by_cases hji : j = i
    · subst hji; exact hy.wpOp hi hS ⟨fun _ => hS, H⟩
    · have hjr := up_waits inv hup hun hj
      have h1 := H.2 j (ready_mono hj hji)
      obtain ⟨hjun, oj, hoj, hall⟩ := mem_ready.1 hj
      have hnot : ∀ e ∈ oj.after, Region.binds md e = true → e.on ≠ i := fun e he hb heq => by
        have h1 := hall e he hb
        rw [heq, getD_both hun] at h1
        cases h1
      have h2 := wpOp_putIf hoj (hfree j oj hoj hji hjun hnot) (fun cs b => hsel i oi cs b hi) (fun cs b => hsel j oj cs b hoj) hQ hy h1
      have hfree' : ∀ k ok, ops[k]? = some ok → k ≠ i → (listed.setIfInBounds j true).getD k true = false →
          (∀ e ∈ ok.after, Region.binds md e = true → e.on ≠ i) → oi.apart ops ok = true := fun k ok hk hki hun hno => by
        refine hfree k ok hk hki ?_ hno
        by_cases hjk : j = k
        · subst hjk; exact hjun
        · rw [getD_set_ne true hjk] at hun; exact hun
      have hjn : j < n := by rw [hn]; exact (Array.getElem?_eq_some_iff.1 hoj).1
      have hru' : (listed.setIfInBounds j true).getD r true = false := by rw [getD_set_ne true hjr]; exact hru
      refine wpOp_mono (fun a' w' h3 => ?_) h2
      have hS' : S w' := h3.2.1 (by rw [getD_set_ne true hjr, getD_set_ne true hir]; exact hru)
      refine ⟨fun _ => hS', ih (listed.setIfInBounds j true) a' w' (inv.set hj hjn) hfree' (ready_mono hr (Ne.symm hji)) h3.1 hS' hru' ?_⟩
      rw [Array.setIfInBounds_comm _ _ hji]
      exact h3.2.2
/-- An operation that asks nothing of the world: at any time. -/
theorem wpHr_pure {i : Nat} {oi : Oper} {v : Value} (hi : ops[i]? = some oi) (hsel : ∀ (j : Nat) (o : Oper) cs b, ops[j]? = some o → o.op ≠ .select cs b)
    (hQ : ∀ c a w, Q (.panic c) (a.put oi.dst v) w → Q (.panic c) a w) (hn : n = ops.size) (hir : i ≠ r) :
    ∀ (f : Nat) (listed : Array Bool) (a : Act) (w : World), HeadInv md ops n listed →
      (∀ j oj, ops[j]? = some oj → j ≠ i → listed.getD j true = false → (∀ e ∈ oj.after, Region.binds md e = true → e.on ≠ i) → oi.apart ops oj = true) →
      i ∈ Region.ready md ops listed → YieldsIf P ops (fun _ => True) oi v a → Pend S r listed w →
      wpHr P md ops Q S r f (listed.setIfInBounds i true) (a.put oi.dst v) w → wpHr P md ops Q S r (f + 1) listed a w := by
  intro f
  induction f with
  | zero =>
    intro listed a w inv _ hr hy hS H
    have hun := (mem_ready.1 hr).1
    refine ⟨fun h => (by rw [h] at hr; cases hr), fun j hj => ?_⟩
    by_cases hji : j = i
    · subst hji; exact hy.wpOp hi trivial ⟨(pend_set hir).2 hS, H⟩
    · have h1 := ready_mono hj hji
      rw [H.1] at h1; cases h1
  | succ f ih =>
    intro listed a w inv hfree hr hy hS H
    have hun := (mem_ready.1 hr).1
    refine ⟨fun h => (by rw [h] at hr; cases hr), fun j hj => ?_⟩
    by_cases hji : j = i
    · subst hji; exact hy.wpOp hi trivial ⟨(pend_set hir).2 hS, H⟩
    · have h1 := H.2 j (ready_mono hj hji)
      obtain ⟨hjun, oj, hoj, hall⟩ := mem_ready.1 hj
      have hnot : ∀ e ∈ oj.after, Region.binds md e = true → e.on ≠ i := fun e he hb heq => by
        have h1 := hall e he hb
        rw [heq, getD_both hun] at h1
        cases h1
      have h2 := wpOp_putIf hoj (hfree j oj hoj hji hjun hnot) (fun cs b => hsel i oi cs b hi) (fun cs b => hsel j oj cs b hoj) hQ hy h1
      have hfree' : ∀ k ok, ops[k]? = some ok → k ≠ i → (listed.setIfInBounds j true).getD k true = false →
          (∀ e ∈ ok.after, Region.binds md e = true → e.on ≠ i) → oi.apart ops ok = true := fun k ok hk hki hun hno => by
        refine hfree k ok hk hki ?_ hno
        by_cases hjk : j = k
        · subst hjk; exact hjun
        · rw [getD_set_ne true hjk] at hun; exact hun
      have hjn : j < n := by rw [hn]; exact (Array.getElem?_eq_some_iff.1 hoj).1
      refine wpOp_mono (fun a' w' h3 => ?_) h2
      have hS' : Pend S r (listed.setIfInBounds j true) w' := by
        have := h3.2.1
        rw [Array.setIfInBounds_comm _ _ (Ne.symm hji)] at this
        exact (pend_set hir).1 this
      refine ⟨hS', ih (listed.setIfInBounds j true) a' w' (inv.set hj hjn) hfree' (ready_mono hr (Ne.symm hji)) h3.1 hS' ?_⟩
      rw [Array.setIfInBounds_comm _ _ hji]
      exact h3.2.2
def HrG (P : Program) (ops : Array Oper) (Q : Exit → Act → World → Prop) (S : World → Prop) (r f : Nat) (listed : Array Bool) (a : Act) (w : World) : Prop := Pend S r listed w → HeadInv .any ops ops.size listed → wpHr P .any ops Q S r f listed a w
theorem hr_take {l rest : List Oper} {i : Nat} {oi : Oper} {v : Value} {f : Nat} {listed : Array Bool} {a : Act} {w : World} (ok : Region.noSelect l.toArray = true) (hi : l.drop i = oi :: rest) (hir : (i == r) = false) (hup : upB .any l.toArray l.length r i = true) (hru : listed.getD r true = false) (hf : Region.free .any l.toArray listed i = true) (hr : (Region.ready .any l.toArray listed).contains i = true)
    (hQ : ∀ c a w, Q (.panic c) (a.put oi.dst v) w → Q (.panic c) a w) (hy : YieldsIf P l.toArray S oi v a)
    (h : HrG P l.toArray Q S r f (listed.setIfInBounds i true) (a.put oi.dst v) w) : HrG P l.toArray Q S r (f + 1) listed a w := fun hS inv =>
  have hri : i ∈ Region.ready .any l.toArray listed := by simpa using hr
  have hin : i < l.toArray.size := (Array.getElem?_eq_some_iff.1 (at_drop hi)).1
  have hne : i ≠ r := by simpa using hir
  wpHr_first (at_drop hi) (Region.noSelect_spec ok) hQ rfl hne hup f listed a w inv (Region.free_spec (at_drop hi) hf) hri hy (hS hru) hru (h ((pend_set hne).2 hS) (inv.set hri hin))
theorem hr_pure {l rest : List Oper} {i : Nat} {oi : Oper} {v : Value} {f : Nat} {listed : Array Bool} {a : Act} {w : World} (ok : Region.noSelect l.toArray = true) (hi : l.drop i = oi :: rest) (hir : (i == r) = false) (hf : Region.free .any l.toArray listed i = true) (hr : (Region.ready .any l.toArray listed).contains i = true)
    (hQ : ∀ c a w, Q (.panic c) (a.put oi.dst v) w → Q (.panic c) a w) (hy : YieldsIf P l.toArray (fun _ => True) oi v a)
    (h : HrG P l.toArray Q S r f (listed.setIfInBounds i true) (a.put oi.dst v) w) : HrG P l.toArray Q S r (f + 1) listed a w := fun hS inv =>
  have hri : i ∈ Region.ready .any l.toArray listed := by simpa using hr
  have hin : i < l.toArray.size := (Array.getElem?_eq_some_iff.1 (at_drop hi)).1
  have hne : i ≠ r := by simpa using hir
  wpHr_pure (at_drop hi) (Region.noSelect_spec ok) hQ rfl hne f listed a w inv (Region.free_spec (at_drop hi) hf) hri hy hS (h ((pend_set hne).2 hS) (inv.set hri hin))
/-- hr_take and hr_pure in short. -/
theorem hr_t {l rest : List Oper} (i : Nat) {oi : Oper} {v : Value} {f : Nat} {listed : Array Bool} {a : Act} {w : World} (ok : Region.noSelect l.toArray = true) (hi : l.drop i = oi :: rest)
    (h : HrG P l.toArray Q S r f (listed.setIfInBounds i true) (a.put oi.dst v) w)
    (hir : (i == r) = false := by rfl) (hup : upB .any l.toArray l.length r i = true := by kernel_rfl) (hru : listed.getD r true = false := by kernel_rfl) (hf : Region.free .any l.toArray listed i = true := by kernel_rfl) (hr : (Region.ready .any l.toArray listed).contains i = true := by kernel_rfl) (hQ : ∀ c a w, Q (.panic c) (a.put oi.dst v) w → Q (.panic c) a w := by exact fun _ _ _ h => h) (hw : Region.wanted oi (yielded l.toArray a.tmps) = true := by kernel_rfl)
    (he : ∀ w, S w → (execOp a.eval oi).run P w = .ok (.value v) w := by (intro w hSw; (try dsimp only at hSw); (try go_split_ands); go_simp; (try (with_reducible rfl)))) : HrG P l.toArray Q S r (f + 1) listed a w := hr_take ok hi hir hup hru hf hr hQ (.inl ⟨hw, he⟩) h
theorem hp_t {l rest : List Oper} (i : Nat) {oi : Oper} {v : Value} {f : Nat} {listed : Array Bool} {a : Act} {w : World} (ok : Region.noSelect l.toArray = true) (hi : l.drop i = oi :: rest)
    (h : HrG P l.toArray Q S r f (listed.setIfInBounds i true) (a.put oi.dst v) w)
    (hir : (i == r) = false := by rfl) (hf : Region.free .any l.toArray listed i = true := by kernel_rfl) (hr : (Region.ready .any l.toArray listed).contains i = true := by kernel_rfl) (hQ : ∀ c a w, Q (.panic c) (a.put oi.dst v) w → Q (.panic c) a w := by exact fun _ _ _ h => h) (hw : Region.wanted oi (yielded l.toArray a.tmps) = true := by kernel_rfl)
    (he : ∀ w, True → (execOp a.eval oi).run P w = .ok (.value v) w := by (intro w hSw; (try dsimp only at hSw); (try go_split_ands); go_simp; (try (with_reducible rfl)))) : HrG P l.toArray Q S r (f + 1) listed a w := hr_pure ok hi hir hf hr hQ (.inl ⟨hw, he⟩) h
theorem hr_only {l rest : List Oper} {c : Nat} {oc : Oper} {f : Nat} {listed : Array Bool} {a : Act} {w : World} (hc : l.drop c = oc :: rest) (hr : Region.ready .any l.toArray listed = [c])
    (h : ∀ K : Act → World → Prop, Shut (∀ a' w', Pend S r (listed.setIfInBounds c true) w' → HrG P l.toArray Q S r f (listed.setIfInBounds c true) a' w' → K a' w') → if Region.wanted oc (yielded l.toArray a.tmps) = true then Oper.wp P oc a w K Q else K (a.put oc.dst undef) w) : HrG P l.toArray Q S r (f + 1) listed a w := fun _ inv => by
  refine ⟨fun h0 => (by rw [hr] at h0; cases h0), fun i hi => ?_⟩
  have hri := hi
  rw [hr] at hi
  have hic : i = c := by simpa using hi
  subst hic
  have hin : i < l.toArray.size := (Array.getElem?_eq_some_iff.1 (at_drop hc)).1
  exact wpOp_step (at_drop hc) (fun K hK => h K (fun a' w' hS hG => hK a' w' ⟨hS, hG hS (inv.set hri hin)⟩))
theorem hr_end {l : List Oper} {listed : Array Bool} {a : Act} {w : World} (hB : (Region.ready .any l.toArray listed).isEmpty = true) (h : Q .normal a w) : HrG P l.toArray Q S r 0 listed a w := fun _ _ => ⟨by simpa using hB, h⟩
theorem hr_start {id : Nat} {a : Act} {w : World} {l : List Oper} (r : Nat) (S : World → Prop) (hm : P.follows .mixedOrders = true) (ok : Region.noSelect l.toArray = true) (hS : S w.drew)
    (h : Region.noSelect l.toArray = true → HrG P l.toArray Q S r l.length (Array.replicate l.length false) a w.drew) : (Code.region id l.toArray true).wp P Q a w := by
  refine wp_region_any hm ?_
  have hsz : l.toArray.size = l.length := by simp
  have inv : HeadInv .any l.toArray l.toArray.size (Array.replicate l.length false) :=
    ⟨by simp, (fun j oj hj hl => by rw [getD_replicate_false] at hl; cases hl), fun t ht ht' => by omega⟩
  have := wpAny_of_hr (Q := Q) _ _ _ _ (h ok (fun _ => hS) inv)
  rw [hsz]
  exact this
/-- Behind r nothing is asked of the world. -/
theorem pend_no {listed : Array Bool} {w : World} (h : listed.getD r true = true) : Pend S r listed w := fun e => by rw [h] at e; cases e
end
end Go.Proofs.Ytonbmijhbbodnaa
