/-
  A region that draws its order and ends in operations that wait for all others (a store to what was loaded): loads under a condition S first, then the one operation that may come up, one after the other.
-/
import Derived.OrdersHeld
import Derived.StillTail
import Derived.Deep.RegionHeld
import Derived.Maps.RangeWalk
import Derived.Test.YtonbmijhbbodnaaMem
namespace Go.Proofs.Ytonbmijhbbodnaa
open Go.RowKit

section
variable {P : Program} {ops : Array Oper} {Q : Exit → Act → World → Prop} {md : Region.Mode} {S : World → Prop} {n : Nat}

def wpHd (P : Program) (md : Region.Mode) (ops : Array Oper) (Q : Exit → Act → World → Prop) (S : World → Prop) (n : Nat) (T : Array Bool → Act → World → Prop) : Nat → Array Bool → Act → World → Prop
  | 0, listed, a, w => T listed a w
  | f + 1, listed, a, w => Region.ready md ops listed ≠ [] ∧ ∀ i ∈ Region.ready md ops listed, i < n ∧ wpOp P ops Q i (fun a' w' => S w' ∧ wpHd P md ops Q S n T f (listed.setIfInBounds i true) a' w') a w

theorem wpAny_of_hd {g : Nat} {T : Array Bool → Act → World → Prop} (hT : ∀ listed a w, T listed a w → wpAny P md ops Q g listed a w) :
    ∀ (f : Nat) (listed : Array Bool) (a : Act) (w : World), wpHd P md ops Q S n T f listed a w → wpAny P md ops Q (f + g) listed a w
  | 0, listed, a, w, h => by rw [Nat.zero_add]; exact hT _ _ _ h
  | f + 1, listed, a, w, h => by
    rw [show f + 1 + g = (f + g) + 1 by omega]
    exact ⟨fun h0 => absurd h0 h.1, fun i hi => wpOp_mono (fun a' w' h' => wpAny_of_hd hT f _ a' w' h'.2) (h.2 i hi).2⟩

theorem wpHd_first {i : Nat} {oi : Oper} {v : Value} {T : Array Bool → Act → World → Prop} (hi : ops[i]? = some oi) (hsel : ∀ (j : Nat) (o : Oper) cs b, ops[j]? = some o → o.op ≠ .select cs b)
    (hQ : ∀ c a w, Q (.panic c) (a.put oi.dst v) w → Q (.panic c) a w)
    (hs : Region.sinkB md ops n = true) (hc : Region.chainB md ops n = true) (hn : n < ops.size) (hin : i < n)
    (hdone : ∀ listed a w, T listed a w → ∀ j ∈ Region.ready md ops listed, n ≤ j) :
    ∀ (f : Nat) (listed : Array Bool) (a : Act) (w : World), HeadInv md ops n listed →
      (∀ j oj, ops[j]? = some oj → j ≠ i → listed.getD j true = false → (∀ e ∈ oj.after, Region.binds md e = true → e.on ≠ i) → oi.apart ops oj = true) →
      i ∈ Region.ready md ops listed → YieldsIf P ops S oi v a → S w →
      wpHd P md ops Q S n T f (listed.setIfInBounds i true) (a.put oi.dst v) w → wpHd P md ops Q S n T (f + 1) listed a w := by
  intro f
  induction f with
  | zero =>
    intro listed a w inv _ hr hy hS H
    have hun := (mem_ready.1 hr).1
    refine ⟨fun h => (by rw [h] at hr; cases hr), fun j hj => ?_⟩
    have hjn : j < n := by
      rcases Nat.lt_or_ge j n with h | h
      · exact h
      · exact absurd hj (tail_waits hs hc hn inv _ i rfl hin hun j h)
    refine ⟨hjn, ?_⟩
    by_cases hji : j = i
    · subst hji; exact hy.wpOp hi hS ⟨hS, H⟩
    · have := hdone _ _ _ H j (ready_mono hj hji)
      omega
  | succ f ih =>
    intro listed a w inv hfree hr hy hS H
    have hun := (mem_ready.1 hr).1
    refine ⟨fun h => (by rw [h] at hr; cases hr), fun j hj => ?_⟩
    have hjn : j < n := by
      rcases Nat.lt_or_ge j n with h | h
      · exact h
      · exact absurd hj (tail_waits hs hc hn inv _ i rfl hin hun j h)
    refine ⟨hjn, ?_⟩
    by_cases hji : j = i
    · subst hji; exact hy.wpOp hi hS ⟨hS, H⟩
    · have h1 := (H.2 j (ready_mono hj hji)).2
      obtain ⟨hjun, oj, hoj, hall⟩ := mem_ready.1 hj
      have hnot : ∀ e ∈ oj.after, Region.binds md e = true → e.on ≠ i := fun e he hb heq => by
        have h1 := hall e he hb
        rw [heq, getD_both hun] at h1
        cases h1
      have h2 := wpOp_putIf hoj (hfree j oj hoj hji hjun hnot) (fun cs b => hsel i oi cs b hi) (fun cs b => hsel j oj cs b hoj) hQ hy h1
      have hfree' : ∀ k ok, ops[k]? = some ok → k ≠ i → (listed.setIfInBounds j true).getD k true = false →
          (∀ e ∈ ok.after, Region.binds md e = true → e.on ≠ i) → oi.apart ops ok = true := fun k ok hk hki hun hno => by
        refine hfree k ok hk hki ?_ hno
        by_cases hjk : j = k
        · subst hjk; exact hjun
        · rw [getD_set_ne true hjk] at hun; exact hun
      refine wpOp_mono (fun a' w' h3 => ⟨h3.2.1, ih (listed.setIfInBounds j true) a' w' (inv.set hj hjn) hfree' (ready_mono hr (Ne.symm hji)) h3.1 h3.2.1 ?_⟩) h2
      rw [Array.setIfInBounds_comm _ _ hji]
      exact h3.2.2

/-- What a walk shows: S holds, and the rest goes in whatever order. -/
def Tl (P : Program) (ops : Array Oper) (Q : Exit → Act → World → Prop) (n : Nat) (listed : Array Bool) (a : Act) (w : World) : Prop := Region.seqB .any ops (ops.size - n) n listed = true ∧ wpList P ops Q (ops.toList.drop n) a w
def HdG (P : Program) (ops : Array Oper) (Q : Exit → Act → World → Prop) (S : World → Prop) (n f : Nat) (listed : Array Bool) (a : Act) (w : World) : Prop := S w → HeadInv .any ops n listed → wpHd P .any ops Q S n (Tl P ops Q n) f listed a w
structure HdOk (ops : Array Oper) (n : Nat) : Prop where
  sel : Region.noSelect ops = true
  sink : Region.sinkB .any ops n = true
  chain : Region.chainB .any ops n = true
  lt : n < ops.size
theorem hd_take {i : Nat} {oi : Oper} {v : Value} {f : Nat} {listed : Array Bool} {a : Act} {w : World} (ok : HdOk ops n) (hi : ops[i]? = some oi) (hin : i < n) (hf : Region.free .any ops listed i = true) (hr : (Region.ready .any ops listed).contains i = true)
    (hQ : ∀ c a w, Q (.panic c) (a.put oi.dst v) w → Q (.panic c) a w) (hy : YieldsIf P ops S oi v a)
    (h : HdG P ops Q S n f (listed.setIfInBounds i true) (a.put oi.dst v) w) : HdG P ops Q S n (f + 1) listed a w := fun hS inv =>
  have hri : i ∈ Region.ready .any ops listed := by simpa using hr
  wpHd_first hi (Region.noSelect_spec ok.sel) hQ ok.sink ok.chain ok.lt hin (fun _ _ _ hT => seqB_ready hT.1) f listed a w inv (Region.free_spec hi hf) hri hy hS (h hS (inv.set hri hin))
theorem hd_only {c : Nat} {oc : Oper} {f : Nat} {listed : Array Bool} {a : Act} {w : World} (hc : ops[c]? = some oc) (hcn : c < n) (hr : Region.ready .any ops listed = [c])
    (h : ∀ K : Act → World → Prop, Shut (∀ a' w', S w' → HdG P ops Q S n f (listed.setIfInBounds c true) a' w' → K a' w') → if Region.wanted oc (yielded ops a.tmps) = true then Oper.wp P oc a w K Q else K (a.put oc.dst undef) w) : HdG P ops Q S n (f + 1) listed a w := fun _ inv => by
  refine ⟨fun h0 => (by rw [hr] at h0; cases h0), fun i hi => ?_⟩
  rw [hr] at hi
  have hic : i = c := by simpa using hi
  subst hic
  refine ⟨hcn, ?_⟩
  have hri : i ∈ Region.ready .any ops listed := by rw [hr]; simp
  exact wpOp_step hc (fun K hK => h K (fun a' w' hS hG => hK a' w' ⟨hS, hG hS (inv.set hri hcn)⟩))
theorem hd_done {listed : Array Bool} {a : Act} {w : World} (hB : Region.seqB .any ops (ops.size - n) n listed = true) (h : wpList P ops Q (ops.toList.drop n) a w) : HdG P ops Q S n 0 listed a w := fun _ _ => ⟨hB, h⟩
theorem hd_start {id : Nat} {a : Act} {w : World} {l : List Oper} (n : Nat) (S : World → Prop) (hm : P.follows .mixedOrders = true) (ok : HdOk l.toArray n) (hS : S w.drew)
    (h : HdOk l.toArray n → HdG P l.toArray Q S n n (Array.replicate l.length false) a w.drew) : (Code.region id l.toArray true).wp P Q a w := by
  refine wp_region_any hm ?_
  have hsz : l.toArray.size = l.length := by simp
  have inv : HeadInv .any l.toArray n (Array.replicate l.length false) :=
    ⟨by simp, (fun j oj hj hl => by rw [getD_replicate_false] at hl; cases hl), fun t ht ht' => by
      have h' : t < l.length := by simpa using ht'
      simp [h']⟩
  have h1 := h ok hS inv
  have hlt := ok.lt
  have h2 := wpAny_of_hd (Q := Q) (g := l.toArray.size - n) (fun listed a w hT => by
    have := wpAny_of_seq (md := .any) (ops := l.toArray) (Q' := Q) (l.toArray.toList.drop n) n listed a w (fun j => by simp [List.getElem?_drop]) (by rw [List.length_drop]; simpa using hT.1) hT.2
    rw [List.length_drop] at this
    simpa using this) n _ a w.drew h1
  have e : n + (l.toArray.size - n) = l.toArray.size := by omega
  rw [e, hsz] at h2
  rw [hsz]
  exact h2
theorem at_drop {l r : List Oper} {i : Nat} {oi : Oper} (h : l.drop i = oi :: r) : l.toArray[i]? = some oi := by
  have h2 : (l.drop i)[0]? = some oi := by rw [h]; rfl
  simpa [List.getElem?_drop] using h2
/-- As hd_take, with the operation read off the text's list: it stands written out. -/
theorem hd_take_l {l r : List Oper} {i : Nat} {oi : Oper} {v : Value} {f : Nat} {listed : Array Bool} {a : Act} {w : World} (ok : HdOk l.toArray n) (hi : l.drop i = oi :: r) (hin : i < n) (hf : Region.free .any l.toArray listed i = true) (hr : (Region.ready .any l.toArray listed).contains i = true)
    (hQ : ∀ c a w, Q (.panic c) (a.put oi.dst v) w → Q (.panic c) a w) (hy : YieldsIf P l.toArray S oi v a)
    (h : HdG P l.toArray Q S n f (listed.setIfInBounds i true) (a.put oi.dst v) w) : HdG P l.toArray Q S n (f + 1) listed a w := hd_take ok (at_drop hi) hin hf hr hQ hy h
theorem hd_only_l {l r : List Oper} {c : Nat} {oc : Oper} {f : Nat} {listed : Array Bool} {a : Act} {w : World} (hc : l.drop c = oc :: r) (hcn : c < n) (hr : Region.ready .any l.toArray listed = [c])
    (h : ∀ K : Act → World → Prop, Shut (∀ a' w', S w' → HdG P l.toArray Q S n f (listed.setIfInBounds c true) a' w' → K a' w') → if Region.wanted oc (yielded l.toArray a.tmps) = true then Oper.wp P oc a w K Q else K (a.put oc.dst undef) w) : HdG P l.toArray Q S n (f + 1) listed a w := hd_only (at_drop hc) hcn hr h
/-- Two operations may come up: both ways. -/
theorem hd_two_l {l r r' : List Oper} {c d : Nat} {oc od : Oper} {f : Nat} {listed : Array Bool} {a : Act} {w : World} (hc : l.drop c = oc :: r) (hd : l.drop d = od :: r') (hcn : c < n) (hdn : d < n) (hr : Region.ready .any l.toArray listed = [c, d])
    (h : ∀ K : Act → World → Prop, Shut (∀ a' w', S w' → HdG P l.toArray Q S n f (listed.setIfInBounds c true) a' w' → K a' w') → if Region.wanted oc (yielded l.toArray a.tmps) = true then Oper.wp P oc a w K Q else K (a.put oc.dst undef) w)
    (h' : ∀ K : Act → World → Prop, Shut (∀ a' w', S w' → HdG P l.toArray Q S n f (listed.setIfInBounds d true) a' w' → K a' w') → if Region.wanted od (yielded l.toArray a.tmps) = true then Oper.wp P od a w K Q else K (a.put od.dst undef) w) : HdG P l.toArray Q S n (f + 1) listed a w := fun _ inv => by
  refine ⟨fun h0 => (by rw [hr] at h0; cases h0), fun i hi => ?_⟩
  have hi' := hi
  rw [hr] at hi'
  have hcd : i = c ∨ i = d := by simpa using hi'
  rcases hcd with rfl | rfl
  · exact ⟨hcn, wpOp_step (at_drop hc) (fun K hK => h K (fun a' w' hS hG => hK a' w' ⟨hS, hG hS (inv.set hi hcn)⟩))⟩
  · exact ⟨hdn, wpOp_step (at_drop hd) (fun K hK => h' K (fun a' w' hS hG => hK a' w' ⟨hS, hG hS (inv.set hi hdn)⟩))⟩
theorem wpHd_first_e {i : Nat} {oi : Oper} {v : Value} {T : Array Bool → Act → World → Prop} (hi : ops[i]? = some oi) (hsel : ∀ (j : Nat) (o : Oper) cs b, ops[j]? = some o → o.op ≠ .select cs b)
    (hQ : ∀ c a w, Q (.panic c) (a.put oi.dst v) w → Q (.panic c) a w)
    (hn : n = ops.size) (hin : i < n)
    (hdone : ∀ listed a w, T listed a w → ∀ j ∈ Region.ready md ops listed, n ≤ j) :
    ∀ (f : Nat) (listed : Array Bool) (a : Act) (w : World), HeadInv md ops n listed →
      (∀ j oj, ops[j]? = some oj → j ≠ i → listed.getD j true = false → (∀ e ∈ oj.after, Region.binds md e = true → e.on ≠ i) → oi.apart ops oj = true) →
      i ∈ Region.ready md ops listed → YieldsIf P ops S oi v a → S w →
      wpHd P md ops Q S n T f (listed.setIfInBounds i true) (a.put oi.dst v) w → wpHd P md ops Q S n T (f + 1) listed a w := by
  intro f
  induction f with
  | zero =>
    intro listed a w inv _ hr hy hS H
    have hun := (mem_ready.1 hr).1
    refine ⟨fun h => (by rw [h] at hr; cases hr), fun j hj => ?_⟩
    have hjn : j < n := by
      obtain ⟨_, oj, hoj, _⟩ := mem_ready.1 hj
      rw [hn]; exact (Array.getElem?_eq_some_iff.1 hoj).1
    refine ⟨hjn, ?_⟩
    by_cases hji : j = i
    · subst hji; exact hy.wpOp hi hS ⟨hS, H⟩
    · have := hdone _ _ _ H j (ready_mono hj hji)
      omega
  | succ f ih =>
    intro listed a w inv hfree hr hy hS H
    have hun := (mem_ready.1 hr).1
    refine ⟨fun h => (by rw [h] at hr; cases hr), fun j hj => ?_⟩
    have hjn : j < n := by
      obtain ⟨_, oj, hoj, _⟩ := mem_ready.1 hj
      rw [hn]; exact (Array.getElem?_eq_some_iff.1 hoj).1
    refine ⟨hjn, ?_⟩
    by_cases hji : j = i
    · subst hji; exact hy.wpOp hi hS ⟨hS, H⟩
    · have h1 := (H.2 j (ready_mono hj hji)).2
      obtain ⟨hjun, oj, hoj, hall⟩ := mem_ready.1 hj
      have hnot : ∀ e ∈ oj.after, Region.binds md e = true → e.on ≠ i := fun e he hb heq => by
        have h1 := hall e he hb
        rw [heq, getD_both hun] at h1
        cases h1
      have h2 := wpOp_putIf hoj (hfree j oj hoj hji hjun hnot) (fun cs b => hsel i oi cs b hi) (fun cs b => hsel j oj cs b hoj) hQ hy h1
      have hfree' : ∀ k ok, ops[k]? = some ok → k ≠ i → (listed.setIfInBounds j true).getD k true = false →
          (∀ e ∈ ok.after, Region.binds md e = true → e.on ≠ i) → oi.apart ops ok = true := fun k ok hk hki hun hno => by
        refine hfree k ok hk hki ?_ hno
        by_cases hjk : j = k
        · subst hjk; exact hjun
        · rw [getD_set_ne true hjk] at hun; exact hun
      refine wpOp_mono (fun a' w' h3 => ⟨h3.2.1, ih (listed.setIfInBounds j true) a' w' (inv.set hj hjn) hfree' (ready_mono hr (Ne.symm hji)) h3.1 h3.2.1 ?_⟩) h2
      rw [Array.setIfInBounds_comm _ _ hji]
      exact h3.2.2


/-! ### The same where nothing waits for all: all operations are walked so -/
structure HdEnd (ops : Array Oper) (n : Nat) : Prop where
  sel : Region.noSelect ops = true
  all : n = ops.size
theorem hd_take_e {l r : List Oper} {i : Nat} {oi : Oper} {v : Value} {f : Nat} {listed : Array Bool} {a : Act} {w : World} (ok : HdEnd l.toArray n) (hi : l.drop i = oi :: r) (hin : i < n) (hf : Region.free .any l.toArray listed i = true) (hr : (Region.ready .any l.toArray listed).contains i = true)
    (hQ : ∀ c a w, Q (.panic c) (a.put oi.dst v) w → Q (.panic c) a w) (hy : YieldsIf P l.toArray S oi v a)
    (h : HdG P l.toArray Q S n f (listed.setIfInBounds i true) (a.put oi.dst v) w) : HdG P l.toArray Q S n (f + 1) listed a w := fun hS inv =>
  have hri : i ∈ Region.ready .any l.toArray listed := by simpa using hr
  wpHd_first_e (at_drop hi) (Region.noSelect_spec ok.sel) hQ ok.all hin (fun listed' _ _ hT => by
    have h1 := hT.1
    rw [← ok.all, Nat.sub_self] at h1
    have h2 : Region.ready .any l.toArray listed' = [] := by simpa [Region.seqB] using h1
    intro j hj; rw [h2] at hj; cases hj) f listed a w inv (Region.free_spec (at_drop hi) hf) hri hy hS (h hS (inv.set hri hin))
/-- hd_take_l and hd_take_e in short: all that is decided is found where it is used. -/
theorem hd_t {l rest : List Oper} (i : Nat) {oi : Oper} {v : Value} {f : Nat} {listed : Array Bool} {a : Act} {w : World} (ok : HdOk l.toArray n) (hi : l.drop i = oi :: rest)
    (h : HdG P l.toArray Q S n f (listed.setIfInBounds i true) (a.put oi.dst v) w)
    (hin : i < n := by decide) (hf : Region.free .any l.toArray listed i = true := by kernel_rfl) (hr : (Region.ready .any l.toArray listed).contains i = true := by kernel_rfl) (hQ : ∀ c a w, Q (.panic c) (a.put oi.dst v) w → Q (.panic c) a w := by exact fun _ _ _ h => h) (hw : Region.wanted oi (yielded l.toArray a.tmps) = true := by kernel_rfl)
    (he : ∀ w, S w → (execOp a.eval oi).run P w = .ok (.value v) w := by (intro w hSw; (try dsimp only at hSw); (try go_split_ands); go_simp; (try (with_reducible rfl)))) : HdG P l.toArray Q S n (f + 1) listed a w := hd_take_l ok hi hin hf hr hQ (.inl ⟨hw, he⟩) h
theorem he_t {l rest : List Oper} (i : Nat) {oi : Oper} {v : Value} {f : Nat} {listed : Array Bool} {a : Act} {w : World} (ok : HdEnd l.toArray n) (hi : l.drop i = oi :: rest)
    (h : HdG P l.toArray Q S n f (listed.setIfInBounds i true) (a.put oi.dst v) w)
    (hin : i < n := by decide) (hf : Region.free .any l.toArray listed i = true := by kernel_rfl) (hr : (Region.ready .any l.toArray listed).contains i = true := by kernel_rfl) (hQ : ∀ c a w, Q (.panic c) (a.put oi.dst v) w → Q (.panic c) a w := by exact fun _ _ _ h => h) (hw : Region.wanted oi (yielded l.toArray a.tmps) = true := by kernel_rfl)
    (he : ∀ w, S w → (execOp a.eval oi).run P w = .ok (.value v) w := by (intro w hSw; (try dsimp only at hSw); (try go_split_ands); go_simp; (try (with_reducible rfl)))) : HdG P l.toArray Q S n (f + 1) listed a w := hd_take_e ok hi hin hf hr hQ (.inl ⟨hw, he⟩) h
theorem hd_start_e {id : Nat} {a : Act} {w : World} {l : List Oper} (n : Nat) (S : World → Prop) (hm : P.follows .mixedOrders = true) (ok : HdEnd l.toArray n) (hS : S w.drew)
    (h : HdEnd l.toArray n → HdG P l.toArray Q S n n (Array.replicate l.length false) a w.drew) : (Code.region id l.toArray true).wp P Q a w := by
  refine wp_region_any hm ?_
  have hsz : l.toArray.size = l.length := by simp
  have inv : HeadInv .any l.toArray n (Array.replicate l.length false) :=
    ⟨by simp, (fun j oj hj hl => by rw [getD_replicate_false] at hl; cases hl), fun t ht ht' => by have := ok.all; omega⟩
  have h1 := h ok hS inv
  have h2 := wpAny_of_hd (Q := Q) (g := 0) (fun listed a w hT => by
    have h9 := ok.all
    have := wpAny_of_seq (md := .any) (ops := l.toArray) (Q' := Q) (l.toArray.toList.drop n) n listed a w (fun j => by simp [List.getElem?_drop]) (by rw [List.length_drop]; simpa using hT.1) hT.2
    rw [List.length_drop] at this
    have h8 : l.toArray.toList.length - n = 0 := by simp; omega
    rw [h8] at this
    exact this) n _ a w.drew h1
  rw [Nat.add_zero, ok.all, hsz] at h2
  rw [hsz]
  exact h2
theorem hd_end {l : List Oper} {listed : Array Bool} {a : Act} {w : World} (hB : (Region.ready .any l.toArray listed).isEmpty = true) (hn : n = l.length) (h : Q .normal a w) : HdG P l.toArray Q S n 0 listed a w := by
  subst hn
  refine fun _ _ => ⟨by simpa [Region.seqB] using hB, ?_⟩
  simp only [List.drop_length]
  exact h
end
end Go.Proofs.Ytonbmijhbbodnaa
