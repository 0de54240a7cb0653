/-
  A region's last operations ahead of its tail, in whatever order: by one invariant over which of them have been, one proof for each operation.
  Variables and lists made in one statement, in whatever order: each in a block of its own. Small laws.
-/
import Derived.Test.YtonbmijhbbodnaaHeadr
namespace Go.Proofs.Ytonbmijhbbodnaa
open Go.RowKit

section
variable {P : Program} {Q : Exit → Act → World → Prop} {S : World → Prop} {n : Nat}

/-- The operations of ls that operation i waits for. -/
def depsOf (l : List Oper) (ls : List Nat) (i : Nat) : List Nat :=
  match l[i]? with
  | some o => ((o.after.toList.filter (Region.binds .any)).map (·.on)).filter (ls.contains ·)
  | none => []
/-- Each operation ahead of n waits for earlier ones alone. -/
def earlierB (l : List Oper) (n : Nat) : Bool := (List.range n).all fun i =>
  match l[i]? with
  | some o => o.after.toList.all fun e => !(Region.binds .any e) || decide (e.on < i)
  | none => true
def fullL (l : List Oper) (n : Nat) : Array Bool := (List.replicate n true ++ List.replicate (l.length - n) false).toArray
def setB (b : Nat → Bool) (i j : Nat) : Bool := if j = i then true else b j
theorem full_of {l : List Oper} {listed : Array Bool} (hn : n ≤ l.length) (hs : listed.size = l.length) (h1 : ∀ j, j < n → listed.getD j true = true) (h2 : ∀ t, n ≤ t → t < l.length → listed.getD t true = false) : listed = fullL l n := by
  apply Array.ext_getElem?
  intro i
  have hr : (fullL l n)[i]? = (List.replicate n true ++ List.replicate (l.length - n) false)[i]? := by unfold fullL; simp
  rw [hr]
  by_cases hi : i < l.length
  · have e : listed[i]? = some (listed.getD i true) := by
      rw [Array.getD_eq_getD_getElem?, Array.getElem?_eq_getElem (by omega)]; rfl
    rw [e]
    by_cases hin : i < n
    · rw [h1 i hin, List.getElem?_append_left (by simpa using hin), List.getElem?_replicate, if_pos hin]
    · rw [h2 i (by omega) hi, List.getElem?_append_right (by simp; omega), List.getElem?_replicate, if_pos (by simp; omega)]
  · rw [Array.getElem?_eq_none (by omega), List.getElem?_eq_none (by simp; omega)]
theorem filter_setB {b : Nat → Bool} {i : Nat} : ∀ {ls : List Nat}, ls.Nodup → i ∈ ls → b i = false → (ls.filter fun j => !b j).length = (ls.filter fun j => !setB b i j).length + 1
  | [], _, h, _ => by cases h
  | x :: r, hn, hi, hb => by
    have hn' := List.nodup_cons.1 hn
    by_cases hx : x = i
    · subst hx
      have e : (r.filter fun j => !setB b x j) = r.filter fun j => !b j := List.filter_congr fun j hj => by
        have : ¬ j = x := fun e => hn'.1 (e ▸ hj)
        simp [setB, this]
      have e2 : setB b x x = true := by simp [setB]
      rw [List.filter_cons, List.filter_cons, hb, e2, e]
      simp
    · have hir : i ∈ r := by
        rcases List.mem_cons.1 hi with h | h
        · exact absurd h.symm hx
        · exact h
      have ih := filter_setB hn'.2 hir hb
      have e : setB b i x = b x := by simp [setB, hx]
      rw [List.filter_cons, List.filter_cons, e]
      cases b x
      · simp only [Bool.not_false, if_true, List.length_cons]; omega
      · simpa using ih

theorem hd_inv_go {l : List Oper} {ls : List Nat} (ok : HdOk l.toArray n ∨ HdEnd l.toArray n) (hnd : ls.Nodup) (hlt : ∀ i ∈ ls, i < n) (hear : earlierB l n = true)
    (J : (Nat → Bool) → Act → World → Prop)
    (step : ∀ i oi, i ∈ ls → l[i]? = some oi → ∀ b a w, J b a w → b i = false → (∀ j, (depsOf l ls i).contains j = true → b j = true) → S w → ∀ K : Act → World → Prop, Shut (∀ a' w', S w' → J (setB b i) a' w' → K a' w') → if Region.wanted oi (yielded l.toArray a.tmps) = true then Oper.wp P oi a w K Q else K (a.put oi.dst undef) w)
    (fin : ∀ b a w, (∀ i ∈ ls, b i = true) → J b a w → S w → HdG P l.toArray Q S n 0 (fullL l n) a w) :
    ∀ (f : Nat) (b : Nat → Bool) (listed : Array Bool) (a : Act) (w : World), (ls.filter fun j => !b j).length = f → (∀ j, j < n → listed.getD j true = if ls.contains j then b j else true) → J b a w → HdG P l.toArray Q S n f listed a w := by
  have hnl : n ≤ l.length := by
    rcases ok with h | h
    · have := h.lt; simp at this; omega
    · have := h.all; simp at this; omega
  intro f
  induction f with
  | zero =>
    intro b listed a w hf hl hJ hS inv
    have hall : ∀ i ∈ ls, b i = true := fun i hi => by
      have h0 : (ls.filter fun j => !b j) = [] := List.eq_nil_of_length_eq_zero hf
      have := List.filter_eq_nil_iff.1 h0 i hi
      simpa using this
    have e : listed = fullL l n := full_of hnl (by have := inv.size; simpa using this) (fun j hj => by
      rw [hl j hj]
      split
      · exact hall j (by simpa using ‹ls.contains j = true›)
      · rfl) (fun t h1 h2 => inv.tail t h1 (by simpa using h2))
    subst e
    exact fin b a w hall hJ hS hS inv
  | succ f ih =>
    intro b listed a w hf hl hJ hS inv
    have hex : ∃ i, i < n ∧ listed.getD i true = false := by
      obtain ⟨i, hi⟩ := List.exists_mem_of_length_pos (l := ls.filter fun j => !b j) (by omega)
      have hi' := List.mem_filter.1 hi
      refine ⟨i, hlt i hi'.1, ?_⟩
      rw [hl i (hlt i hi'.1), if_pos (by simpa using hi'.1)]
      simpa using hi'.2
    refine ⟨?_, fun i hi => ?_⟩
    · -- some operation is ready: the first one that has not been
      have hleast : ∀ m, (∃ i, i ≤ m ∧ i < n ∧ listed.getD i true = false) → ∃ i, i < n ∧ listed.getD i true = false ∧ ∀ j, j < i → listed.getD j true = true := by
        intro m
        induction m with
        | zero => rintro ⟨i, h1, h2, h3⟩; exact ⟨i, h2, h3, fun j hj => by omega⟩
        | succ m ihm =>
          rintro ⟨i, h1, h2, h3⟩
          by_cases hm : ∃ i, i ≤ m ∧ i < n ∧ listed.getD i true = false
          · exact ihm hm
          · refine ⟨i, h2, h3, fun j hj => ?_⟩
            cases hjv : listed.getD j true with
            | true => rfl
            | false => exact absurd ⟨j, by omega, by omega, hjv⟩ hm
      obtain ⟨i0, hi0⟩ := hex
      obtain ⟨i, h1, h2, h3⟩ := hleast i0 ⟨i0, Nat.le_refl _, hi0⟩
      intro hemp
      have hir : i ∈ Region.ready .any l.toArray listed := by
        rw [mem_ready]
        refine ⟨h2, l[i]'(by omega), by simp [show i < l.length by omega], fun e he hb => ?_⟩
        have hE := List.all_eq_true.1 hear i (List.mem_range.2 h1)
        rw [List.getElem?_eq_getElem (show i < l.length by omega)] at hE
        have hE2 := List.all_eq_true.1 hE e (by simpa using he)
        rw [hb] at hE2
        simp at hE2
        have hs := inv.size
        have := h3 e.on hE2
        rw [Array.getD_eq_getD_getElem?] at this ⊢
        rw [Array.getElem?_eq_getElem (by rw [hs]; simp; omega)] at this ⊢
        exact this
      rw [hemp] at hir; cases hir
    · obtain ⟨hun, oi, hoi, hafter⟩ := mem_ready.1 hi
      have hin : i < n := by
        rcases Nat.lt_or_ge i n with h | h
        · exact h
        · rcases ok with k | k
          · obtain ⟨i0, h1, h2⟩ := hex
            exact absurd hi (tail_waits k.sink k.chain k.lt inv _ i0 rfl h1 h2 i h)
          · have h9 := (Array.getElem?_eq_some_iff.1 hoi).1
            have := k.all; omega
      have hli := hl i hin
      rw [hun] at hli
      have hmem : i ∈ ls := by
        by_cases h : ls.contains i = true
        · simpa using h
        · rw [if_neg h] at hli; cases hli
      have hbi : b i = false := by rw [if_pos (by simpa using hmem)] at hli; exact hli.symm
      have hoi' : l[i]? = some oi := by simpa using hoi
      refine ⟨hin, wpOp_step hoi fun K hK => step i oi hmem hoi' b a w hJ hbi (fun j hj => ?_) hS K (fun a' w' hS' hJ' => hK a' w' ⟨hS', ih (setB b i) (listed.setIfInBounds i true) a' w' ?_ (fun j hj => ?_) hJ' hS' (inv.set hi hin)⟩)⟩
      · unfold depsOf at hj
        rw [hoi'] at hj
        simp only [List.contains_iff_mem, List.mem_filter, List.mem_map] at hj
        obtain ⟨⟨e, he, rfl⟩, hjl⟩ := hj
        have h1 := hafter e (by simpa using he.1) he.2
        have h2 := hlt e.on hjl
        have h3 := hl e.on h2
        rw [if_pos (by simpa using hjl)] at h3
        rw [← h3]
        have hs := inv.size
        rw [Array.getD_eq_getD_getElem?] at h1 ⊢
        rw [Array.getElem?_eq_getElem (by rw [hs]; simp; omega)] at h1 ⊢
        exact h1
      · have := filter_setB hnd hmem hbi; omega
      · by_cases hij : i = j
        · subst hij
          rw [if_pos (by simpa using hmem)]
          have hs := inv.size
          rw [Array.getD_eq_getD_getElem?, Array.getElem?_setIfInBounds_self_of_lt (by rw [hs]; simp; omega)]
          simp [setB]
        · rw [getD_set_ne true hij, hl j hj]
          simp [setB, show ¬ j = i from fun e => hij e.symm]
/-- All operations of ls in whatever order: J holds of which have been. -/
theorem hd_inv {l : List Oper} {listed : Array Bool} {a : Act} {w : World} {f : Nat} (ls : List Nat) (J : (Nat → Bool) → Act → World → Prop) (ok : HdOk l.toArray n ∨ HdEnd l.toArray n)
    (hc : ls.Nodup ∧ (∀ i ∈ ls, i < n) ∧ earlierB l n = true ∧ ls.length = f) (hl : (List.range n).all (fun j => listed.getD j true == !ls.contains j) = true)
    (h0 : J (fun _ => false) a w)
    (step : ∀ i oi, i ∈ ls → l[i]? = some oi → ∀ b a w, J b a w → b i = false → (∀ j, (depsOf l ls i).contains j = true → b j = true) → S w → ∀ K : Act → World → Prop, Shut (∀ a' w', S w' → J (setB b i) a' w' → K a' w') → if Region.wanted oi (yielded l.toArray a.tmps) = true then Oper.wp P oi a w K Q else K (a.put oi.dst undef) w)
    (fin : ∀ b a w, (∀ i ∈ ls, b i = true) → J b a w → S w → HdG P l.toArray Q S n 0 (fullL l n) a w) : HdG P l.toArray Q S n f listed a w :=
  hd_inv_go ok hc.1 hc.2.1 hc.2.2.1 J step fin f (fun _ => false) listed a w (by rw [← hc.2.2.2]; simp) (fun j hj => by
    have := List.all_eq_true.1 hl j (List.mem_range.2 hj)
    rw [beq_iff_eq] at this
    rw [this]
    cases ls.contains j <;> simp) h0

/-! ### The same by the values of the operations alone -/
def dstOf (l : List Oper) (i : Nat) : Option Nat := match l[i]? with | some o => o.dst | none => none
def setV (v : Nat → Value) (i : Nat) (x : Value) (j : Nat) : Value := if j = i then x else v j
def putAll (l : List Oper) (v : Nat → Value) (a0 : Act) : List Nat → Act
  | [] => a0
  | i :: r => putAll l v (a0.put (dstOf l i) (v i)) r
structure FrI (l : List Oper) (ls : List Nat) (a0 : Act) (b : Nat → Bool) (v : Nat → Value) (a : Act) : Prop where
  defers : a.defers = a0.defers
  size : a.tmps.size = a0.tmps.size
  done : ∀ j d, j ∈ ls → dstOf l j = some d → b j = true → a.tmps[d]? = some (v j)
  rest : ∀ t, (∀ j, j ∈ ls → b j = true → dstOf l j ≠ some t) → a.tmps[t]? = a0.tmps[t]?
theorem act_put_size (a : Act) (d : Nat) (x : Value) : (a.put (some d) x).tmps.size = a.tmps.size := by simp [Act.put]
theorem act_put_get (a : Act) (d t : Nat) (x : Value) (hd : d < a.tmps.size) : (a.put (some d) x).tmps[t]? = if d = t then some x else a.tmps[t]? := by
  by_cases e : d = t
  · subst e; simp [Act.put, hd]
  · simp [Act.put, e]
theorem putAll_get {l : List Oper} {v : Nat → Value} : ∀ {ls : List Nat} {a0 : Act}, ls.Nodup → (∀ j ∈ ls, ∃ d, dstOf l j = some d ∧ d < a0.tmps.size) → (∀ i j, i ∈ ls → j ∈ ls → dstOf l i = dstOf l j → i = j) →
    (putAll l v a0 ls).defers = a0.defers ∧ (putAll l v a0 ls).tmps.size = a0.tmps.size ∧ (∀ j d, j ∈ ls → dstOf l j = some d → (putAll l v a0 ls).tmps[d]? = some (v j)) ∧ ∀ t, (∀ j, j ∈ ls → dstOf l j ≠ some t) → (putAll l v a0 ls).tmps[t]? = a0.tmps[t]?
  | [], a0, _, _, _ => ⟨rfl, rfl, fun j d h => (by cases h), fun t _ => rfl⟩
  | i :: r, a0, hn, hd, hi => by
    obtain ⟨d, h1, h2⟩ := hd i (List.mem_cons_self ..)
    have hn' := List.nodup_cons.1 hn
    have hs : (a0.put (some d) (v i)).tmps.size = a0.tmps.size := act_put_size ..
    obtain ⟨k1, k2, k3, k4⟩ := putAll_get (l := l) (v := v) (ls := r) (a0 := a0.put (some d) (v i)) hn'.2 (fun j hj => by
      obtain ⟨e, e1, e2⟩ := hd j (List.mem_cons_of_mem _ hj)
      exact ⟨e, e1, by rw [hs]; exact e2⟩) (fun x y hx hy => hi x y (List.mem_cons_of_mem _ hx) (List.mem_cons_of_mem _ hy))
    have hp : putAll l v a0 (i :: r) = putAll l v (a0.put (some d) (v i)) r := by rw [putAll, h1]
    rw [hp]
    refine ⟨by rw [k1]; simp [Act.put], by rw [k2, hs], fun j e hj he => ?_, fun t ht => ?_⟩
    · rcases List.mem_cons.1 hj with rfl | hj'
      · rw [h1] at he
        cases he
        rw [k4 _ (fun x hx hxe => hn'.1 (by have := hi x j (List.mem_cons_of_mem _ hx) (List.mem_cons_self ..) (by rw [hxe, h1]); exact this ▸ hx)), act_put_get _ _ _ _ h2, if_pos rfl]
      · exact k3 j e hj' he
    · rw [k4 t (fun j hj => ht j (List.mem_cons_of_mem _ hj)), act_put_get _ _ _ _ h2, if_neg]
      intro e
      exact ht i (List.mem_cons_self ..) (by rw [h1, e])
theorem act_ext_get {a a' : Go.Act} (h1 : a.defers = a'.defers) (h2 : ∀ t : Nat, a.tmps[t]? = a'.tmps[t]?) : a = a' := by
  cases a; cases a'
  simp only [] at h1 h2
  subst h1
  congr 1
  exact Array.ext_getElem? h2
/-- All operations of ls in whatever order: J holds of which have been and what they gave. -/
theorem hd_inv_v {l : List Oper} {listed : Array Bool} {a0 : Act} {w : World} {f : Nat} (ls : List Nat) (v0 : Nat → Value) (J : (Nat → Bool) → (Nat → Value) → World → Prop) (ok : HdOk l.toArray n ∨ HdEnd l.toArray n)
    (hc : ls.Nodup ∧ (∀ i ∈ ls, i < n) ∧ earlierB l n = true ∧ ls.length = f) (hl : (List.range n).all (fun j => listed.getD j true == !ls.contains j) = true)
    (hd : ls.all (fun j => match dstOf l j with | some d => decide (d < a0.tmps.size) | none => false) = true) (hi : (ls.map (dstOf l)).Nodup)
    (h0 : J (fun _ => false) v0 w)
    (step : ∀ i oi, i ∈ ls → l[i]? = some oi → ∀ b v a w, J b v w → FrI l ls a0 b v a → b i = false → (∀ j, (depsOf l ls i).contains j = true → b j = true) → S w → ∀ K : Act → World → Prop, Shut (∀ x w', S w' → J (setB b i) (setV v i x) w' → K (a.put oi.dst x) w') → if Region.wanted oi (yielded l.toArray a.tmps) = true then Oper.wp P oi a w K Q else K (a.put oi.dst undef) w)
    (fin : ∀ b v w, (∀ i ∈ ls, b i = true) → J b v w → S w → HdG P l.toArray Q S n 0 (fullL l n) (putAll l v a0 ls) w) : HdG P l.toArray Q S n f listed a0 w := by
  have hd' : ∀ j ∈ ls, ∃ d, dstOf l j = some d ∧ d < a0.tmps.size := fun j hj => by
    have := List.all_eq_true.1 hd j hj
    split at this
    · exact ⟨_, by assumption, by simpa using this⟩
    · cases this
  have hinj : ∀ i j, i ∈ ls → j ∈ ls → dstOf l i = dstOf l j → i = j := fun i j h1 h2 he => by
    obtain ⟨x, hx, rfl⟩ := List.getElem_of_mem h1
    obtain ⟨y, hy, rfl⟩ := List.getElem_of_mem h2
    have := List.pairwise_iff_getElem.1 hi
    rcases Nat.lt_trichotomy x y with h | h | h
    · exact absurd (by rw [List.getElem_map, List.getElem_map]; exact he) (this x y (by simpa using hx) (by simpa using hy) h)
    · subst h; rfl
    · exact absurd (by rw [List.getElem_map, List.getElem_map]; exact he.symm) (this y x (by simpa using hy) (by simpa using hx) h)
  refine hd_inv ls (fun b a w => ∃ v, J b v w ∧ FrI l ls a0 b v a) ok hc hl ⟨v0, h0, rfl, rfl, fun j d _ _ h => (by cases h), fun t _ => rfl⟩ ?_ ?_
  · rintro i oi hm ho b a w ⟨v, hJ, hF⟩ hb hdep hS K hK
    refine step i oi hm ho b v a w hJ hF hb hdep hS K fun x w' hS' hJ' => hK _ w' hS' ⟨setV v i x, hJ', ?_⟩
    obtain ⟨d, h1, h2⟩ := hd' i hm
    have hod : oi.dst = some d := by unfold dstOf at h1; rw [ho] at h1; exact h1
    rw [hod]
    have hda : d < a.tmps.size := by rw [hF.size]; exact h2
    refine ⟨by simp [Act.put, hF.defers], by rw [act_put_size, hF.size], fun j e hj he hbj => ?_, fun t ht => ?_⟩
    · rw [act_put_get _ _ _ _ hda]
      by_cases hji : j = i
      · subst hji
        rw [h1] at he; cases he
        simp [setV]
      · have hne : ¬ d = e := fun h => hji (hinj j i hj hm (by rw [he, h1, h]))
        rw [if_neg hne]
        have hb2 : b j = true := by simpa [setB, hji] using hbj
        simp only [setV, hji, if_false]
        exact hF.done j e hj he hb2
    · have hne : ¬ d = t := fun h => ht i hm (by simp [setB]) (by rw [h1, h])
      rw [act_put_get _ _ _ _ hda, if_neg hne]
      exact hF.rest t fun j hj hbj => ht j hj (by by_cases hji : j = i <;> simp [setB, hji, hbj])
  · rintro b a w hall ⟨v, hJ, hF⟩ hS
    obtain ⟨k1, k2, k3, k4⟩ := putAll_get (l := l) (v := v) (a0 := a0) hc.1 hd' hinj
    have e : a = putAll l v a0 ls := act_ext_get (by rw [hF.defers, k1]) fun t => by
      by_cases ht : ∃ j, j ∈ ls ∧ dstOf l j = some t
      · obtain ⟨j, hj, hjt⟩ := ht
        rw [hF.done j t hj hjt (hall j hj), k3 j t hj hjt]
      · rw [hF.rest t fun j hj _ hjt => ht ⟨j, hj, hjt⟩, k4 t fun j hj hjt => ht ⟨j, hj, hjt⟩]
    rw [e]
    exact fin b v w hall hJ hS

/-! ### The same, each operation named with the place where it leaves its value -/
def putP (v : Nat → Value) (a0 : Act) : List (Nat × Nat) → Act
  | [] => a0
  | p :: r => putP v (a0.put (some p.1) (v p.2)) r
theorem putAll_putP {l : List Oper} {v : Nat → Value} : ∀ {ps : List (Nat × Nat)} {a0 : Act}, (∀ p ∈ ps, dstOf l p.2 = some p.1) → putAll l v a0 (ps.map (·.2)) = putP v a0 ps
  | [], _, _ => rfl
  | p :: r, a0, h => by
    rw [List.map_cons, putAll, putP, h p (List.mem_cons_self ..)]
    exact putAll_putP fun q hq => h q (List.mem_cons_of_mem _ hq)
theorem eval_tmp {a : Act} {t : Nat} {x : Value} (h : a.tmps[t]? = some x) : a.eval (.tmp t) = x := by
  show a.tmps.getD t undef = x
  rw [Array.getD_eq_getD_getElem?, h]; rfl
theorem get_eval (a : Act) (t : Nat) : a.tmps[t]?.getD undef = a.eval (.tmp t) := by
  show a.tmps[t]?.getD undef = a.tmps.getD t undef
  rw [Array.getD_eq_getD_getElem?]
theorem eval_same {a a0 : Act} {t : Nat} (h : a.tmps[t]? = a0.tmps[t]?) : a.eval (.tmp t) = a0.eval (.tmp t) := by
  show a.tmps.getD t undef = a0.tmps.getD t undef
  rw [Array.getD_eq_getD_getElem?, Array.getD_eq_getD_getElem?, h]
theorem hd_inv_p {l : List Oper} {listed : Array Bool} {a0 : Act} {w : World} {f : Nat} (ps : List (Nat × Nat)) (v0 : Nat → Value) (J : (Nat → Bool) → (Nat → Value) → World → Prop) (ok : HdOk l.toArray n ∨ HdEnd l.toArray n)
    (hc : (ps.map (·.2)).Nodup ∧ (∀ i ∈ ps.map (·.2), i < n) ∧ earlierB l n = true ∧ (ps.map (·.2)).length = f) (hl : (List.range n).all (fun j => listed.getD j true == !(ps.map (·.2)).contains j) = true)
    (hd : ps.all (fun p => dstOf l p.2 == some p.1 && decide (p.1 < a0.tmps.size)) = true) (hi : (ps.map (·.1)).Nodup)
    (h0 : J (fun _ => false) v0 w)
    (step : ∀ i oi, i ∈ ps.map (·.2) → l[i]? = some oi → ∀ b v a w, J b v w → (∀ d j, (d, j) ∈ ps → b j = true → a.eval (.tmp d) = v j) → (∀ t, t ∉ ps.map (·.1) → a.eval (.tmp t) = a0.eval (.tmp t)) → b i = false → (∀ j, (depsOf l (ps.map (·.2)) i).contains j = true → b j = true) → S w → ∀ K : Act → World → Prop, Shut (∀ x w', S w' → J (setB b i) (setV v i x) w' → K (a.put oi.dst x) w') → if Region.wanted oi (yielded l.toArray a.tmps) = true then Oper.wp P oi a w K Q else K (a.put oi.dst undef) w)
    (fin : ∀ b v w, (∀ i ∈ ps.map (·.2), b i = true) → J b v w → S w → HdG P l.toArray Q S n 0 (fullL l n) (putP v a0 ps) w) : HdG P l.toArray Q S n f listed a0 w := by
  have hp : ∀ p ∈ ps, dstOf l p.2 = some p.1 ∧ p.1 < a0.tmps.size := fun p hpm => by
    have := List.all_eq_true.1 hd p hpm
    simpa using this
  refine hd_inv_v (ps.map (·.2)) v0 J ok hc hl ?_ ?_ h0 ?_ ?_
  · refine List.all_eq_true.2 fun j hj => ?_
    obtain ⟨p, hpm, rfl⟩ := List.mem_map.1 hj
    rw [(hp p hpm).1]
    simpa using (hp p hpm).2
  · have e : (ps.map (·.2)).map (dstOf l) = (ps.map (·.1)).map some := by
      rw [List.map_map, List.map_map]
      exact List.map_congr_left fun p hpm => (hp p hpm).1
    rw [e]
    have h9 := List.pairwise_map (f := fun d : Nat => some d) (R := fun x y => x ≠ y) (l := ps.map (·.1))
    exact h9.2 (hi.imp fun h => by simpa using h)
  · rintro i oi hm ho b v a w hJ hF hb hdep hS K hK
    refine step i oi hm ho b v a w hJ (fun d j hj hbj => ?_) (fun t ht => ?_) hb hdep hS K hK
    · exact eval_tmp (hF.done j d (List.mem_map.2 ⟨(d, j), hj, rfl⟩) (hp _ hj).1 hbj)
    · refine eval_same (hF.rest t fun j hj _ he => ht ?_)
      obtain ⟨p, hpm, rfl⟩ := List.mem_map.1 hj
      rw [(hp p hpm).1] at he
      cases he
      exact List.mem_map.2 ⟨p, hpm, rfl⟩
  · intro b v w hall hJ hS
    rw [putAll_putP fun p hpm => (hp p hpm).1]
    exact fin b v w hall hJ hS
end

/-- Of the operations i that make a block, those done (b) have: the value val i q, the block q of type ty i with the cells cs i. -/
structure AJ (base : Nat) (w0 : World) (val : Nat → Nat → Value) (ty : Nat → TypeId) (cs : Nat → List Value) (al : Nat → Prop) (b : Nat → Bool) (v : Nat → Value) (q : Nat → Nat) (w' : World) : Prop where
  below : Below base w0 w'
  size : base ≤ w'.heap.size
  have_ : ∀ i, al i → b i = true → v i = val i (q i) ∧ Blk w' (q i) (ty i) (cs i) ∧ base ≤ q i
  apart : ∀ i j, al i → al j → b i = true → b j = true → i ≠ j → q i ≠ q j
variable {base : Nat} {w0 w' : World} {val : Nat → Nat → Value} {ty : Nat → TypeId} {cs : Nat → List Value} {al : Nat → Prop} {b : Nat → Bool} {v : Nat → Value} {q : Nat → Nat}
theorem AJ.start (hb : base = w0.heap.size) (hw : Below base w0 w') (v : Nat → Value) : AJ base w0 val ty cs al (fun _ => false) v (fun _ => 0) w' :=
  ⟨hw, by rw [hb]; exact hw.size, (fun i _ h => by cases h), (fun i j _ _ h => by cases h)⟩
theorem AJ.step (h : AJ base w0 val ty cs al b v q w') {i : Nat} (hi : b i = false) {x : Value} (hx : x = val i w'.heap.size) : AJ base w0 val ty cs al (setB b i) (setV v i x) (fun j => if j = i then w'.heap.size else q j) (w'.alloc (.cells (cs i).toArray (ty i))) := by
  have hsz := h.size
  refine ⟨h.below.alloc hsz _, by rw [World.size_alloc]; omega, fun j ha hj => ?_, fun j k ha hk hj hkk hne => ?_⟩
  · by_cases e : j = i
    · subst e
      simp only [setV, if_true]
      exact ⟨hx, Blk.new w' (cs j) (ty j), hsz⟩
    · simp only [setB, e, if_false] at hj
      simp only [setV, e, if_false]
      obtain ⟨h1, h2, h3⟩ := h.have_ j ha hj
      exact ⟨h1, h2.old _, h3⟩
  · by_cases e : j = i
    · subst e
      have hkj : ¬ k = j := fun e => hne e.symm
      simp only [setB, hkj, if_false] at hkk
      have := (h.have_ k hk hkk).2.1.lt
      simp only [if_true, hkj, if_false]
      omega
    · by_cases e' : k = i
      · subst e'
        simp only [setB, e, if_false] at hj
        have := (h.have_ j ha hj).2.1.lt
        simp only [if_true, e, if_false]
        omega
      · simp only [setB, e, e', if_false] at hj hkk
        simp only [e, e', if_false]
        exact h.apart j k ha hk hj hkk hne
/-- An operation that makes no block. -/
theorem AJ.keep (h : AJ base w0 val ty cs al b v q w') {i : Nat} (hi : ¬ al i) (x : Value) : AJ base w0 val ty cs al (setB b i) (setV v i x) q w' := by
  refine ⟨h.below, h.size, fun j ha hj => ?_, fun j k ha hk hj hkk hne => ?_⟩
  · have e : ¬ j = i := fun e => hi (e ▸ ha)
    simp only [setB, e, if_false] at hj
    simp only [setV, e, if_false]
    exact h.have_ j ha hj
  · have e : ¬ j = i := fun e => hi (e ▸ ha)
    have e' : ¬ k = i := fun e => hi (e ▸ hk)
    simp only [setB, e, e', if_false] at hj hkk
    exact h.apart j k ha hk hj hkk hne
end Go.Proofs.Ytonbmijhbbodnaa
