/-
  Lines of memory by their ages in one set: insertion, use, join, order. Plain laws of lists, no program in sight.
-/
import Derived.Handy
namespace Go.Proofs.Ytlpelpjcbclemaa

/-- y stands in list i. -/
def At (g : List (List Int)) (i : Nat) (y : Int) : Prop := ∃ l, g[i]? = some l ∧ y ∈ l
theorem At.lt {g : List (List Int)} {i : Nat} {y : Int} (h : At g i y) : i < g.length := by obtain ⟨l, h, _⟩ := h; exact (List.getElem?_eq_some_iff.1 h).1
theorem At.get {g : List (List Int)} {i : Nat} {l : List Int} {y : Int} (h : g[i]? = some l) : At g i y ↔ y ∈ l := ⟨fun ⟨m, h1, h2⟩ => by rw [h] at h1; cases h1; exact h2, fun h1 => ⟨l, h, h1⟩⟩
/-- The age of the first list that has n; the number of lists if none has. -/
def plc : List (List Int) → Int → Nat
  | [], _ => 0
  | l :: r, n => if n ∈ l then 0 else plc r n + 1
theorem plc_cons (l : List Int) (r : List (List Int)) (n : Int) : plc (l :: r) n = if n ∈ l then 0 else plc r n + 1 := rfl
theorem plc_le : ∀ (g : List (List Int)) (n : Int), plc g n ≤ g.length
  | [], _ => Nat.le_refl _
  | l :: r, n => by unfold plc; have := plc_le r n; split <;> simp <;> omega
theorem plc_found : ∀ {g : List (List Int)} {n : Int}, plc g n < g.length → At g (plc g n) n
  | [], _, h => absurd h (Nat.not_lt_zero _)
  | l :: r, n, h => by
    unfold plc at h ⊢
    split
    · exact ⟨l, rfl, by assumption⟩
    · rename_i hn
      rw [if_neg hn] at h
      obtain ⟨m, h1, h2⟩ := plc_found (g := r) (n := n) (by simp at h; omega)
      exact ⟨m, by simpa using h1, h2⟩
theorem plc_min : ∀ {g : List (List Int)} {n : Int} {i : Nat}, At g i n → plc g n ≤ i
  | [], _, i, ⟨l, h, _⟩ => by simp at h
  | l :: r, n, i, ⟨m, h, hm⟩ => by
    unfold plc
    split
    · omega
    · rename_i hn
      cases i with
      | zero => simp at h; subst h; exact absurd hm hn
      | succ i => have := plc_min (g := r) (n := n) (i := i) ⟨m, by simpa using h, hm⟩; omega
theorem plc_none {g : List (List Int)} {n : Int} (h : plc g n = g.length) (i : Nat) : ¬ At g i n := fun k => by have := plc_min k; have := k.lt; omega
theorem plc_no {g : List (List Int)} {n : Int} (h : ∀ i, ¬ At g i n) : plc g n = g.length := by
  have := plc_le g n
  rcases Nat.lt_or_ge (plc g n) g.length with k | k
  · exact absurd (plc_found k) (h _)
  · omega
theorem plc_append_no {g f : List (List Int)} {n : Int} (h : plc g n = g.length) : plc (g ++ f) n = g.length + plc f n := by
  induction g with
  | nil => simp
  | cons l r ih =>
    unfold plc at h
    by_cases hn : n ∈ l
    · rw [if_pos hn] at h; simp at h
    · rw [if_neg hn] at h
      rw [List.cons_append, plc_cons, if_neg hn]
      have := ih (by simp at h; omega)
      simp; omega

/-- A number comes into a list that ascends. -/
def ins (x : Int) : List Int → List Int
  | [] => [x]
  | y :: l => if x < y then x :: y :: l else y :: ins x l
theorem mem_ins {x y : Int} : ∀ {l : List Int}, y ∈ ins x l ↔ y = x ∨ y ∈ l
  | [] => by simp [ins]
  | z :: l => by
    unfold ins
    split
    · simp
    · simp [mem_ins (x := x) (y := y) (l := l)]
      constructor
      · rintro (h | h | h)
        · exact .inr (.inl h)
        · exact .inl h
        · exact .inr (.inr h)
      · rintro (h | h | h)
        · exact .inr (.inl h)
        · exact .inl h
        · exact .inr (.inr h)
theorem ins_length (x : Int) : ∀ l : List Int, (ins x l).length = l.length + 1
  | [] => rfl
  | y :: l => by unfold ins; split <;> simp [ins_length x l]
abbrev Asc (l : List Int) : Prop := l.Pairwise (· < ·)
theorem ins_asc {x : Int} : ∀ {l : List Int}, Asc l → x ∉ l → Asc (ins x l)
  | [], _, _ => by simp [ins]
  | y :: l, h, hx => by
    replace h := List.pairwise_cons.1 h
    unfold ins
    split
    · rename_i hy
      exact List.pairwise_cons.2 ⟨fun z hz => by
        rcases List.mem_cons.1 hz with e | e
        · omega
        · have := h.1 z e; omega, List.pairwise_cons.2 h⟩
    · rename_i hy
      have hne : x ≠ y := fun e => hx (by simp [e])
      exact List.pairwise_cons.2 ⟨fun z hz => by
        rcases mem_ins.1 hz with e | e
        · omega
        · exact h.1 z e, ins_asc h.2 (fun e => hx (by simp [e]))⟩
/-- The place where a number comes in: behind all that are less. -/
theorem ins_at {x : Int} : ∀ {l : List Int} {k : Nat}, Asc l → k ≤ l.length → (∀ i y, i < k → l[i]? = some y → y < x) → (∀ i y, k ≤ i → l[i]? = some y → x ≤ y) → ins x l = l.take k ++ x :: l.drop k
  | [], k, _, hk, _, _ => by simp [ins]
  | y :: l, k, h, hk, h1, h2 => by
    replace h := List.pairwise_cons.1 h
    cases k with
    | zero =>
      have hy := h2 0 y (Nat.le_refl _) rfl
      unfold ins
      split
      · rfl
      · obtain rfl : x = y := by omega
        have : ins x l = x :: l := by
          cases l with
          | nil => rfl
          | cons z l => have := h.1 z (by simp); unfold ins; rw [if_pos this]
        simp [this]
    | succ k =>
      have hy := h1 0 y (Nat.succ_pos _) rfl
      unfold ins
      rw [if_neg (by omega), ins_at (k := k) h.2 (by simp at hk; omega) (fun i z hi hz => h1 (i + 1) z (by omega) (by simpa using hz)) (fun i z hi hz => h2 (i + 1) z (by omega) (by simpa using hz))]
      rfl
theorem asc_ext : ∀ {l m : List Int}, Asc l → Asc m → (∀ x, x ∈ l ↔ x ∈ m) → l = m
  | [], [], _, _, _ => rfl
  | [], b :: m, _, _, e => by have := (e b).2 (by simp); simp at this
  | a :: l, [], _, _, e => by have := (e a).1 (by simp); simp at this
  | a :: l, b :: m, h, k, e => by
    replace h := List.pairwise_cons.1 h; replace k := List.pairwise_cons.1 k
    have hab : a = b := by
      rcases List.mem_cons.1 ((e a).1 (by simp)) with h1 | h1
      · exact h1
      · rcases List.mem_cons.1 ((e b).2 (by simp)) with h2 | h2
        · exact h2.symm
        · have := k.1 a h1; have := h.1 b h2; omega
    subst hab
    rw [asc_ext h.2 k.2 fun x => ⟨fun hx => by
      rcases List.mem_cons.1 ((e x).1 (List.mem_cons_of_mem _ hx)) with h1 | h1
      · have := h.1 x hx; omega
      · exact h1, fun hx => by
      rcases List.mem_cons.1 ((e x).2 (List.mem_cons_of_mem _ hx)) with h1 | h1
      · have := k.1 x hx; omega
      · exact h1⟩]
/-- Ascending lists of few numbers are short. -/
theorem asc_short : ∀ {l : List Int} {U : List Int}, Asc l → (∀ x ∈ l, x ∈ U) → l.length ≤ U.length
  | [], _, _, _ => Nat.zero_le _
  | a :: l, U, h, hu => by
    replace h := List.pairwise_cons.1 h
    have h1 := asc_short (l := l) (U := U.erase a) h.2 fun x hx => (List.mem_erase_of_ne (by have := h.1 x hx; omega)).2 (hu x (by simp [hx]))
    have h2 := List.length_erase_of_mem (hu a (by simp))
    have h3 := List.length_pos_of_mem (hu a (by simp))
    simp
    omega

def put (g : List (List Int)) (a : Nat) (x : Int) : List (List Int) := g.modify a (ins x)
theorem put_length (g : List (List Int)) (a : Nat) (x : Int) : (put g a x).length = g.length := List.length_modify ..
theorem put_get {g : List (List Int)} {a : Nat} {x : Int} {l : List Int} (h : g[a]? = some l) : put g a x = g.set a (ins x l) := by
  apply List.ext_getElem?
  intro i
  unfold put
  rw [List.getElem?_modify, List.getElem?_set]
  by_cases e : a = i
  · subst e; obtain ⟨h1, h2⟩ := List.getElem?_eq_some_iff.1 h; simp [h1, h2]
  · simp [e]
theorem put_out {g : List (List Int)} {a : Nat} {x : Int} (h : g.length ≤ a) : put g a x = g := by
  apply List.ext_getElem?
  intro i
  unfold put
  rw [List.getElem?_modify]
  by_cases e : a = i
  · subst e; simp [List.getElem?_eq_none h]
  · simp [e]
theorem at_put {g : List (List Int)} {a i : Nat} {x y : Int} : At (put g a x) i y ↔ At g i y ∨ (i = a ∧ y = x ∧ a < g.length) := by
  unfold At put
  rw [List.getElem?_modify]
  by_cases e : a = i
  · subst e
    cases h : g[a]? with
    | none => simp [List.getElem?_eq_none_iff.1 h]
    | some l =>
      have := (List.getElem?_eq_some_iff.1 h).1
      simp [mem_ins, this]
      exact ⟨fun h => h.elim .inr .inl, fun h => h.elim .inr .inl⟩
  · have e' : ¬ i = a := fun h => e h.symm
    simp [e, e']

/-- A set: W ascending lists of numbers of P, no number twice. -/
structure WSet (P : Int → Prop) (W : Nat) (g : List (List Int)) : Prop where
  len : g.length = W
  asc : ∀ (i : Nat) (l : List Int), g[i]? = some l → Asc l
  mem : ∀ (i : Nat) (x : Int), At g i x → P x
  once : ∀ (i j : Nat) (x : Int), At g i x → At g j x → i = j
theorem WSet.plc {P : Int → Prop} {W : Nat} {g : List (List Int)} (h : WSet P W g) {i : Nat} {x : Int} (k : At g i x) : Proofs.Ytlpelpjcbclemaa.plc g x = i :=
  h.once _ _ x (plc_found (by have := plc_min k; have := k.lt; omega)) k
theorem WSet.ext {P Q : Int → Prop} {W : Nat} {f g : List (List Int)} (h : WSet P W f) (k : WSet Q W g) (e : ∀ i x, At f i x ↔ At g i x) : f = g := by
  apply List.ext_getElem?
  intro i
  by_cases hi : i < W
  · have h1 := List.getElem?_eq_getElem (l := f) (show i < f.length by rw [h.len]; exact hi)
    have h2 := List.getElem?_eq_getElem (l := g) (show i < g.length by rw [k.len]; exact hi)
    rw [h1, h2]
    exact congrArg some (asc_ext (h.asc i _ h1) (k.asc i _ h2) fun x => by rw [← At.get h1, ← At.get h2]; exact e i x)
  · rw [List.getElem?_eq_none (by rw [h.len]; omega), List.getElem?_eq_none (by rw [k.len]; omega)]
theorem not_at_nils {W i : Nat} {x : Int} : ¬ At (List.replicate W []) i x := fun ⟨l, h, hx⟩ => by
  rw [List.getElem?_replicate] at h
  split at h
  · cases h; simp at hx
  · cases h
theorem WSet.nils (P : Int → Prop) (W : Nat) : WSet P W (List.replicate W []) :=
  ⟨List.length_replicate, fun i l h => by
    rw [List.getElem?_replicate] at h
    split at h
    · cases h; exact List.Pairwise.nil
    · (cases h), fun i x h => absurd h not_at_nils, fun i j x h => absurd h not_at_nils⟩
theorem WSet.put {P : Int → Prop} {W : Nat} {g : List (List Int)} (h : WSet P W g) {x : Int} (hx : P x) (hn : ∀ i, ¬ At g i x) (a : Nat) : WSet P W (put g a x) := by
  refine ⟨by rw [put_length]; exact h.len, fun i l hl => ?_, fun i y hy => ?_, fun i j y h1 h2 => ?_⟩
  · unfold Proofs.Ytlpelpjcbclemaa.put at hl
    rw [List.getElem?_modify] at hl
    by_cases e : a = i
    · subst e
      simp at hl
      obtain ⟨m, hm, rfl⟩ := hl
      exact ins_asc (h.asc _ _ hm) fun hx => hn a ⟨m, hm, hx⟩
    · simp [e] at hl
      exact h.asc _ _ hl
  · rcases at_put.1 hy with h1 | ⟨_, rfl, _⟩
    · exact h.mem _ _ h1
    · exact hx
  · rcases at_put.1 h1 with k1 | ⟨rfl, rfl, _⟩ <;> rcases at_put.1 h2 with k2 | ⟨rfl, e2, _⟩
    · exact h.once _ _ _ k1 k2
    · subst e2; exact absurd k1 (hn _)
    · exact absurd k2 (hn _)
    · rfl

/-! ### A use of a line -/
def dst (h a : Nat) : Nat := if a < h then a + 1 else a
def useStep (n : Int) (h a : Nat) (out : List (List Int)) (x : Int) : List (List Int) := if x = n then out else put out (dst h a) x
def useL (n : Int) (h a : Nat) (out : List (List Int)) (l : List Int) : List (List Int) := l.foldl (useStep n h a) out
def useP (W : Nat) (n : Int) (h : Nat) (g : List (List Int)) (k : Nat) : List (List Int) := (List.range k).foldl (fun out a => useL n h a out (g.getD a [])) (List.replicate W [])
def useS (W : Nat) (n : Int) (g : List (List Int)) : List (List Int) := put (useP W n (plc g n) g g.length) 0 n
theorem useP_succ (W : Nat) (n : Int) (h : Nat) (g : List (List Int)) (k : Nat) : useP W n h g (k + 1) = useL n h k (useP W n h g k) (g.getD k []) := by
  unfold useP; rw [List.range_succ, List.foldl_append]; rfl
theorem useL_spec {P : Int → Prop} {W : Nat} {n : Int} {h a : Nat} : ∀ {l : List Int} {out : List (List Int)}, WSet P W out → Asc l → (∀ x ∈ l, P x ∧ ∀ i, ¬ At out i x) →
    WSet P W (useL n h a out l) ∧ ∀ i y, At (useL n h a out l) i y ↔ At out i y ∨ (y ∈ l ∧ y ≠ n ∧ i = dst h a ∧ i < W)
  | [], out, ho, _, _ => ⟨ho, fun i y => by simp [useL]⟩
  | x :: l, out, ho, hl, hx => by
    replace hl := List.pairwise_cons.1 hl
    have hx0 := hx x (by simp)
    show WSet P W (useL n h a (useStep n h a out x) l) ∧ ∀ i y, At (useL n h a (useStep n h a out x) l) i y ↔ _
    by_cases e : x = n
    · have e1 : useStep n h a out x = out := if_pos e
      rw [e1]
      obtain ⟨h1, h2⟩ := useL_spec (n := n) (h := h) (a := a) (l := l) ho hl.2 fun y hy => hx y (by simp [hy])
      refine ⟨h1, fun i y => ?_⟩
      rw [h2]
      constructor
      · rintro (k | ⟨k1, k2⟩)
        · exact .inl k
        · exact .inr ⟨by simp [k1], k2⟩
      · rintro (k | ⟨k1, k2⟩)
        · exact .inl k
        · rcases List.mem_cons.1 k1 with k3 | k3
          · exact absurd (k3.trans e) k2.1
          · exact .inr ⟨k3, k2⟩
    · have e1 : useStep n h a out x = put out (dst h a) x := if_neg e
      rw [e1]
      obtain ⟨h1, h2⟩ := useL_spec (n := n) (h := h) (a := a) (l := l) (ho.put hx0.1 hx0.2 (dst h a)) hl.2 fun y hy => ⟨(hx y (by simp [hy])).1, fun i hi => by
        rcases at_put.1 hi with k | ⟨_, k, _⟩
        · exact (hx y (by simp [hy])).2 i k
        · have := hl.1 y hy; omega⟩
      refine ⟨h1, fun i y => ?_⟩
      rw [h2, at_put, ho.len]
      constructor
      · rintro ((k | ⟨rfl, rfl, k⟩) | ⟨k1, k2⟩)
        · exact .inl k
        · exact .inr ⟨by simp, e, rfl, k⟩
        · exact .inr ⟨by simp [k1], k2⟩
      · rintro (k | ⟨k1, k2, k3, k4⟩)
        · exact .inl (.inl k)
        · rcases List.mem_cons.1 k1 with k5 | k5
          · exact .inl (.inr ⟨k3, k5, by omega⟩)
          · exact .inr ⟨k5, k2, k3, k4⟩
theorem getD_at {g : List (List Int)} {k : Nat} {y : Int} : y ∈ g.getD k [] ↔ At g k y := by
  unfold At
  rw [List.getD_eq_getElem?_getD]
  cases h : g[k]? <;> simp
theorem WSet.ascD {P : Int → Prop} {W : Nat} {g : List (List Int)} (h : WSet P W g) (k : Nat) : Asc (g.getD k []) := by
  rw [List.getD_eq_getElem?_getD]
  cases e : g[k]? with
  | none => exact List.Pairwise.nil
  | some l => exact h.asc _ _ e
theorem useP_spec {P : Int → Prop} {V W : Nat} {n : Int} {h : Nat} {g : List (List Int)} (hg : WSet P V g) : ∀ k : Nat,
    WSet P W (useP W n h g k) ∧ ∀ i y, At (useP W n h g k) i y ↔ y ≠ n ∧ ∃ a, a < k ∧ At g a y ∧ i = dst h a ∧ i < W
  | 0 => ⟨WSet.nils P W, fun i y => ⟨fun h => absurd h not_at_nils, fun ⟨_, a, ha, _⟩ => absurd ha (Nat.not_lt_zero _)⟩⟩
  | k + 1 => by
    obtain ⟨h1, h2⟩ := useP_spec (W := W) (n := n) (h := h) hg k
    rw [useP_succ]
    obtain ⟨h3, h4⟩ := useL_spec (n := n) (h := h) (a := k) (l := g.getD k []) h1 (hg.ascD k) fun x hx => ⟨hg.mem _ _ (getD_at.1 hx), fun i hi => by
      obtain ⟨_, a, ha, hat, _⟩ := (h2 i x).1 hi
      have := hg.once _ _ _ hat (getD_at.1 hx)
      omega⟩
    refine ⟨h3, fun i y => ?_⟩
    rw [h4, h2, getD_at]
    constructor
    · rintro (⟨k1, a, k2, k3⟩ | ⟨k1, k2, k3⟩)
      · exact ⟨k1, a, by omega, k3⟩
      · exact ⟨k2, k, by omega, k1, k3⟩
    · rintro ⟨k1, a, k2, k3, k4⟩
      by_cases e : a = k
      · subst e; exact .inr ⟨k3, k1, k4⟩
      · exact .inl ⟨k1, a, by omega, k3, k4⟩
theorem useS_spec {P : Int → Prop} {W : Nat} {n : Int} {g : List (List Int)} (hg : WSet P W g) (hW : 0 < W) (hn : P n) :
    WSet P W (useS W n g) ∧ ∀ i y, At (useS W n g) i y ↔ (i = 0 ∧ y = n) ∨ (y ≠ n ∧ ∃ a, At g a y ∧ i = dst (plc g n) a ∧ i < W) := by
  obtain ⟨h1, h2⟩ := useP_spec (W := W) (n := n) (h := plc g n) hg g.length
  refine ⟨h1.put hn (fun i hi => ((h2 i n).1 hi).1 rfl) 0, fun i y => ?_⟩
  unfold useS
  rw [at_put, h2, h1.len]
  constructor
  · rintro (⟨k1, a, _, k2⟩ | ⟨k1, k2, _⟩)
    · exact .inr ⟨k1, a, k2⟩
    · exact .inl ⟨k1, k2⟩
  · rintro (⟨k1, k2⟩ | ⟨k1, a, k2, k3⟩)
    · exact .inr ⟨k1, k2, hW⟩
    · exact .inl ⟨k1, a, k2.lt, k2, k3⟩

/-! ### What two sets both know -/
def joinStep (g : List (List Int)) (i : Nat) (out : List (List Int)) (x : Int) : List (List Int) := if plc g x < g.length then put out (max i (plc g x)) x else out
def joinL (g : List (List Int)) (i : Nat) (out : List (List Int)) (l : List Int) : List (List Int) := l.foldl (joinStep g i) out
def joinP (W : Nat) (f g : List (List Int)) (k : Nat) : List (List Int) := (List.range k).foldl (fun out i => joinL g i out (f.getD i [])) (List.replicate W [])
def joinS (W : Nat) (f g : List (List Int)) : List (List Int) := joinP W f g f.length
theorem joinP_succ (W : Nat) (f g : List (List Int)) (k : Nat) : joinP W f g (k + 1) = joinL g k (joinP W f g k) (f.getD k []) := by
  unfold joinP; rw [List.range_succ, List.foldl_append]; rfl
theorem joinL_spec {P Q : Int → Prop} {W : Nat} {g : List (List Int)} (hg : WSet Q W g) {j : Nat} (hj : j < W) : ∀ {l : List Int} {out : List (List Int)}, WSet P W out → Asc l → (∀ x ∈ l, P x ∧ ∀ i, ¬ At out i x) →
    WSet P W (joinL g j out l) ∧ ∀ i y, At (joinL g j out l) i y ↔ At out i y ∨ (y ∈ l ∧ ∃ b, At g b y ∧ i = max j b)
  | [], out, ho, _, _ => ⟨ho, fun i y => by simp [joinL]⟩
  | x :: l, out, ho, hl, hx => by
    replace hl := List.pairwise_cons.1 hl
    have hx0 := hx x (by simp)
    show WSet P W (joinL g j (joinStep g j out x) l) ∧ ∀ i y, At (joinL g j (joinStep g j out x) l) i y ↔ _
    by_cases e : plc g x < g.length
    · have e1 : joinStep g j out x = put out (max j (plc g x)) x := if_pos e
      have e2 := plc_found e
      rw [e1]
      obtain ⟨h1, h2⟩ := joinL_spec hg hj (l := l) (ho.put hx0.1 hx0.2 (max j (plc g x))) hl.2 fun y hy => ⟨(hx y (by simp [hy])).1, fun i hi => by
        rcases at_put.1 hi with k | ⟨_, k, _⟩
        · exact (hx y (by simp [hy])).2 i k
        · have := hl.1 y hy; omega⟩
      refine ⟨h1, fun i y => ?_⟩
      rw [h2, at_put, ho.len]
      constructor
      · rintro ((k | ⟨rfl, rfl, k⟩) | ⟨k1, k2⟩)
        · exact .inl k
        · exact .inr ⟨by simp, _, e2, rfl⟩
        · exact .inr ⟨by simp [k1], k2⟩
      · rintro (k | ⟨k1, b, k2, k3⟩)
        · exact .inl (.inl k)
        · rcases List.mem_cons.1 k1 with k5 | k5
          · subst k5
            have := hg.plc k2
            exact .inl (.inr ⟨by omega, rfl, by have := hg.len; have := k2.lt; omega⟩)
          · exact .inr ⟨k5, b, k2, k3⟩
    · have e1 : joinStep g j out x = out := if_neg e
      have e2 := plc_none (g := g) (n := x) (by have := plc_le g x; omega)
      rw [e1]
      obtain ⟨h1, h2⟩ := joinL_spec hg hj (l := l) ho hl.2 fun y hy => hx y (by simp [hy])
      refine ⟨h1, fun i y => ?_⟩
      rw [h2]
      constructor
      · rintro (k | ⟨k1, k2⟩)
        · exact .inl k
        · exact .inr ⟨by simp [k1], k2⟩
      · rintro (k | ⟨k1, b, k2, k3⟩)
        · exact .inl k
        · rcases List.mem_cons.1 k1 with k5 | k5
          · subst k5; exact absurd k2 (e2 b)
          · exact .inr ⟨k5, b, k2, k3⟩
theorem joinP_spec {P Q : Int → Prop} {W : Nat} {f g : List (List Int)} (hf : WSet P W f) (hg : WSet Q W g) : ∀ k : Nat, k ≤ W →
    WSet P W (joinP W f g k) ∧ ∀ i y, At (joinP W f g k) i y ↔ ∃ a b, a < k ∧ At f a y ∧ At g b y ∧ i = max a b
  | 0, _ => ⟨WSet.nils P W, fun i y => ⟨fun h => absurd h not_at_nils, fun ⟨a, _, ha, _⟩ => absurd ha (Nat.not_lt_zero _)⟩⟩
  | k + 1, hk => by
    obtain ⟨h1, h2⟩ := joinP_spec hf hg k (by omega)
    rw [joinP_succ]
    obtain ⟨h3, h4⟩ := joinL_spec hg (j := k) (by omega) (l := f.getD k []) h1 (hf.ascD k) fun x hx => ⟨hf.mem _ _ (getD_at.1 hx), fun i hi => by
      obtain ⟨a, b, ha, hat, _⟩ := (h2 i x).1 hi
      have := hf.once _ _ _ hat (getD_at.1 hx)
      omega⟩
    refine ⟨h3, fun i y => ?_⟩
    rw [h4, h2, getD_at]
    constructor
    · rintro (⟨a, b, k1, k2⟩ | ⟨k1, b, k2, k3⟩)
      · exact ⟨a, b, by omega, k2⟩
      · exact ⟨k, b, by omega, k1, k2, k3⟩
    · rintro ⟨a, b, k1, k2, k3, k4⟩
      by_cases e : a = k
      · subst e; exact .inr ⟨k2, b, k3, k4⟩
      · exact .inl ⟨a, b, by omega, k2, k3, k4⟩
theorem joinS_spec {P Q : Int → Prop} {W : Nat} {f g : List (List Int)} (hf : WSet P W f) (hg : WSet Q W g) :
    WSet P W (joinS W f g) ∧ ∀ i y, At (joinS W f g) i y ↔ ∃ a b, At f a y ∧ At g b y ∧ i = max a b := by
  obtain ⟨h1, h2⟩ := joinP_spec hf hg f.length (by rw [hf.len]; exact Nat.le_refl _)
  exact ⟨h1, fun i y => (h2 i y).trans ⟨fun ⟨a, b, _, k⟩ => ⟨a, b, k⟩, fun ⟨a, b, k⟩ => ⟨a, b, k.1.lt, k⟩⟩⟩

/-! ### The order -/
/-- f says at least as much as g. -/
def Under (f g : List (List Int)) : Prop := ∀ i y, At g i y → ∃ j, At f j y ∧ j ≤ i
theorem under_iff {f : List (List Int)} {i : Nat} {y : Int} : (∃ j, At f j y ∧ j ≤ i) ↔ plc f y < f.length ∧ plc f y ≤ i :=
  ⟨fun ⟨j, h, k⟩ => by have := plc_min h; have := h.lt; omega, fun ⟨h, k⟩ => ⟨_, plc_found h, k⟩⟩
theorem Under.refl (f : List (List Int)) : Under f f := fun i _ h => ⟨i, h, Nat.le_refl _⟩
theorem Under.trans {f g h : List (List Int)} (a : Under f g) (b : Under g h) : Under f h := fun i y k => by
  obtain ⟨j, k1, k2⟩ := b i y k
  obtain ⟨m, k3, k4⟩ := a j y k1
  exact ⟨m, k3, by omega⟩
theorem under_use {P Q : Int → Prop} {W : Nat} {n : Int} {f g : List (List Int)} (hf : WSet P W f) (hg : WSet Q W g) (hW : 0 < W) (hn : P n) (hn' : Q n) (h : Under f g) : Under (useS W n f) (useS W n g) := fun i y k => by
  obtain ⟨_, hf2⟩ := useS_spec hf hW hn
  obtain ⟨_, hg2⟩ := useS_spec hg hW hn'
  rcases (hg2 i y).1 k with ⟨rfl, rfl⟩ | ⟨hy, a, k1, k2, k3⟩
  · exact ⟨0, (hf2 0 y).2 (.inl ⟨rfl, rfl⟩), Nat.le_refl _⟩
  · obtain ⟨b, k4, k5⟩ := h a y k1
    have key : dst (plc f n) b ≤ dst (plc g n) a := by
      have h1 := plc_le f n; have h2 := plc_le g n
      have h3 := k1.lt
      rw [hf.len] at h1; rw [hg.len] at h2 h3
      have h4 : plc g n < W → plc f n ≤ plc g n := fun hlt => by
        obtain ⟨c, k6, k7⟩ := h _ n (plc_found (g := g) (n := n) (by rw [hg.len]; exact hlt))
        have := plc_min k6; omega
      unfold dst
      split <;> split <;> omega
    exact ⟨_, (hf2 _ y).2 (.inr ⟨hy, b, k4, rfl, by omega⟩), by omega⟩
theorem under_join {P Q : Int → Prop} {W : Nat} {f g : List (List Int)} (hf : WSet P W f) (hg : WSet Q W g) : Under f (joinS W f g) ∧ Under g (joinS W f g) :=
  ⟨fun i y k => by obtain ⟨a, b, k1, k2, k3⟩ := ((joinS_spec hf hg).2 i y).1 k; exact ⟨a, k1, by omega⟩, fun i y k => by obtain ⟨a, b, k1, k2, k3⟩ := ((joinS_spec hf hg).2 i y).1 k; exact ⟨b, k2, by omega⟩⟩
theorem join_least {P Q : Int → Prop} {W : Nat} {f g u : List (List Int)} (hf : WSet P W f) (hg : WSet Q W g) (h : Under f u) (k : Under g u) : Under (joinS W f g) u := fun i y hu => by
  obtain ⟨a, k1, k2⟩ := h i y hu
  obtain ⟨b, k3, k4⟩ := k i y hu
  exact ⟨max a b, ((joinS_spec hf hg).2 _ y).2 ⟨a, b, k1, k3, rfl⟩, by omega⟩
theorem join_self {P : Int → Prop} {W : Nat} {f : List (List Int)} (hf : WSet P W f) : joinS W f f = f :=
  (joinS_spec hf hf).1.ext hf fun i y => by
    rw [(joinS_spec hf hf).2]
    exact ⟨fun ⟨a, b, h1, h2, h3⟩ => by obtain rfl := hf.once _ _ _ h1 h2; rw [h3, Nat.max_self]; exact h1, fun h => ⟨i, i, h, h, (Nat.max_self i).symm⟩⟩
theorem join_comm {P Q : Int → Prop} {W : Nat} {f g : List (List Int)} (hf : WSet P W f) (hg : WSet Q W g) : joinS W f g = joinS W g f :=
  (joinS_spec hf hg).1.ext (joinS_spec hg hf).1 fun i y => by
    rw [(joinS_spec hf hg).2, (joinS_spec hg hf).2]
    exact ⟨fun ⟨a, b, h1, h2, h3⟩ => ⟨b, a, h2, h1, by omega⟩, fun ⟨a, b, h1, h2, h3⟩ => ⟨b, a, h2, h1, by omega⟩⟩
/-- A second use of the same line changes nothing. -/
theorem use_twice {P : Int → Prop} {W : Nat} {n : Int} {g : List (List Int)} (hg : WSet P W g) (hW : 0 < W) (hn : P n) : useS W n (useS W n g) = useS W n g := by
  obtain ⟨h1, h2⟩ := useS_spec hg hW hn
  obtain ⟨h3, h4⟩ := useS_spec h1 hW hn
  have h5 : plc (useS W n g) n = 0 := h1.plc ((h2 0 n).2 (.inl ⟨rfl, rfl⟩))
  refine h3.ext h1 fun i y => ?_
  rw [h4, h5, h2]
  constructor
  · rintro (k | ⟨hy, a, k1, k2, k3⟩)
    · exact .inl k
    · obtain rfl : i = a := k2
      exact (h2 i y).1 k1
  · rintro (k | k)
    · exact .inl k
    · exact .inr ⟨k.1, i, (h2 i y).2 (.inr k), rfl, by obtain ⟨_, _, _, _, h⟩ := k; exact h⟩
theorem use_age {P : Int → Prop} {W : Nat} {n : Int} {g : List (List Int)} (hg : WSet P W g) (hW : 0 < W) (hn : P n) : plc (useS W n g) n = 0 := by
  obtain ⟨h1, h2⟩ := useS_spec hg hW hn
  exact h1.plc ((h2 0 n).2 (.inl ⟨rfl, rfl⟩))
/-- Other lines do not get younger. -/
theorem use_older {P : Int → Prop} {W : Nat} {n y : Int} {g : List (List Int)} (hg : WSet P W g) (hW : 0 < W) (hn : P n) (hy : y ≠ n) : plc g y ≤ plc (useS W n g) y := by
  obtain ⟨h1, h2⟩ := useS_spec hg hW hn
  rcases Nat.lt_or_ge (plc (useS W n g) y) (useS W n g).length with h | h
  · rcases (h2 _ y).1 (plc_found h) with k | ⟨_, a, k1, k2, _⟩
    · exact absurd k.2 hy
    · have := plc_min k1; unfold dst at k2; split at k2 <;> omega
  · have := plc_le g y; rw [h1.len] at h; rw [hg.len] at this; omega
end Go.Proofs.Ytlpelpjcbclemaa
