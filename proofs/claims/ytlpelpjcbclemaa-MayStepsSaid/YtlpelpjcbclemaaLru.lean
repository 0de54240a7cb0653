/-
  Sets of caches that keep the lines that were used last: what an access does to a set, and how often runs of accesses miss. Plain lists, no program in sight.
-/
namespace Go.Proofs.Ytlpelpjcbclemaa

/-- The place that an access of line n takes its line from: where n lies, else the last place. -/
def pos (x : List Int) (n : Int) : Nat := if n ∈ x then x.idxOf n else x.length - 1
/-- The set after an access of line n. -/
def acc (x : List Int) (n : Int) : List Int := n :: (x.take (pos x n) ++ x.drop (pos x n + 1))

theorem pos_lt {x : List Int} {n : Int} (h : 0 < x.length) : pos x n < x.length := by
  unfold pos; split
  · exact List.idxOf_lt_length_of_mem ‹_›
  · omega
theorem acc_length {x : List Int} {n : Int} (h : 0 < x.length) : (acc x n).length = x.length := by
  have := pos_lt (n := n) h
  simp [acc]; omega

/-- How often accesses of one set miss. -/
def m1 : List Int → List Int → Nat
  | _, [] => 0
  | x, n :: l => (if n ∈ x then 0 else 1) + m1 (acc x n) l

theorem pos_take {x : List Int} {n : Int} {k : Nat} (h : n ∈ x.take k) : pos x n = (x.take k).idxOf n ∧ n ∈ x := by
  have hm : n ∈ x := List.mem_of_mem_take h
  refine ⟨?_, hm⟩
  unfold pos
  rw [if_pos hm]
  conv => lhs; rw [← List.take_append_drop k x]
  rw [List.idxOf_append, if_pos h]

/-- Where the first k places agree and hold n: the access finds n at the same place. -/
theorem acc_same {x y : List Int} {n : Int} {k : Nat} (h : x.take k = y.take k) (hn : n ∈ x.take k) : (acc x n).take k = (acc y n).take k ∧ (n ∈ x ∧ n ∈ y) := by
  obtain ⟨e1, m1⟩ := pos_take hn
  obtain ⟨e2, m2⟩ := pos_take (h ▸ hn : n ∈ y.take k)
  have hi : (x.take k).idxOf n < (x.take k).length := List.idxOf_lt_length_of_mem hn
  refine ⟨?_, m1, m2⟩
  unfold acc
  rw [e1, e2, ← h]
  generalize (x.take k).idxOf n = i at *
  have hik : i < k := by simp at hi; omega
  cases k with
  | zero => omega
  | succ k =>
    simp only [List.take_succ_cons, List.cons.injEq, true_and]
    have t : ∀ z : List Int, (z.take i ++ z.drop (i + 1)).take k = (z.take (k+1)).take i ++ ((z.take (k+1)).drop (i+1)).take k := by
      intro z
      rw [List.take_append, List.take_take, List.take_take, List.drop_take, List.take_take]
      have : min k i = i := by omega
      rw [this, show min i (k+1) = i by omega]
      congr 1
      rcases Nat.lt_or_ge z.length i with hz | hz
      · rw [List.drop_eq_nil_of_le (by omega)]; simp
      · rw [List.length_take, show min i z.length = i by omega, show min k (k + 1 - (i + 1)) = k - i by omega]
    rw [t x, t y, h]

/-- Where the first k places agree and do not hold n: one place more agrees behind the access. -/
theorem acc_more {x y : List Int} {n : Int} {k : Nat} (h : x.take k = y.take k) (hn : n ∉ x.take k) (hx : k < x.length) (hy : k < y.length) :
    (acc x n).take (k + 1) = n :: x.take k ∧ (acc y n).take (k + 1) = n :: x.take k := by
  have g : ∀ z : List Int, n ∉ z.take k → k < z.length → (acc z n).take (k + 1) = n :: z.take k := by
    intro z hz hk
    have hp : k ≤ pos z n := by
      unfold pos; split
      · rename_i hm
        refine Nat.le_of_not_lt fun hlt => hz ?_
        have := List.getElem_idxOf (List.idxOf_lt_length_of_mem hm)
        rw [← this]
        exact List.mem_take_iff_getElem.2 ⟨z.idxOf n, by omega, rfl⟩
      · omega
    unfold acc
    rw [List.take_succ_cons, List.take_append, List.take_take, List.length_take, show min k (pos z n) = k by omega]
    rw [show k - min (pos z n) z.length = 0 by omega]
    simp
  exact ⟨g x hn hx, by rw [g y (h ▸ hn) hy, h]⟩

theorem m1_near : ∀ (l : List Int) (x y : List Int) (W k : Nat), 0 < W → x.length = W → y.length = W → k ≤ W → x.take k = y.take k → m1 x l ≤ m1 y l + (W - k) ∧ m1 y l ≤ m1 x l + (W - k) := by
  intro l
  induction l with
  | nil => intro x y W k _ _ _ _ _; simp [m1]
  | cons n l ih =>
    intro x y W k hW hx hy hk h
    have lx := acc_length (x := x) (n := n) (by omega)
    have ly := acc_length (x := y) (n := n) (by omega)
    by_cases hn : n ∈ x.take k
    · obtain ⟨e, a, b⟩ := acc_same h hn
      have := ih (acc x n) (acc y n) W k hW (by omega) (by omega) hk e
      simp only [m1, a, b, if_true]
      omega
    · rcases Nat.lt_or_ge k W with hkw | hkw
      · obtain ⟨e, f⟩ := acc_more h hn (by omega) (by omega)
        have := ih (acc x n) (acc y n) W (k + 1) hW (by omega) (by omega) (by omega) (e.trans f.symm)
        simp only [m1]
        split <;> split <;> omega
      · have e : x = y := by rw [List.take_of_length_le (by omega), List.take_of_length_le (by omega)] at h; exact h
        subst e; omega

/-! ### All sets -/
/-- One access of line n. -/
def accS (S : Nat) (ss : List (List Int)) (n : Int) : List (List Int) := ss.set (n % (S : Int)).toNat (acc (ss.getD (n % (S : Int)).toNat []) n)
def hitS (S : Nat) (ss : List (List Int)) (n : Int) : Bool := decide (n ∈ ss.getD (n % (S : Int)).toNat [])
def mm (S : Nat) : List (List Int) → List Int → Nat
  | _, [] => 0
  | ss, n :: l => (if hitS S ss n then 0 else 1) + mm S (accS S ss n) l

def sumTo : Nat → (Nat → Nat) → Nat
  | 0, _ => 0
  | k + 1, f => sumTo k f + f k
theorem sumTo_congr : ∀ {k : Nat} {f g : Nat → Nat}, (∀ i, i < k → f i = g i) → sumTo k f = sumTo k g
  | 0, _, _, _ => rfl
  | k + 1, f, g, h => by simp only [sumTo]; rw [sumTo_congr (fun i hi => h i (by omega)), h k (by omega)]
theorem sumTo_one : ∀ {k : Nat} {f g : Nat → Nat} {j d : Nat}, j < k → f j = d + g j → (∀ i, i < k → i ≠ j → f i = g i) → sumTo k f = d + sumTo k g
  | k + 1, f, g, j, d, hj, h, hh => by
    simp only [sumTo]
    by_cases e : j = k
    · subst e; rw [sumTo_congr (fun i hi => hh i (by omega) (by omega)), h]; omega
    · rw [sumTo_one (by omega) h (fun i hi hne => hh i (by omega) hne), hh k (by omega) (fun e' => e e'.symm)]; omega
theorem sumTo_near : ∀ {k : Nat} {f g : Nat → Nat} {W : Nat}, (∀ i, i < k → f i ≤ g i + W) → sumTo k f ≤ sumTo k g + k * W
  | 0, _, _, _, _ => by simp [sumTo]
  | k + 1, f, g, W, h => by
    simp only [sumTo]
    have := sumTo_near (k := k) (f := f) (g := g) (W := W) (fun i hi => h i (by omega))
    have := h k (by omega)
    rw [Nat.succ_mul]; omega

theorem setof_lt {S : Nat} (hS : 0 < S) (n : Int) : (n % (S : Int)).toNat < S := by
  have := Int.emod_lt_of_pos n (show (0 : Int) < S by omega)
  have := Int.emod_nonneg n (show (S : Int) ≠ 0 by omega)
  omega

theorem accS_length {S : Nat} {ss : List (List Int)} {n : Int} : (accS S ss n).length = ss.length := by simp [accS]

theorem mm_sum {S : Nat} (hS : 0 < S) : ∀ (l : List Int) (ss : List (List Int)), ss.length = S → mm S ss l = sumTo S fun s => m1 (ss.getD s []) (l.filter fun n => (n % (S : Int)).toNat == s) := by
  intro l
  induction l with
  | nil =>
    intro ss _
    have : ∀ k, sumTo k (fun s => m1 (ss.getD s []) (List.filter (fun n => (n % (S : Int)).toNat == s) [])) = 0 := by
      intro k; induction k with
      | zero => rfl
      | succ k ih => rw [sumTo, ih]; rfl
    rw [this]; rfl
  | cons n l ih =>
    intro ss hs
    have hlt := setof_lt hS n
    rw [mm, ih _ (by rw [accS_length]; exact hs)]
    symm
    refine sumTo_one hlt ?_ ?_
    · have e : (accS S ss n).getD (n % (S : Int)).toNat [] = acc (ss.getD (n % (S : Int)).toNat []) n := by
        unfold accS
        rw [List.getD_eq_getElem?_getD, List.getElem?_set_self (by omega)]; rfl
      simp only [List.filter_cons, beq_self_eq_true, if_true, m1, e]
      congr 1
      by_cases h : n ∈ ss.getD (n % (S : Int)).toNat [] <;> simp [hitS]
    · intro i hi hne
      have : ((n % (S : Int)).toNat == i) = false := by simp; omega
      have e : (accS S ss n).getD i [] = ss.getD i [] := by
        unfold accS
        rw [List.getD_eq_getElem?_getD, List.getElem?_set_ne (by omega), List.getD_eq_getElem?_getD]
      simp only [List.filter_cons, this, e]
      simp

/-- All sets have W places. -/
def Wide (S W : Nat) (ss : List (List Int)) : Prop := ss.length = S ∧ ∀ x ∈ ss, x.length = W
theorem Wide.at {S W : Nat} {ss : List (List Int)} (h : Wide S W ss) {s : Nat} (hs : s < S) : (ss.getD s []).length = W := by
  rw [List.getD_eq_getElem?_getD, List.getElem?_eq_getElem (by rw [h.1]; exact hs)]
  exact h.2 _ (List.getElem_mem _)
theorem Wide.acc {S W : Nat} {ss : List (List Int)} (h : Wide S W ss) (hS : 0 < S) (hW : 0 < W) (n : Int) : Wide S W (accS S ss n) := by
  refine ⟨by rw [accS_length]; exact h.1, fun x hx => ?_⟩
  unfold accS at hx
  rcases List.mem_or_eq_of_mem_set hx with hx | rfl
  · exact h.2 x hx
  · rw [acc_length]
    · exact h.at (setof_lt hS n)
    · rw [h.at (setof_lt hS n)]; exact hW

theorem mm_near {S W : Nat} (hS : 0 < S) (hW : 0 < W) {ss tt : List (List Int)} (hs : Wide S W ss) (ht : Wide S W tt) (l : List Int) : mm S ss l ≤ mm S tt l + S * W := by
  rw [mm_sum hS l ss hs.1, mm_sum hS l tt ht.1]
  refine sumTo_near fun i hi => ?_
  have := (m1_near (l.filter fun n => (n % (S : Int)).toNat == i) (ss.getD i []) (tt.getD i []) W 0 hW (hs.at hi) (ht.at hi) (Nat.zero_le _) (by simp)).1
  simpa using this

/-- The order of the sets does not matter. -/
theorem mm_order {S : Nat} (hS : 0 < S) {ss : List (List Int)} (hs : ss.length = S) {l k : List Int} (h : ∀ s, s < S → l.filter (fun n => (n % (S : Int)).toNat == s) = k.filter (fun n => (n % (S : Int)).toNat == s)) : mm S ss l = mm S ss k := by
  rw [mm_sum hS l ss hs, mm_sum hS k ss hs]
  exact sumTo_congr fun i hi => by rw [h i hi]

theorem mm_le (S : Nat) (l : List Int) : ∀ ss : List (List Int), mm S ss l ≤ l.length := by
  induction l with
  | nil => intro ss; simp [mm]
  | cons n l ih =>
    intro ss
    have := ih (accS S ss n)
    simp only [mm, List.length_cons]
    split <;> omega
theorem mm_snoc (S : Nat) (n : Int) (l : List Int) : ∀ ss : List (List Int), mm S ss (l ++ [n]) = mm S ss l + (if hitS S (l.foldl (accS S) ss) n then 0 else 1) := by
  induction l with
  | nil => intro ss; show _ + 0 = 0 + _; rw [Nat.add_zero, Nat.zero_add]; rfl
  | cons m l ih =>
    intro ss
    rw [List.cons_append, mm, mm, ih (accS S ss m), List.foldl_cons, Nat.add_assoc]
end Go.Proofs.Ytlpelpjcbclemaa
