/-
  Accesses twice of the same line, of lines that make contents alike, and of caches that grow: plain lists, no program in sight.
-/
import Derived.Test.YtdkpfifnegndmaaCacheP
namespace Go.Proofs.Ytdkpfifnegndmaa

theorem acc_again (x : List Int) (n : Int) : acc (acc x n) n = acc x n := by
  have hp : pos (acc x n) n = 0 := by unfold pos acc; simp
  conv => lhs; unfold acc
  rw [show pos (n :: (x.take (pos x n) ++ x.drop (pos x n + 1))) n = 0 from hp]
  rfl
theorem acc_has (x : List Int) (n : Int) : n ∈ acc x n := by unfold acc; simp
theorem accS_at {S : Nat} {ss : List (List Int)} (hS : 1 ≤ S) (hs : ss.length = S) (n : Int) : (accS S ss n).getD (n % (S : Int)).toNat [] = acc (ss.getD (n % (S : Int)).toNat []) n := by
  have hlt := setof_lt hS n
  unfold accS
  rw [List.getD_eq_getElem?_getD, List.getElem?_set_self (by omega)]; rfl
theorem accS_off {S : Nat} {ss : List (List Int)} (n : Int) {s : Nat} (h : s ≠ (n % (S : Int)).toNat) : (accS S ss n).getD s [] = ss.getD s [] := by
  unfold accS
  rw [List.getD_eq_getElem?_getD, List.getElem?_set_ne (by omega), List.getD_eq_getElem?_getD]
theorem accS_again {S : Nat} {ss : List (List Int)} (hS : 1 ≤ S) (hs : ss.length = S) (n : Int) : accS S (accS S ss n) n = accS S ss n := by
  have e := accS_at hS hs n
  show (accS S ss n).set (n % (S : Int)).toNat (acc ((accS S ss n).getD (n % (S : Int)).toNat []) n) = _
  rw [e, acc_again]
  unfold accS
  rw [List.set_set]
theorem hitS_again {S : Nat} {ss : List (List Int)} (hS : 1 ≤ S) (hs : ss.length = S) (n : Int) : hitS S (accS S ss n) n = true := by
  unfold hitS
  rw [accS_at hS hs n]
  simpa using acc_has _ n
theorem tch_again {S W L : Nat} {ss : List (List Int)} (hS : 1 ≤ S) (h : ValidP S W ss) (m : Int) : tch S L (tch S L ss m) m = tch S L ss m ∧ thit S L (tch S L ss m) m = true := by
  have := h.1
  unfold tch thit
  simp only [if_neg (show ¬ S = 0 by omega)]
  exact ⟨accS_again hS (by omega) _, hitS_again hS (by omega) _⟩

/-! ### Contents that become alike -/
/-- The first k places of the first sets agree, and hold lines of the form that was used. -/
def Alike (S k : Nat) (ss tt : List (List Int)) : Prop := (ss.getD 0 []).take k = (tt.getD 0 []).take k ∧ ∀ z ∈ (ss.getD 0 []).take k, ∃ i r : Nat, i < k ∧ r ≤ 1 ∧ z = (S : Int) * ((i : Int) + (r : Int) * 40)
theorem alike_zero (S : Nat) (ss tt : List (List Int)) : Alike S 0 ss tt := ⟨by simp, fun z h => by simp at h⟩
theorem mul_set {S : Nat} (hS : 1 ≤ S) (q : Int) : ((S : Int) * q % (S : Int)).toNat = 0 := by rw [Int.mul_emod_right]; rfl
theorem line_div {S L : Nat} (hL : 1 ≤ L) (q : Int) : (L : Int) * (S : Int) * q / (L : Int) = (S : Int) * q := by
  rw [Int.mul_assoc, Int.mul_ediv_cancel_left _ (by omega)]
theorem alike_step {S W L : Nat} {ss tt : List (List Int)} (hS : 1 ≤ S) (hL : 1 ≤ L) (hs : ValidP S W ss) (ht : ValidP S W tt) {k r : Nat} (hk : k < W) (hW : W ≤ 3) (hr : r ≤ 1) (h : Alike S k ss tt) :
    Alike S (k + 1) (tch S L ss ((L : Int) * (S : Int) * ((k : Int) + (r : Int) * 40))) (tch S L tt ((L : Int) * (S : Int) * ((k : Int) + (r : Int) * 40))) := by
  unfold tch
  rw [if_neg (show ¬ S = 0 by omega), if_neg (show ¬ S = 0 by omega), line_div hL]
  obtain ⟨n, hn⟩ : ∃ n, n = (S : Int) * ((k : Int) + (r : Int) * 40) := ⟨_, rfl⟩
  have h0 : (n % (S : Int)).toNat = 0 := by rw [hn]; exact mul_set hS _
  have ls := (hs.wide).at (s := 0) (by omega)
  have lt := (ht.wide).at (s := 0) (by omega)
  have es := accS_at hS hs.wide.1 n
  have et := accS_at hS ht.wide.1 n
  rw [h0] at es et
  rw [← hn]
  unfold Alike
  rw [es, et]
  have hno : n ∉ (ss.getD 0 []).take k := fun hm => by
    obtain ⟨i, q, hi, hq, e⟩ := h.2 n hm
    have e2 : (S : Int) * ((k : Int) + (r : Int) * 40) = (S : Int) * ((i : Int) + (q : Int) * 40) := hn.symm.trans e
    have := Int.eq_of_mul_eq_mul_left (by omega) e2
    omega
  obtain ⟨a, b⟩ := acc_more h.1 hno (by omega) (by omega)
  rw [a, b]
  refine ⟨rfl, fun z hz => ?_⟩
  rcases List.mem_cons.1 hz with rfl | hz
  · exact ⟨k, r, by omega, hr, hn⟩
  · obtain ⟨i, q, hi, hq, e⟩ := h.2 z hz
    exact ⟨i, q, by omega, hq, e⟩
/-- The first sets are the same, without empty places. -/
def Full (ss tt : List (List Int)) : Prop := ss.getD 0 [] = tt.getD 0 [] ∧ ∀ z ∈ ss.getD 0 [], 0 ≤ z
theorem full_of {S W : Nat} {ss tt : List (List Int)} (hS : 1 ≤ S) (hs : ValidP S W ss) (ht : ValidP S W tt) (h : Alike S W ss tt) : Full ss tt := by
  have ls := (hs.wide).at (s := 0) (by omega)
  have lt := (ht.wide).at (s := 0) (by omega)
  obtain ⟨a, b⟩ := h
  rw [List.take_of_length_le (by omega), List.take_of_length_le (by omega)] at a
  rw [List.take_of_length_le (by omega)] at b
  refine ⟨a, fun z hz => ?_⟩
  obtain ⟨i, r, _, _, rfl⟩ := b z hz
  exact Int.mul_nonneg (by omega) (by omega)
theorem full_step {S W L : Nat} {ss tt : List (List Int)} (hS : 1 ≤ S) (hL : 1 ≤ L) (hs : ValidP S W ss) (ht : ValidP S W tt) {q : Int} (hq : 0 ≤ q) (h : Full ss tt) :
    Full (tch S L ss ((L : Int) * (S : Int) * q)) (tch S L tt ((L : Int) * (S : Int) * q)) := by
  unfold tch
  rw [if_neg (show ¬ S = 0 by omega), if_neg (show ¬ S = 0 by omega), line_div hL]
  have es := accS_at hS hs.wide.1 ((S : Int) * q)
  have et := accS_at hS ht.wide.1 ((S : Int) * q)
  rw [mul_set hS] at es et
  unfold Full
  rw [es, et, ← h.1]
  refine ⟨rfl, fun z hz => ?_⟩
  unfold acc at hz
  rcases List.mem_cons.1 hz with rfl | hz
  · exact Int.mul_nonneg (by omega) hq
  · rcases List.mem_append.1 hz with hz | hz
    · exact h.2 z (List.mem_of_mem_take hz)
    · exact h.2 z (List.mem_of_mem_drop hz)

/-! ### Caches that grow -/
/-- Each set of the smaller cache is the first places of the set of the greater one. -/
def Grown (S W : Nat) (ss tt : List (List Int)) : Prop := ∀ s, s < S → (tt.getD s []).take W = ss.getD s []
theorem grown_empty (S W : Nat) : Grown S W (List.replicate S (List.replicate W (-1))) (List.replicate S (List.replicate (W + 1) (-1))) := fun s hs => by
  simp only [List.getD_eq_getElem?_getD, List.getElem?_replicate, hs, if_true, Option.getD_some]
  rw [List.take_replicate, show min W (W + 1) = W by omega]
theorem acc_grown {x y : List Int} {W : Nat} (hW : 1 ≤ W) (hx : x.length = W) (hy : y.length = W + 1) (h : y.take W = x) (n : Int) : (acc y n).take W = acc x n ∧ (n ∈ x → n ∈ y) := by
  have lx := acc_length (x := x) (n := n) (by omega)
  have e : x.take W = y.take W := by rw [List.take_of_length_le (by omega), h]
  by_cases hn : n ∈ x
  · obtain ⟨a, _, b⟩ := acc_same e (by rw [List.take_of_length_le (by omega)]; exact hn)
    rw [List.take_of_length_le (by omega)] at a
    exact ⟨a.symm, fun _ => b⟩
  · have e' : x.take (W - 1) = y.take (W - 1) := by
      have := congrArg (List.take (W - 1)) e
      rwa [List.take_take, List.take_take, show min (W - 1) W = W - 1 by omega] at this
    obtain ⟨a, b⟩ := acc_more e' (fun hm => hn (List.mem_of_mem_take hm)) (by omega) (by omega)
    rw [show W - 1 + 1 = W by omega] at a b
    rw [List.take_of_length_le (by omega)] at a
    exact ⟨b.trans a.symm, fun hm => absurd hm hn⟩
theorem grown_step {S W L : Nat} {ss tt : List (List Int)} (hS : 1 ≤ S) (hW : 1 ≤ W) (hs : ValidP S W ss) (ht : ValidP S ((W + 1 : Nat) : Int) tt) (m : Int) (h : Grown S W ss tt) :
    Grown S W (tch S L ss m) (tch S L tt m) ∧ (thit S L ss m = true → thit S L tt m = true) := by
  unfold tch thit
  simp only [if_neg (show ¬ S = 0 by omega)]
  have hlt := setof_lt hS (m / (L : Int))
  obtain ⟨a, b⟩ := acc_grown hW (hs.wide.at hlt) (ht.wide.at hlt) (h _ hlt) (m / (L : Int))
  refine ⟨fun s hs' => ?_, ?_⟩
  · by_cases e : s = (m / (L : Int) % (S : Int)).toNat
    · subst e
      rw [accS_at hS hs.wide.1, accS_at hS ht.wide.1, a]
    · rw [accS_off _ e, accS_off _ e, h s hs']
  · unfold hitS
    simpa using b
end Go.Proofs.Ytdkpfifnegndmaa
