/-
  Lists of lists that are opened at one row; lines that are thrown out of sets. Plain laws.
-/
import Derived.Test.YtdkpfifnegndmaaRunD
namespace Go.Proofs.Ytdkpfifnegndmaa
open Go.RowKit

/-- An owned list of lists, opened at one row. -/
structure Opened (w : World) (fp : Nat → Prop) (a : Option Addr) (len cap : Nat) (ss : List (List Int)) (s : Nat) (x : List Int) (b rb rc : Nat) (sp : List Value) (f : Nat → Prop) : Prop where
  ea : a = some ⟨b, 0, none⟩
  cell : w.cell? ⟨b, s, none⟩ = some (.slice (some ⟨rb, 0, none⟩) x.length rc)
  blk : Blk w rb 3 (ivs x ++ sp)
  lcap : x.length ≤ rc
  rmax : rc ≤ 9223372036854775807
  own : f rb
  sub : ∀ k, f k → fp k
  nb : ¬ f b
  rng : ∀ z ∈ x, -9223372036854775808 ≤ z ∧ z ≤ 9223372036854775807
  back : ∀ w' y, Chg f w w' → y.length = x.length → Blk w' rb 3 (ivs y ++ sp) → (∀ z ∈ y, -9223372036854775808 ≤ z ∧ z ≤ 9223372036854775807) → OMat w' fp (.slice a len cap) (ss.set s y)
theorem OMat.openAt {w : World} {fp : Nat → Prop} {a : Option Addr} {len cap : Nat} {ss : List (List Int)} {s : Nat} {x : List Int} (r : OMat w fp (.slice a len cap) ss) (hx : ss[s]? = some x) (hne : 0 < x.length) :
    ∃ b rb rc sp f, Opened w fp a len cap ss s x b rb rc sp f := by
  have hsl := (List.getElem?_eq_some_iff.1 hx).1
  rcases r with ⟨_, rfl⟩ | ⟨b, cap', vs, sp, fps, hv, r⟩
  · cases hx
  cases hv
  obtain ⟨u, hu, hrow⟩ := r.row s x hx
  rcases hrow with ⟨_, rfl⟩ | ⟨rb, rc, us, sp', fps', rfl, q⟩
  · simp at hne
  have hus := q.ints
  subst hus
  refine ⟨b, rb, rc, sp', fps s, rfl, ?_, q.blk, by have := q.hcap; omega, q.hmax, q.own, fun k hk => (r.sub s k hsl hk).1, fun hb => (r.sub s b hsl hb).2.1 rfl, q.range, fun w' y hc hl hb hz => ?_⟩
  · exact r.blk.cell (by rw [List.getElem?_append_left (by rw [r.hlen]; exact hsl)]; exact hu)
  · refine .inr ⟨b, cap, vs, sp, fps, by rw [List.length_set], r.inner OInts.loc hsl hu hc ?_⟩
    rw [← hl]
    exact OInts.mk (sp := sp') hb rfl (by have := q.hcap; omega) q.hmax (by have := q.hsz; omega) q.own hz

/-! ### Lines that are thrown out -/
def drp (x : List Int) (p : Nat) : List Int := x.take p ++ x.drop (p + 1) ++ [-1]
theorem drp_length {x : List Int} {p : Nat} (h : p < x.length) : (drp x p).length = x.length := by unfold drp; simp; omega
theorem drp_range {x : List Int} {p : Nat} {q : Int → Prop} (h : ∀ z ∈ x, q z) (h1 : q (-1)) : ∀ z ∈ drp x p, q z := fun z hz => by
  unfold drp at hz
  rcases List.mem_append.1 hz with hz | hz
  · rcases List.mem_append.1 hz with hz | hz
    · exact h z (List.mem_of_mem_take hz)
    · exact h z (List.mem_of_mem_drop hz)
  · rw [List.mem_singleton] at hz; subst hz; exact h1
theorem drp_ok {S W n : Int} {x : List Int} {p : Nat} (h : SetOk S W n x) (hp : p < x.length) : SetOk S W n (drp x p) := by
  rw [setOk_iff] at h ⊢
  obtain ⟨a, b, c⟩ := h
  refine ⟨by rw [drp_length hp]; exact a, drp_range b (.inl rfl), ?_⟩
  unfold drp
  rw [List.pairwise_append]
  refine ⟨?_, List.pairwise_singleton _ _, fun u _ v hv => .inl (by simpa using hv)⟩
  exact c.sublist (rest_sub x p)
/-- Behind an empty place all places are empty: nothing changes. -/
theorem drp_none {S W n : Int} {x : List Int} {p : Nat} (h : SetOk S W n x) (hp : x[p]? = some (-1)) : drp x p = x := by
  have hpl := (List.getElem?_eq_some_iff.1 hp).1
  have key : ∀ i, p ≤ i → i < x.length → x[i]? = some (-1) := fun i h1 h2 => by
    by_cases e : i = p
    · rw [e]; exact hp
    · obtain ⟨z, hz⟩ : ∃ z, x[i]? = some z := ⟨_, List.getElem?_eq_getElem h2⟩
      rcases h.2 i z hz with h | h
      · rw [hz, h]
      · exact absurd (List.mem_take_iff_getElem.2 ⟨p, by omega, (List.getElem?_eq_some_iff.1 hp).2⟩) h.2.2.2.2
  apply List.ext_getElem?
  intro i
  unfold drp
  by_cases h1 : i < p
  · rw [List.append_assoc, List.getElem?_append_left (by rw [List.length_take]; omega), List.getElem?_take, if_pos h1]
  · by_cases h2 : i < x.length
    · rw [key i (by omega) h2]
      by_cases h3 : i + 1 < x.length
      · rw [List.getElem?_append_left (by simp; omega), List.getElem?_append_right (by rw [List.length_take]; omega), List.length_take, List.getElem?_drop, show p + 1 + (i - min p x.length) = i + 1 by omega]
        exact key _ (by omega) h3
      · rw [List.getElem?_append_right (by simp; omega)]
        have : i - (x.take p ++ x.drop (p + 1)).length = 0 := by simp; omega
        rw [this]; rfl
    · rw [List.getElem?_eq_none (by simp; omega), List.getElem?_eq_none (by omega)]
/-- The set while the lines behind place p move down, up to place j. -/
def dl (x : List Int) (p j : Nat) : List Int := (List.range x.length).map fun i => if p ≤ i ∧ i < j then x.getD (i + 1) 0 else x.getD i 0
theorem dl_length (x : List Int) (p j : Nat) : (dl x p j).length = x.length := by simp [dl]
theorem dl_get {x : List Int} {p j i : Nat} (h : i < x.length) : (dl x p j)[i]? = some (if p ≤ i ∧ i < j then x.getD (i + 1) 0 else x.getD i 0) := by
  unfold dl; rw [List.getElem?_map, List.getElem?_range h]; rfl
theorem dl_start (x : List Int) (p : Nat) : dl x p p = x := by
  apply List.ext_getElem?
  intro i
  by_cases h : i < x.length
  · rw [dl_get h, if_neg (by omega)]
    simp [h]
  · rw [List.getElem?_eq_none (by rw [dl_length]; omega), List.getElem?_eq_none (by omega)]
theorem dl_step {x : List Int} {p j : Nat} (h1 : p ≤ j) (h2 : j + 1 < x.length) : (dl x p j).set j (x.getD (j + 1) 0) = dl x p (j + 1) := by
  apply List.ext_getElem?
  intro i
  by_cases h : i < x.length
  · rw [List.getElem?_set]
    by_cases e : j = i
    · subst e
      rw [if_pos rfl, if_pos (by rw [dl_length]; exact h), dl_get h, if_pos (by omega)]
    · rw [if_neg e, dl_get h, dl_get h]
      by_cases hc : p ≤ i ∧ i < j
      · rw [if_pos hc, if_pos (by omega)]
      · rw [if_neg hc, if_neg (by omega)]
  · rw [List.getElem?_eq_none (by rw [List.length_set, dl_length]; omega), List.getElem?_eq_none (by rw [dl_length]; omega)]
theorem dl_end {x : List Int} {p m : Nat} (h : p ≤ m) (hm : x.length = m + 1) : (dl x p m).set m (-1) = drp x p := by
  apply List.ext_getElem?
  intro i
  unfold drp
  by_cases hi : i < x.length
  · rw [List.getElem?_set]
    by_cases e : m = i
    · subst e
      rw [if_pos rfl, if_pos (by rw [dl_length]; exact hi), List.getElem?_append_right (by simp; omega)]
      have : m - (x.take p ++ x.drop (p + 1)).length = 0 := by simp; omega
      rw [this]; rfl
    · rw [if_neg e, dl_get hi, List.getElem?_append_left (by simp; omega)]
      by_cases hc : p ≤ i
      · rw [if_pos (by omega), List.getElem?_append_right (by rw [List.length_take]; omega), List.length_take, List.getElem?_drop, show p + 1 + (i - min p x.length) = i + 1 by omega]
        simp [show i + 1 < x.length by omega]
      · rw [if_neg (by omega), List.getElem?_append_left (by rw [List.length_take]; omega), List.getElem?_take, if_pos (by omega)]
        simp [hi]
  · rw [List.getElem?_eq_none (by rw [List.length_set, dl_length]; omega), List.getElem?_eq_none (by simp; omega)]
/-- copy of what lies behind place p onto place p. -/
theorem drp_cells {x : List Int} {sp : List Value} {p m : Nat} (h : p ≤ m) (hm : x.length = m + 1) : (splice (ivs x ++ sp) p (ivs (x.drop (p + 1)))).set m (.int .i64 (-1)) = ivs (drp x p) ++ sp := by
  have e1 : (ivs x ++ sp).take p = ivs (x.take p) := by
    rw [List.take_append_of_le_length (by rw [ivs_length]; omega)]
    unfold ivs; rw [List.map_take]
  have e2 : (ivs x ++ sp).drop (p + (ivs (x.drop (p + 1))).length) = ivs (x.drop m) ++ sp := by
    rw [ivs_length, List.length_drop, show p + (x.length - (p + 1)) = m by omega, List.drop_append_of_le_length (by rw [ivs_length]; omega)]
    unfold ivs; rw [List.map_drop]
  obtain ⟨y, hy⟩ : ∃ y, x.drop m = [y] := by
    have hl : (x.drop m).length = 1 := by rw [List.length_drop]; omega
    exact List.length_eq_one_iff.1 hl
  unfold splice
  rw [e1, e2, hy]
  have e3 : ivs (x.take p) ++ (ivs (x.drop (p + 1)) ++ (ivs [y] ++ sp)) = ivs (x.take p ++ x.drop (p + 1)) ++ (.int .i64 y :: sp) := by
    rw [ivs_append]; simp [ivs, iv]
  rw [e3, List.set_append_right _ _ (by rw [ivs_length]; simp; omega)]
  have e4 : m - (ivs (x.take p ++ x.drop (p + 1))).length = 0 := by rw [ivs_length]; simp; omega
  rw [e4]
  unfold drp
  rw [ivs_append (x.take p ++ x.drop (p + 1))]
  simp [ivs, iv]
theorem drp_valid {S W : Nat} {ss : List (List Int)} {s p : Nat} {x : List Int} (h : ValidP S W ss) (hx : ss[s]? = some x) (hp : p < x.length) : ValidP S W (ss.set s (drp x p)) := by
  refine ⟨by rw [List.length_set]; exact h.1, fun i y hy => ?_⟩
  rw [List.getElem?_set] at hy
  by_cases e : s = i
  · subst e
    rw [if_pos rfl, if_pos (List.getElem?_eq_some_iff.1 hx).1] at hy
    cases hy
    exact drp_ok (h.2 s x hx) hp
  · rw [if_neg e] at hy; exact h.2 i y hy
end Go.Proofs.Ytdkpfifnegndmaa
