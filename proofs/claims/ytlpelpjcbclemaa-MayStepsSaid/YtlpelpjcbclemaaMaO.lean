/-
  MayForgets, plain: W lines of one set, used one behind the other, are all that the set can hold.
-/
import Derived.Test.YtlpelpjcbclemaaMaF
namespace Go.Proofs.Ytlpelpjcbclemaa

/-- Lines up to 199. -/
def Lows : List Int := (List.range 200).map (fun (i : Nat) => (i : Int))
theorem lows_mem {x : Int} (h0 : 0 ≤ x) (h1 : x < 200) : x ∈ Lows := List.mem_map.2 ⟨x.toNat, List.mem_range.2 (by omega), by omega⟩
theorem lows_len : Lows.length = 200 := by unfold Lows; simp
/-- What the first loop has done: T lists the k lines that were used. -/
structure Fgt (S W s k : Nat) (m : List (List (List Int))) (o : List Int) (T : List Int) : Prop where
  len : T.length = k
  line : ∀ (j : Nat) y, T[j]? = some y → ∃ q : Nat, q % 10 = j ∧ q < 30 ∧ y = (s : Int) + (S : Int) * (q : Int)
  past : Past W (m.getD s []) (o.getD s 0).toNat T k
  young : Young W (m.getD s []) (o.getD s 0).toNat T
theorem Fgt.zero (S W s : Nat) (m : List (List (List Int))) (o : List Int) : Fgt S W s 0 m o [] :=
  ⟨rfl, fun j y h => by simp at h, ⟨Nat.zero_le _, fun _ _ => Nat.zero_le _⟩, fun j y h => by simp at h⟩
theorem setN_line {S s q : Nat} (hs : s < S) : setN S ((s : Int) + (S : Int) * (q : Int)) = s := by
  have e := setN_int (show 0 < S by omega) ((s : Int) + (S : Int) * (q : Int))
  rw [Int.add_mul_emod_self_left, Int.emod_eq_of_lt (by omega) (by omega)] at e
  omega
theorem line_inj {S s p q : Nat} (hS : 0 < S) (h : (s : Int) + (S : Int) * (p : Int) = (s : Int) + (S : Int) * (q : Int)) : p = q := by
  have e : (S : Int) * (p : Int) = (S : Int) * (q : Int) := by omega
  have := Int.eq_of_mul_eq_mul_left (by omega) e
  omega
theorem Fgt.step {U : List Int} {S W s k q : Nat} {m : List (List (List Int))} {o : List Int} {T : List Int} {n : Int} (h : Fgt S W s k m o T) (hm : YSt U S W m o) (hs : s < S) (hk : k < W) (hW : W ≤ 10) (hn : n = (s : Int) + (S : Int) * (q : Int)) (hq : q % 10 = k) (hq3 : q < 30) (h0 : 0 ≤ n) (h1 : n ≤ 1048576) (hU : n ∈ U) :
    Fgt S W s (k + 1) (touchYm S W m o n) (touchYo S W m o n) (T ++ [n]) := by
  obtain ⟨g, i, hg, hi, hgd, hid, hy⟩ := hm.at hs
  have eN : setN S n = s := by rw [hn]; exact setN_line hs
  have hS : ¬ S = 0 := by omega
  have hA : ageY S W m o n = ageF W g i n := ageY_found hS (by rw [eN]; exact hgd) (by rw [eN]; exact hid)
  have hP : PS U S s n := ⟨h0, h1, by have := setN_int (show 0 < S by omega) n; omega, hU⟩
  have hT : n ∉ T := fun e => by
    obtain ⟨j, hj⟩ := List.getElem?_of_mem e
    obtain ⟨p, hp1, _, hp3⟩ := h.line j n hj
    have := line_inj (show 0 < S by omega) (hn.symm.trans hp3)
    have hl := (List.getElem?_eq_some_iff.1 hj).1
    have := h.len
    omega
  have em : (touchYm S W m o n).getD s [] = useY W n (ageF W g i n) g := by
    unfold touchYm; rw [if_neg hS, eN, hA, hgd, List.getD_eq_getElem?_getD, List.getElem?_set_self (by rw [hm.len]; exact hs)]; rfl
  have eo : ((touchYo S W m o n).getD s 0).toNat = tick W (ageF W g i n) i := by
    unfold touchYo; rw [if_neg hS, eN, hA, hid, List.getD_eq_getElem?_getD, List.getElem?_set_self (by rw [hm.olen]; exact hs)]; simp
  have hpast := h.past; have hyoung := h.young
  rw [hgd, hid, Int.toNat_natCast] at hpast hyoung
  refine ⟨by rw [List.length_append, h.len]; rfl, fun j y hj => ?_, ?_, ?_⟩
  · rcases Nat.lt_or_ge j T.length with hl | hl
    · rw [List.getElem?_append_left hl] at hj; exact h.line j y hj
    · have hlt := (List.getElem?_eq_some_iff.1 hj).1
      rw [List.length_append, List.length_singleton] at hlt
      rw [List.getElem?_append_right hl, show j - T.length = 0 by omega] at hj
      simp at hj
      have := h.len
      exact ⟨q, by omega, hq3, by rw [← hj]; exact hn⟩
  · rw [em, eo]; exact Past.use hy (by omega) hP hT hk hpast
  · rw [em, eo]; exact Young.use hy (by omega) hP hT hyoung
theorem Fgt.other {U : List Int} {S W s : Nat} {m : List (List (List Int))} {o : List Int} {T : List Int} (h : Fgt S W s W m o T) (hm : YSt U S W m o) (hs : s < S) : o[s]? = some (W : Int) := by
  obtain ⟨g, i, hg, hi, hgd, hid, hy⟩ := hm.at hs
  have := h.past.1
  rw [hid, Int.toNat_natCast] at this
  have := hy.ole
  rw [hi, show i = W by omega]
theorem Fgt.age {U : List Int} {S W s q : Nat} {m : List (List (List Int))} {o : List Int} {T : List Int} (h : Fgt S W s W m o T) (hm : YSt U S W m o) (hs : s < S) : ageY S W m o ((s : Int) + (S : Int) * (q : Int)) < W ↔ (s : Int) + (S : Int) * (q : Int) ∈ T := by
  obtain ⟨g, i, hg, hi, hgd, hid, hy⟩ := hm.at hs
  have eN := setN_line (q := q) hs
  rw [ageY_found (g := g) (k := i) (by omega) (by rw [eN]; exact hgd) (by rw [eN]; exact hid)]
  have hpast := h.past; have hyoung := h.young
  rw [hgd, hid, Int.toNat_natCast] at hpast hyoung
  constructor
  · intro hlt
    by_cases e : (s : Int) + (S : Int) * (q : Int) ∈ T
    · exact e
    · have := hpast.2 _ e; omega
  · intro e
    obtain ⟨j, hj⟩ := List.getElem?_of_mem e
    have := hyoung j _ hj
    have := h.len
    omega
/-- How many of the first n lines of the set are in T. -/
def cntT (S s : Nat) (T : List Int) (n : Nat) : Nat := ((List.range n).filter (fun (j : Nat) => decide ((s : Int) + (S : Int) * (j : Int) ∈ T))).length
theorem cntT_zero (S s : Nat) (T : List Int) : cntT S s T 0 = 0 := rfl
theorem cntT_in {S s n : Nat} {T : List Int} (h : (s : Int) + (S : Int) * (n : Int) ∈ T) : cntT S s T (n + 1) = cntT S s T n + 1 := by
  unfold cntT; rw [List.range_succ, List.filter_append, List.length_append]; simp [h]
theorem cntT_out {S s n : Nat} {T : List Int} (h : ¬ (s : Int) + (S : Int) * (n : Int) ∈ T) : cntT S s T (n + 1) = cntT S s T n := by
  unfold cntT; rw [List.range_succ, List.filter_append, List.length_append]; simp [h]
theorem cntT_le (S s : Nat) (T : List Int) (n : Nat) : cntT S s T n ≤ n := by
  unfold cntT; exact Nat.le_trans (List.length_filter_le _ _) (by simp)
theorem Fgt.count {S W s : Nat} {m : List (List (List Int))} {o : List Int} {T : List Int} (h : Fgt S W s W m o T) (hs : s < S) : cntT S s T 60 = W := by
  have key : ∀ (j : Nat) y, T[j]? = some y → ∃ q : Nat, q % 10 = j ∧ q < 30 ∧ y = (s : Int) + (S : Int) * (q : Int) ∧ (T.map (fun y => ((y - (s : Int)) / (S : Int)).toNat))[j]? = some q := fun j y hj => by
    obtain ⟨q, h1, h2, h3⟩ := h.line j y hj
    refine ⟨q, h1, h2, h3, ?_⟩
    rw [List.getElem?_map, hj, h3]
    simp only [Option.map_some, Option.some.injEq]
    rw [show (s : Int) + (S : Int) * (q : Int) - (s : Int) = (S : Int) * (q : Int) by omega, Int.mul_ediv_cancel_left _ (by omega), Int.toNat_natCast]
  have hp : ((List.range 60).filter (fun (j : Nat) => decide ((s : Int) + (S : Int) * (j : Int) ∈ T))).Perm (T.map (fun y => ((y - (s : Int)) / (S : Int)).toNat)) := by
    refine (List.perm_ext_iff_of_nodup (List.nodup_range.filter _) ?_).2 fun a => ?_
    · refine List.pairwise_iff_getElem.2 fun i j hi hj hij e => ?_
      have hi' : i < T.length := by simpa using hi
      have hj' : j < T.length := by simpa using hj
      obtain ⟨p, p1, _, _, p4⟩ := key i _ (List.getElem?_eq_getElem hi')
      obtain ⟨q, q1, _, _, q4⟩ := key j _ (List.getElem?_eq_getElem hj')
      rw [List.getElem?_eq_getElem hi] at p4
      rw [List.getElem?_eq_getElem hj] at q4
      have e1 := Option.some.inj p4; have e2 := Option.some.inj q4
      rw [e1, e2] at e
      omega
    · rw [List.mem_filter, List.mem_range]
      simp only [decide_eq_true_eq]
      constructor
      · rintro ⟨_, ha⟩
        obtain ⟨j, hj⟩ := List.getElem?_of_mem ha
        obtain ⟨q, _, _, q3, q4⟩ := key j _ hj
        rw [← line_inj (show 0 < S by omega) q3] at q4
        exact List.mem_of_getElem? q4
      · intro ha
        obtain ⟨j, hj⟩ := List.getElem?_of_mem ha
        have hjl : j < T.length := by have := (List.getElem?_eq_some_iff.1 hj).1; simpa using this
        obtain ⟨q, _, q2, q3, q4⟩ := key j _ (List.getElem?_eq_getElem hjl)
        rw [hj] at q4
        obtain rfl := Option.some.inj q4
        exact ⟨by omega, by rw [← q3]; exact List.getElem_mem hjl⟩
  have := hp.length_eq
  rw [List.length_map, h.len] at this
  exact this
end Go.Proofs.Ytlpelpjcbclemaa
