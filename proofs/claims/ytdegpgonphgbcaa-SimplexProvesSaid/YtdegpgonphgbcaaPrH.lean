/-
  The sums of simplex.Proves (plain), and its test.
-/
import Derived.Test.YtdegpgonphgbcaaZPrE
import Derived.Test.YtdegpgonphgbcaaZSxH
namespace Go.Proofs.Ytdegpgonphgbcaa
open Go.RowKit

theorem coefF_none {l : List (Int × Int)} {c : Int} (h : ∀ t ∈ l, t.1 ≠ c) : coefF l c = 0 := by
  induction l with
  | nil => rfl
  | cons t l ih =>
    unfold coefF
    rw [if_neg (h t (List.mem_cons_self ..))]
    exact ih (fun s hs => h s (List.mem_cons_of_mem _ hs))
theorem coefF_snoc {l : List (Int × Int)} {t : Int × Int} (h : ∀ s ∈ l, s.1 < t.1) (c : Int) : coefF (l ++ [t]) c = if c = t.1 then t.2 else coefF l c := by
  induction l with
  | nil =>
    show coefF [t] c = _
    unfold coefF coefF
    by_cases e : t.1 = c
    · rw [if_pos e, if_pos e.symm]
    · rw [if_neg e, if_neg (fun h => e h.symm)]
  | cons s l ih =>
    have hs := h s (List.mem_cons_self ..)
    show coefF (s :: (l ++ [t])) c = _
    unfold coefF
    by_cases e : s.1 = c
    · rw [if_pos e, if_pos e, if_neg (by omega)]
    · rw [if_neg e, if_neg e]
      exact ih (fun u hu => h u (List.mem_cons_of_mem _ hu))
theorem terms_less {l : List (Int × Int)} {n m : Int} (h : TermsOk l n m l.length) {k : Nat} {t : Int × Int} (ht : l[k]? = some t) : ∀ s ∈ l.take k, s.1 < t.1 := by
  have key : ∀ j : Nat, ∀ p q : Nat, q = p + j → ∀ s u, l[p]? = some s → l[q + 1]? = some u → s.1 < u.1 := by
    intro j
    induction j with
    | zero =>
      intro p q e s u hs hu
      have hu : l[p + 1]? = some u := by rw [show p + 1 = q + 1 by omega]; exact hu
      exact (h (p + 1) u (List.getElem?_eq_some_iff.1 hu).1 hu).2.2.1 p s rfl hs
    | succ j ih =>
      intro p q e s u hs hu
      subst e
      have hlen := (List.getElem?_eq_some_iff.1 hu).1
      obtain ⟨v, hv⟩ : ∃ v, l[p + j + 1]? = some v := ⟨_, List.getElem?_eq_getElem (by omega)⟩
      have h1 := ih p (p + j) rfl s v hs hv
      have h2 := (h (p + (j + 1) + 1) u hlen hu).2.2.1 (p + j + 1) v (by omega) hv
      omega
  intro s hs
  obtain ⟨p, hp⟩ := List.getElem?_of_mem hs
  have hpk : p < k := by have := (List.getElem?_eq_some_iff.1 hp).1; rw [List.length_take] at this; omega
  rw [List.getElem?_take, if_pos hpk] at hp
  exact key (k - 1 - p) p (k - 1) (by omega) s t hp (by rw [show k - 1 + 1 = k by omega]; exact ht)
theorem coefF_take {l : List (Int × Int)} {n m : Int} (h : TermsOk l n m l.length) {k : Nat} {t : Int × Int} (ht : l[k]? = some t) (c : Int) : coefF (l.take (k + 1)) c = if c = t.1 then t.2 else coefF (l.take k) c := by
  rw [List.take_add_one, ht]
  exact coefF_snoc (terms_less h ht) c
theorem coefF_take0 {l : List (Int × Int)} {n m : Int} (h : TermsOk l n m l.length) {k : Nat} {t : Int × Int} (ht : l[k]? = some t) : coefF (l.take k) t.1 = 0 := coefF_none (fun s hs => by have := terms_less h ht s hs; omega)
theorem coef_take_nine {n m : Int} {l : List (Int × Int)} (hm : 0 ≤ m) (h : TermsOk l n m l.length) (k : Nat) (c : Int) : -m ≤ coefF (l.take k) c ∧ coefF (l.take k) c ≤ m := coefF_le hm (fun t ht => by obtain ⟨i, hi⟩ := List.getElem?_of_mem (List.mem_of_mem_take ht); exact (h i t (List.getElem?_eq_some_iff.1 hi).1 hi).2.2.2.2) c
theorem gR_set {l : List Rat} {i : Nat} (hi : i < l.length) (x : Rat) (c : Nat) : gR (l.set i x) c = if c = i then x else gR l c := by
  unfold gR
  rw [List.getD_eq_getElem?_getD, List.getElem?_set]
  by_cases e : i = c
  · subst e
    rw [if_pos rfl, if_pos hi, if_pos rfl]; rfl
  · rw [if_neg e, if_neg (fun h => e h.symm), List.getD_eq_getElem?_getD]
/-- The sums while a row is added, or the goal (s: 1 or -1 times its coefficients). -/
structure SumJ (C : Nat) (ss : List Rat) (base : Nat → Rat) (l : List (Int × Int)) (k : Nat) (y : Rat) : Prop where
  len : ss.length = C
  val : ∀ c : Nat, c < C → gR ss c = base c + (coefF (l.take k) c : Rat) * y
theorem SumJ.step {C : Nat} {ss : List Rat} {base : Nat → Rat} {l : List (Int × Int)} {k : Nat} {y : Rat} (h : SumJ C ss base l k y) {n m : Int} (ok : TermsOk l n m l.length) {i : Nat} {co : Int} (ht : l[k]? = some ((i : Int), co)) (hi : i < C) : SumJ C (ss.set i (gR ss i + (co : Rat) * y)) base l (k + 1) y := by
  refine ⟨by rw [List.length_set]; exact h.len, fun c hc => ?_⟩
  rw [gR_set (by rw [h.len]; exact hi), coefF_take ok ht]
  dsimp only
  by_cases e : c = i
  · subst e
    have z := coefF_take0 ok ht
    dsimp only at z
    rw [if_pos rfl, if_pos rfl, h.val c hc, z]
    simp only [Rat.intCast_zero]
    grind
  · rw [if_neg e, if_neg (by omega), h.val c hc]
theorem fr_row {w : World} {g : Nat} {xs : List Rat} (h : FBlk w g xs []) (hn : xs.length ≤ 1000) : Row RTm 2 (fun k => k = g) w (some ⟨g, 0, none⟩) xs.length xs.length (xs.map fun x => (x.num, (x.den : Int))) := by
  refine ⟨by simp, Nat.le_refl _, by omega, by omega, fun i t ht => ?_⟩
  rw [List.getElem?_map] at ht
  obtain ⟨x, hx, rfl⟩ := Option.map_eq_some_iff.1 ht
  obtain ⟨c0, c1⟩ := FBlk.get h hx
  exact ⟨g, 0, rfl, rfl, h.lt, by rw [Nat.zero_add]; exact c0, by rw [Nat.zero_add]; exact c1⟩
theorem fneg_any (t : Int × Int) (w : World) : Calls Try.prog 63 #[.agg #[.int .i64 t.1, .int .i64 t.2]] w (YesNo (t.1 < 0) w) := by
  obtain ⟨a, b⟩ := t
  dsimp only
  obtain ⟨wa, hwa⟩ : ∃ wa, wa = w.alloc (.cells #[.int .i64 a, .int .i64 b] 31) := ⟨_, rfl⟩
  have BA := Lib.hid (show Below w.heap.size w wa by rw [hwa]; exact (Below.refl _ _).alloc (Nat.le_refl _) _)
  have YA := Lib.hid (show Blk wa w.heap.size 31 [.int .i64 a, .int .i64 b] by rw [hwa]; exact Blk.new w _ _)
  have HWA := Lib.hid hwa
  have y0 := YA.out.cell (i := 0) rfl; have y1 := YA.out.cell (i := 1) rfl
  clear hwa
  by_cases hn : a < 0
  · have YES := Lib.hid hn
    go_enter Try.func63, Try.ntmps63
    go_upto_region 1 with fail
    rw [← HWA.out]
    go_wp2
    go_ret
    exact yes_ret YES.out BA.out rfl
  · have NO := Lib.hid (show ¬ a < 0 from hn)
    go_enter Try.func63, Try.ntmps63
    go_upto_region 1 with fail
    rw [← HWA.out]
    go_wp2
    go_ret
    exact no_ret (fun h => by have := NO.out; omega) BA.out rfl
end Go.Proofs.Ytdegpgonphgbcaa
