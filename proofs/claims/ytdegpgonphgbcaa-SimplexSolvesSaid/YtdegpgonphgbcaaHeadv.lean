/-
  As Headi's hd_inv_p.
-/
import Derived.Test.YtdegpgonphgbcaaZHeadq
namespace Go.Proofs.Ytdegpgonphgbcaa
open Go.RowKit
section
variable {P : Program} {Q : Exit → Act → World → Prop} {S : World → Prop} {n : Nat}
theorem put_none (a : Act) (x : Value) : a.put none x = a := rfl
theorem putAll_get' {l : List Oper} {v : Nat → Value} : ∀ {ls : List Nat} {a0 : Act}, ls.Nodup → (∀ j ∈ ls, ∀ d, dstOf l j = some d → d < a0.tmps.size) → (∀ i j, i ∈ ls → j ∈ ls → dstOf l i = dstOf l j → dstOf l i ≠ none → i = j) →
    (putAll l v a0 ls).defers = a0.defers ∧ (putAll l v a0 ls).tmps.size = a0.tmps.size ∧ (∀ j d, j ∈ ls → dstOf l j = some d → (putAll l v a0 ls).tmps[d]? = some (v j)) ∧ ∀ t, (∀ j, j ∈ ls → dstOf l j ≠ some t) → (putAll l v a0 ls).tmps[t]? = a0.tmps[t]?
  | [], a0, _, _, _ => ⟨rfl, rfl, fun j d h => (by cases h), fun t _ => rfl⟩
  | i :: r, a0, hn, hd, hi => by
    have hn' := List.nodup_cons.1 hn
    cases h1 : dstOf l i with
    | none =>
      obtain ⟨k1, k2, k3, k4⟩ := putAll_get' (l := l) (v := v) (ls := r) (a0 := a0) hn'.2 (fun j hj => hd j (List.mem_cons_of_mem _ hj)) (fun x y hx hy => hi x y (List.mem_cons_of_mem _ hx) (List.mem_cons_of_mem _ hy))
      have hp : putAll l v a0 (i :: r) = putAll l v a0 r := by rw [putAll, h1]; rfl
      rw [hp]
      refine ⟨k1, k2, fun j e hj he => ?_, fun t ht => k4 t (fun j hj => ht j (List.mem_cons_of_mem _ hj))⟩
      rcases List.mem_cons.1 hj with rfl | hj'
      · rw [h1] at he; cases he
      · exact k3 j e hj' he
    | some d =>
      have h2 := hd i (List.mem_cons_self ..) d h1
      have hs : (a0.put (some d) (v i)).tmps.size = a0.tmps.size := act_put_size ..
      obtain ⟨k1, k2, k3, k4⟩ := putAll_get' (l := l) (v := v) (ls := r) (a0 := a0.put (some d) (v i)) hn'.2 (fun j hj e he => by rw [hs]; exact hd j (List.mem_cons_of_mem _ hj) e he) (fun x y hx hy => hi x y (List.mem_cons_of_mem _ hx) (List.mem_cons_of_mem _ hy))
      have hp : putAll l v a0 (i :: r) = putAll l v (a0.put (some d) (v i)) r := by rw [putAll, h1]
      rw [hp]
      refine ⟨by rw [k1]; simp [Act.put], by rw [k2, hs], fun j e hj he => ?_, fun t ht => ?_⟩
      · rcases List.mem_cons.1 hj with rfl | hj'
        · rw [h1] at he
          cases he
          rw [k4 _ (fun x hx hxe => hn'.1 (by have := hi x j (List.mem_cons_of_mem _ hx) (List.mem_cons_self ..) (by rw [hxe, h1]) (by rw [hxe]; simp); exact this ▸ hx)), act_put_get _ _ _ _ h2, if_pos rfl]
        · exact k3 j e hj' he
      · rw [k4 t (fun j hj => ht j (List.mem_cons_of_mem _ hj)), act_put_get _ _ _ _ h2, if_neg]
        intro e
        exact ht i (List.mem_cons_self ..) (by rw [h1, e])
theorem hd_inv_w {l : List Oper} {listed : Array Bool} {a0 : Act} {w : World} {f : Nat} (ls : List Nat) (v0 : Nat → Value) (J : (Nat → Bool) → (Nat → Value) → World → Prop) (ok : HdOk l.toArray n ∨ HdEnd l.toArray n)
    (hc : ls.Nodup ∧ (∀ i ∈ ls, i < n) ∧ earlierB l n = true ∧ ls.length = f) (hl : (List.range n).all (fun j => listed.getD j true == !ls.contains j) = true)
    (hd' : ∀ j ∈ ls, ∀ d, dstOf l j = some d → d < a0.tmps.size) (hinj : ∀ i j, i ∈ ls → j ∈ ls → dstOf l i = dstOf l j → dstOf l i ≠ none → i = j)
    (h0 : J (fun _ => false) v0 w)
    (step : ∀ i oi, i ∈ ls → l[i]? = some oi → ∀ b v a w, J b v w → FrI l ls a0 b v a → b i = false → (∀ j, (depsOf l ls i).contains j = true → b j = true) → S w → ∀ K : Act → World → Prop, Shut (∀ x w', S w' → J (setB b i) (setV v i x) w' → K (a.put oi.dst x) w') → if Region.wanted oi (yielded l.toArray a.tmps) = true then Oper.wp P oi a w K Q else K (a.put oi.dst undef) w)
    (fin : ∀ b v w, (∀ i ∈ ls, b i = true) → J b v w → S w → HdG P l.toArray Q S n 0 (fullL l n) (putAll l v a0 ls) w) : HdG P l.toArray Q S n f listed a0 w := by
  refine hd_inv ls (fun b a w => ∃ v, J b v w ∧ FrI l ls a0 b v a) ok hc hl ⟨v0, h0, rfl, rfl, fun j d _ _ h => (by cases h), fun t _ => rfl⟩ ?_ ?_
  · rintro i oi hm ho b a w ⟨v, hJ, hF⟩ hb hdep hS K hK
    refine step i oi hm ho b v a w hJ hF hb hdep hS K fun x w' hS' hJ' => hK _ w' hS' ⟨setV v i x, hJ', ?_⟩
    cases h1 : dstOf l i with
    | none =>
      have hod : oi.dst = none := by unfold dstOf at h1; rw [ho] at h1; exact h1
      rw [hod]
      refine ⟨hF.defers, hF.size, fun j e hj he hbj => ?_, fun t ht => hF.rest t fun j hj hbj => ?_⟩
      · by_cases hji : j = i
        · subst hji; rw [h1] at he; cases he
        · have hb2 : b j = true := by simpa [setB, hji] using hbj
          simp only [setV, hji, if_false]
          exact hF.done j e hj he hb2
      · by_cases hji : j = i
        · subst hji; rw [h1]; simp
        · exact ht j hj (by simp [setB, hji, hbj])
    | some d =>
      have h2 := hd' i hm d h1
      have hod : oi.dst = some d := by unfold dstOf at h1; rw [ho] at h1; exact h1
      rw [hod]
      have hda : d < a.tmps.size := by rw [hF.size]; exact h2
      refine ⟨by simp [Act.put, hF.defers], by rw [act_put_size, hF.size], fun j e hj he hbj => ?_, fun t ht => ?_⟩
      · rw [act_put_get _ _ _ _ hda]
        by_cases hji : j = i
        · subst hji
          rw [h1] at he; cases he
          simp [setV]
        · have hne : ¬ d = e := fun h => hji (hinj j i hj hm (by rw [he, h1, h]) (by rw [he]; simp))
          rw [if_neg hne]
          have hb2 : b j = true := by simpa [setB, hji] using hbj
          simp only [setV, hji, if_false]
          exact hF.done j e hj he hb2
      · have hne : ¬ d = t := fun h => ht i hm (by simp [setB]) (by rw [h1, h])
        rw [act_put_get _ _ _ _ hda, if_neg hne]
        exact hF.rest t fun j hj hbj => ht j hj (by by_cases hji : j = i <;> simp [setB, hji, hbj])
  · rintro b a w hall ⟨v, hJ, hF⟩ hS
    obtain ⟨k1, k2, k3, k4⟩ := putAll_get' (l := l) (v := v) (a0 := a0) hc.1 hd' hinj
    have e : a = putAll l v a0 ls := act_ext_get (by rw [hF.defers, k1]) fun t => by
      by_cases ht : ∃ j, j ∈ ls ∧ dstOf l j = some t
      · obtain ⟨j, hj, hjt⟩ := ht
        rw [hF.done j t hj hjt (hall j hj), k3 j t hj hjt]
      · rw [hF.rest t fun j hj _ hjt => ht ⟨j, hj, hjt⟩, k4 t fun j hj hjt => ht ⟨j, hj, hjt⟩]
    rw [e]
    exact fin b v w hall hJ hS
theorem putAll_app {l : List Oper} {v : Nat → Value} : ∀ (ls ss : List Nat) (a0 : Act), (∀ s ∈ ss, dstOf l s = none) → putAll l v a0 (ls ++ ss) = putAll l v a0 ls
  | [], [], _, _ => rfl
  | [], s :: ss, a0, h => by
    show putAll l v (a0.put (dstOf l s) (v s)) ss = a0
    rw [h s (List.mem_cons_self ..), put_none]
    exact putAll_app [] ss a0 (fun t ht => h t (List.mem_cons_of_mem _ ht))
  | i :: ls, ss, a0, h => putAll_app ls ss _ h
theorem hd_inv_s {l : List Oper} {listed : Array Bool} {a0 : Act} {w : World} {f : Nat} (ps : List (Nat × Nat)) (ss : List Nat) (v0 : Nat → Value) (J : (Nat → Bool) → (Nat → Value) → World → Prop) (ok : HdOk l.toArray n ∨ HdEnd l.toArray n)
    (hc : (ps.map (·.2) ++ ss).Nodup ∧ (∀ i ∈ ps.map (·.2) ++ ss, i < n) ∧ earlierB l n = true ∧ (ps.map (·.2) ++ ss).length = f) (hl : (List.range n).all (fun j => listed.getD j true == !(ps.map (·.2) ++ ss).contains j) = true)
    (hd : ps.all (fun p => dstOf l p.2 == some p.1 && decide (p.1 < a0.tmps.size)) = true) (hs : ss.all (fun s => dstOf l s == none) = true) (hi : (ps.map (·.1)).Nodup)
    (h0 : J (fun _ => false) v0 w)
    (step : ∀ i oi, i ∈ ps.map (·.2) ++ ss → l[i]? = some oi → ∀ b v a w, J b v w → (∀ d j, (d, j) ∈ ps → b j = true → a.eval (.tmp d) = v j) → (∀ t, t ∉ ps.map (·.1) → a.eval (.tmp t) = a0.eval (.tmp t)) → b i = false → (∀ j, (depsOf l (ps.map (·.2) ++ ss) i).contains j = true → b j = true) → S w → ∀ K : Act → World → Prop, Shut (∀ x w', S w' → J (setB b i) (setV v i x) w' → K (a.put oi.dst x) w') → if Region.wanted oi (yielded l.toArray a.tmps) = true then Oper.wp P oi a w K Q else K (a.put oi.dst undef) w)
    (fin : ∀ b v w, (∀ i ∈ ps.map (·.2) ++ ss, b i = true) → J b v w → S w → HdG P l.toArray Q S n 0 (fullL l n) (putP v a0 ps) w) : HdG P l.toArray Q S n f listed a0 w := by
  have hp : ∀ p ∈ ps, dstOf l p.2 = some p.1 ∧ p.1 < a0.tmps.size := fun p hpm => by
    have := List.all_eq_true.1 hd p hpm
    simpa using this
  have hss : ∀ s ∈ ss, dstOf l s = none := fun s hsm => by
    have := List.all_eq_true.1 hs s hsm
    simpa using this
  have dd : ∀ j ∈ ps.map (·.2) ++ ss, ∀ d, dstOf l j = some d → ∃ p ∈ ps, p.2 = j ∧ p.1 = d := fun j hj d he => by
    rcases List.mem_append.1 hj with h | h
    · obtain ⟨p, hpm, rfl⟩ := List.mem_map.1 h
      rw [(hp p hpm).1] at he
      exact ⟨p, hpm, rfl, Option.some.inj he⟩
    · rw [hss j h] at he; cases he
  refine hd_inv_w (ps.map (·.2) ++ ss) v0 J ok hc hl (fun j hj d he => ?_) (fun i j h1 h2 he hne => ?_) h0 ?_ ?_
  · obtain ⟨p, hpm, rfl, rfl⟩ := dd j hj d he
    exact (hp p hpm).2
  · obtain ⟨d, hdd⟩ := Option.ne_none_iff_exists'.1 hne
    obtain ⟨p, hpm, rfl, rfl⟩ := dd i h1 d hdd
    obtain ⟨q, hqm, rfl, hpq⟩ := dd j h2 p.1 (by rw [← he, hdd])
    obtain ⟨x, hx, rfl⟩ := List.getElem_of_mem hpm
    obtain ⟨y, hy, rfl⟩ := List.getElem_of_mem hqm
    have := List.pairwise_iff_getElem.1 hi
    rcases Nat.lt_trichotomy x y with h | h | h
    · exact absurd (by rw [List.getElem_map, List.getElem_map]; exact hpq.symm) (this x y (by simpa using hx) (by simpa using hy) h)
    · subst h; rfl
    · exact absurd (by rw [List.getElem_map, List.getElem_map]; exact hpq) (this y x (by simpa using hy) (by simpa using hx) h)
  · rintro i oi hm ho b v a w hJ hF hb hdep hS K hK
    refine step i oi hm ho b v a w hJ (fun d j hj hbj => ?_) (fun t ht => ?_) hb hdep hS K hK
    · exact eval_tmp (hF.done j d (List.mem_append_left _ (List.mem_map.2 ⟨(d, j), hj, rfl⟩)) (hp _ hj).1 hbj)
    · refine eval_same (hF.rest t fun j hj _ he => ht ?_)
      obtain ⟨p, hpm, rfl, rfl⟩ := dd j hj t he
      exact List.mem_map.2 ⟨p, hpm, rfl⟩
  · intro b v w hall hJ hS
    rw [putAll_app _ _ _ hss, putAll_putP fun p hpm => (hp p hpm).1]
    exact fin b v w hall hJ hS
end
end Go.Proofs.Ytdegpgonphgbcaa
