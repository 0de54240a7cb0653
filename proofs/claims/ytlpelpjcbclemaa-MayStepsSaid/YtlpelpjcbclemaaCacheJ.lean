/-
  timeboundref22.Use: an access in place.
-/
import Derived.Test.YtlpelpjcbclemaaZCacheE
namespace Go.Proofs.Ytlpelpjcbclemaa
open Go.RowKit

/-- The set while the lines before place p move up, down to place j. -/
def sh (x : List Int) (p j : Nat) : List Int := (List.range x.length).map fun i => if j < i ∧ i ≤ p then x.getD (i - 1) 0 else x.getD i 0
theorem sh_length (x : List Int) (p j : Nat) : (sh x p j).length = x.length := by simp [sh]
theorem sh_get {x : List Int} {p j i : Nat} (h : i < x.length) : (sh x p j)[i]? = some (if j < i ∧ i ≤ p then x.getD (i - 1) 0 else x.getD i 0) := by
  unfold sh; rw [List.getElem?_map, List.getElem?_range h]; rfl
theorem sh_start (x : List Int) (p : Nat) : sh x p p = x := by
  apply List.ext_getElem?
  intro i
  by_cases h : i < x.length
  · rw [sh_get h, if_neg (by omega)]
    simp [h]
  · rw [List.getElem?_eq_none (by rw [sh_length]; omega), List.getElem?_eq_none (by omega)]
theorem sh_step {x : List Int} {p j : Nat} (h0 : 0 < j) (h1 : j ≤ p) (_h2 : p < x.length) : (sh x p j).set j (x.getD (j - 1) 0) = sh x p (j - 1) := by
  apply List.ext_getElem?
  intro i
  by_cases h : i < x.length
  · rw [List.getElem?_set]
    by_cases e : j = i
    · subst e
      rw [if_pos rfl, if_pos (by rw [sh_length]; exact h), sh_get h, if_pos (by omega)]
    · rw [if_neg e, sh_get h, sh_get h]
      by_cases hc : j < i ∧ i ≤ p
      · rw [if_pos hc, if_pos (by omega)]
      · rw [if_neg hc, if_neg (by omega)]
  · rw [List.getElem?_eq_none (by rw [List.length_set, sh_length]; omega), List.getElem?_eq_none (by rw [sh_length]; omega)]
theorem sh_end {x : List Int} {n : Int} (h : pos x n < x.length) : (sh x (pos x n) 0).set 0 n = acc x n := by
  unfold acc
  generalize pos x n = p at *
  apply List.ext_getElem?
  intro i
  by_cases hi : i < x.length
  · rw [List.getElem?_set]
    cases i with
    | zero => rw [if_pos rfl, if_pos (by rw [sh_length]; exact hi)]; rfl
    | succ i =>
      rw [if_neg (by omega), sh_get hi, List.getElem?_cons_succ]
      by_cases hc : i + 1 ≤ p
      · rw [if_pos (by omega), List.getElem?_append_left (by rw [List.length_take]; omega), List.getElem?_take, if_pos (by omega)]
        simp [show i < x.length by omega]
      · rw [if_neg (by omega), List.getElem?_append_right (by rw [List.length_take]; omega), List.length_take, List.getElem?_drop, show p + 1 + (i - min p x.length) = i + 1 by omega]
        simp [hi]
  · rw [List.getElem?_eq_none (by rw [List.length_set, sh_length]; omega), List.getElem?_eq_none (by simp; omega)]
theorem sh_range {x : List Int} {p j : Nat} {q : Int → Prop} (h : ∀ z ∈ x, q z) (h0 : q 0) : ∀ z ∈ sh x p j, q z := fun z hz => by
  obtain ⟨i, _, rfl⟩ := List.mem_map.1 hz
  have : ∀ i, q (x.getD i 0) := fun i => by
    rw [List.getD_eq_getElem?_getD]
    by_cases hi : i < x.length
    · simp only [hi, List.getElem?_eq_getElem, Option.getD_some]; exact h _ (List.getElem_mem hi)
    · rw [List.getElem?_eq_none (by omega)]; exact h0
  split
  · exact this _
  · exact this _

/-- The line n lies at one place of x alone. -/
def Once (x : List Int) (n : Int) : Prop := ∀ i : Nat, x[i]? = some n → n ∉ x.take i
def atK (x : List Int) (n : Int) (k : Nat) : Nat := if n ∈ x.take k then x.idxOf n else x.length - 1
theorem atK_hit {x : List Int} {n : Int} {k : Nat} (h : Once x n) (e : x[k]? = some n) : atK x n (k + 1) = k ∧ n ∈ x.take (k + 1) := by
  have hm : n ∈ x.take (k + 1) := by rw [List.take_add_one, e]; simp
  refine ⟨?_, hm⟩
  unfold atK
  rw [if_pos hm]
  have := idx_found (h k e) e
  unfold idx at this
  rw [if_pos (List.mem_of_mem_take hm)] at this
  omega
theorem atK_miss {x : List Int} {n z : Int} {k : Nat} (e : x[k]? = some z) (hne : z ≠ n) : atK x n (k + 1) = atK x n k ∧ (n ∈ x.take (k + 1) ↔ n ∈ x.take k) := by
  have hm : n ∈ x.take (k + 1) ↔ n ∈ x.take k := by
    rw [List.take_add_one, e]; simp
    exact fun h => absurd h.symm hne
  refine ⟨?_, hm⟩
  unfold atK
  simp only [hm]
theorem atK_all {x : List Int} {n : Int} {k : Nat} (h : x.length ≤ k) : atK x n k = pos x n ∧ (n ∈ x.take k ↔ n ∈ x) := by
  rw [List.take_of_length_le h]; unfold atK pos; rw [List.take_of_length_le h]; simp
theorem atK_lt {x : List Int} {n : Int} {k : Nat} (h : 0 < x.length) : atK x n k < x.length := by
  unfold atK; split
  · exact List.idxOf_lt_length_of_mem (List.mem_of_mem_take ‹_›)
  · omega

set_option maxHeartbeats 2000000 in
theorem use_any (S W L : Nat) (hc : COk S W L) (hS : 1 ≤ S) (fp : Nat → Prop) (a : Option Addr) (len cap : Nat) (ss : List (List Int)) (w : World) (r : OMat w fp (.slice a len cap) ss)
    (n : Int) (h0 : 0 ≤ n) (h1 : n ≤ 1048576) (hw : Wide S W ss) (hon : Once (ss.getD (n / (L : Int) % (S : Int)).toNat []) (n / (L : Int))) :
    Calls Try.prog 26 #[CV S W L, .agg #[.slice a len cap], .int .i64 n] w fun e w' => e = .returned (.bool (hitS S ss (n / L))) ∧ OMat w' fp (.slice a len cap) (accS S ss (n / L)) ∧ Chg fp w w' := by
  obtain ⟨g1, g2, g3, g4, g5, g6⟩ := hc
  have hz : ((S : Int) == 0) = false := by simp; omega
  have hline : 0 ≤ n / (L : Int) := Int.ediv_nonneg h0 (by omega)
  have hline' : n / (L : Int) ≤ 1048576 := Int.le_trans (Int.ediv_le_self _ h0) h1
  have hacc : accS S ss (n / (L : Int)) = ss.set (n / (L : Int) % (S : Int)).toNat (acc (ss.getD (n / (L : Int) % (S : Int)).toNat []) (n / (L : Int))) := rfl
  have hhit : hitS S ss (n / (L : Int)) = decide (n / (L : Int) ∈ ss.getD (n / (L : Int) % (S : Int)).toNat []) := rfl
  have hset : n / (L : Int) % (S : Int) = ((n / (L : Int) % (S : Int)).toNat : Nat) := by have := Int.emod_nonneg (n / (L : Int)) (show (S : Int) ≠ 0 by omega); omega
  have hlt := setof_lt hS (n / (L : Int))
  have hx : ss[(n / (L : Int) % (S : Int)).toNat]? = some (ss.getD (n / (L : Int) % (S : Int)).toNat []) := by
    have := hw.1
    rw [List.getD_eq_getElem?_getD, List.getElem?_eq_getElem (by omega)]; rfl
  have hxl : (ss.getD (n / (L : Int) % (S : Int)).toNat []).length = W := hw.at hlt
  rw [hacc, hhit]
  obtain ⟨m, hm⟩ : ∃ m, m = n / (L : Int) := ⟨_, rfl⟩
  rw [← hm] at hline hline' hset hlt hx hxl hon ⊢
  generalize (m % (S : Int)).toNat = s at *
  generalize ss.getD s [] = x at *
  have hsl := (List.getElem?_eq_some_iff.1 hx).1
  rcases r with ⟨_, rfl⟩ | ⟨b, cap', vs, sp, fps, hv, r⟩
  · cases hx
  cases hv
  have hss := r.hsz; have hcap : ss.length ≤ cap := by have := r.hcap; omega
  have hcm := r.hmax
  obtain ⟨u, hu, hrow⟩ := r.row s x hx
  rcases hrow with ⟨_, rfl⟩ | ⟨rb, rc, us, sp', fps', rfl, q⟩
  · simp at hxl; omega
  have hqsz := q.hsz; have hqcap : x.length ≤ rc := by have := q.hcap; omega
  have hqm := q.hmax
  have hus := q.ints
  subst hus
  have hb := r.blk.cell (i := s) (v := .slice (some ⟨rb, 0, none⟩) x.length rc) (by rw [List.getElem?_append_left (by rw [r.hlen]; exact hsl)]; exact hu)
  rw [hxl] at hb
  have hblt := r.blk.lt
  have hs0 : (0 : Int) ≤ (s : Int) := by omega
  have hs1 : (s : Int) < (ss.length : Int) := by omega
  have hp := pos_lt (n := m) (x := x) (by omega)
  have bq0 : Blk ((w.alloc (.cells #[.int .i64 S, .int .i64 W, .int .i64 L] 26)).alloc (.cells #[.slice (some ⟨b, 0, none⟩) ss.length cap] 44)) rb 3 (ivs x ++ sp') := (q.blk.old _).old _
  have HQ := Lib.hid q; have HR := Lib.hid r; have HX := Lib.hid hx; have HU := Lib.hid hu; have HXL := Lib.hid hxl; have HO := Lib.hid hon; have HM := Lib.hid hm; have BQ := Lib.hid bq0
  have hWl : W ≤ rc := by omega
  clear q r hx hu hxl hon bq0 hacc hhit hw hm
  go_enter Try.func26, Try.ntmps26
  go_wp2
  rw [← HM.out]
  go_quiet (fail)
  have BQ1 := Lib.hid (BQ.out.drewN nq)
  have c1 : Chg Non w (((w.alloc (.cells #[.int .i64 S, .int .i64 W, .int .i64 L] 26)).alloc (.cells #[.slice (some ⟨b, 0, none⟩) ss.length cap] 44)).drewN nq) := (((Chg.refl w).alloc _).alloc _).drewN nq
  have C1 := Lib.hid c1
  clear hset c1 BQ hb
  go_wp2
  obtain ⟨w1, hw1⟩ : ∃ w1, w1 = (((w.alloc (.cells #[.int .i64 S, .int .i64 W, .int .i64 L] 26)).alloc (.cells #[.slice (some ⟨b, 0, none⟩) ss.length cap] 44)).drewN nq) := ⟨_, rfl⟩
  rw [← hw1] at BQ1 C1 ⊢
  clear hw1
  go_loop [9, 10, 11] (fun at_ hit i => ∃ k : Nat, k ≤ W ∧ i = .int .i64 k ∧ at_ = .int .i64 (atK x m k) ∧ hit = .bool (decide (m ∈ x.take k))) (fun _ _ i => W - (intOf i).toNat)
  case atStart => exact ⟨0, Nat.zero_le _, rfl, by unfold atK; simp; have := HXL.out; omega, by simp⟩
  case round =>
    obtain ⟨k, hk, rfl, rfl, rfl⟩ := hrel
    by_cases hlt : k < W
    · obtain ⟨z, hzz⟩ : ∃ z, x[k]? = some z := ⟨_, List.getElem?_eq_getElem (by have := HXL.out; omega)⟩
      have hcz : w1.cell? ⟨rb, k, none⟩ = some (.int .i64 z) := BQ1.out.cell (by rw [List.getElem?_append_left (by rw [ivs_length]; have := HXL.out; omega)]; exact ivs_get hzz)
      have HZ := Lib.hid hzz; clear hzz
      by_cases he : z = m
      · subst he
        have hb : (z == z) = true := by simp
        obtain ⟨e1, e2⟩ := atK_hit HO.out HZ.out
        have E1 := Lib.hid e1; have E2 := Lib.hid e2; clear e1 e2
        go_wp2
        go_round
        case rel => exact ⟨k + 1, by omega, by go_num, by rw [E1.out], by rw [decide_eq_true E2.out]⟩
        case measure => simp [intOf]; omega
      · have hb : (z == m) = false := by simp [he]
        obtain ⟨e1, e2⟩ := atK_miss HZ.out he
        have E1 := Lib.hid e1; have E2 := Lib.hid e2; clear e1 e2
        go_wp2
        go_round
        case rel => exact ⟨k + 1, by omega, by go_num, by rw [E1.out], by rw [decide_eq_decide.2 E2.out]⟩
        case measure => simp [intOf]; omega
    · obtain ⟨e1, e2⟩ := atK_all (x := x) (n := m) (k := k) (by have := HXL.out; omega)
      have e3 : decide (m ∈ x.take k) = decide (m ∈ x) := decide_eq_decide.2 e2
      rw [e1, e3]
      clear e1 e2 e3
      obtain ⟨hit, hh⟩ : ∃ hit, hit = decide (m ∈ x) := ⟨_, rfl⟩
      rw [← hh]
      have HH := Lib.hid hh; clear hh
      obtain ⟨p, hpp⟩ : ∃ p, p = pos x m := ⟨_, rfl⟩
      rw [← hpp] at hp ⊢
      have HP := Lib.hid hpp; clear hpp
      have hpW : p < W := by have := HXL.out; omega
      go_wp2
      go_loopw [12] (fun j wr => ∃ i : Nat, i ≤ p ∧ j = .int .i64 i ∧ Blk wr rb 3 (ivs (sh x p i) ++ sp') ∧ Chg (fps s) w wr) (fun j _ => (intOf j).toNat)
      case atStart => exact ⟨p, Nat.le_refl _, rfl, by rw [sh_start]; exact BQ1.out, C1.out.mono (fun _ _ h => h.elim)⟩
      case round =>
        obtain ⟨i, hi, rfl, bb, cc⟩ := hrel
        have BB := Lib.hid bb; have CC := Lib.hid cc
        by_cases hi0 : 0 < i
        · have e0 : wr.cell? ⟨rb, i - 1, none⟩ = some (.int .i64 (x.getD (i - 1) 0)) := bb.cell (by
            rw [List.getElem?_append_left (by rw [ivs_length, sh_length]; omega)]
            refine ivs_get ?_
            rw [sh_get (by omega), if_neg (by omega)])
          obtain ⟨v1, e1⟩ := bb.some0 (i := i) (by rw [List.length_append, ivs_length, sh_length]; omega)
          have ef := bb.free i; have el := bb.lt
          clear bb cc
          have q1 : ((i : Int) - 1).toNat = i - 1 := by omega
          have q2 : (0 : Int) ≤ (i : Int) - 1 := by omega
          have q3 : (i : Int) - 1 < (W : Int) := by omega
          have q4 : (i : Int) < (W : Int) := by omega
          go_wp2
          go_roundw
          case rel =>
            refine ⟨i - 1, by omega, by congr 1; omega, ?_, CC.out.setCell (fun _ => HQ.out.own) _⟩
            refine (BB.out.set i _).at ?_
            rw [← sh_step hi0 hi hp, List.set_append_left _ _ (by rw [ivs_length, sh_length]; omega)]
            unfold ivs
            rw [List.map_set]; rfl
          case measure => simp [intOf]; omega
        · obtain rfl : i = 0 := by omega
          obtain ⟨v1, e1⟩ := bb.some0 (i := 0) (by rw [List.length_append, ivs_length, sh_length]; omega)
          have ef := bb.free 0; have el := bb.lt
          clear bb cc
          go_wp2
          go_ret
          have hc : Chg (fps s) w (wr.setCell ⟨rb, 0, none⟩ (.int .i64 m)) := CC.out.setCell (fun _ => HQ.out.own) _
          have hr := HR.out; have hq := HQ.out
          refine ⟨ret_b HH.out, .inr ⟨b, cap, vs, sp, fps, by rw [List.length_set], ?_⟩, hc.mono fun k _ hk => (hr.sub s k hsl hk).1⟩
          refine hr.inner OInts.loc hsl HU.out hc (OInts.mk (sp := sp') ?_ ?_ ?_ hq.hmax ?_ hq.own ?_)
          · refine (BB.out.set 0 (.int .i64 m)).at ?_
            rw [List.set_append_left _ _ (by rw [ivs_length, sh_length]; omega)]
            have := sh_end (x := x) (n := m) (by rw [← HP.out]; exact hp)
            rw [← this, ← HP.out]
            unfold ivs
            rw [List.map_set]; rfl
          · rw [acc_length (by omega)]
          · rw [acc_length (by omega)]; exact hq.hcap
          · rw [acc_length (by omega)]; exact hq.hsz
          · exact acc_range hq.range (by omega) (by omega)
end Go.Proofs.Ytlpelpjcbclemaa
