/-
  cache.front: an access of a line in contents that the caller owns.
-/
import Derived.Test.YtdkpfifnegndmaaCacheD
namespace Go.Proofs.Ytdkpfifnegndmaa
open Go.RowKit

theorem idx_pos {x : List Int} {n : Int} (h : n ∈ x) : idx x n = (pos x n : Nat) := by unfold idx pos; rw [if_pos h, if_pos h]

theorem acc_cells {x : List Int} {sp : List Value} {p : Nat} {n : Int} (h : p < x.length) : (splice (ivs x ++ sp) 1 (ivs (x.take p))).set 0 (.int .i64 n) = ivs (n :: (x.take p ++ x.drop (p + 1))) ++ sp := by
  cases x with
  | nil => simp at h
  | cons z x =>
    simp at h
    have e1 : (List.drop (1 + min p (x.length + 1)) (ivs (z :: x) ++ sp)) = ivs ((z :: x).drop (p + 1)) ++ sp := by
      rw [List.drop_append_of_le_length (by rw [ivs_length]; simp; omega), show 1 + min p (x.length + 1) = p + 1 by omega]
      unfold ivs; rw [List.map_drop]
    unfold splice
    rw [ivs_length, List.length_take, List.length_cons, e1]
    simp only [ivs, List.map_cons, List.cons_append, List.take_succ_cons, List.take_zero, List.nil_append, List.set_cons_zero, List.map_append, List.append_assoc]
    rfl
theorem acc_range {x : List Int} {n : Int} (h : ∀ z ∈ x, -9223372036854775808 ≤ z ∧ z ≤ 9223372036854775807) (h0 : -9223372036854775808 ≤ n) (h1 : n ≤ 9223372036854775807) : ∀ z ∈ acc x n, -9223372036854775808 ≤ z ∧ z ≤ 9223372036854775807 := fun z hz => by
  unfold acc at hz
  rcases List.mem_cons.1 hz with rfl | hz
  · exact ⟨h0, h1⟩
  · rcases List.mem_append.1 hz with hz | hz
    · exact h z (List.mem_of_mem_take hz)
    · exact h z (List.mem_of_mem_drop hz)

set_option maxHeartbeats 1000000 in
theorem front_any (fp : Nat → Prop) (a : Option Addr) (len cap : Nat) (ss : List (List Int)) (w : World) (r : OMat w fp (.slice a len cap) ss) (n : Nat) (x : List Int) (hx : ss[n]? = some x) (hne : 0 < x.length) (line : Int) (hl0 : -9223372036854775808 ≤ line) (hl1 : line ≤ 9223372036854775807) :
    Calls Try.prog 31 #[.agg #[.slice a len cap], .int .i64 n, .int .i64 line] w fun e w' => e = .returned (.bool (decide (line ∈ x))) ∧ OMat w' fp (.slice a len cap) (ss.set n (acc x line)) ∧ Chg fp w w' := by
  have hxl := (List.getElem?_eq_some_iff.1 hx).1
  rcases r with ⟨_, rfl⟩ | ⟨b, cap', vs, sp, fps, hv, r⟩
  · cases hx
  cases hv
  have hss := r.hsz; have hcap : ss.length ≤ cap := by have := r.hcap; omega
  have hcm := r.hmax
  obtain ⟨u, hu, hrow⟩ := r.row n x hx
  have hrow0 := Lib.hid hrow
  rcases hrow with ⟨_, rfl⟩ | ⟨rb, rc, us, sp', fps', rfl, q⟩
  · simp at hne
  have hqsz := q.hsz; have hqcap : x.length ≤ rc := by have := q.hcap; omega
  have hqm := q.hmax
  obtain ⟨m, hm⟩ : ∃ m, x.length = m + 1 := ⟨x.length - 1, by omega⟩
  have qi := q.read OInt.reads (K := fun _ => True) (fun _ _ => trivial)
  have hb := r.blk.cell (i := n) (v := .slice (some ⟨rb, 0, none⟩) x.length rc) (by rw [List.getElem?_append_left (by rw [r.hlen]; exact hxl)]; exact hu)
  have hblt := r.blk.lt; have hrlt := q.blk.lt
  have hn0 : (0 : Int) ≤ (n : Int) := by omega
  have hn1 : (n : Int) < (ss.length : Int) := by omega
  have hus := q.ints
  subst hus
  have HQ := Lib.hid q; have HR := Lib.hid r; have HQI := Lib.hid qi; have HX := Lib.hid hx; have HU := Lib.hid hu
  clear q r qi hx hu
  rw [hm] at hb
  have hidx : Calls Try.prog 44 #[.slice (some ⟨rb, 0, none⟩) (m + 1) rc, .int .i64 line] (w.alloc (.cells #[.slice (some ⟨b, 0, none⟩) ss.length cap] 33)) fun e w' => e = .returned (.int .i64 (idx x line)) ∧ w' = w.alloc (.cells #[.slice (some ⟨b, 0, none⟩) ss.length cap] 33) :=
    index_any (fun _ => True) _ _ _ x line _ (hm ▸ Ints.below HQI.out ((Below.refl _ _).alloc (Nat.le_refl _) _))
  have hmrc : m + 1 ≤ rc := by omega
  have wb : Blk (w.alloc (.cells #[.slice (some ⟨b, 0, none⟩) ss.length cap] 33)) rb 3 (ivs x ++ sp') := HQ.out.blk.old _
  have HIDX := Lib.hid hidx; have HM := Lib.hid hm; have WB := Lib.hid wb; clear hidx hm wb
  have hp := pos_lt (n := line) hne
  obtain ⟨p, hpp⟩ : ∃ p, p = pos x line := ⟨_, rfl⟩
  rw [← hpp] at hp
  have HP := Lib.hid hpp; clear hpp
  have hp' : p < m + 1 := by have := HM.out; omega
  have hsp : (splice (ivs x ++ sp') 1 (ivs (x.take p))).length = (ivs x ++ sp').length := length_splice _ _ _ (by rw [ivs_length, List.length_take, List.length_append, ivs_length]; omega)
  have fin : ∀ w3, Laid rb 3 (splice (ivs x ++ sp') 1 (ivs (x.take p))) (w.alloc (.cells #[.slice (some ⟨b, 0, none⟩) ss.length cap] 33)).drew w3 →
      (∃ v, w3.cell? ⟨rb, 0, none⟩ = some v) ∧ w3.frozen? ⟨rb, 0, none⟩ = false ∧ rb < w3.heap.size ∧ OMat (w3.setCell ⟨rb, 0, none⟩ (.int .i64 line)) fp (.slice (some ⟨b, 0, none⟩) ss.length cap) (ss.set n (acc x line)) ∧ Chg fp w (w3.setCell ⟨rb, 0, none⟩ (.int .i64 line)) := fun w3 hl => by
    have hr := HR.out; have hq := HQ.out
    have hc : Chg (fps n) w (w3.setCell ⟨rb, 0, none⟩ (.int .i64 line)) := by
      refine Chg.setCell ?_ (fun _ => hq.own) _
      exact ((Chg.refl w).alloc _).drew.trans hl.chg (fun k _ hk => hk ▸ hq.own)
    refine ⟨hl.blk.some0 (by rw [hsp, List.length_append, ivs_length]; omega), hl.blk.free 0, hl.blk.lt, .inr ⟨b, cap, vs, sp, fps, by rw [List.length_set], ?_⟩, hc.mono fun k _ hk => (hr.sub n k hxl hk).1⟩
    refine hr.inner OInts.loc hxl HU.out hc (OInts.mk (sp := sp') ?_ ?_ ?_ hq.hmax ?_ hq.own ?_)
    · have h1 := hl.blk.set 0 (.int .i64 line)
      rw [acc_cells hp] at h1
      unfold acc
      rw [← HP.out]
      exact h1
    · rw [acc_length hne]
    · rw [acc_length hne]; exact hq.hcap
    · rw [acc_length hne]; exact hq.hsz
    · exact acc_range hq.range hl0 hl1
  have FIN := Lib.hid fin; clear fin hsp
  have C3 := fun (p : Nat) (h : p < m + 1) => (show 0 < (ivs (x.take p)).length → ∃ ad, (some ⟨rb, 0, none⟩ : Option Addr) = some ad ∧ ∀ j v, (ivs (x.take p))[j]? = some v → (w.alloc (.cells #[.slice (some ⟨b, 0, none⟩) ss.length cap] 33)).drew.cell? (ad.add j) = some v from fun _ => ⟨⟨rb, 0, none⟩, rfl, fun j v hv => by
      have hm := HM.out
      have hadd : (⟨rb, 0, none⟩ : Addr).add j = ⟨rb, j, none⟩ := by unfold Addr.add; split <;> simp_all
      rw [hadd]
      refine WB.out.drew.cell ?_
      have hj := (List.getElem?_eq_some_iff.1 hv).1
      rw [ivs_length, List.length_take] at hj
      unfold ivs at hv ⊢
      rw [List.getElem?_append_left (by rw [List.length_map]; omega)]
      rw [List.map_take, List.getElem?_take, if_pos (by omega)] at hv
      exact hv⟩)
  have C3' := Lib.hid C3; clear C3
  by_cases hin : line ∈ x
  · rw [idx_pos hin, ← HP.out] at HIDX
    have hbt : decide (line ∈ x) = true := by simpa using hin
    have HBT := Lib.hid hbt; clear hbt
    by_cases h1c : rc = 1
    · subst h1c
      obtain rfl : p = 0 := by omega
      have q1 : IntKind.i64.wrap 1 = 1 := by decide
      go_enter Try.func31, Try.ntmps31
      go_wp2_with fail
      refine HIDX.out.mono ?_
      rintro e w' ⟨rfl, rfl⟩
      go_wp2
      go_region_law ((refine step_copy_laid (by rfl) (.tmp 28) (.tmp 31) 22 22 (by rfl) 3 Try.underlying22 (by kernel_rfl) (some ⟨rb, 0, none⟩) (some ⟨rb, 0, none⟩) 0 0 0 1 (by go_simp) (by go_simp) rb 1 (ivs x ++ sp') 3 (by exact WB.out.drew) (ivs (x.take 0)) (by rw [ivs_length, List.length_take]; show min 0 x.length = min 0 0; omega) (by intro h; exact absurd h (by simp [ivs])) (by rw [ivs_length, List.length_take, List.length_append, ivs_length]; omega) ivs_one ?_; intro w3 hl))
      obtain ⟨⟨v0, g0⟩, g1, g2, g3, g4⟩ := FIN.out w3 hl.out
      have G3 := Lib.hid g3; have G4 := Lib.hid g4
      clear g3 g4 hl
      go_wp2
      go_ret
      exact ⟨ret_b HBT.out.symm, G3.out, G4.out⟩
    have hrc : 1 < rc := by omega
    go_enter Try.func31, Try.ntmps31
    go_wp2_with fail
    refine HIDX.out.mono ?_
    rintro e w' ⟨rfl, rfl⟩
    go_wp2
    have q1 : IntKind.i64.wrap ((p : Int) + 1) = (p : Int) + 1 := IntWalk.i64_in _ (by omega)
    have q2 : (1 : Int) ≤ (p : Int) + 1 := by omega
    have q3 : (p : Int) + 1 ≤ (rc : Int) := by omega
    have q4 : ((p : Int) + 1).toNat = p + 1 := by omega
    have q5 : (p : Int) ≤ (rc : Int) := by omega
    have q6 : (0 : Int) ≤ (p : Int) := by omega
    go_region_law ((refine step_copy_laid (by rfl) (.tmp 28) (.tmp 31) 22 22 (by rfl) 3 Try.underlying22 (by kernel_rfl) (some ⟨rb, 1, none⟩) (some ⟨rb, 0, none⟩) p (rc - 1) p rc (by go_simp) (by go_simp) rb 1 (ivs x ++ sp') 3 (by exact WB.out.drew) (ivs (x.take p)) (by rw [ivs_length, List.length_take]; show min p x.length = min p p; omega) (fun h => ⟨by rfl, by exact C3'.out p hp' h⟩) (by rw [ivs_length, List.length_take, List.length_append, ivs_length]; omega) ivs_one ?_; intro w3 hl))
    obtain ⟨⟨v0, g0⟩, g1, g2, g3, g4⟩ := FIN.out w3 hl.out
    have G3 := Lib.hid g3; have G4 := Lib.hid g4
    clear q1 q2 q3 q4 q5 q6 g3 g4 hl
    go_wp2
    go_ret
    exact ⟨ret_b HBT.out.symm, G3.out, G4.out⟩
  · have hpm : p = m := by have := HP.out; unfold pos at this; rw [if_neg hin] at this; have := HM.out; omega
    subst hpm
    rw [idx_none hin] at HIDX
    have hbt : decide (line ∈ x) = false := by simpa using hin
    have HBT := Lib.hid hbt; clear hbt
    by_cases h1c : rc = 1
    · subst h1c
      obtain rfl : p = 0 := by omega
      have q1 : IntKind.i64.wrap 1 = 1 := by decide
      go_enter Try.func31, Try.ntmps31
      go_wp2_with fail
      refine HIDX.out.mono ?_
      rintro e w' ⟨rfl, rfl⟩
      go_wp2
      go_region_law ((refine step_copy_laid (by rfl) (.tmp 28) (.tmp 31) 22 22 (by rfl) 3 Try.underlying22 (by kernel_rfl) (some ⟨rb, 0, none⟩) (some ⟨rb, 0, none⟩) 0 0 0 1 (by go_simp) (by go_simp) rb 1 (ivs x ++ sp') 3 (by exact WB.out.drew) (ivs (x.take 0)) (by rw [ivs_length, List.length_take]; show min 0 x.length = min 0 0; omega) (by intro h; exact absurd h (by simp [ivs])) (by rw [ivs_length, List.length_take, List.length_append, ivs_length]; omega) ivs_one ?_; intro w3 hl))
      obtain ⟨⟨v0, g0⟩, g1, g2, g3, g4⟩ := FIN.out w3 hl.out
      have G3 := Lib.hid g3; have G4 := Lib.hid g4
      clear g3 g4 hl
      go_wp2
      go_ret
      exact ⟨ret_b HBT.out.symm, G3.out, G4.out⟩
    have hrc : 1 < rc := by omega
    go_enter Try.func31, Try.ntmps31
    go_wp2_with fail
    refine HIDX.out.mono ?_
    rintro e w' ⟨rfl, rfl⟩
    go_wp2
    have q1 : IntKind.i64.wrap ((p : Int) + 1) = (p : Int) + 1 := IntWalk.i64_in _ (by omega)
    have q2 : (1 : Int) ≤ (p : Int) + 1 := by omega
    have q3 : (p : Int) + 1 ≤ (rc : Int) := by omega
    have q4 : ((p : Int) + 1).toNat = p + 1 := by omega
    have q5 : (p : Int) ≤ (rc : Int) := by omega
    have q6 : (0 : Int) ≤ (p : Int) := by omega
    go_region_law ((refine step_copy_laid (by rfl) (.tmp 28) (.tmp 31) 22 22 (by rfl) 3 Try.underlying22 (by kernel_rfl) (some ⟨rb, 1, none⟩) (some ⟨rb, 0, none⟩) p (rc - 1) p rc (by go_simp) (by go_simp) rb 1 (ivs x ++ sp') 3 (by exact WB.out.drew) (ivs (x.take p)) (by rw [ivs_length, List.length_take]; show min p x.length = min p p; omega) (fun h => ⟨by rfl, by exact C3'.out p hp' h⟩) (by rw [ivs_length, List.length_take, List.length_append, ivs_length]; omega) ivs_one ?_; intro w3 hl))
    obtain ⟨⟨v0, g0⟩, g1, g2, g3, g4⟩ := FIN.out w3 hl.out
    have G3 := Lib.hid g3; have G4 := Lib.hid g4
    clear q1 q2 q3 q4 q5 q6 g3 g4 hl
    go_wp2
    go_ret
    exact ⟨ret_b HBT.out.symm, G3.out, G4.out⟩
end Go.Proofs.Ytdkpfifnegndmaa
