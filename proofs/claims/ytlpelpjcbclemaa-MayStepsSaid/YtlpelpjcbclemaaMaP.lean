/-
  slices.Concat of a list of lists of numbers.
-/
import Derived.Lib.AppendZerosOnto
import Derived.Test.YtlpelpjcbclemaaMuN
namespace Go.Proofs.Ytlpelpjcbclemaa
open Go.RowKit

theorem run_append_fresh {P : Program} (w : World) (t tn ty : TypeId) (ht : P.underlying t = some (.slice 3)) (htn : P.underlying tn = some (.int .i64)) (hinfo : (P.info? 3).map (fun i => (i.zero, i.size, i.bytes)) = some (some (.int .i64 0), 1, 8)) (n : Nat) (h0 : 0 < n) (hn : n ≤ 1000000) :
    ∃ c w', (Builtin.append_ #[t, tn] ty #[.slice none 0 0, .int .i64 n]).run P w = .ok (.slice (some ⟨w.heap.size, 0, none⟩) n c) w' ∧ n ≤ c ∧ c ≤ 9223372036854775807 ∧ OInts w' (Ge w.heap.size) (.slice (some ⟨w.heap.size, 0, none⟩) 0 c) [] ∧ Below w.heap.size w w' := by
  obtain ⟨i, hi, hz0, hz1, hz2⟩ := append_parts hinfo
  have h := Lib.run_append_grow_zeros w t tn ty 3 i (.int .i64 0) .i64 .i64 ht htn hi hz0 none 0 0 [] (run_firstCells_none w.drew i.size 0 0 0) n h0 (by omega) (by omega) (by omega) (by rw [hz2]; omega) (by rw [Nat.zero_add]; exact growslice_fits (by omega) (by rw [hz2]; omega))
  rw [Nat.zero_add] at h
  have g1 := grownCap_ge w n 0 3
  have g2 := grownCap_le_maxLen w n 0 3 (by unfold maxLen; omega)
  generalize grownCap w n 0 3 = G at *
  refine ⟨G, _, h, g1, by unfold maxLen at g2; omega, ?_, (Below.refl _ _).drew.alloc (by simp) _⟩
  obtain ⟨A, hA⟩ : ∃ A : Array Value, A = (#[] ++ Builtin.zeroCells (Value.int .i64 0).cells n ++ Builtin.zeroCells (Value.int .i64 0).cells (G - n)) := ⟨_, rfl⟩
  have hs : A.size = G := by rw [hA]; simp [size_zeroCells, Value.cells]; omega
  have hA' : ([].toArray ++ Builtin.zeroCells (Value.int .i64 0).cells n ++ Builtin.zeroCells (Value.int .i64 0).cells (G - n)) = A.toList.toArray := by rw [hA]
  rw [hA']
  exact OInts.mk (zs := []) (sp := A.toList) (Blk.new w.drew A.toList 3) rfl (by simp [hs]) (by unfold maxLen at g2; omega) (by simp) (by unfold Ge; simp) (fun z hz => by cases hz)

set_option maxRecDepth 100000 in
theorem sgrow0_any (n : Nat) (hn : n ≤ 1000000) (w : World) : Calls Try.prog 77 #[.slice none 0 0, .int .i64 n] w fun e w' => ∃ a c, e = .returned (.slice a 0 c) ∧ OInts w' (Ge w.heap.size) (.slice a 0 c) [] ∧ Below w.heap.size w w' := by
  have h1 : ¬ ((n : Int) < 0) := by omega
  by_cases h0 : n = 0
  · subst h0
    go_enter Try.func77, Try.ntmps77
    go_wp2
    go_ret
    exact ⟨none, 0, rfl, .inl ⟨rfl, rfl⟩, Below.refl _ _⟩
  · have h2 : (n : Int) > 0 := by omega
    obtain ⟨c, w', hrun, hc1, hc2, ho, hb⟩ := run_append_fresh (P := Try.prog) w 22 3 22 Try.underlying22 Try.underlying3 info_int n (by omega) hn
    have HO := Lib.hid ho; have HB := Lib.hid hb
    clear ho hb
    go_enter Try.func77, Try.ntmps77
    go_wp2_with (at_builtin; refine Lib.wpList_append_run _ rfl _ _ _ _ rfl _ _ rfl rfl _ _ hrun ?_)
    all_goals
      go_ret
      exact ⟨_, c, rfl, HO.out, HB.out⟩
theorem flat_take {ss : List (List Int)} {k : Nat} {l : List Int} (h : ss[k]? = some l) : (ss.take (k + 1)).flatten = (ss.take k).flatten ++ l := by
  rw [List.take_add_one, h, List.flatten_append]; simp
theorem flat_take_le (ss : List (List Int)) (k : Nat) : (ss.take k).flatten.length ≤ ss.flatten.length := by
  have : ss.flatten = (ss.take k).flatten ++ (ss.drop k).flatten := by rw [← List.flatten_append, List.take_append_drop]
  rw [this, List.length_append]; omega

set_option maxRecDepth 100000 in
set_option maxHeartbeats 4000000 in
theorem concat_any (K : Nat → Prop) (a : Option Addr) (n c : Nat) (ss : List (List Int)) (w : World) (r : Mat K w a n c ss) (hf : ss.flatten.length ≤ 1000000) :
    Calls Try.prog 66 #[.slice a n c] w fun e w' => ∃ a' c', e = .returned (.slice a' ss.flatten.length c') ∧ OInts w' (Ge w.heap.size) (.slice a' ss.flatten.length c') ss.flatten ∧ Below w.heap.size w w' := by
  have hl := r.hlen; have h6 := r.hsz
  have HR := Lib.hid r
  have HL := Lib.hid hl
  obtain ⟨Z, hZ⟩ : ∃ Z, ss.flatten.length = Z := ⟨_, rfl⟩
  have EZ := Lib.hid hZ
  rw [hZ] at hf ⊢
  clear r hl hZ
  go_enter Try.func66, Try.ntmps66
  go_wp2
  go_loopw [3, 11] (fun v3 v11 wr => ∃ k : Nat, k ≤ n ∧ v3 = .int .i64 ((ss.take k).flatten.length : Nat) ∧ v11 = .int .i64 k ∧ w = wr) (fun _ i _ => n - (intOf i).toNat)
  case atStart => exact ⟨0, Nat.zero_le _, rfl, rfl, rfl⟩
  case round =>
    obtain ⟨k, hk, rfl, rfl, rfl⟩ := hrel
    by_cases hlt : k < n
    · obtain ⟨gb, go, l, qa, ll, qc, rfl, hx, hc, hr, _, _⟩ := Rows.get HR.out hlt
      have e9 : (ss.take (k + 1)).flatten.length = (ss.take k).flatten.length + ll := by rw [flat_take hx, List.length_append, hr.hlen]
      have le9 := flat_take_le ss (k + 1)
      rw [EZ.out] at le9
      have E9 := Lib.hid e9
      rw [e9] at le9
      have hs1 : (k : Int) < (n : Int) := by omega
      clear e9 hx hr
      generalize (ss.take k).flatten.length = z at *
      have hz : ¬ ((z : Int) + (ll : Int) < 0) := by omega
      go_wp2
      go_roundw
      case rel => exact ⟨k + 1, by omega, by rw [E9.out]; go_num, by go_num, trivial⟩
      case measure => simp [intOf]; omega
    · obtain rfl : k = n := by omega
      have hall : ss.take k = ss := List.take_of_length_le (by rw [HL.out]; exact Nat.le_refl _)
      rw [hall, EZ.out]
      clear hall
      go_wp2_with fail
      refine (sgrow0_any _ hf _).mono ?_
      rintro e w1 ⟨ga, gc, rfl, ho1, hb1⟩
      have O1 := Lib.hid ho1; have B1 := Lib.hid hb1
      clear ho1 hb1
      go_wp2
      go_loopw [6, 27] (fun v6 v27 wr => ∃ j : Nat, j ≤ k ∧ v27 = .int .i64 j ∧ OInts wr (Ge w.heap.size) v6 (ss.take j).flatten ∧ Below w.heap.size w wr) (fun _ i _ => k - (intOf i).toNat)
      case atStart => exact ⟨0, Nat.zero_le _, rfl, O1.out, B1.out⟩
      case round =>
        obtain ⟨j, hj, rfl, ho, hb⟩ := hrel
        have O2 := Lib.hid ho; have B2 := Lib.hid hb
        clear ho hb O1 B1
        by_cases hjl : j < k
        · obtain ⟨gb, go, l, qa, ll, qc, rfl, hx, hc, hr, _, hbl⟩ := Rows.get HR.out hjl
          have hc' := (B2.out.cell (p := ⟨gb, go + j, none⟩) hbl).trans hc
          have R2 := Lib.hid (Ints.below hr (B2.out))
          have e9 := flat_take hx
          have le9 := flat_take_le ss (j + 1)
          rw [EZ.out] at le9
          have E9 := Lib.hid e9
          have L9 := Lib.hid (show (ss.take j).flatten.length + ll ≤ 1000000 by rw [e9, List.length_append, hr.hlen] at le9; omega)
          have S2 := Lib.hid B2.out.size
          have hs1 : (j : Int) < (k : Int) := by omega
          clear e9 hx hr le9 hc
          go_wp2_with (at_builtin; refine wpList_append_o rfl _ _ 22 rfl Try.underlying22 info_int O2.out rfl R2.out rfl L9.out ?_; intro v' w' hap)
          have O3 := Lib.hid (OwnRow.wid _ w' _ (Ge w.heap.size) _ _ (fun i hi => hi.elim id (fun h => Nat.le_trans S2.out h)) hap.out.1)
          have B3 := Lib.hid (B2.out.trans (hap.out.2.below (fun i hi h => by unfold Ge at h; omega) S2.out))
          clear hap
          go_wp2
          go_roundw
          case rel => exact ⟨j + 1, by omega, by go_num, by rw [E9.out]; exact O3.out, B3.out⟩
          case measure => simp [intOf]; omega
        · obtain rfl : j = k := by omega
          have hall : ss.take j = ss := List.take_of_length_le (by rw [HL.out]; exact Nat.le_refl _)
          rw [hall] at O2
          obtain ⟨a', c', hv⟩ := O2.out.form
          rw [EZ.out] at hv
          subst hv
          go_wp2
          go_ret
          exact ⟨a', c', rfl, O2.out, B2.out⟩
theorem concat_l (L : List Int) (K : Nat → Prop) (a : Option Addr) (n c : Nat) (ss : List (List Int)) (hL : ss.flatten = L) (w : World) (r : Mat K w a n c ss) (hf : L.length ≤ 1000000) :
    Calls Try.prog 66 #[.slice a n c] w fun e w' => ∃ a' c', e = .returned (.slice a' L.length c') ∧ OInts w' (Ge w.heap.size) (.slice a' L.length c') L ∧ Below w.heap.size w w' := by
  subst hL
  exact concat_any K a n c ss w r hf
end Go.Proofs.Ytlpelpjcbclemaa
