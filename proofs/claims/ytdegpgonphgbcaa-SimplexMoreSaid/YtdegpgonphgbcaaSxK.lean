/-
  slices.Delete of one element, of a list that a call owns: numbers, and fractions. Printed by mkSxK.py.
-/
import Derived.Deep.RegionLaw
import Derived.Lib.SliceRun
import Derived.Test.YtdegpgonphgbcaaZSxH
namespace Go.Proofs.Ytdegpgonphgbcaa
open Go.RowKit

theorem spl_nil {α : Type} (L : List α) (o : Nat) : splice L o [] = L := by unfold splice; simp
theorem spl_cons {α : Type} {L : List α} {o : Nat} {v : α} {r : List α} (h : o < L.length) : splice (L.set o v) (o + 1) r = splice L o (v :: r) := by
  unfold splice
  rw [List.take_set, List.take_succ_eq_append_getElem h, List.set_append_right _ _ (by rw [List.length_take]; exact Nat.min_le_left _ _)]
  rw [List.length_take, Nat.min_eq_left (by omega), Nat.sub_self, List.set_cons_zero, List.drop_set_of_lt (by omega)]
  simp only [List.append_assoc, List.cons_append, List.nil_append, List.length_cons]
  rw [show o + 1 + r.length = o + (r.length + 1) by omega]
theorem Blk.cells {b : Nat} {t : TypeId} : ∀ (vs : List Value) (o : Nat) (L : List Value) (w : World), o + vs.length ≤ L.length → Blk w b t L → Blk (w.setCells b o vs) b t (splice L o vs)
  | [], o, L, w, _, h => by rw [spl_nil]; exact h
  | v :: r, o, L, w, hl, h => by
    simp at hl
    have h1 := Blk.cells r (o + 1) (L.set o v) (w.setCell ⟨b, o, none⟩ v) (by rw [List.length_set]; omega) (h.set o v)
    rw [spl_cons (by omega)] at h1
    exact h1
theorem chg_cells {w0 : World} {b : Nat} {M : Nat → Prop} (hM : b < w0.heap.size → M b) : ∀ (vs : List Value) (o : Nat) (w : World), Chg M w0 w → Chg M w0 (w.setCells b o vs)
  | [], _, _, h => h
  | v :: vs, o, _w, h => chg_cells hM vs (o + 1) _ (Chg.setCell (p := ⟨b, o, none⟩) h hM v)
theorem splice_del {A X B sp Z : List Value} (hZ : Z.length = X.length) : splice (splice (A ++ X ++ B ++ sp) A.length B) (A.length + B.length) Z = A ++ B ++ (Z ++ sp) := by
  have e1 : splice (A ++ X ++ B ++ sp) A.length B = A ++ B ++ (X ++ B ++ sp).drop B.length := by
    unfold splice
    rw [List.append_assoc, List.append_assoc, List.take_left' rfl, ← List.drop_drop, List.drop_left' rfl]
    simp only [List.append_assoc]
  rw [e1]
  have e2 : (A ++ B).length = A.length + B.length := List.length_append
  unfold splice
  rw [← e2, List.take_left' rfl, ← List.drop_drop, List.drop_left' rfl, List.drop_drop, hZ, List.append_assoc X B sp]
  have e3 : (X ++ (B ++ sp)).drop (B.length + X.length) = sp := by
    rw [Nat.add_comm, ← List.drop_drop, List.drop_left' rfl, List.drop_left' rfl]
  rw [e3, List.append_assoc]
theorem run_clear2 {P : Program} (w : World) (t e ty : TypeId) (z : Value) (z0 z1 : Value) (ht : P.underlying t = some (.slice e)) (hv : ∀ w, (zeroValue e).run P w = .ok z w) (hz : z.cells = #[z0, z1]) (h0 : z0.oneCell' = true) (h1 : z1.oneCell' = true) (b o c : Nat)
    (hc : ∀ j, j < 2 → (w.cell? ⟨b, o + j, none⟩).isSome = true) (hf : ∀ j, j < 2 → w.frozen? ⟨b, o + j, none⟩ = false) :
    (Builtin.clear_ #[t] ty #[.slice (some ⟨b, o, none⟩) 1 c]).run P w = .ok (.tuple #[]) (w.setCells b o [z0, z1]) := by
  have hzc : (Builtin.zeroCells z.cells 1).toList = [z0, z1] := by
    rw [hz]
    simp [Builtin.zeroCells, Array.range_succ]
  have hst := run_storeCells_cells (P := P) b o [z0, z1] 0 w (by simpa using hc) (by simpa using hf) (by intro v hv'; simp at hv'; rcases hv' with rfl | rfl <;> assumption)
  simp only [Nat.add_zero] at hst
  simp [Builtin.clear_, run_underlying ht, hv, hzc, hst]
theorem ivs_len1 (l : List Int) : (ivs l).length = l.length * 1 := by unfold ivs; simp
theorem ivs_app (l m : List Int) : ivs (l ++ m) = ivs l ++ ivs m := by unfold ivs; rw [List.map_append]
theorem ivs_one1 {l : List Int} : ∀ v ∈ ivs l, v.oneCell' = true := fun v h => by
  unfold ivs at h
  obtain ⟨x, _, rfl⟩ := List.mem_map.1 h
  rfl

set_option maxHeartbeats 4000000 in
set_option maxRecDepth 1000000 in
theorem sdel_int (b cap k j : Nat) (l : List Int) (sp : List Value) (w : World) (hb : Blk w b 3 (ivs l ++ sp)) (hcap : cap = l.length + sp.length) (_hm : cap ≤ 9223372036854775807) (hk : k < l.length) (hj : j = k + 1) :
    Calls Try.prog 66 #[.slice (some ⟨b, 0, none⟩) l.length cap, .int .i64 k, .int .i64 j] w fun e w' => e = .returned (.slice (some ⟨b, 0, none⟩) (l.length - 1) cap) ∧ Blk w' b 3 (ivs (l.eraseIdx k) ++ ([.int .i64 0] ++ sp)) ∧ Chg (fun x => x = b) w w' := by
  obtain ⟨i0, hi0, hz0, hz1, hz2⟩ := info_parts (show (Try.prog.info? 3).map (fun i => (i.zero, i.size, i.bytes)) = some (some (.int .i64 0), 1, 8) from by kernel_rfl)
  obtain ⟨n, hn⟩ : ∃ n, n = l.length := ⟨_, rfl⟩
  have hnc : n ≤ cap := by omega
  obtain ⟨A, hA⟩ : ∃ A, A = ivs (l.take k) := ⟨_, rfl⟩
  obtain ⟨B, hB⟩ : ∃ B, B = ivs (l.drop j) := ⟨_, rfl⟩
  obtain ⟨X, hX⟩ : ∃ X, X = ivs [l[k]] := ⟨_, rfl⟩
  have lA : A.length = k * 1 := by rw [hA, ivs_len1, List.length_take, Nat.min_eq_left (by omega)]
  have lB : B.length = (n - j) * 1 := by rw [hB, ivs_len1, List.length_drop, hn]
  have lX : X.length = 1 := by rw [hX, ivs_len1]; rfl
  have hl : ivs l = A ++ X ++ B := by
    have e : l = l.take k ++ ([l[k]] ++ l.drop j) := by rw [hj, List.singleton_append, List.getElem_cons_drop, List.take_append_drop]
    rw [hA, hX, hB, ← ivs_app, ← ivs_app, List.append_assoc, ← e]
  have he : ivs (l.eraseIdx k) = A ++ B := by rw [hA, hB, hj, ← ivs_app, List.eraseIdx_eq_take_drop_succ]
  have hb2 : Blk w.drew b 3 (A ++ X ++ B ++ sp) := hb.at (by rw [hl])
  have b1 : Blk (w.drew.setCells b (0 + k * 1) B) b 3 (splice (A ++ X ++ B ++ sp) A.length B) := by
    have := hb2.cells B (0 + k * 1) _ _ (by simp only [List.length_append]; omega)
    exact this.at (by rw [lA, Nat.zero_add])
  obtain ⟨W1, hW1⟩ : ∃ W1, W1 = w.drew.setCells b (0 + k * 1) B := ⟨_, rfl⟩
  rw [← hW1] at b1
  have hoff : k + (n - j) = A.length + B.length := by rw [lA, lB]; omega
  have b2 : Blk (W1.setCells b (k + (n - j)) [.int .i64 0]) b 3 (A ++ B ++ ([.int .i64 0] ++ sp)) := by
    have := b1.cells [.int .i64 0] (k + (n - j)) _ _ (by unfold splice; simp only [List.length_append, List.length_take, List.length_drop, List.length_cons, List.length_nil]; omega)
    exact this.at (by rw [hoff, splice_del (by rw [lX]; rfl)])
  have c2 : Chg (fun x => x = b) w (W1.setCells b (k + (n - j)) [.int .i64 0]) := chg_cells (M := fun x => x = b) (fun _ => rfl) _ _ _ (hW1 ▸ chg_cells (M := fun x => x = b) (fun _ => rfl) _ _ _ (Chg.refl w).drew)
  have hcell : ∀ t, t < 1 → (W1.cell? ⟨b, k + (n - j) + t, none⟩).isSome = true := fun t ht => by
    obtain ⟨u, hu⟩ : ∃ u, (splice (A ++ X ++ B ++ sp) A.length B)[k + (n - j) + t]? = some u := ⟨_, List.getElem?_eq_getElem (by unfold splice; simp only [List.length_append, List.length_take, List.length_drop]; omega)⟩
    rw [b1.cell hu]
    rfl
  have hcl : ∀ ty, (Builtin.clear_ #[22] ty #[.slice (some ⟨b, k + (n - j), none⟩) 1 (cap - (k + (n - j)))]).run Try.prog W1 = .ok (.tuple #[]) (W1.setCells b (k + (n - j)) [.int .i64 0]) :=
    fun ty => Lib.run_clear_slice W1 22 3 ty (.int .i64 0) (by kernel_rfl) (fun w => by kernel_rfl) rfl rfl b (k + (n - j)) 1 _ (by omega) (fun t ht => hcell t ht) (fun t _ => b1.free _)
  obtain ⟨a, ha, hsrc⟩ : ∃ a : Addr, (if cap = j then some (⟨b, 0, none⟩ : Addr) else some ⟨b, j, none⟩) = some a ∧ Hid (∀ t u, B[t]? = some u → w.drew.cell? (a.add t) = some u) := by
    by_cases h : cap = j
    · refine ⟨⟨b, 0, none⟩, by simp [h], fun t u hu => ?_⟩
      have h0 : B.length = 0 := by rw [lB]; omega
      rw [List.length_eq_zero_iff.1 h0] at hu
      simp at hu
    · refine ⟨⟨b, j, none⟩, by simp [h], fun t u hu => ?_⟩
      rw [Addr.add_lit]
      refine hb2.cell ?_
      rw [show j + t = (A ++ X).length + t by rw [List.length_append]; omega, List.append_assoc (A ++ X), List.getElem?_append_right (by omega), Nat.add_sub_cancel_left, List.getElem?_append_left (List.getElem?_eq_some_iff.1 hu).1]
      exact hu
  have s1 : Hid (B.length = (n - j) * 1) := lB
  have s2 : Hid (∀ u ∈ B, u.oneCell' = true) := by rw [hB]; exact ivs_one1
  have s3 : Hid (∀ t, t < B.length → (w.drew.cell? ⟨b, 0 + k * 1 + t, none⟩).isSome = true ∧ w.drew.frozen? ⟨b, 0 + k * 1 + t, none⟩ = false) := fun t ht => by
    refine ⟨?_, hb2.free _⟩
    rw [cell_of_row w.drew b _ _ 3 (0, 0) hb2, List.getElem?_toArray, List.getElem?_eq_getElem (by simp only [List.length_append]; omega)]
    rfl
  have hW : Hid (W1 = w.drew.setCells b (0 + k * 1) B) := hW1
  have hrest : n - 1 = k + (n - j) := by omega
  have R := Lib.hid (show Blk (W1.setCells b (k + (n - j)) [.int .i64 0]) b 3 (ivs (l.eraseIdx k) ++ ([.int .i64 0] ++ sp)) ∧ Chg (fun x => x = b) w (W1.setCells b (k + (n - j)) [.int .i64 0]) from ⟨b2.at (by rw [he]), c2⟩)
  have HR := Lib.hid hrest
  have hkj : k < j := by omega
  have hne : ¬ k = j := by omega
  have hjn : j ≤ n := by omega
  have hkc : k ≤ cap := by omega
  have hjc : j ≤ cap := by omega
  have hkn : k < n := by omega
  have hln : k + (n - j) + 1 = n := by omega
  have HL := Lib.hid hln
  have hlt : k + (n - j) < n := by omega
  have hlc : k + (n - j) ≤ cap := by omega
  have hlc2 : ¬ (cap = k + (n - j)) := by omega
  have hle : n - (k + (n - j)) = 1 := by omega
  rw [← hn]
  clear hrest hln hA hB hX lA lB lX hl he hb2 b1 hW1 hoff b2 c2 hcell hb hcap hk hj
  clear hn
  go_enter Try.func66, Try.ntmps66
  go_wp2_with fail
  go_region_law (refine step_append_room rfl (.tmp 22) (.tmp 25) 22 rfl 3 i0 1 (by kernel_rfl) hi0 hz1 b 0 k cap (by simp [Act.eval, Act.put]) a (n - j) (cap - j) B (by simp [Act.eval, Act.put]) s1.out hsrc.out s2.out (by omega) s3.out ?_; rw [← hW.out])
  go_wp2
  go_ret
  exact ⟨by rw [HR.out]; rfl, R.out.1, R.out.2⟩

set_option maxHeartbeats 4000000 in
set_option maxRecDepth 1000000 in
theorem sdel_fr (b cap k j : Nat) (l : List Rat) (sp : List Value) (w : World) (hb : Blk w b 31 (frs l ++ sp)) (hcap : cap * 2 = l.length * 2 + sp.length) (_hm : cap ≤ 9223372036854775807) (hk : k < l.length) (hj : j = k + 1) :
    Calls Try.prog 67 #[.slice (some ⟨b, 0, none⟩) l.length cap, .int .i64 k, .int .i64 j] w fun e w' => e = .returned (.slice (some ⟨b, 0, none⟩) (l.length - 1) cap) ∧ Blk w' b 31 (frs (l.eraseIdx k) ++ ([.int .i64 0, .int .i64 0] ++ sp)) ∧ Chg (fun x => x = b) w w' := by
  obtain ⟨i0, hi0, hz0, hz1, hz2⟩ := info_parts info_fr
  obtain ⟨n, hn⟩ : ∃ n, n = l.length := ⟨_, rfl⟩
  have hnc : n ≤ cap := by omega
  obtain ⟨A, hA⟩ : ∃ A, A = frs (l.take k) := ⟨_, rfl⟩
  obtain ⟨B, hB⟩ : ∃ B, B = frs (l.drop j) := ⟨_, rfl⟩
  obtain ⟨X, hX⟩ : ∃ X, X = frs [l[k]] := ⟨_, rfl⟩
  have lA : A.length = k * 2 := by rw [hA, frs_length, List.length_take, Nat.min_eq_left (by omega)]
  have lB : B.length = (n - j) * 2 := by rw [hB, frs_length, List.length_drop, hn]
  have lX : X.length = 2 := by rw [hX, frs_length]; rfl
  have hl : frs l = A ++ X ++ B := by
    have e : l = l.take k ++ ([l[k]] ++ l.drop j) := by rw [hj, List.singleton_append, List.getElem_cons_drop, List.take_append_drop]
    rw [hA, hX, hB, ← frs_append, ← frs_append, List.append_assoc, ← e]
  have he : frs (l.eraseIdx k) = A ++ B := by rw [hA, hB, hj, ← frs_append, List.eraseIdx_eq_take_drop_succ]
  have hb2 : Blk w.drew b 31 (A ++ X ++ B ++ sp) := hb.at (by rw [hl])
  have b1 : Blk (w.drew.setCells b (0 + k * 2) B) b 31 (splice (A ++ X ++ B ++ sp) A.length B) := by
    have := hb2.cells B (0 + k * 2) _ _ (by simp only [List.length_append]; omega)
    exact this.at (by rw [lA, Nat.zero_add])
  obtain ⟨W1, hW1⟩ : ∃ W1, W1 = w.drew.setCells b (0 + k * 2) B := ⟨_, rfl⟩
  rw [← hW1] at b1
  have hoff : (k + (n - j)) * 2 = A.length + B.length := by rw [lA, lB]; omega
  have b2 : Blk (W1.setCells b ((k + (n - j)) * 2) [.int .i64 0, .int .i64 0]) b 31 (A ++ B ++ ([.int .i64 0, .int .i64 0] ++ sp)) := by
    have := b1.cells [.int .i64 0, .int .i64 0] ((k + (n - j)) * 2) _ _ (by unfold splice; simp only [List.length_append, List.length_take, List.length_drop, List.length_cons, List.length_nil]; omega)
    exact this.at (by rw [hoff, splice_del (by rw [lX]; rfl)])
  have c2 : Chg (fun x => x = b) w (W1.setCells b ((k + (n - j)) * 2) [.int .i64 0, .int .i64 0]) := chg_cells (M := fun x => x = b) (fun _ => rfl) _ _ _ (hW1 ▸ chg_cells (M := fun x => x = b) (fun _ => rfl) _ _ _ (Chg.refl w).drew)
  have hcell : ∀ t, t < 2 → (W1.cell? ⟨b, (k + (n - j)) * 2 + t, none⟩).isSome = true := fun t ht => by
    obtain ⟨u, hu⟩ : ∃ u, (splice (A ++ X ++ B ++ sp) A.length B)[(k + (n - j)) * 2 + t]? = some u := ⟨_, List.getElem?_eq_getElem (by unfold splice; simp only [List.length_append, List.length_take, List.length_drop]; omega)⟩
    rw [b1.cell hu]
    rfl
  have hcl : ∀ ty, (Builtin.clear_ #[32] ty #[.slice (some ⟨b, (k + (n - j)) * 2, none⟩) 1 (cap - (k + (n - j)))]).run Try.prog W1 = .ok (.tuple #[]) (W1.setCells b ((k + (n - j)) * 2) [.int .i64 0, .int .i64 0]) :=
    fun ty => run_clear2 W1 32 31 ty (.agg #[.int .i64 0, .int .i64 0]) (.int .i64 0) (.int .i64 0) (by kernel_rfl) (fun w => by kernel_rfl) rfl rfl rfl b ((k + (n - j)) * 2) _ (fun t ht => hcell t ht) (fun t _ => b1.free _)
  obtain ⟨a, ha, hsrc⟩ : ∃ a : Addr, (if cap = j then some (⟨b, 0, none⟩ : Addr) else some ⟨b, j * 2, none⟩) = some a ∧ Hid (∀ t u, B[t]? = some u → w.drew.cell? (a.add t) = some u) := by
    by_cases h : cap = j
    · refine ⟨⟨b, 0, none⟩, by simp [h], fun t u hu => ?_⟩
      have h0 : B.length = 0 := by rw [lB]; omega
      rw [List.length_eq_zero_iff.1 h0] at hu
      simp at hu
    · refine ⟨⟨b, j * 2, none⟩, by simp [h], fun t u hu => ?_⟩
      rw [Addr.add_lit]
      refine hb2.cell ?_
      rw [show j * 2 + t = (A ++ X).length + t by rw [List.length_append]; omega, List.append_assoc (A ++ X), List.getElem?_append_right (by omega), Nat.add_sub_cancel_left, List.getElem?_append_left (List.getElem?_eq_some_iff.1 hu).1]
      exact hu
  have s1 : Hid (B.length = (n - j) * 2) := lB
  have s2 : Hid (∀ u ∈ B, u.oneCell' = true) := by rw [hB]; exact frs_one
  have s3 : Hid (∀ t, t < B.length → (w.drew.cell? ⟨b, 0 + k * 2 + t, none⟩).isSome = true ∧ w.drew.frozen? ⟨b, 0 + k * 2 + t, none⟩ = false) := fun t ht => by
    refine ⟨?_, hb2.free _⟩
    rw [cell_of_row w.drew b _ _ 31 (0, 0) hb2, List.getElem?_toArray, List.getElem?_eq_getElem (by simp only [List.length_append]; omega)]
    rfl
  have hW : Hid (W1 = w.drew.setCells b (0 + k * 2) B) := hW1
  have hrest : n - 1 = k + (n - j) := by omega
  have R := Lib.hid (show Blk (W1.setCells b ((k + (n - j)) * 2) [.int .i64 0, .int .i64 0]) b 31 (frs (l.eraseIdx k) ++ ([.int .i64 0, .int .i64 0] ++ sp)) ∧ Chg (fun x => x = b) w (W1.setCells b ((k + (n - j)) * 2) [.int .i64 0, .int .i64 0]) from ⟨b2.at (by rw [he]), c2⟩)
  have HR := Lib.hid hrest
  have hkj : k < j := by omega
  have hne : ¬ k = j := by omega
  have hjn : j ≤ n := by omega
  have hkc : k ≤ cap := by omega
  have hjc : j ≤ cap := by omega
  have hkn : k < n := by omega
  have hln : k + (n - j) + 1 = n := by omega
  have HL := Lib.hid hln
  have hlt : k + (n - j) < n := by omega
  have hlc : k + (n - j) ≤ cap := by omega
  have hlc2 : ¬ (cap = k + (n - j)) := by omega
  have hle : n - (k + (n - j)) = 1 := by omega
  rw [← hn]
  clear hrest hln hA hB hX lA lB lX hl he hb2 b1 hW1 hoff b2 c2 hcell hb hcap hk hj
  clear hn
  go_enter Try.func67, Try.ntmps67
  go_wp2_with fail
  go_region_law (refine step_append_room rfl (.tmp 22) (.tmp 25) 32 rfl 31 i0 2 (by kernel_rfl) hi0 hz1 b 0 k cap (by simp [Act.eval, Act.put]) a (n - j) (cap - j) B (by simp [Act.eval, Act.put]) s1.out hsrc.out s2.out (by omega) s3.out ?_; rw [← hW.out])
  go_wp2
  go_ret
  exact ⟨by rw [HR.out]; rfl, R.out.1, R.out.2⟩
end Go.Proofs.Ytdegpgonphgbcaa
