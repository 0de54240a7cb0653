/-
  may.known: the lines of two sets, each once, in order.
-/
import Derived.Shelf.Slices.In.SortNone
import Derived.Sort.OwnSortedInts
import Derived.Test.YtlpelpjcbclemaaMaS
import Derived.Test.YtlpelpjcbclemaaMaP
namespace Go.Proofs.Ytlpelpjcbclemaa
open Go.RowKit Go.Sort Go.Lib

theorem compactUpTo_asc {d : Array Int} (hd : ∀ i j, i ≤ j → j < d.size → d[i]! ≤ d[j]!) : ∀ m, m ≤ d.size → Asc (compactUpTo d m) ∧ ∀ x, x ∈ compactUpTo d m ↔ ∃ j, j < m ∧ d[j]! = x
  | 0, _ => ⟨by simp [compactUpTo, Asc], fun x => by simp [compactUpTo]⟩
  | m + 1, hm => by
    obtain ⟨h1, h2⟩ := compactUpTo_asc hd m (by omega)
    rw [compactUpTo_succ]
    by_cases k : keeps d m = true
    · rw [if_pos k]
      refine ⟨List.pairwise_append.2 ⟨h1, List.pairwise_singleton _ _, fun x hx y hy => ?_⟩, fun x => ?_⟩
      · rw [List.mem_singleton] at hy
        subst hy
        obtain ⟨j, hj, rfl⟩ := (h2 x).1 hx
        have k1 := hd j (m - 1) (by omega) (by omega)
        have k2 := hd (m - 1) m (by omega) (by omega)
        have k3 : d[m]! ≠ d[m - 1]! := by
          unfold keeps at k
          rcases of_decide_eq_true k with h | h
          · omega
          · exact h
        omega
      · rw [List.mem_append, List.mem_singleton, h2]
        constructor
        · rintro (⟨j, hj, e⟩ | e)
          · exact ⟨j, by omega, e⟩
          · exact ⟨m, by omega, e.symm⟩
        · rintro ⟨j, hj, e⟩
          by_cases hjm : j = m
          · subst hjm; exact .inr e.symm
          · exact .inl ⟨j, by omega, e⟩
    · rw [if_neg k, List.append_nil]
      refine ⟨h1, fun x => ?_⟩
      rw [h2]
      constructor
      · rintro ⟨j, hj, e⟩; exact ⟨j, by omega, e⟩
      · rintro ⟨j, hj, e⟩
        by_cases hjm : j = m
        · subst hjm
          have k3 : j ≠ 0 ∧ d[j]! = d[j - 1]! := by
            unfold keeps at k
            have := fun h => k (decide_eq_true h)
            exact ⟨fun h => this (.inl h), Classical.byContradiction fun h => this (.inr h)⟩
          exact ⟨j - 1, by omega, by rw [← k3.2]; exact e⟩
        · exact ⟨j, by omega, e⟩
/-- A list of numbers, sorted, each number once. -/
def knownL (zs : List Int) : List Int := Lib.compact (zs.mergeSort fun x y => decide (x ≤ y))
theorem knownL_spec (zs : List Int) : Asc (knownL zs) ∧ ∀ x, x ∈ knownL zs ↔ x ∈ zs := by
  have hs := List.pairwise_mergeSort (le := fun x y : Int => decide (x ≤ y)) (fun a b c h1 h2 => by simp at *; omega) (fun a b => by simp; omega) zs
  have hp := List.mergeSort_perm zs (fun x y => decide (x ≤ y))
  obtain ⟨ys, hy⟩ : ∃ ys, zs.mergeSort (fun x y => decide (x ≤ y)) = ys := ⟨_, rfl⟩
  unfold knownL
  rw [hy] at hs hp ⊢
  have hd : ∀ i j, i ≤ j → j < ys.toArray.size → ys.toArray[i]! ≤ ys.toArray[j]! := fun i j hij hj => by
    have hj' : j < ys.length := by simpa using hj
    rw [getElem!_pos _ i (by simpa using Nat.lt_of_le_of_lt hij hj'), getElem!_pos _ j hj]
    by_cases e : i = j
    · subst e; exact Int.le_refl _
    · have := List.pairwise_iff_getElem.1 hs i j (by omega) hj' (by omega)
      simpa using this
  obtain ⟨h1, h2⟩ := compactUpTo_asc hd ys.length (by simp)
  refine ⟨h1, fun x => ?_⟩
  unfold Lib.compact
  rw [h2, ← hp.mem_iff]
  constructor
  · rintro ⟨j, hj, rfl⟩
    rw [getElem!_pos _ j (by simpa using hj)]
    simp
  · intro hx
    obtain ⟨j, hj, e⟩ := List.getElem_of_mem hx
    exact ⟨j, hj, by rw [getElem!_pos _ j (by simpa using hj)]; simpa using e⟩
theorem compact_le (zs : List Int) : (Lib.compact zs).length ≤ zs.length := by
  unfold Lib.compact Lib.compactUpTo
  rw [List.length_map]
  exact Nat.le_trans (List.length_filter_le _ _) (by simp)
theorem knownL_len (zs : List Int) : (knownL zs).length ≤ zs.length := by
  unfold knownL
  have := compact_le (zs.mergeSort fun x y => decide (x ≤ y))
  rw [List.length_mergeSort] at this
  exact this
theorem holds_blk {w : World} {b : Nat} {zs : List Int} {sp : List Value} (h : Blk w b 3 (ivs zs ++ sp)) : Holds (Value.int .i64) w b 0 zs.toArray :=
  holds_of_blockI (e := 3) h (by simp [ivs, iv])
theorem putCells_row {zs ys : List Int} {sp : List Value} (hl : ys.length = zs.length) : putCells (Value.int .i64) 0 ys.toArray (ivs zs ++ sp).toArray = (ivs ys ++ sp).toArray := by
  apply Array.ext
  · simp [putCells, ivs_length, hl]
  · intro i h1 h2
    have h3 : i < (ivs ys ++ sp).length := by simpa using h2
    have h4 : i < (ivs zs ++ sp).length := by simpa [ivs_length, hl] using h3
    simp only [putCells, Array.getElem_mapIdx, List.getElem_toArray, Nat.zero_le, true_and, Nat.zero_add, Nat.sub_zero]
    by_cases e : i < ys.length
    · rw [if_pos (by simpa using e), List.getElem_append_left (by rw [ivs_length]; exact e), getElem!_pos _ i (by simpa using e)]
      simp [ivs, iv]
    · rw [if_neg (by simpa using e), List.getElem_append_right (by rw [ivs_length]; omega), List.getElem_append_right (by rw [ivs_length]; omega)]
      congr 1
      rw [ivs_length, ivs_length, hl]
theorem blk_row {w : World} {b n : Nat} {os : Array Obj} {zs ys : List Int} {sp : List Value} (h : Blk w b 3 (ivs zs ++ sp)) (hl : ys.length = zs.length) : Blk (grow (putRow (Value.int .i64) (Sort.ahead w n) b 0 ys.toArray) os) b 3 (ivs ys ++ sp) := by
  unfold Blk at h ⊢
  rw [heap_sortedI _ h, putCells_row hl]
theorem chg_row {w : World} {b n : Nat} {os : Array Obj} (d : Array Int) : Chg (fun k => k = b) w (grow (putRow (Value.int .i64) (Sort.ahead w n) b 0 d) os) :=
  (Chg.of_grown (grownBy_sortedI d)).mono fun _k _ h => (Option.some.inj h).symm
/-- A list that the call owns, sorted in place. -/
theorem sort_any (B : Nat) (zs : List Int) (a : Option Addr) (n c : Nat) (w : World) (r : OInts w (Ge B) (.slice a n c) zs) (hz : zs.length ≤ 1000000) :
    Calls Try.prog 67 #[.slice a n c] w fun e w' => e = .returned (.tuple #[]) ∧ OInts w' (Ge B) (.slice a n c) (zs.mergeSort fun x y => decide (x ≤ y)) ∧ Chg (Ge B) w w' := by
  rcases OInts.get r with ⟨h1, h2⟩ | ⟨b, cap, sp, h1, hb, hc, hm, hf, hr⟩
  · cases h1; subst h2
    refine (Any.slices_Sort_int_none sh_lays189 _ _ w).mono ?_
    rintro e w' ⟨rfl, rfl⟩
    exact ⟨rfl, by simpa using r, Chg.refl _⟩
  · cases h1
    refine (sh_slices_Sort_int b 0 c zs w (holds_blk hb) hb.lt (by omega)).mono ?_
    rintro e w' ⟨rfl, q, os, rfl⟩
    have hl : (zs.mergeSort fun x y => decide (x ≤ y)).length = zs.length := List.length_mergeSort _
    refine ⟨rfl, OInts.mk (blk_row hb hl) hl.symm (by rw [hl]; exact hc) hm (by omega) hf (fun z hz' => hr z ((List.mergeSort_perm zs _).mem_iff.1 hz')), (chg_row _).mono fun k _ h => h ▸ hf⟩
theorem compact_any (B : Nat) (zs : List Int) (a : Option Addr) (n c : Nat) (w : World) (r : OInts w (Ge B) (.slice a n c) zs) (hz : zs.length ≤ 1000000) :
    Calls Try.prog 68 #[.slice a n c] w fun e w' => e = .returned (.slice a (Lib.compact zs).length c) ∧ OInts w' (Ge B) (.slice a (Lib.compact zs).length c) (Lib.compact zs) ∧ Chg (Ge B) w w' := by
  rcases OInts.get r with ⟨h1, h2⟩ | ⟨b, cap, sp, h1, hb, hc, hm, hf, hr⟩
  · cases h1; subst h2
    refine (sh_slices_Compact_int_empty _ _ w).mono ?_
    rintro e w' ⟨rfl, rfl⟩
    exact ⟨rfl, by simpa [Lib.compact, Lib.compactUpTo] using r, Chg.refl _⟩
  · cases h1
    have hle := compact_le zs
    refine (sh_slices_Compact_int b 0 c zs w (holds_blk hb) (by omega) (by omega)).mono ?_
    rintro e w' ⟨rfl, q, rfl⟩
    have hl : (Lib.compact zs ++ List.replicate (zs.length - (Lib.compact zs).length) 0).length = zs.length := by simp; omega
    have hb2 := blk_row (n := q) (os := #[]) hb hl
    have hc2 := chg_row (w := w) (b := b) (n := q) (os := #[]) (Lib.compact zs ++ List.replicate (zs.length - (Lib.compact zs).length) 0).toArray
    rw [grow_empty] at hb2 hc2
    rw [ivs_append, List.append_assoc] at hb2
    refine ⟨rfl, OInts.mk hb2 rfl (by simp [ivs_length]; omega) hm (by omega) hf (fun z hz' => ?_), hc2.mono fun k _ h => h ▸ hf⟩
    unfold Lib.compact Lib.compactUpTo at hz'
    obtain ⟨j, hj, rfl⟩ := List.mem_map.1 hz'
    have hj2 := List.mem_range.1 (List.mem_filter.1 hj).1
    rw [getElem!_pos _ j (by simpa using hj2)]
    exact hr _ (by simp)
theorem mat_two {K : Nat → Prop} {w : World} {b n1 c1 n2 c2 : Nat} {a1 a2 : Option Addr} {l1 l2 : List Int} (hb : Blk w b 22 [.slice a1 n1 c1, .slice a2 n2 c2]) (hK : K b) (h1 : Ints K w a1 n1 c1 l1) (h2 : Ints K w a2 n2 c2 l2) : Mat K w (some ⟨b, 0, none⟩) 2 2 [l1, l2] :=
  ⟨rfl, Nat.le_refl _, by decide, by decide, fun i x e => by
    match i with
    | 0 => cases e; exact ⟨b, 0, rfl, hK, hb.lt, a1, n1, c1, hb.cell rfl, h1⟩
    | 1 => cases e; exact ⟨b, 0, rfl, hK, hb.lt, a2, n2, c2, hb.cell rfl, h2⟩⟩
set_option maxHeartbeats 1000000 in
theorem known_any (K1 K2 : Nat → Prop) (f g : List (List Int)) (a1 : Option Addr) (n1 c1 : Nat) (a2 : Option Addr) (n2 c2 : Nat) (w : World) (r1 : Mat K1 w a1 n1 c1 f) (r2 : Mat K2 w a2 n2 c2 g) (h1 : f.flatten.length ≤ 100000) (h2 : g.flatten.length ≤ 100000) :
    Calls Try.prog 46 #[.slice a1 n1 c1, .slice a2 n2 c2] w fun e w' => ∃ a n c l, e = .returned (.slice a n c) ∧ OInts w' (Ge w.heap.size) (.slice a n c) l ∧ Asc l ∧ (∀ x, x ∈ l ↔ x ∈ (f ++ g).flatten) ∧ n ≤ 1000000 ∧ Below w.heap.size w w' := by
  have HR2 := Lib.hid r2
  obtain ⟨L1, hL1⟩ : ∃ L, f.flatten = L := ⟨_, rfl⟩
  obtain ⟨L2, hL2⟩ : ∃ L, g.flatten = L := ⟨_, rfl⟩
  have E1 := Lib.hid hL1; have E2 := Lib.hid hL2
  rw [hL1] at h1; rw [hL2] at h2
  rw [List.flatten_append, hL1, hL2]
  clear hL1 hL2
  go_enter Try.func46, Try.ntmps46
  go_wp2_with fail
  refine (concat_l L1 K1 a1 n1 c1 f E1.out _ r1 (by omega)).mono ?_
  rintro e w1 ⟨p1, q1, rfl, ho1, hb1⟩
  have O1 := Lib.hid ho1; have B1 := Lib.hid hb1
  clear ho1 hb1 r1 r2
  go_wp2_with fail
  refine (concat_l L2 K2 a2 n2 c2 g E2.out _ (HR2.out.below B1.out) (by omega)).mono ?_
  rintro e w2 ⟨p2, q2, rfl, ho2, hb2⟩
  have O2 := Lib.hid ho2; have B2 := Lib.hid hb2
  have Z1 := Lib.hid B1.out.size; have Z2 := Lib.hid B2.out.size
  clear ho2 hb2
  have O1' := Lib.hid (OInts.loc.below O1.out B2.out)
  have M3 := Lib.hid (mat_two (K := fun _ => True) (Blk.new w2 [.slice p1 L1.length q1, .slice p2 L2.length q2] 22) trivial (OInts.read (fun _ _ => trivial) (OInts.loc.below O1'.out ((Below.refl _ _).alloc (Nat.le_refl _) _))) (OInts.read (fun _ _ => trivial) (OInts.loc.below O2.out ((Below.refl _ _).alloc (Nat.le_refl _) _))))
  go_wp2_with fail
  refine (concat_l (L1 ++ L2) _ _ _ _ _ (by simp) _ M3.out (by rw [List.length_append]; omega)).mono ?_
  obtain ⟨L, hL⟩ : ∃ L, L1 ++ L2 = L := ⟨_, rfl⟩
  have hl : L.length ≤ 200000 := by rw [← hL, List.length_append]; omega
  rw [hL]
  rintro e w3 ⟨p3, q3, rfl, ho3, hb3⟩
  have Z := Lib.hid (show w.heap.size ≤ (w2.alloc (.cells #[.slice p1 L1.length q1, .slice p2 L2.length q2] 22)).heap.size by have := Z1.out; have := Z2.out; rw [World.size_alloc]; omega)
  have O3 := Lib.hid (OwnRow.wid _ _ _ (Ge w.heap.size) _ _ (fun k hk => Nat.le_trans Z.out hk) ho3)
  have B3 := Lib.hid (((B1.out.trans (B2.out.mono Z1.out)).alloc (by have := Z1.out; have := Z2.out; omega) (.cells #[.slice p1 L1.length q1, .slice p2 L2.length q2] 22)).trans (hb3.mono Z.out))
  clear ho3 hb3 O1 O1' O2 M3
  go_wp2_with fail
  refine (sort_any w.heap.size L _ _ _ _ O3.out (by omega)).mono ?_
  have KS := Lib.hid (knownL_spec L)
  have KL := Lib.hid (knownL_len L)
  unfold knownL at KS KL
  obtain ⟨SL, hS⟩ : ∃ SL, L.mergeSort (fun x y => decide (x ≤ y)) = SL := ⟨_, rfl⟩
  have hSl : SL.length = L.length := by rw [← hS]; exact List.length_mergeSort _
  rw [hS] at KS KL ⊢
  rintro e w4 ⟨rfl, ho4, hc4⟩
  have O4 := Lib.hid ho4
  have B4 := Lib.hid (B3.out.trans (hc4.below (fun k hk h => by unfold Ge at h; omega) B3.out.size))
  clear ho4 hc4 hS O3 B3
  go_wp2_with fail
  refine (compact_any w.heap.size SL _ _ _ _ O4.out (by omega)).mono ?_
  obtain ⟨CL, hC⟩ : ∃ CL, Lib.compact SL = CL := ⟨_, rfl⟩
  rw [hC] at KS KL ⊢
  rintro e w5 ⟨rfl, ho5, hc5⟩
  have O5 := Lib.hid ho5
  have B5 := Lib.hid (B4.out.trans (hc5.below (fun k hk h => by unfold Ge at h; omega) B4.out.size))
  clear ho5 hc5 hC
  go_wp2
  go_ret
  exact ⟨_, _, _, CL, rfl, O5.out, KS.out.1, fun x => by rw [KS.out.2, ← hL], by have := KL.out; omega, B5.out⟩
end Go.Proofs.Ytlpelpjcbclemaa
