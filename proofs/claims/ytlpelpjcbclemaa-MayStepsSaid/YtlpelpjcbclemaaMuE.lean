/-
  slices.Insert of one number into a list that the caller owns.
-/
import Derived.Test.YtlpelpjcbclemaaMuD
namespace Go.Proofs.Ytlpelpjcbclemaa
open Go.RowKit

theorem splice_nil {α : Type} (L : List α) (o : Nat) : splice L o [] = L := by unfold splice; simp
theorem splice_cons {α : Type} {L : List α} {o : Nat} {v : α} {r : List α} (h : o < L.length) : splice (L.set o v) (o + 1) r = splice L o (v :: r) := by
  unfold splice
  rw [List.take_set, List.take_succ_eq_append_getElem h, List.set_append_right _ _ (by rw [List.length_take]; exact Nat.min_le_left _ _)]
  rw [List.length_take, Nat.min_eq_left (by omega), Nat.sub_self, List.set_cons_zero, List.drop_set_of_lt (by omega)]
  simp only [List.append_assoc, List.cons_append, List.nil_append, List.length_cons]
  rw [show o + 1 + r.length = o + (r.length + 1) by omega]
theorem Blk.cells {b : Nat} {t : TypeId} : ∀ (vs : List Value) (o : Nat) (L : List Value) (w : World), o + vs.length ≤ L.length → Blk w b t L → Blk (w.setCells b o vs) b t (splice L o vs)
  | [], o, L, w, _, h => by rw [splice_nil]; exact h
  | v :: r, o, L, w, hl, h => by
    simp at hl
    have h1 := Blk.cells r (o + 1) (L.set o v) (w.setCell ⟨b, o, none⟩ v) (by rw [List.length_set]; omega) (h.set o v)
    rw [splice_cons (by omega)] at h1
    exact h1
theorem Chg.cells {M : Nat → Prop} {a : World} {b : Nat} (hb : b < a.heap.size → M b) : ∀ (vs : List Value) (o : Nat) {w : World}, Chg M a w → Chg M a (w.setCells b o vs)
  | [], _, _, h => h
  | v :: r, o, w, h => Chg.cells hb r (o + 1) (w := w.setCell ⟨b, o, none⟩ v) (h.setCell hb v)
theorem Blk.shape {w : World} {b : Nat} {t : TypeId} {vs : List Value} (h : Blk w b t vs) : w.shape? b = some (t, vs.length) := by
  unfold Blk at h; unfold World.shape?; rw [h]; simp
theorem ivs_cells {l : List Int} {w : World} {b : Nat} {sp : List Value} {t : TypeId} (h : Blk w b t (ivs l ++ sp)) : ∀ j v, (ivs l)[j]? = some v → w.cell? ⟨b, 0 + j, none⟩ = some v := fun j v e => by
  rw [Nat.zero_add]
  exact h.cell (by rw [List.getElem?_append_left (List.getElem?_eq_some_iff.1 e).1]; exact e)
theorem ivs_take (l : List Int) (k : Nat) : (ivs l).take k = ivs (l.take k) := by unfold ivs; rw [List.map_take]
theorem ivs_drop (l : List Int) (k : Nat) : (ivs l).drop k = ivs (l.drop k) := by unfold ivs; rw [List.map_drop]
theorem ins_room {l : List Int} {sp : List Value} {x : Int} {k : Nat} (hk : k ≤ l.length) (hs : 0 < sp.length) : splice (splice (ivs l ++ sp) (k + 1) (ivs (l.drop k))) k [.int .i64 x] = ivs (l.take k ++ x :: l.drop k) ++ sp.drop 1 := by
  have e0 : (ivs l ++ sp).drop (k + 1 + (ivs (l.drop k)).length) = sp.drop 1 := by
    have hn : (ivs l).drop (k + 1 + (l.length - k)) = [] := List.drop_eq_nil_of_le (by rw [ivs_length]; omega)
    rw [ivs_length, List.length_drop, List.drop_append, hn, ivs_length, List.nil_append]
    congr 1; omega
  have e1 : splice (ivs l ++ sp) (k + 1) (ivs (l.drop k)) = (ivs l ++ sp).take (k + 1) ++ (ivs (l.drop k) ++ sp.drop 1) := by
    unfold splice
    rw [e0]
  rw [e1]
  unfold splice
  have l1 : ((ivs l ++ sp).take (k + 1)).length = k + 1 := by rw [List.length_take, List.length_append, ivs_length]; omega
  rw [List.take_append_of_le_length (by rw [l1]; omega), List.drop_append_of_le_length (by rw [l1]; simp), List.take_take, Nat.min_eq_left (by omega), List.drop_eq_nil_of_le (by rw [l1]; simp), List.take_append_of_le_length (by rw [ivs_length]; exact hk), ivs_take, ivs_append]
  simp [ivs, iv]
theorem ins_end {l : List Int} {sp : List Value} {x : Int} (_hs : 0 < sp.length) : splice (ivs l ++ sp) l.length [.int .i64 x] = ivs (l ++ [x]) ++ sp.drop 1 := by
  unfold splice
  rw [List.take_append_of_le_length (by rw [ivs_length]; exact Nat.le_refl _), List.drop_append, List.drop_eq_nil_of_le (by rw [ivs_length]; simp), ivs_length, List.take_of_length_le (by rw [ivs_length]; exact Nat.le_refl _), ivs_append]
  simp [ivs, iv]
theorem OInts.get {w : World} {f : Nat → Prop} {v : Value} {l : List Int} (h : OInts w f v l) : (v = .slice none 0 0 ∧ l = []) ∨ ∃ b cap sp, v = .slice (some ⟨b, 0, none⟩) l.length cap ∧ Blk w b 3 (ivs l ++ sp) ∧ cap = l.length + sp.length ∧ cap ≤ 9223372036854775807 ∧ f b ∧ ∀ z ∈ l, -9223372036854775808 ≤ z ∧ z ≤ 9223372036854775807 := by
  rcases h with h | ⟨b, cap, vs, sp, fps, hv, r⟩
  · exact .inl h
  · have e := r.ints
    subst e
    exact .inr ⟨b, cap, sp, hv, r.blk, r.hcap, r.hmax, r.own, r.range⟩
theorem ins_range {l : List Int} {x : Int} {k : Nat} (h : ∀ z ∈ l, -9223372036854775808 ≤ z ∧ z ≤ 9223372036854775807) (hx : -9223372036854775808 ≤ x ∧ x ≤ 9223372036854775807) : ∀ z ∈ l.take k ++ x :: l.drop k, -9223372036854775808 ≤ z ∧ z ≤ 9223372036854775807 := fun z hz => by
  rcases List.mem_append.1 hz with h1 | h1
  · exact h z (List.mem_of_mem_take h1)
  · rcases List.mem_cons.1 h1 with h2 | h2
    · rw [h2]; exact hx
    · exact h z (List.mem_of_mem_drop h2)
theorem len_ins {l : List Int} {x : Int} {k : Nat} (hk : k ≤ l.length) : (l.take k ++ x :: l.drop k).length = l.length + 1 := by
  rw [List.length_append, List.length_cons, List.length_take, List.length_drop]; omega
theorem grown_blk {w : World} {l : List Int} {x : Int} {Z : Array Value} : Blk (w.drew.alloc (.cells ((ivs l ++ [Value.int .i64 x]).toArray ++ Z) 3)) w.heap.size 3 (ivs (l ++ [x]) ++ Z.toList) := by
  have h := Blk.new w.drew (ivs l ++ [Value.int .i64 x] ++ Z.toList) 3
  have e : (ivs l ++ [Value.int .i64 x] ++ Z.toList).toArray = (ivs l ++ [Value.int .i64 x]).toArray ++ Z := by simp
  rw [e] at h
  rw [ivs_append]
  exact h
theorem zeroCells_int (n : Nat) : (Builtin.zeroCells (Value.int .i64 0).cells n).size = n := by simp [Builtin.zeroCells, Value.cells]
theorem zeroCells_len (n : Nat) : (Builtin.zeroCells (Value.int .i64 0).cells n).toList.length = n := by rw [Array.length_toList, zeroCells_int]
theorem add_lit0 (b j : Nat) : (⟨b, 0, none⟩ : Addr).add j = ⟨b, j, none⟩ := by unfold Addr.add; split <;> simp_all
def InsRet (f : Nat → Prop) (xs : List Int) (w : World) (e : Ending) (w' : World) : Prop := ∃ v, e = .returned v ∧ OInts w' (fun j => f j ∨ w.heap.size ≤ j) v xs ∧ Chg f w w'
theorem insert_any (f : Nat → Prop) (v : Value) (l : List Int) (x : Int) (k : Nat) (hk : k ≤ l.length) (w : World) (r : OInts w f v l) (vb : Nat) (hvb : Blk w vb 3 [.int .i64 x]) (hne : ¬ f vb) (hx : -9223372036854775808 ≤ x ∧ x ≤ 9223372036854775807) (hl : l.length ≤ 10000) :
    Calls Try.prog 69 #[v, .int .i64 k, .slice (some ⟨vb, 0, none⟩) 1 1] w (InsRet f (l.take k ++ x :: l.drop k) w) := by
  have hvs : ∀ j u, [Value.int .i64 x][j]? = some u → w.cell? ⟨vb, 0 + j, none⟩ = some u := fun j u e => by rw [Nat.zero_add]; exact hvb.cell e
  have h1v : ∀ u ∈ [Value.int .i64 x], u.oneCell' = true := fun u hu => by simp at hu; subst hu; rfl
  have hvl := hvb.lt
  rcases OInts.get r with ⟨rfl, rfl⟩ | ⟨b, cap, sp, rfl, hb, hc, hm, hf, hrg⟩
  · obtain rfl : k = 0 := by simpa using hk
    refine (Any2.slices_Insert_int_end_grow sh_laysNm221 none 0 0 vb 0 1 1 [] [.int .i64 x] w (by omega) (Nat.le_refl _) (by omega) (by decide) rfl rfl (fun _ => rfl) (fun a h => by cases h) hvs h1v).mono ?_
    rintro e w' ⟨rfl, rfl⟩
    refine ⟨_, rfl, OInts.mk (sp := (Builtin.zeroCells (Value.int .i64 0).cells (grownCap w (0 + 1) 0 3 - (0 + 1))).toList) ?_ (by simp) ?_ ?_ (by simp) (.inr (Nat.le_refl _)) (fun z hz => by simp at hz; subst hz; exact hx), ((Chg.refl w).drew).alloc _⟩
    · exact grown_blk (l := [])
    · rw [zeroCells_len]
      have := grownCap_ge w (0 + 1) 0 3
      show grownCap w (0 + 1) 0 3 = 1 + (grownCap w (0 + 1) 0 3 - (0 + 1))
      omega
    · have := grownCap_le_maxLen w (0 + 1) 0 3 (by decide)
      unfold maxLen at this; exact this
  · have hcs := ivs_cells hb
    have hbl := hb.lt
    have hvne : vb ≠ b := fun e => hne (e ▸ hf)
    have hlen : (ivs l ++ sp).length = l.length + sp.length := by rw [List.length_append, ivs_length]
    have fin : ∀ w', Blk w' b 3 (ivs (l.take k ++ x :: l.drop k) ++ sp.drop 1) → Chg f w w' → 0 < sp.length → InsRet f (l.take k ++ x :: l.drop k) w (.returned (.slice (some ⟨b, 0, none⟩) (l.length + 1) cap)) w' := fun w' hb' hc' hs =>
      ⟨_, rfl, OInts.mk (sp := sp.drop 1) hb' (by rw [len_ins hk]) (by rw [len_ins hk, List.length_drop]; omega) hm (by rw [len_ins hk]; omega) (.inl hf) (ins_range hrg hx), hc'⟩
    by_cases hr : l.length + 1 ≤ cap
    · have hs : 0 < sp.length := by omega
      by_cases hke : k = l.length
      · subst hke
        refine (Any2.slices_Insert_int_end_room sh_laysNm221 b 0 l.length cap vb 0 1 1 [.int .i64 x] w (by omega) hr hm rfl (fun j hj => ?_) (fun j hj => hb.free _) hvs h1v).mono ?_
        · obtain ⟨u, hu⟩ := hb.some0 (i := 0 + l.length + j) (by rw [hlen]; omega)
          rw [hu]; rfl
        · rintro e w' ⟨rfl, rfl⟩
          refine fin _ ?_ (Chg.cells (fun _ => hf) _ _ (Chg.refl w)) hs
          have := Blk.cells [.int .i64 x] (0 + l.length) _ w (by rw [hlen]; simp; omega) hb
          rw [Nat.zero_add, ins_end hs] at this
          rw [List.take_length, List.drop_length, Nat.zero_add]
          exact this
      · refine (Any2.slices_Insert_int_shift sh_laysNm221 b 0 l.length cap k vb 0 1 1 (ivs l) [.int .i64 x] w (by omega) (by omega) hr hm hvne (ivs_length l) rfl hcs (fun j hj => ?_) (fun j hj => hb.free _) hvs ivs_one h1v 3 3 1 (ivs l ++ sp).length hvb.shape hb.shape (by rw [hlen]; omega) (hvb.free _) (hvb.free _)).mono ?_
        · obtain ⟨u, hu⟩ := hb.some0 (i := 0 + j) (by rw [hlen]; omega)
          rw [hu]; rfl
        · rintro e w' ⟨rfl, rfl⟩
          refine fin _ ?_ (Chg.cells (fun _ => hf) _ _ (Chg.cells (fun _ => hf) _ _ ((Chg.refl w).drew))) hs
          have h1 := Blk.cells (ivs (l.drop k)) (k + 1) _ w.drew (by rw [hlen, ivs_length, List.length_drop]; omega) hb.drew
          have h2 := Blk.cells [.int .i64 x] k _ _ (by rw [length_splice _ _ _ (by rw [hlen, ivs_length, List.length_drop]; omega), hlen]; simp; omega) h1
          rw [ins_room (by omega) hs] at h2
          rw [Nat.zero_add, Nat.zero_add, ivs_drop]
          exact h2
    · have hsp : sp = [] := List.eq_nil_of_length_eq_zero (by omega)
      subst hsp
      have hcap : cap = l.length := by simpa using hc
      subst hcap
      rw [List.append_nil] at hb
      by_cases hke : k = l.length
      · subst hke
        refine (Any2.slices_Insert_int_end_grow sh_laysNm221 (some ⟨b, 0, none⟩) l.length l.length vb 0 1 1 (ivs l) [.int .i64 x] w (by omega) (Nat.le_refl _) (by omega) (Nat.le_trans (Nat.mul_le_mul (show l.length + 1 ≤ 1000000 by omega) (Nat.le_refl 8)) (by decide)) (ivs_length l) rfl (fun h => by cases h) (fun a ha j u hj => ?_) hvs h1v).mono ?_
        · cases ha
          have := hb.cell hj
          rw [add_lit0]; exact this
        · rintro e w' ⟨rfl, rfl⟩
          rw [List.take_length, List.drop_length]
          refine ⟨_, rfl, OInts.mk (sp := (Builtin.zeroCells (Value.int .i64 0).cells (grownCap w (l.length + 1) l.length 3 - (l.length + 1))).toList) ?_ (by rw [List.length_append]; rfl) ?_ ?_ (by rw [List.length_append]; simp only [List.length_cons, List.length_nil]; omega) (.inr (Nat.le_refl _)) (fun z hz => ?_), ((Chg.refl w).drew).alloc _⟩
          · exact grown_blk
          · rw [zeroCells_len, List.length_append]
            have := grownCap_ge w (l.length + 1) l.length 3
            show grownCap w (l.length + 1) l.length 3 = l.length + 1 + (grownCap w (l.length + 1) l.length 3 - (l.length + 1))
            omega
          · have := grownCap_le_maxLen w (l.length + 1) l.length 3 (by unfold maxLen; omega)
            unfold maxLen at this; exact this
          · rcases List.mem_append.1 hz with h | h
            · exact hrg z h
            · simp at h; subst h; exact hx
      · refine (Any2.slices_Insert_int_grow sh_laysNm221 b 0 l.length l.length k vb 0 1 1 (ivs l) [.int .i64 x] w (by omega) (by omega) (Nat.le_refl _) (by omega) (Nat.le_trans (Nat.mul_le_mul (show l.length + 1 ≤ 1000000 by omega) (Nat.le_refl 8)) (by decide)) (ivs_length l) rfl (fun j u hj => by rw [Nat.zero_add]; exact hb.cell hj) hvs ivs_one h1v).mono ?_
        rintro e w' ⟨rfl, rfl⟩
        have g1 := grownCap_ge w (l.length + 1) l.length 3
        have g2 := grownCap_le_maxLen w (l.length + 1) l.length 3 (by unfold maxLen; omega)
        unfold maxLen at g2
        have n0 := Blk.new w ((ivs l).take k ++ (Builtin.zeroCells (Value.int .i64 0).cells (l.length + 1 - k)).toList ++ (Builtin.zeroCells (Value.int .i64 0).cells (grownCap w (l.length + 1) l.length 3 - (l.length + 1))).toList) 3
        have ea : ((ivs l).take k ++ (Builtin.zeroCells (Value.int .i64 0).cells (l.length + 1 - k)).toList ++ (Builtin.zeroCells (Value.int .i64 0).cells (grownCap w (l.length + 1) l.length 3 - (l.length + 1))).toList).toArray = ((ivs l).take k).toArray ++ Builtin.zeroCells (Value.int .i64 0).cells (l.length + 1 - k) ++ Builtin.zeroCells (Value.int .i64 0).cells (grownCap w (l.length + 1) l.length 3 - (l.length + 1)) := by simp
        rw [ea] at n0
        obtain ⟨G, hG⟩ : ∃ G, G = grownCap w (l.length + 1) l.length 3 := ⟨_, rfl⟩
        rw [← hG] at g1 g2 n0
        have e9 : grownCap w (l.length + 1) l.length (sh_laysNm221_ren.t 3) = G := hG.symm
        rw [e9]
        clear hG e9 ea
        have hZ1 : (Builtin.zeroCells (Value.int .i64 0).cells (l.length + 1 - k)).toList.length = l.length + 1 - k := by rw [Array.length_toList, zeroCells_int]
        have hZ2 : (Builtin.zeroCells (Value.int .i64 0).cells (G - (l.length + 1))).toList.length = G - (l.length + 1) := by rw [Array.length_toList, zeroCells_int]
        generalize (Builtin.zeroCells (Value.int .i64 0).cells (l.length + 1 - k)) = Z1 at *
        generalize (Builtin.zeroCells (Value.int .i64 0).cells (G - (l.length + 1))) = Z2 at *
        have hkl : ((ivs l).take k).length = k := by rw [List.length_take, ivs_length]; omega
        have h1 := Blk.cells [.int .i64 x] k _ _ (by simp only [List.length_append, hkl, hZ1, hZ2, List.length_cons, List.length_nil]; omega) n0.drew
        have h2 := (Blk.cells (ivs (l.drop k)) (k + 1) _ _ (by rw [length_splice _ _ _ (by simp only [List.length_append, hkl, hZ1, hZ2, List.length_cons, List.length_nil]; omega), ivs_length, List.length_drop]; simp only [List.length_append, hkl, hZ1, hZ2]; omega) h1.drew)
        have ef : splice (splice ((ivs l).take k ++ Z1.toList ++ Z2.toList) k [.int .i64 x]) (k + 1) (ivs (l.drop k)) = ivs (l.take k ++ x :: l.drop k) ++ Z2.toList := by
          have e1 : splice ((ivs l).take k ++ Z1.toList ++ Z2.toList) k [.int .i64 x] = ((ivs l).take k ++ [.int .i64 x]) ++ (Z1.toList.drop 1 ++ Z2.toList) := by
            unfold splice
            rw [List.append_assoc, List.take_append_of_le_length (by rw [hkl]; exact Nat.le_refl _), List.take_of_length_le (by rw [hkl]; exact Nat.le_refl _), List.drop_append, List.drop_eq_nil_of_le (by simp; omega), hkl, List.nil_append]
            simp only [List.length_cons, List.length_nil, Nat.zero_add, show k + 1 - k = 1 by omega]
            rw [List.drop_append_of_le_length (by omega)]
            simp
          rw [e1]
          have hl1 : ((ivs l).take k ++ [Value.int .i64 x]).length = k + 1 := by rw [List.length_append, hkl]; rfl
          have e2 : ((ivs l).take k ++ [Value.int .i64 x] ++ (Z1.toList.drop 1 ++ Z2.toList)).drop (k + 1 + (ivs (l.drop k)).length) = Z2.toList := by
            have n1 : ((ivs l).take k ++ [Value.int .i64 x]).drop (k + 1 + (l.length - k)) = [] := List.drop_eq_nil_of_le (by rw [hl1]; omega)
            have n2 : (Z1.toList.drop 1).drop (k + 1 + (l.length - k) - (k + 1)) = [] := List.drop_eq_nil_of_le (by rw [List.length_drop, hZ1]; omega)
            rw [ivs_length, List.length_drop, List.drop_append, n1, hl1, List.nil_append, List.drop_append, n2, List.length_drop, hZ1, List.nil_append, show k + 1 + (l.length - k) - (k + 1) - (l.length + 1 - k - 1) = 0 by omega, List.drop_zero]
          unfold splice
          rw [e2, List.take_append_of_le_length (by rw [hl1]; exact Nat.le_refl _), List.take_of_length_le (by rw [hl1]; exact Nat.le_refl _), ivs_take, ivs_append]
          simp [ivs, iv]
        rw [ef] at h2
        refine ⟨_, rfl, OInts.mk (sp := Z2.toList) ?_ (by rw [len_ins hk]) (by rw [len_ins hk, hZ2]; omega) g2 (by rw [len_ins hk]; omega) (.inr (Nat.le_refl _)) (ins_range hrg hx), Chg.cells (fun h => absurd h (Nat.lt_irrefl _)) _ _ (Chg.drew (Chg.cells (fun h => absurd h (Nat.lt_irrefl _)) _ _ ((Chg.refl w).alloc _).drew))⟩
        rw [ivs_drop]
        exact h2
end Go.Proofs.Ytlpelpjcbclemaa
