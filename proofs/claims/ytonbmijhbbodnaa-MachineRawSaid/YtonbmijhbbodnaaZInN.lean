/-
  instr.Reads.
  The document's Reads.
-/
import Derived.Deep.DeepCutAuto
import Derived.Deep.CutBlock
import Derived.Deep.RegionHeld3
import Derived.Test.YtonbmijhbbodnaaZInS
import Derived.Test.YtonbmijhbbodnaaZInE
import Derived.Test.YtonbmijhbbodnaaZInA
import Derived.Test.YtonbmijhbbodnaaInD
namespace Go.Proofs.Ytonbmijhbbodnaa
open Go.RowKit Go.Sort

def regs (x : Ins) : List Int := if x.k = 2 ∨ x.k = 4 then [x.b] else if x.k = 3 then [x.b, x.c] else if x.k = 5 then [x.a, x.b] else if x.k = 7 then [x.a] else []
def readsI (x : Ins) : List Int := if chkI x = 0 then rdl (regs x) else []
theorem readsI_range (x : Ins) : ∀ z ∈ readsI x, -9223372036854775808 ≤ z ∧ z ≤ 9223372036854775807 := by
  unfold readsI
  split
  · exact rdl_range _
  · intro z hz; simp at hz
def RdRet (x : Ins) (w : World) (e : Ending) (w' : World) : Prop := ∃ a len cap, e = .returned (.slice a len cap) ∧ Ints (Ge w.heap.size) w' a len cap (readsI x) ∧ Below w.heap.size w w'
theorem sort_at (b cap n : Nat) (zs : List Int) (w : World) (hz : zs.length = n) (h : Holds (Value.int .i64) w b 0 zs.toArray) (hb : b < w.heap.size) (hn : n ≤ 1000) : Calls Try.prog 54 #[.slice (some ⟨b, 0, none⟩) n cap] w fun e w' =>
    e = .returned (.tuple #[]) ∧ Holds (Value.int .i64) w' b 0 (zs.mergeSort fun x y => decide (x ≤ y)).toArray ∧ Below b w w' := by
  subst hz; exact sort_call b cap zs w h hb hn
theorem compact_at (b cap n : Nat) (zs : List Int) (w : World) (hz : zs.length = n) (h : Holds (Value.int .i64) w b 0 zs.toArray) (hb : b < w.heap.size) (hn : n ≤ 1000) (hc : n ≤ cap) : Calls Try.prog 56 #[.slice (some ⟨b, 0, none⟩) n cap] w fun e w' =>
    e = .returned (.slice (some ⟨b, 0, none⟩) (Lib.compact zs).length cap) ∧ Holds (Value.int .i64) w' b 0 (Lib.compact zs).toArray ∧ Below b w w' := by
  subst hz; exact compact_call b cap zs w h hb hn hc
theorem delete_nil (a : Option Addr) (c : Nat) (fv : Value) (w : World) : Calls Try.prog 55 #[.slice a 0 c, fv] w fun e w' => e = .returned (.slice a 0 c) ∧ w' = w := by
  have h := sh_slices_IndexFunc_empty (α := Int) a c fv w
  go_enter Try.func55, Try.ntmps55
  go_wp2_with fail
  refine h.mono ?_
  rintro e w' ⟨rfl, hw⟩
  subst hw
  go_wp2
  go_ret
  exact ⟨rfl, rfl⟩
theorem rdl_nil : rdl [] = [] := by decide
set_option maxRecDepth 100000 in
set_option maxHeartbeats 8000000 in
theorem reads_any (x : Ins) (w : World) : Calls Try.prog 28 #[IV x] w (RdRet x w) := by
  have F0 := Lib.hid (Fm.new (Fm.start Non w) rfl (ICells x) 50)
  go_enter Try.func28, Try.ntmps28
  go_wp2_with fail
  refine (check_any x _).mono ?_
  rintro e w1 ⟨rfl, hb1⟩
  have F1 := Lib.hid (Fm.call hb1 F0.out)
  have t0 := F1.out.h0
  have e0 := t0.cell 0 _ rfl; have e1 := t0.cell 1 _ rfl; have e2 := t0.cell 2 _ rfl; have e3 := t0.cell 3 _ rfl; have e4 := t0.cell 4 _ rfl; have e5 := t0.cell 5 _ rfl
  have hs1 := F1.out.size
  clear t0 hb1
  by_cases hc : chkI x = 0
  · have S := Lib.hid (small_of hc)
    have HC := Lib.hid hc
    rw [hc]
    clear hc
    by_cases h24 : x.k = 2 ∨ x.k = 4
    · have HR := Lib.hid (show tidy [x.b] = readsI x by unfold readsI regs; rw [if_pos HC.out, if_pos h24]; exact tidy_one ⟨S.out.b0, S.out.b1⟩)
      rcases h24 with hk | hk
      all_goals
        rw [hk] at e0
        clear hk
        go_wp2_with fail
        refine (sort_at w1.heap.size 1 1 [x.b] _ rfl (holds_blk (Blk.new w1 (ivs [x.b]) 3)) (by simp) (by omega)).mono ?_
        rintro e w2 ⟨rfl, h2, b2⟩
        obtain ⟨L, hL⟩ : ∃ L, L = [x.b].mergeSort fun x y => decide (x ≤ y) := ⟨_, rfl⟩
        have hLn : L.length = 1 := by rw [hL]; simp
        rw [← hL] at h2
        have B2 := Lib.hid ((F1.out.below.alloc (by have := F1.out.size; omega) _).trans (b2.mono (by have := F1.out.size; omega)))
        have s2 : w1.heap.size < w2.heap.size := by have := b2.size; simp at this; omega
        have H2 := Lib.hid h2
        have HL := Lib.hid hL
        have HN := Lib.hid hLn
        clear h2 b2 hL hLn e0 e1 e2 e3 e4 e5
        go_wp2_with fail
        refine (compact_at w1.heap.size 1 1 L _ HN.out H2.out s2 (by omega) (by omega)).mono ?_
        rintro e w3 ⟨rfl, h3, b3⟩
        have hc3 : (Lib.compact L).length ≤ 1 := by have := compact_le L; have := HN.out; omega
        have B3 := Lib.hid (B2.out.trans (b3.mono (by have := F1.out.size; omega)))
        have s3 : w1.heap.size < w3.heap.size := Nat.lt_of_lt_of_le s2 b3.size
        have H3 := Lib.hid h3
        clear h3 b3
        go_wp2_with fail
        refine (delete_call w1.heap.size 1 (Lib.compact L) _ H3.out s3 (by omega) hc3).mono ?_
        rintro e w4 ⟨rfl, h4, b4⟩
        have B4 := Lib.hid (B3.out.trans (b4.mono (by have := F1.out.size; omega)))
        have s4 : w1.heap.size < w4.heap.size := Nat.lt_of_lt_of_le s3 b4.size
        have e4 : (Lib.compact L).filter (fun x => !decide (x = 0)) = readsI x := by rw [HL.out]; exact HR.out
        have hf4 : ((Lib.compact L).filter (fun x => !decide (x = 0))).length ≤ 1 := Nat.le_trans (List.length_filter_le _ _) hc3
        rw [e4] at h4 hf4 ⊢
        have H4 := Lib.hid h4
        clear h4 b4 hc3
        go_wp2
        go_ret
        exact ⟨_, _, _, rfl, ints_holds H4.out rfl hf4 (by omega) (by have := F1.out.size; unfold Ge; omega) s4 (readsI_range x), B4.out⟩
    · by_cases h3 : x.k = 3
      · have HR := Lib.hid (show tidy [x.b, x.c] = readsI x by unfold readsI regs; rw [if_pos HC.out, if_neg h24, if_pos h3]; exact tidy_two ⟨S.out.b0, S.out.b1⟩ ⟨S.out.c0, S.out.c1⟩)
        rw [h3] at e0
        clear h24 h3
        go_wp2_with fail
        refine (sort_at w1.heap.size 2 2 [x.b, x.c] _ rfl (holds_blk (Blk.new w1 (ivs [x.b, x.c]) 3)) (by simp) (by omega)).mono ?_
        rintro e w2 ⟨rfl, h2, b2⟩
        obtain ⟨L, hL⟩ : ∃ L, L = [x.b, x.c].mergeSort fun x y => decide (x ≤ y) := ⟨_, rfl⟩
        have hLn : L.length = 2 := by rw [hL]; simp
        rw [← hL] at h2
        have B2 := Lib.hid ((F1.out.below.alloc (by have := F1.out.size; omega) _).trans (b2.mono (by have := F1.out.size; omega)))
        have s2 : w1.heap.size < w2.heap.size := by have := b2.size; simp at this; omega
        have H2 := Lib.hid h2
        have HL := Lib.hid hL
        have HN := Lib.hid hLn
        clear h2 b2 hL hLn e0 e1 e2 e3 e4 e5
        go_wp2_with fail
        refine (compact_at w1.heap.size 2 2 L _ HN.out H2.out s2 (by omega) (by omega)).mono ?_
        rintro e w3 ⟨rfl, h3, b3⟩
        have hc3 : (Lib.compact L).length ≤ 2 := by have := compact_le L; have := HN.out; omega
        have B3 := Lib.hid (B2.out.trans (b3.mono (by have := F1.out.size; omega)))
        have s3 : w1.heap.size < w3.heap.size := Nat.lt_of_lt_of_le s2 b3.size
        have H3 := Lib.hid h3
        clear h3 b3
        go_wp2_with fail
        refine (delete_call w1.heap.size 2 (Lib.compact L) _ H3.out s3 (by omega) hc3).mono ?_
        rintro e w4 ⟨rfl, h4, b4⟩
        have B4 := Lib.hid (B3.out.trans (b4.mono (by have := F1.out.size; omega)))
        have s4 : w1.heap.size < w4.heap.size := Nat.lt_of_lt_of_le s3 b4.size
        have e4 : (Lib.compact L).filter (fun x => !decide (x = 0)) = readsI x := by rw [HL.out]; exact HR.out
        have hf4 : ((Lib.compact L).filter (fun x => !decide (x = 0))).length ≤ 2 := Nat.le_trans (List.length_filter_le _ _) hc3
        rw [e4] at h4 hf4 ⊢
        have H4 := Lib.hid h4
        clear h4 b4 hc3
        go_wp2
        go_ret
        exact ⟨_, _, _, rfl, ints_holds H4.out rfl hf4 (by omega) (by have := F1.out.size; unfold Ge; omega) s4 (readsI_range x), B4.out⟩
      · by_cases h5 : x.k = 5
        · have HR := Lib.hid (show tidy [x.a, x.b] = readsI x by unfold readsI regs; rw [if_pos HC.out, if_neg h24, if_neg h3, if_pos h5]; exact tidy_two ⟨S.out.a0, S.out.a1⟩ ⟨S.out.b0, S.out.b1⟩)
          rw [h5] at e0
          clear h24 h3 h5
          go_wp2_with fail
          refine (sort_at w1.heap.size 2 2 [x.a, x.b] _ rfl (holds_blk (Blk.new w1 (ivs [x.a, x.b]) 3)) (by simp) (by omega)).mono ?_
          rintro e w2 ⟨rfl, h2, b2⟩
          obtain ⟨L, hL⟩ : ∃ L, L = [x.a, x.b].mergeSort fun x y => decide (x ≤ y) := ⟨_, rfl⟩
          have hLn : L.length = 2 := by rw [hL]; simp
          rw [← hL] at h2
          have B2 := Lib.hid ((F1.out.below.alloc (by have := F1.out.size; omega) _).trans (b2.mono (by have := F1.out.size; omega)))
          have s2 : w1.heap.size < w2.heap.size := by have := b2.size; simp at this; omega
          have H2 := Lib.hid h2
          have HL := Lib.hid hL
          have HN := Lib.hid hLn
          clear h2 b2 hL hLn e0 e1 e2 e3 e4 e5
          go_wp2_with fail
          refine (compact_at w1.heap.size 2 2 L _ HN.out H2.out s2 (by omega) (by omega)).mono ?_
          rintro e w3 ⟨rfl, h3, b3⟩
          have hc3 : (Lib.compact L).length ≤ 2 := by have := compact_le L; have := HN.out; omega
          have B3 := Lib.hid (B2.out.trans (b3.mono (by have := F1.out.size; omega)))
          have s3 : w1.heap.size < w3.heap.size := Nat.lt_of_lt_of_le s2 b3.size
          have H3 := Lib.hid h3
          clear h3 b3
          go_wp2_with fail
          refine (delete_call w1.heap.size 2 (Lib.compact L) _ H3.out s3 (by omega) hc3).mono ?_
          rintro e w4 ⟨rfl, h4, b4⟩
          have B4 := Lib.hid (B3.out.trans (b4.mono (by have := F1.out.size; omega)))
          have s4 : w1.heap.size < w4.heap.size := Nat.lt_of_lt_of_le s3 b4.size
          have e4 : (Lib.compact L).filter (fun x => !decide (x = 0)) = readsI x := by rw [HL.out]; exact HR.out
          have hf4 : ((Lib.compact L).filter (fun x => !decide (x = 0))).length ≤ 2 := Nat.le_trans (List.length_filter_le _ _) hc3
          rw [e4] at h4 hf4 ⊢
          have H4 := Lib.hid h4
          clear h4 b4 hc3
          go_wp2
          go_ret
          exact ⟨_, _, _, rfl, ints_holds H4.out rfl hf4 (by omega) (by have := F1.out.size; unfold Ge; omega) s4 (readsI_range x), B4.out⟩
        · by_cases h7 : x.k = 7
          · have HR := Lib.hid (show tidy [x.a] = readsI x by unfold readsI regs; rw [if_pos HC.out, if_neg h24, if_neg h3, if_neg h5, if_pos h7]; exact tidy_one ⟨S.out.a0, S.out.a1⟩)
            rw [h7] at e0
            clear h24 h3 h5 h7
            go_wp2_with fail
            refine (sort_at w1.heap.size 1 1 [x.a] _ rfl (holds_blk (Blk.new w1 (ivs [x.a]) 3)) (by simp) (by omega)).mono ?_
            rintro e w2 ⟨rfl, h2, b2⟩
            obtain ⟨L, hL⟩ : ∃ L, L = [x.a].mergeSort fun x y => decide (x ≤ y) := ⟨_, rfl⟩
            have hLn : L.length = 1 := by rw [hL]; simp
            rw [← hL] at h2
            have B2 := Lib.hid ((F1.out.below.alloc (by have := F1.out.size; omega) _).trans (b2.mono (by have := F1.out.size; omega)))
            have s2 : w1.heap.size < w2.heap.size := by have := b2.size; simp at this; omega
            have H2 := Lib.hid h2
            have HL := Lib.hid hL
            have HN := Lib.hid hLn
            clear h2 b2 hL hLn e0 e1 e2 e3 e4 e5
            go_wp2_with fail
            refine (compact_at w1.heap.size 1 1 L _ HN.out H2.out s2 (by omega) (by omega)).mono ?_
            rintro e w3 ⟨rfl, h3, b3⟩
            have hc3 : (Lib.compact L).length ≤ 1 := by have := compact_le L; have := HN.out; omega
            have B3 := Lib.hid (B2.out.trans (b3.mono (by have := F1.out.size; omega)))
            have s3 : w1.heap.size < w3.heap.size := Nat.lt_of_lt_of_le s2 b3.size
            have H3 := Lib.hid h3
            clear h3 b3
            go_wp2_with fail
            refine (delete_call w1.heap.size 1 (Lib.compact L) _ H3.out s3 (by omega) hc3).mono ?_
            rintro e w4 ⟨rfl, h4, b4⟩
            have B4 := Lib.hid (B3.out.trans (b4.mono (by have := F1.out.size; omega)))
            have s4 : w1.heap.size < w4.heap.size := Nat.lt_of_lt_of_le s3 b4.size
            have e4 : (Lib.compact L).filter (fun x => !decide (x = 0)) = readsI x := by rw [HL.out]; exact HR.out
            have hf4 : ((Lib.compact L).filter (fun x => !decide (x = 0))).length ≤ 1 := Nat.le_trans (List.length_filter_le _ _) hc3
            rw [e4] at h4 hf4 ⊢
            have H4 := Lib.hid h4
            clear h4 b4 hc3
            go_wp2
            go_ret
            exact ⟨_, _, _, rfl, ints_holds H4.out rfl hf4 (by omega) (by have := F1.out.size; unfold Ge; omega) s4 (readsI_range x), B4.out⟩
          · have HW := Lib.hid (show readsI x = [] by unfold readsI regs; rw [if_pos HC.out, if_neg h24, if_neg h3, if_neg h5, if_neg h7]; exact rdl_nil)
            have n2 : ¬ x.k = 2 := fun e => h24 (.inl e)
            have n4 : ¬ x.k = 4 := fun e => h24 (.inr e)
            clear h24
            go_wp2_with fail
            refine (sh_slices_Sort_int_none none 0 _).mono ?_
            rintro e w2 ⟨rfl, hw⟩
            subst hw
            go_wp2_with fail
            refine (sh_slices_Compact_int_empty none 0 _).mono ?_
            rintro e w3 ⟨rfl, hw⟩
            subst hw
            go_wp2_with fail
            refine (delete_nil none 0 _ _).mono ?_
            rintro e w4 ⟨rfl, hw⟩
            subst hw
            go_wp2
            go_ret
            exact ⟨none, 0, 0, rfl, by rw [HW.out]; exact Row.nil _ _ _ _ _ (by decide), F1.out.below⟩
  · have HW := Lib.hid (show readsI x = [] by unfold readsI; rw [if_neg hc])
    go_wp2
    go_ret
    exact ⟨none, 0, 0, rfl, by rw [HW.out]; exact Row.nil _ _ _ _ _ (by decide), F1.out.below⟩
end Go.Proofs.Ytonbmijhbbodnaa
namespace Go.Proofs.Ytonbmijhbbodnaa
open Go.RowKit

theorem info_bool : (Try.prog.info? 4).map (fun i => (i.zero, i.size, i.bytes)) = some (some (.bool false), 1, 1) := by kernel_rfl
theorem make_bools (n : Nat) (h : n ≤ 1000000) (w : World) (kl kc : IntKind) : (Instr.makeSlice 33 (.int kl (n : Int)) (.int kc (n : Int))).run Try.prog w = .ok (.slice (some ⟨w.heap.size, 0, none⟩) n n) (w.alloc (.cells (zeros (.bool false) n).toArray 4)) := by
  rw [← madeCells_zeros]
  exact run_make_row' 33 4 (.bool false) 1 Try.underlying33 info_bool rfl kl kc n (by omega) (by omega) w
/-- Which registers are flagged. -/
structure Fl (rs : List Int) (vs : List Value) : Prop where
  len : vs.length = 8
  get : ∀ r, r < 8 → vs[r]? = some (.bool (rs.contains (r : Int)))
theorem fl_zero : Fl [] (zeros (.bool false) 8) := ⟨rfl, fun r h => by rw [zeros_get h]; rfl⟩
theorem fl_set {rs : List Int} {vs : List Value} (h : Fl rs vs) {i : Nat} (hi : i < 8) : Fl (rs ++ [(i : Int)]) (vs.set i (.bool true)) := by
  refine ⟨by rw [List.length_set]; exact h.len, fun r hr => ?_⟩
  rw [List.getElem?_set]
  by_cases e : i = r
  · subst e
    rw [if_pos rfl, if_pos (by rw [h.len]; exact hi)]
    simp
  · rw [if_neg e, h.get r hr]
    have : ¬ (r : Int) = (i : Int) := by omega
    simp [this]
def rp (rs : List Int) : Nat → List Int
  | 0 => []
  | k + 1 => rp rs k ++ (if k ≠ 0 ∧ rs.contains (k : Int) = true then [(k : Int)] else [])
theorem rp_all (rs : List Int) : rp rs 8 = rdl rs := by
  simp only [rp, rdl, List.filter]
  cases h1 : rs.contains 1 <;> cases h2 : rs.contains 2 <;> cases h3 : rs.contains 3 <;> cases h4 : rs.contains 4 <;> cases h5 : rs.contains 5 <;> cases h6 : rs.contains 6 <;> cases h7 : rs.contains 7 <;> simp_all
theorem rp_len (rs : List Int) (k : Nat) : (rp rs k).length ≤ k := by
  induction k with
  | zero => simp [rp]
  | succ k ih =>
    simp only [rp, List.length_append]
    split <;> simp <;> omega
theorem flat_ints {w : World} {B : Nat} {K : Nat → Prop} {a : Option Addr} {n c k : Nat} {l : List Int} (h : w.ownsRow B 3 1 (.slice a n c) k (ivs l)) (hl : ∀ z ∈ l, -9223372036854775808 ≤ z ∧ z ≤ 9223372036854775807) (hm : k ≤ 1000000) (hK : ∀ j, B ≤ j → K j) : Ints K w a n c l := by
  have hlen : l.length = k := by have := h.1; rw [ivs_length] at this; omega
  obtain ⟨h1, h2, h3⟩ := flat_len h
  refine ⟨by omega, h2, by unfold maxLen at h3; omega, by omega, fun i x hx => ?_⟩
  have hi := (List.getElem?_eq_some_iff.1 hx).1
  obtain ⟨g, rfl, g1, g2, _, _, _, hc⟩ := flat_cells h (by omega)
  refine ⟨g, 0, rfl, hK g g1, g2, ?_, hl x (List.mem_of_getElem? hx)⟩
  rw [Nat.zero_add, Nat.mul_one]
  exact hc i _ (ivs_get hx)
set_option maxRecDepth 100000 in
set_option maxHeartbeats 8000000 in
theorem rreads_any (x : Ins) (w : World) : Calls Try.prog 50 #[IV x] w (RdRet x w) := by
  have F0 := Lib.hid (Fm.new (Fm.start Non w) rfl (ICells x) 50)
  go_enter Try.func50, Try.ntmps50
  go_wp2_with fail
  refine (rcheck_any x _).mono ?_
  rintro e w1 ⟨rfl, hb1⟩
  have F1 := Lib.hid (Fm.call hb1 F0.out)
  have t0 := F1.out.h0
  have e0 := t0.cell 0 _ rfl; have e1 := t0.cell 1 _ rfl; have e2 := t0.cell 2 _ rfl; have e3 := t0.cell 3 _ rfl; have e4 := t0.cell 4 _ rfl; have e5 := t0.cell 5 _ rfl
  have hs1 := F1.out.size
  clear t0 hb1
  by_cases hc : chkI x = 0
  · have S := Lib.hid (small_of hc)
    have HC := Lib.hid hc
    rw [hc]
    clear hc
    have mk : (Instr.makeSlice 33 (.int .i64 8) (.int .i64 8)).run Try.prog w1 = .ok (.slice (some ⟨w1.heap.size, 0, none⟩) 8 8) (w1.alloc (.cells (zeros (.bool false) 8).toArray 4)) := make_bools 8 (by omega) w1 .i64 .i64
    go_upto_region 4 with fail
    have mkw : ∃ wm, wm = w1.alloc (.cells (zeros (.bool false) 8).toArray 4) := ⟨_, rfl⟩
    obtain ⟨wm, hwm⟩ := mkw
    have BM := Lib.hid (show Blk wm w1.heap.size 4 (zeros (.bool false) 8) by rw [hwm]; exact Blk.new w1 _ _)
    have CM := Lib.hid (show Below w.heap.size w wm by rw [hwm]; exact F1.out.below.alloc (by omega) _)
    have FM := Lib.hid (show Fm Non w wm [ICells x] by rw [hwm]; exact F1.out.more _)
    have SM := Lib.hid (show wm.heap.size = w1.heap.size + 1 by rw [hwm]; simp)
    rw [← hwm]
    clear hwm mk e0 e1 e2 e3 e4 e5
    have t1 := FM.out.h0
    have e0 := t1.cell 0 _ rfl; have e1 := t1.cell 1 _ rfl; have e2 := t1.cell 2 _ rfl; have e3 := t1.cell 3 _ rfl
    clear t1
    go_upto_block 0 with fail
    go_cut [3, 12, 19, 29, 39] (fun s3 _ _ _ _ wx => s3 = .slice (some ⟨w1.heap.size, 0, none⟩) 8 8 ∧ ∃ vs, Blk wx w1.heap.size 4 vs ∧ Fl (regs x) vs ∧ Below w.heap.size w wx)
    case first =>
      obtain ⟨A, hA⟩ := Int.eq_ofNat_of_zero_le S.out.a0
      obtain ⟨B, hB⟩ := Int.eq_ofNat_of_zero_le S.out.b0
      obtain ⟨C, hC⟩ := Int.eq_ofNat_of_zero_le S.out.c0
      have lA : A < 8 := by have := S.out.a1; omega
      have lB : B < 8 := by have := S.out.b1; omega
      have lC : C < 8 := by have := S.out.c1; omega
      rw [hA] at e1
      rw [hB] at e2
      rw [hC] at e3
      have HA := Lib.hid hA; have HB := Lib.hid hB; have HC' := Lib.hid hC
      clear hA hB hC
      have fz : ∀ o, wm.frozen? ⟨w1.heap.size, o, none⟩ = false := BM.out.free
      have hs : w.heap.size < w1.heap.size := by have := F1.out.size; simp at this; omega
      by_cases k2 : (x.k == 2) = true
      · have HR := Lib.hid (show regs x = [(B : Int)] by unfold regs; rw [if_pos (.inl (by simpa using k2)), HB.out])
        have y1 := BM.out.cell (zeros_get lB)
        go_wp2
        go_meet
        exact ⟨rfl, _, BM.out.set B _, by rw [HR.out]; exact fl_set fl_zero lB, CM.out.setCell (Nat.le_of_lt hs) _⟩
      · have n2 : ¬ x.k = 2 := by simpa using k2
        by_cases k4 : (x.k == 4) = true
        · have HR := Lib.hid (show regs x = [(B : Int)] by unfold regs; rw [if_pos (.inr (by simpa using k4)), HB.out])
          clear n2
          have y1 := BM.out.cell (zeros_get lB)
          go_wp2
          go_meet
          exact ⟨rfl, _, BM.out.set B _, by rw [HR.out]; exact fl_set fl_zero lB, CM.out.setCell (Nat.le_of_lt hs) _⟩
        · have n4 : ¬ x.k = 4 := by simpa using k4
          by_cases k3 : (x.k == 3) = true
          · have HR := Lib.hid (show regs x = [(B : Int), (C : Int)] by unfold regs; rw [if_neg (fun h => h.elim n2 n4), if_pos (by simpa using k3), HB.out, HC'.out])
            clear n2 n4
            have y1 := BM.out.cell (zeros_get lB)
            have jB : (B : Int) < 8 := by omega
            have jC : (C : Int) < 8 := by omega
            have B1 := Lib.hid ((BM.out.drew).set B (.bool true))
            have yq := BM.out.cell (zeros_get lC)
            by_cases hbc : B = C
            · have ye := hbc
              subst ye
              go_wp2
              go_region_held3 (fun w' => w'.cell? ⟨w.heap.size, 2, none⟩ = some (.int .i64 (B : Int)) ∧ w'.cell? ⟨w.heap.size, 3, none⟩ = some (.int .i64 (B : Int))) (((try dsimp only); (try go_split_ands); (repeat' apply And.intro); all_goals (repeat (first | with_reducible assumption | (with_reducible refine cell_set (by omega) ?_) | (with_reducible refine cell_drew ?_))))) (fail)
              go_wp2
              go_meet
              exact ⟨rfl, _, B1.out.set B _, by rw [HR.out]; exact fl_set (fl_set fl_zero lB) lB, (CM.out.drew.setCell (Nat.le_of_lt hs) _).setCell (Nat.le_of_lt hs) _⟩
            · have hcb : ¬ C = B := fun e => hbc e.symm
              go_wp2
              go_region_held3 (fun w' => w'.cell? ⟨w.heap.size, 2, none⟩ = some (.int .i64 (B : Int)) ∧ w'.cell? ⟨w.heap.size, 3, none⟩ = some (.int .i64 (C : Int))) (((try dsimp only); (try go_split_ands); (repeat' apply And.intro); all_goals (repeat (first | with_reducible assumption | (with_reducible refine cell_set (by omega) ?_) | (with_reducible refine cell_drew ?_))))) (fail)
              go_wp2
              go_meet
              exact ⟨rfl, _, B1.out.set C _, by rw [HR.out]; exact fl_set (fl_set fl_zero lB) lC, (CM.out.drew.setCell (Nat.le_of_lt hs) _).setCell (Nat.le_of_lt hs) _⟩
          · have n3 : ¬ x.k = 3 := by simpa using k3
            by_cases k5 : (x.k == 5) = true
            · have HR := Lib.hid (show regs x = [(A : Int), (B : Int)] by unfold regs; rw [if_neg (fun h => h.elim n2 n4), if_neg n3, if_pos (by simpa using k5), HA.out, HB.out])
              clear n2 n4 n3
              have y1 := BM.out.cell (zeros_get lA)
              have jA : (A : Int) < 8 := by omega
              have jB : (B : Int) < 8 := by omega
              have B1 := Lib.hid ((BM.out.drew).set A (.bool true))
              have yq := BM.out.cell (zeros_get lB)
              by_cases hbc : A = B
              · have ye := hbc
                subst ye
                go_wp2
                go_region_held3 (fun w' => w'.cell? ⟨w.heap.size, 1, none⟩ = some (.int .i64 (A : Int)) ∧ w'.cell? ⟨w.heap.size, 2, none⟩ = some (.int .i64 (A : Int))) (((try dsimp only); (try go_split_ands); (repeat' apply And.intro); all_goals (repeat (first | with_reducible assumption | (with_reducible refine cell_set (by omega) ?_) | (with_reducible refine cell_drew ?_))))) (fail)
                go_wp2
                go_meet
                exact ⟨rfl, _, B1.out.set A _, by rw [HR.out]; exact fl_set (fl_set fl_zero lA) lA, (CM.out.drew.setCell (Nat.le_of_lt hs) _).setCell (Nat.le_of_lt hs) _⟩
              · have hcb : ¬ B = A := fun e => hbc e.symm
                go_wp2
                go_region_held3 (fun w' => w'.cell? ⟨w.heap.size, 1, none⟩ = some (.int .i64 (A : Int)) ∧ w'.cell? ⟨w.heap.size, 2, none⟩ = some (.int .i64 (B : Int))) (((try dsimp only); (try go_split_ands); (repeat' apply And.intro); all_goals (repeat (first | with_reducible assumption | (with_reducible refine cell_set (by omega) ?_) | (with_reducible refine cell_drew ?_))))) (fail)
                go_wp2
                go_meet
                exact ⟨rfl, _, B1.out.set B _, by rw [HR.out]; exact fl_set (fl_set fl_zero lA) lB, (CM.out.drew.setCell (Nat.le_of_lt hs) _).setCell (Nat.le_of_lt hs) _⟩
            · have n5 : ¬ x.k = 5 := by simpa using k5
              by_cases k7 : (x.k == 7) = true
              · have HR := Lib.hid (show regs x = [(A : Int)] by unfold regs; rw [if_neg (fun h => h.elim n2 n4), if_neg n3, if_neg n5, if_pos (by simpa using k7), HA.out])
                clear n2 n4 n3 n5
                have y1 := BM.out.cell (zeros_get lA)
                go_wp2
                go_meet
                exact ⟨rfl, _, BM.out.set A _, by rw [HR.out]; exact fl_set fl_zero lA, CM.out.setCell (Nat.le_of_lt hs) _⟩
              · have n7 : ¬ x.k = 7 := by simpa using k7
                have HR := Lib.hid (show regs x = [] by unfold regs; rw [if_neg (fun h => h.elim n2 n4), if_neg n3, if_neg n5, if_neg n7])
                clear n2 n3 n4 n5 n7
                go_wp2
                go_meet
                exact ⟨rfl, _, BM.out, by rw [HR.out]; exact fl_zero, CM.out⟩
    case rest =>
      obtain ⟨rfl, vs, hb, hf, hbl⟩ := hcut
      have BK := Lib.hid hb; have FL := Lib.hid hf; have BL := Lib.hid hbl
      have sz := hb.lt
      clear hb hf hbl e0 e1 e2 e3
      go_wp2
      go_loopw [4, 5] (fun v i wr => ∃ k n : Nat, 1 ≤ k ∧ k ≤ 8 ∧ i = .int .i64 k ∧ n = (rp (regs x) k).length ∧ wr.ownsRow (w1.heap.size + 1) 3 1 v n (ivs (rp (regs x) k)) ∧ Blk wr w1.heap.size 4 vs ∧ Below w.heap.size w wr) (fun _ i _ => 8 - (intOf i).toNat)
      case atStart => exact ⟨1, 0, by omega, by omega, rfl, by simp [rp], by simp only [rp]; exact World.ownsRow_nil _ _ _ _, BK.out, BL.out⟩
      case round =>
        obtain ⟨k, n, hk1, hk, rfl, hn, h1, h2, h3⟩ := hrel
        obtain ⟨va, vc, rfl⟩ := flat_form h1
        have H1 := Lib.hid h1; have H2 := Lib.hid h2; have H3 := Lib.hid h3; have HN := Lib.hid hn
        clear h1 h2 h3 hn
        by_cases hlt : k < 8
        · obtain ⟨q, hq⟩ : ∃ q, q = (regs x).contains (k : Int) := ⟨_, rfl⟩
          have y := H2.out.cell (FL.out.get k hlt)
          rw [← hq] at y
          have HQ := Lib.hid hq
          clear hq
          cases q with
          | false =>
            go_wp2
            go_roundw
            case rel => exact ⟨k + 1, n, by omega, by omega, by go_num, by rw [rp, if_neg (fun h => by rw [← HQ.out] at h; cases h.2), List.append_nil]; exact HN.out, by rw [rp, if_neg (fun h => by rw [← HQ.out] at h; cases h.2), List.append_nil]; exact H1.out, H2.out, H3.out⟩
            case measure => simp [intOf]; omega
          | true =>
            have hs2 := H3.out.size
            have RP := Lib.hid (show rp (regs x) (k + 1) = rp (regs x) k ++ [(k : Int)] by rw [rp, if_pos ⟨by omega, HQ.out.symm⟩])
            have H4 := Lib.hid (flat_below H1.out ((Below.refl _ _).alloc (Nat.le_refl _) (.cells (ivs [(k : Int)]).toArray 3)))
            have B4 := Lib.hid (Blk.new wr (ivs [(k : Int)]) 3)
            have K4 := Lib.hid (H2.out.old (.cells (ivs [(k : Int)]).toArray 3))
            have L4 := Lib.hid (H3.out.alloc hs2 (.cells (ivs [(k : Int)]).toArray 3))
            have hlen : n ≤ 8 := by have := rp_len (regs x) k; have := HN.out; omega
            have hblt := H2.out.lt
            go_wp2_with (at_builtin; refine wpList_append_flat rfl _ _ 22 rfl 3 Try.underlying22 info_int rfl (by decide) H4.out rfl (by simp; omega) ⟨wr.heap.size, 0, none⟩ 1 1 (ivs [(k : Int)]) rfl rfl (fun j u hu => by rw [Go.WideShapes.add_plain, Nat.zero_add]; exact B4.out.cell hu) ivs_one (by decide) (by omega) (by decide) ?_; intro g c6 w6 hap)
            have C6 := Lib.hid (hap.out.non H4.out (M := Non) (Chg.of_below L4.out) (by omega)).below0
            have K6 := Lib.hid (K4.out.chg (hap.out.chg) (fun e => by have := (H4.out.lt _ e).1; omega))
            have Q6 := Lib.hid hap.out.owns
            clear hap
            go_roundw
            case rel => exact ⟨k + 1, n + 1, by omega, by omega, by go_num, by rw [RP.out, List.length_append, HN.out]; rfl, by rw [RP.out, ivs_append]; exact Q6.out, K6.out, C6.out⟩
            case measure => simp [intOf]; omega
        · obtain rfl : k = 8 := by omega
          have HW := Lib.hid (show rp (regs x) 8 = readsI x by rw [rp_all]; unfold readsI; rw [if_pos HC.out])
          rw [HW.out] at H1 HN
          have hle : n ≤ 8 := by rw [HN.out, ← HW.out]; exact rp_len _ 8
          go_wp2
          go_ret
          exact ⟨va, n, vc, rfl, flat_ints H1.out (readsI_range x) (by omega) (fun j hj => by unfold Ge; have := F1.out.chg.size; omega), H3.out⟩
  · have HW := Lib.hid (show readsI x = [] by unfold readsI; rw [if_neg hc])
    go_wp2
    go_ret
    exact ⟨none, 0, 0, rfl, by rw [HW.out]; exact Row.nil _ _ _ _ _ (by decide), F1.out.below⟩
end Go.Proofs.Ytonbmijhbbodnaa
