/-
  instr.Reads.
-/
import Derived.Test.YtonbmijhbbodnaaZInS
import Derived.Test.YtonbmijhbbodnaaZInE
import Derived.Test.YtonbmijhbbodnaaZInB
namespace Go.Proofs.Ytonbmijhbbodnaa
open Go.RowKit Go.Sort

def regs (x : Ins) : List Int := if x.k = 2 ∨ x.k = 4 then [x.b] else if x.k = 3 then [x.b, x.c] else if x.k = 5 then [x.a, x.b] else if x.k = 7 then [x.a] else []
def readsI (x : Ins) : List Int := if chkI x = 0 then rdl (regs x) else []
theorem readsI_range (x : Ins) : ∀ z ∈ readsI x, -9223372036854775808 ≤ z ∧ z ≤ 9223372036854775807 := by
  unfold readsI
  split
  · exact rdl_range _
  · intro z hz; simp at hz
def RdRet (x : Ins) (w : World) (e : Ending) (w' : World) : Prop := ∃ a len cap, e = .returned (.slice a len cap) ∧ Ints (Ge w.heap.size) w' a len cap (readsI x) ∧ Below w.heap.size w w'
theorem sort_at (b cap n : Nat) (zs : List Int) (w : World) (hz : zs.length = n) (h : Holds (Value.int .i64) w b 0 zs.toArray) (hb : b < w.heap.size) (hn : n ≤ 1000) : Calls Try.prog 54 #[.slice (some ⟨b, 0, none⟩) n cap] w fun e w' =>
    e = .returned (.tuple #[]) ∧ Holds (Value.int .i64) w' b 0 (zs.mergeSort fun x y => decide (x ≤ y)).toArray ∧ Below b w w' := by
  subst hz; exact sort_call b cap zs w h hb hn
theorem compact_at (b cap n : Nat) (zs : List Int) (w : World) (hz : zs.length = n) (h : Holds (Value.int .i64) w b 0 zs.toArray) (hb : b < w.heap.size) (hn : n ≤ 1000) (hc : n ≤ cap) : Calls Try.prog 56 #[.slice (some ⟨b, 0, none⟩) n cap] w fun e w' =>
    e = .returned (.slice (some ⟨b, 0, none⟩) (Lib.compact zs).length cap) ∧ Holds (Value.int .i64) w' b 0 (Lib.compact zs).toArray ∧ Below b w w' := by
  subst hz; exact compact_call b cap zs w h hb hn hc
theorem delete_nil (a : Option Addr) (c : Nat) (fv : Value) (w : World) : Calls Try.prog 55 #[.slice a 0 c, fv] w fun e w' => e = .returned (.slice a 0 c) ∧ w' = w := by
  have h := sh_slices_IndexFunc_empty (α := Int) a c fv w
  go_enter Try.func55, Try.ntmps55
  go_wp2_with fail
  refine h.mono ?_
  rintro e w' ⟨rfl, hw⟩
  subst hw
  go_wp2
  go_ret
  exact ⟨rfl, rfl⟩
theorem rdl_nil : rdl [] = [] := by decide
set_option maxRecDepth 100000 in
set_option maxHeartbeats 8000000 in
theorem reads_any (x : Ins) (w : World) : Calls Try.prog 28 #[IV x] w (RdRet x w) := by
  have F0 := Lib.hid (Fm.new (Fm.start Non w) rfl (ICells x) 50)
  go_enter Try.func28, Try.ntmps28
  go_wp2_with fail
  refine (check_any x _).mono ?_
  rintro e w1 ⟨rfl, hb1⟩
  have F1 := Lib.hid (Fm.call hb1 F0.out)
  have t0 := F1.out.h0
  have e0 := t0.cell 0 _ rfl; have e1 := t0.cell 1 _ rfl; have e2 := t0.cell 2 _ rfl; have e3 := t0.cell 3 _ rfl; have e4 := t0.cell 4 _ rfl; have e5 := t0.cell 5 _ rfl
  have hs1 := F1.out.size
  clear t0 hb1
  by_cases hc : chkI x = 0
  · have S := Lib.hid (small_of hc)
    have HC := Lib.hid hc
    rw [hc]
    clear hc
    by_cases h24 : x.k = 2 ∨ x.k = 4
    · have HR := Lib.hid (show tidy [x.b] = readsI x by unfold readsI regs; rw [if_pos HC.out, if_pos h24]; exact tidy_one ⟨S.out.b0, S.out.b1⟩)
      rcases h24 with hk | hk
      all_goals
        rw [hk] at e0
        clear hk
        go_wp2_with fail
        refine (sort_at w1.heap.size 1 1 [x.b] _ rfl (holds_blk (Blk.new w1 (ivs [x.b]) 3)) (by simp) (by omega)).mono ?_
        rintro e w2 ⟨rfl, h2, b2⟩
        obtain ⟨L, hL⟩ : ∃ L, L = [x.b].mergeSort fun x y => decide (x ≤ y) := ⟨_, rfl⟩
        have hLn : L.length = 1 := by rw [hL]; simp
        rw [← hL] at h2
        have B2 := Lib.hid ((F1.out.below.alloc (by have := F1.out.size; omega) _).trans (b2.mono (by have := F1.out.size; omega)))
        have s2 : w1.heap.size < w2.heap.size := by have := b2.size; simp at this; omega
        have H2 := Lib.hid h2
        have HL := Lib.hid hL
        have HN := Lib.hid hLn
        clear h2 b2 hL hLn e0 e1 e2 e3 e4 e5
        go_wp2_with fail
        refine (compact_at w1.heap.size 1 1 L _ HN.out H2.out s2 (by omega) (by omega)).mono ?_
        rintro e w3 ⟨rfl, h3, b3⟩
        have hc3 : (Lib.compact L).length ≤ 1 := by have := compact_le L; have := HN.out; omega
        have B3 := Lib.hid (B2.out.trans (b3.mono (by have := F1.out.size; omega)))
        have s3 : w1.heap.size < w3.heap.size := Nat.lt_of_lt_of_le s2 b3.size
        have H3 := Lib.hid h3
        clear h3 b3
        go_wp2_with fail
        refine (delete_call w1.heap.size 1 (Lib.compact L) _ H3.out s3 (by omega) hc3).mono ?_
        rintro e w4 ⟨rfl, h4, b4⟩
        have B4 := Lib.hid (B3.out.trans (b4.mono (by have := F1.out.size; omega)))
        have s4 : w1.heap.size < w4.heap.size := Nat.lt_of_lt_of_le s3 b4.size
        have e4 : (Lib.compact L).filter (fun x => !decide (x = 0)) = readsI x := by rw [HL.out]; exact HR.out
        have hf4 : ((Lib.compact L).filter (fun x => !decide (x = 0))).length ≤ 1 := Nat.le_trans (List.length_filter_le _ _) hc3
        rw [e4] at h4 hf4 ⊢
        have H4 := Lib.hid h4
        clear h4 b4 hc3
        go_wp2
        go_ret
        exact ⟨_, _, _, rfl, ints_holds H4.out rfl hf4 (by omega) (by have := F1.out.size; unfold Ge; omega) s4 (readsI_range x), B4.out⟩
    · by_cases h3 : x.k = 3
      · have HR := Lib.hid (show tidy [x.b, x.c] = readsI x by unfold readsI regs; rw [if_pos HC.out, if_neg h24, if_pos h3]; exact tidy_two ⟨S.out.b0, S.out.b1⟩ ⟨S.out.c0, S.out.c1⟩)
        rw [h3] at e0
        clear h24 h3
        go_wp2_with fail
        refine (sort_at w1.heap.size 2 2 [x.b, x.c] _ rfl (holds_blk (Blk.new w1 (ivs [x.b, x.c]) 3)) (by simp) (by omega)).mono ?_
        rintro e w2 ⟨rfl, h2, b2⟩
        obtain ⟨L, hL⟩ : ∃ L, L = [x.b, x.c].mergeSort fun x y => decide (x ≤ y) := ⟨_, rfl⟩
        have hLn : L.length = 2 := by rw [hL]; simp
        rw [← hL] at h2
        have B2 := Lib.hid ((F1.out.below.alloc (by have := F1.out.size; omega) _).trans (b2.mono (by have := F1.out.size; omega)))
        have s2 : w1.heap.size < w2.heap.size := by have := b2.size; simp at this; omega
        have H2 := Lib.hid h2
        have HL := Lib.hid hL
        have HN := Lib.hid hLn
        clear h2 b2 hL hLn e0 e1 e2 e3 e4 e5
        go_wp2_with fail
        refine (compact_at w1.heap.size 2 2 L _ HN.out H2.out s2 (by omega) (by omega)).mono ?_
        rintro e w3 ⟨rfl, h3, b3⟩
        have hc3 : (Lib.compact L).length ≤ 2 := by have := compact_le L; have := HN.out; omega
        have B3 := Lib.hid (B2.out.trans (b3.mono (by have := F1.out.size; omega)))
        have s3 : w1.heap.size < w3.heap.size := Nat.lt_of_lt_of_le s2 b3.size
        have H3 := Lib.hid h3
        clear h3 b3
        go_wp2_with fail
        refine (delete_call w1.heap.size 2 (Lib.compact L) _ H3.out s3 (by omega) hc3).mono ?_
        rintro e w4 ⟨rfl, h4, b4⟩
        have B4 := Lib.hid (B3.out.trans (b4.mono (by have := F1.out.size; omega)))
        have s4 : w1.heap.size < w4.heap.size := Nat.lt_of_lt_of_le s3 b4.size
        have e4 : (Lib.compact L).filter (fun x => !decide (x = 0)) = readsI x := by rw [HL.out]; exact HR.out
        have hf4 : ((Lib.compact L).filter (fun x => !decide (x = 0))).length ≤ 2 := Nat.le_trans (List.length_filter_le _ _) hc3
        rw [e4] at h4 hf4 ⊢
        have H4 := Lib.hid h4
        clear h4 b4 hc3
        go_wp2
        go_ret
        exact ⟨_, _, _, rfl, ints_holds H4.out rfl hf4 (by omega) (by have := F1.out.size; unfold Ge; omega) s4 (readsI_range x), B4.out⟩
      · by_cases h5 : x.k = 5
        · have HR := Lib.hid (show tidy [x.a, x.b] = readsI x by unfold readsI regs; rw [if_pos HC.out, if_neg h24, if_neg h3, if_pos h5]; exact tidy_two ⟨S.out.a0, S.out.a1⟩ ⟨S.out.b0, S.out.b1⟩)
          rw [h5] at e0
          clear h24 h3 h5
          go_wp2_with fail
          refine (sort_at w1.heap.size 2 2 [x.a, x.b] _ rfl (holds_blk (Blk.new w1 (ivs [x.a, x.b]) 3)) (by simp) (by omega)).mono ?_
          rintro e w2 ⟨rfl, h2, b2⟩
          obtain ⟨L, hL⟩ : ∃ L, L = [x.a, x.b].mergeSort fun x y => decide (x ≤ y) := ⟨_, rfl⟩
          have hLn : L.length = 2 := by rw [hL]; simp
          rw [← hL] at h2
          have B2 := Lib.hid ((F1.out.below.alloc (by have := F1.out.size; omega) _).trans (b2.mono (by have := F1.out.size; omega)))
          have s2 : w1.heap.size < w2.heap.size := by have := b2.size; simp at this; omega
          have H2 := Lib.hid h2
          have HL := Lib.hid hL
          have HN := Lib.hid hLn
          clear h2 b2 hL hLn e0 e1 e2 e3 e4 e5
          go_wp2_with fail
          refine (compact_at w1.heap.size 2 2 L _ HN.out H2.out s2 (by omega) (by omega)).mono ?_
          rintro e w3 ⟨rfl, h3, b3⟩
          have hc3 : (Lib.compact L).length ≤ 2 := by have := compact_le L; have := HN.out; omega
          have B3 := Lib.hid (B2.out.trans (b3.mono (by have := F1.out.size; omega)))
          have s3 : w1.heap.size < w3.heap.size := Nat.lt_of_lt_of_le s2 b3.size
          have H3 := Lib.hid h3
          clear h3 b3
          go_wp2_with fail
          refine (delete_call w1.heap.size 2 (Lib.compact L) _ H3.out s3 (by omega) hc3).mono ?_
          rintro e w4 ⟨rfl, h4, b4⟩
          have B4 := Lib.hid (B3.out.trans (b4.mono (by have := F1.out.size; omega)))
          have s4 : w1.heap.size < w4.heap.size := Nat.lt_of_lt_of_le s3 b4.size
          have e4 : (Lib.compact L).filter (fun x => !decide (x = 0)) = readsI x := by rw [HL.out]; exact HR.out
          have hf4 : ((Lib.compact L).filter (fun x => !decide (x = 0))).length ≤ 2 := Nat.le_trans (List.length_filter_le _ _) hc3
          rw [e4] at h4 hf4 ⊢
          have H4 := Lib.hid h4
          clear h4 b4 hc3
          go_wp2
          go_ret
          exact ⟨_, _, _, rfl, ints_holds H4.out rfl hf4 (by omega) (by have := F1.out.size; unfold Ge; omega) s4 (readsI_range x), B4.out⟩
        · by_cases h7 : x.k = 7
          · have HR := Lib.hid (show tidy [x.a] = readsI x by unfold readsI regs; rw [if_pos HC.out, if_neg h24, if_neg h3, if_neg h5, if_pos h7]; exact tidy_one ⟨S.out.a0, S.out.a1⟩)
            rw [h7] at e0
            clear h24 h3 h5 h7
            go_wp2_with fail
            refine (sort_at w1.heap.size 1 1 [x.a] _ rfl (holds_blk (Blk.new w1 (ivs [x.a]) 3)) (by simp) (by omega)).mono ?_
            rintro e w2 ⟨rfl, h2, b2⟩
            obtain ⟨L, hL⟩ : ∃ L, L = [x.a].mergeSort fun x y => decide (x ≤ y) := ⟨_, rfl⟩
            have hLn : L.length = 1 := by rw [hL]; simp
            rw [← hL] at h2
            have B2 := Lib.hid ((F1.out.below.alloc (by have := F1.out.size; omega) _).trans (b2.mono (by have := F1.out.size; omega)))
            have s2 : w1.heap.size < w2.heap.size := by have := b2.size; simp at this; omega
            have H2 := Lib.hid h2
            have HL := Lib.hid hL
            have HN := Lib.hid hLn
            clear h2 b2 hL hLn e0 e1 e2 e3 e4 e5
            go_wp2_with fail
            refine (compact_at w1.heap.size 1 1 L _ HN.out H2.out s2 (by omega) (by omega)).mono ?_
            rintro e w3 ⟨rfl, h3, b3⟩
            have hc3 : (Lib.compact L).length ≤ 1 := by have := compact_le L; have := HN.out; omega
            have B3 := Lib.hid (B2.out.trans (b3.mono (by have := F1.out.size; omega)))
            have s3 : w1.heap.size < w3.heap.size := Nat.lt_of_lt_of_le s2 b3.size
            have H3 := Lib.hid h3
            clear h3 b3
            go_wp2_with fail
            refine (delete_call w1.heap.size 1 (Lib.compact L) _ H3.out s3 (by omega) hc3).mono ?_
            rintro e w4 ⟨rfl, h4, b4⟩
            have B4 := Lib.hid (B3.out.trans (b4.mono (by have := F1.out.size; omega)))
            have s4 : w1.heap.size < w4.heap.size := Nat.lt_of_lt_of_le s3 b4.size
            have e4 : (Lib.compact L).filter (fun x => !decide (x = 0)) = readsI x := by rw [HL.out]; exact HR.out
            have hf4 : ((Lib.compact L).filter (fun x => !decide (x = 0))).length ≤ 1 := Nat.le_trans (List.length_filter_le _ _) hc3
            rw [e4] at h4 hf4 ⊢
            have H4 := Lib.hid h4
            clear h4 b4 hc3
            go_wp2
            go_ret
            exact ⟨_, _, _, rfl, ints_holds H4.out rfl hf4 (by omega) (by have := F1.out.size; unfold Ge; omega) s4 (readsI_range x), B4.out⟩
          · have HW := Lib.hid (show readsI x = [] by unfold readsI regs; rw [if_pos HC.out, if_neg h24, if_neg h3, if_neg h5, if_neg h7]; exact rdl_nil)
            have n2 : ¬ x.k = 2 := fun e => h24 (.inl e)
            have n4 : ¬ x.k = 4 := fun e => h24 (.inr e)
            clear h24
            go_wp2_with fail
            refine (sh_slices_Sort_int_none none 0 _).mono ?_
            rintro e w2 ⟨rfl, hw⟩
            subst hw
            go_wp2_with fail
            refine (sh_slices_Compact_int_empty none 0 _).mono ?_
            rintro e w3 ⟨rfl, hw⟩
            subst hw
            go_wp2_with fail
            refine (delete_nil none 0 _ _).mono ?_
            rintro e w4 ⟨rfl, hw⟩
            subst hw
            go_wp2
            go_ret
            exact ⟨none, 0, 0, rfl, by rw [HW.out]; exact Row.nil _ _ _ _ _ (by decide), F1.out.below⟩
  · have HW := Lib.hid (show readsI x = [] by unfold readsI; rw [if_neg hc])
    go_wp2
    go_ret
    exact ⟨none, 0, 0, rfl, by rw [HW.out]; exact Row.nil _ _ _ _ _ (by decide), F1.out.below⟩
end Go.Proofs.Ytonbmijhbbodnaa
