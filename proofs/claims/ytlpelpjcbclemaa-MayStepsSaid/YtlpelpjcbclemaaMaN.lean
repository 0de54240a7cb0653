/-
  timeboundlaw25.awake: the example of the chapter is as it says. Printed by mkMaN.py.
-/
import Derived.Deep.DeepCutAuto
import Derived.Test.YtlpelpjcbclemaaMaF
import Derived.Test.YtlpelpjcbclemaaZMaV
import Derived.Test.YtlpelpjcbclemaaHeadr
namespace Go.Proofs.Ytlpelpjcbclemaa
open Go.RowKit

theorem awK : COk ((1 : Nat) : Int) ((2 : Nat) : Int) ((1 : Nat) : Int) := ⟨by decide, by decide, by decide, by decide, by decide, by decide⟩
def awM1 : List (List (List Int)) := touchYm 1 2 (topS 1 2) (topO 1) 4
def awO1 : List Int := touchYo 1 2 (topS 1 2) (topO 1) 4
def awM2 : List (List (List Int)) := touchYm 1 2 awM1 awO1 6
def awO2 : List Int := touchYo 1 2 awM1 awO1 6
theorem aw_st1 : YSt [4, 6] 1 2 awM1 awO1 := ytouch_st (ytop_st _ _ _) (by decide) (by decide) (by decide) (by decide)
theorem aw_st2 : YSt [4, 6] 1 2 awM2 awO2 := ytouch_st aw_st1 (by decide) (by decide) (by decide) (by decide)
theorem aw_touch4 (a : Option Addr) (c : Nat) (oa : Option Addr) (oc : Nat) (w : World) (r : YCub (fun _ => True) w a 1 c oa 1 oc (topS 1 2) (topO 1)) : Calls Try.prog 14 #[.agg #[.int .i64 1, .int .i64 2, .int .i64 1], YV a 1 c oa 1 oc, .int .i64 4] w (YRet awM1 awO1 w) :=
  ytouch_any [4, 6] (by decide) 1 2 1 awK _ _ (ytop_st _ _ _) (fun _ => True) a 1 c oa 1 oc 4 (by decide) (by decide) (by decide) w r
theorem aw_touch6 (a : Option Addr) (c : Nat) (oa : Option Addr) (oc : Nat) (w : World) (r : YCub (fun _ => True) w a 1 c oa 1 oc awM1 awO1) : Calls Try.prog 14 #[.agg #[.int .i64 1, .int .i64 2, .int .i64 1], YV a 1 c oa 1 oc, .int .i64 6] w (YRet awM2 awO2 w) :=
  ytouch_any [4, 6] (by decide) 1 2 1 awK _ _ aw_st1 (fun _ => True) a 1 c oa 1 oc 6 (by decide) (by decide) (by decide) w r
theorem aw_age (n k : Int) (hn : 0 ≤ n) (hn' : n ≤ 9223372036854775807) (hk : ((ageY 1 2 awM2 awO2 n : Nat) : Int) = k) (a : Option Addr) (c : Nat) (oa : Option Addr) (oc : Nat) (w : World) (r : YCub (fun _ => True) w a 1 c oa 1 oc awM2 awO2) : Calls Try.prog 15 #[.agg #[.int .i64 1, .int .i64 2, .int .i64 1], YV a 1 c oa 1 oc, .int .i64 n] w (IntBelow k w) := by
  have h := yage_any 1 2 1 awK awM2 awO2 aw_st2 (fun _ => True) a 1 c oa 1 oc n hn hn' w r
  rw [hk] at h
  exact h

set_option maxRecDepth 100000 in
set_option maxHeartbeats 4000000 in
theorem awake_any (w : World) : Calls Try.prog 10 #[] w fun e w' => e = .returned (.bool true) ∧ Below w.heap.size w w' := by
  go_enter Try.func10, Try.ntmps10
  go_upto_region 2 with fail
  obtain ⟨wv, hwv⟩ : ∃ wv : World, wv = w.alloc (.cells #[.int .i64 1, .int .i64 2, .int .i64 1] 26) := ⟨_, rfl⟩
  have F0 := Lib.hid (show Fm Non w wv [[.int .i64 1, .int .i64 2, .int .i64 1]] from by rw [hwv]; exact Fm.new (Fm.start Non w) rfl [.int .i64 1, .int .i64 2, .int .i64 1] 26)
  rw [← hwv]
  have sv := F0.out.size
  simp only [List.length_cons, List.length_nil] at sv
  clear hwv
  have F1 := Lib.hid F0.out.drew
  have c0 := F1.out.h0.cell 0 _ rfl; have c1 := F1.out.h0.cell 1 _ rfl; have c2 := F1.out.h0.cell 2 _ rfl
  go_cut [2] (fun s2 wx => ∃ b f1 f2 na nc no noc, s2 = .pointer (some ⟨b, 0, none⟩) ∧ YVr wx (w.heap.size + 1) b f1 f2 1 na nc no noc awM2 awO2 ∧ Fm Non w wx [[.int .i64 1, .int .i64 2, .int .i64 1]])
  case first =>
    as_aux_lemma =>
      refine hd_start 7 (fun w' => w'.cell? ⟨w.heap.size, 0, none⟩ = some (.int .i64 1) ∧ w'.cell? ⟨w.heap.size, 1, none⟩ = some (.int .i64 2) ∧ w'.cell? ⟨w.heap.size, 2, none⟩ = some (.int .i64 1)) (by kernel_rfl) ⟨by kernel_rfl, by kernel_rfl, by kernel_rfl, by decide⟩ (by refine ⟨c0, c1, c2⟩) (fun ok => ?_)
      refine hd_take_l (i := 0) (v := ?_) ok rfl (by decide) (by kernel_rfl) (by kernel_rfl) (fun _ _ _ h => h) (Or.inl ⟨by kernel_rfl, ?_⟩) ?_
      rotate_left
      · (intro w hSw; (try dsimp only at hSw); (try go_split_ands); go_simp; (try (with_reducible rfl)))
      go_frame
      refine hd_take_l (i := 1) (v := ?_) ok rfl (by decide) (by kernel_rfl) (by kernel_rfl) (fun _ _ _ h => h) (Or.inl ⟨by kernel_rfl, ?_⟩) ?_
      rotate_left
      · (intro w hSw; (try dsimp only at hSw); (try go_split_ands); go_simp; (try (with_reducible rfl)))
      go_frame
      refine hd_take_l (i := 2) (v := ?_) ok rfl (by decide) (by kernel_rfl) (by kernel_rfl) (fun _ _ _ h => h) (Or.inl ⟨by kernel_rfl, ?_⟩) ?_
      rotate_left
      · (intro w hSw; (try dsimp only at hSw); (try go_split_ands); go_simp; (try (with_reducible rfl)))
      go_frame
      refine hd_two_l (c := 3) (d := 6) rfl rfl (by decide) (by decide) (by kernel_rfl) (fun K hK => ?_) (fun K hK => ?_)
      · skip
        go_simp
        go_at_call 13
        refine (ytop_any 1 2 1 awK _).mono ?_
        rintro e w1 hr
        obtain ⟨ta1, tc1, pa1, pc1, f11, f12, rfl, ho, hb⟩ := YRet.fix hr (topS_len 1 2) (topO_len 1)
        have s1 := hb.size
        (try simp only [World.size_drew] at s1)
        have F1 := Lib.hid (Fm.call hb F1.out)
        have O1 := Lib.hid ho
        (try simp only [World.size_drew] at O1)
        clear c0 c1 c2 hr ho hb
        have c0 := F1.out.h0.cell 0 _ rfl; have c1 := F1.out.h0.cell 1 _ rfl; have c2 := F1.out.h0.cell 2 _ rfl
        (try simp only [])
        refine hK _ _ (by refine ⟨?_, ?_, ?_⟩ <;> (first | exact c0 | exact c1 | exact c2)) ?_
        clear hK K
        (try go_frame)
        refine hd_two_l (c := 4) (d := 6) rfl rfl (by decide) (by decide) (by kernel_rfl) (fun K hK => ?_) (fun K hK => ?_)
        · skip
          go_simp
          go_at_call 14
          refine (aw_touch4 _ _ _ _ _ (O1.out.ycub (fun _ _ _ => trivial))).mono ?_
          rintro e w2 hr
          obtain ⟨ta2, tc2, pa2, pc2, f21, f22, rfl, ho, hb⟩ := YRet.fix hr aw_st1.len aw_st1.olen
          have s2 := hb.size
          (try simp only [World.size_drew, World.size_alloc] at s2)
          have F2 := Lib.hid (Fm.call hb F1.out)
          have O2 := Lib.hid ho
          (try simp only [World.size_drew, World.size_alloc] at O2)
          clear c0 c1 c2 hr ho hb
          have c0 := F2.out.h0.cell 0 _ rfl; have c1 := F2.out.h0.cell 1 _ rfl; have c2 := F2.out.h0.cell 2 _ rfl
          (try simp only [])
          refine hK _ _ (by refine ⟨?_, ?_, ?_⟩ <;> (first | exact c0 | exact c1 | exact c2)) ?_
          clear hK K
          (try go_frame)
          refine hd_two_l (c := 5) (d := 6) rfl rfl (by decide) (by decide) (by kernel_rfl) (fun K hK => ?_) (fun K hK => ?_)
          · skip
            go_simp
            go_at_call 14
            refine (aw_touch6 _ _ _ _ _ (O2.out.ycub (fun _ _ _ => trivial))).mono ?_
            rintro e w3 hr
            obtain ⟨ta3, tc3, pa3, pc3, f31, f32, rfl, ho, hb⟩ := YRet.fix hr aw_st2.len aw_st2.olen
            have s3 := hb.size
            (try simp only [World.size_drew, World.size_alloc] at s3)
            have F3 := Lib.hid (Fm.call hb F2.out)
            have O3 := Lib.hid ho
            (try simp only [World.size_drew, World.size_alloc] at O3)
            clear c0 c1 c2 hr ho hb
            have c0 := F3.out.h0.cell 0 _ rfl; have c1 := F3.out.h0.cell 1 _ rfl; have c2 := F3.out.h0.cell 2 _ rfl
            (try simp only [])
            refine hK _ _ (by refine ⟨?_, ?_, ?_⟩ <;> (first | exact c0 | exact c1 | exact c2)) ?_
            clear hK K
            (try go_frame)
            refine hd_only_l (c := 6) rfl (by decide) (by kernel_rfl) (fun K hK => ?_)
            go_simp
            (try simp only [])
            refine hK _ _ (by refine ⟨?_, ?_, ?_⟩ <;> (first | exact (cell_alloc (by omega) c0) | exact (cell_alloc (by omega) c1) | exact (cell_alloc (by omega) c2))) ?_
            clear hK K
            (try go_frame)
            clear ok c0 c1 c2
            refine hd_done (by kernel_rfl) ?_
            simp only [List.drop_succ_cons, List.drop_zero]
            go_wp2_with fail
            go_meet
            exact ⟨w3.heap.size, _, _, _, _, _, _, rfl, YVr.newO O3.out (by omega), F3.out.more _⟩
          · skip
            go_simp
            have G2 := Lib.hid (F2.out.more (.cells #[.slice none 0 0, .slice none 0 0] 31)); have H2 := Lib.hid (Has.new w2 [.slice none 0 0, .slice none 0 0] 31)
            have P2 := Lib.hid (O2.out.below ((Below.refl _ _).alloc (Nat.le_refl _) (.cells #[.slice none 0 0, .slice none 0 0] 31)))
            clear c0 c1 c2
            have c0 := G2.out.h0.cell 0 _ rfl; have c1 := G2.out.h0.cell 1 _ rfl; have c2 := G2.out.h0.cell 2 _ rfl
            (try simp only [])
            refine hK _ _ (by refine ⟨?_, ?_, ?_⟩ <;> (first | exact c0 | exact c1 | exact c2)) ?_
            clear hK K
            (try go_frame)
            refine hd_only_l (c := 5) rfl (by decide) (by kernel_rfl) (fun K hK => ?_)
            go_simp
            go_at_call 14
            refine (aw_touch6 _ _ _ _ _ (P2.out.ycub (fun _ _ _ => trivial))).mono ?_
            rintro e w3 hr
            obtain ⟨ta3, tc3, pa3, pc3, f31, f32, rfl, ho, hb⟩ := YRet.fix hr aw_st2.len aw_st2.olen
            have s3 := hb.size
            (try simp only [World.size_alloc] at s3)
            have F3 := Lib.hid (Fm.call hb G2.out)
            have O3 := Lib.hid ho
            (try simp only [World.size_alloc] at O3)
            have H3 := Lib.hid (H2.out.below hb (H2.out.lt (by simp)))
            have d3 : w2.heap.size < w3.heap.size := by have := H3.out.lt (by simp); omega
            clear c0 c1 c2 hr ho hb
            have c0 := F3.out.h0.cell 0 _ rfl; have c1 := F3.out.h0.cell 1 _ rfl; have c2 := F3.out.h0.cell 2 _ rfl
            (try simp only [])
            refine hK _ _ (by refine ⟨?_, ?_, ?_⟩ <;> (first | exact c0 | exact c1 | exact c2)) ?_
            clear hK K
            (try go_frame)
            have h0 := H3.out.cell 0 _ rfl; have h1 := H3.out.cell 1 _ rfl; have hf := H3.out.free; have hl := H3.out.lt (by simp)
            clear ok c0 c1 c2
            refine hd_done (by kernel_rfl) ?_
            simp only [List.drop_succ_cons, List.drop_zero]
            go_wp2_with fail
            go_meet
            exact ⟨w2.heap.size, _, _, _, _, _, _, rfl, YVr.setO H3.out O3.out (by omega) (by omega), (F3.out.far (p := ⟨w2.heap.size, 0, none⟩) (.inr (by simp; omega)) _).far (p := ⟨w2.heap.size, 1, none⟩) (.inr (by simp; omega)) _⟩
        · skip
          go_simp
          have G1 := Lib.hid (F1.out.more (.cells #[.slice none 0 0, .slice none 0 0] 31)); have H1 := Lib.hid (Has.new w1 [.slice none 0 0, .slice none 0 0] 31)
          have P1 := Lib.hid (O1.out.below ((Below.refl _ _).alloc (Nat.le_refl _) (.cells #[.slice none 0 0, .slice none 0 0] 31)))
          clear c0 c1 c2
          have c0 := G1.out.h0.cell 0 _ rfl; have c1 := G1.out.h0.cell 1 _ rfl; have c2 := G1.out.h0.cell 2 _ rfl
          (try simp only [])
          refine hK _ _ (by refine ⟨?_, ?_, ?_⟩ <;> (first | exact c0 | exact c1 | exact c2)) ?_
          clear hK K
          (try go_frame)
          refine hd_only_l (c := 4) rfl (by decide) (by kernel_rfl) (fun K hK => ?_)
          go_simp
          go_at_call 14
          refine (aw_touch4 _ _ _ _ _ (P1.out.ycub (fun _ _ _ => trivial))).mono ?_
          rintro e w2 hr
          obtain ⟨ta2, tc2, pa2, pc2, f21, f22, rfl, ho, hb⟩ := YRet.fix hr aw_st1.len aw_st1.olen
          have s2 := hb.size
          (try simp only [World.size_alloc] at s2)
          have F2 := Lib.hid (Fm.call hb G1.out)
          have O2 := Lib.hid ho
          (try simp only [World.size_alloc] at O2)
          have H2 := Lib.hid (H1.out.below hb (H1.out.lt (by simp)))
          have d2 : w1.heap.size < w2.heap.size := by have := H2.out.lt (by simp); omega
          clear c0 c1 c2 hr ho hb
          have c0 := F2.out.h0.cell 0 _ rfl; have c1 := F2.out.h0.cell 1 _ rfl; have c2 := F2.out.h0.cell 2 _ rfl
          (try simp only [])
          refine hK _ _ (by refine ⟨?_, ?_, ?_⟩ <;> (first | exact c0 | exact c1 | exact c2)) ?_
          clear hK K
          (try go_frame)
          refine hd_only_l (c := 5) rfl (by decide) (by kernel_rfl) (fun K hK => ?_)
          go_simp
          go_at_call 14
          refine (aw_touch6 _ _ _ _ _ (O2.out.ycub (fun _ _ _ => trivial))).mono ?_
          rintro e w3 hr
          obtain ⟨ta3, tc3, pa3, pc3, f31, f32, rfl, ho, hb⟩ := YRet.fix hr aw_st2.len aw_st2.olen
          have s3 := hb.size
          (try simp only [World.size_alloc] at s3)
          have F3 := Lib.hid (Fm.call hb F2.out)
          have O3 := Lib.hid ho
          (try simp only [World.size_alloc] at O3)
          have H3 := Lib.hid (H2.out.below hb (H2.out.lt (by simp)))
          have d3 : w1.heap.size < w3.heap.size := by have := H3.out.lt (by simp); omega
          clear c0 c1 c2 hr ho hb
          have c0 := F3.out.h0.cell 0 _ rfl; have c1 := F3.out.h0.cell 1 _ rfl; have c2 := F3.out.h0.cell 2 _ rfl
          (try simp only [])
          refine hK _ _ (by refine ⟨?_, ?_, ?_⟩ <;> (first | exact c0 | exact c1 | exact c2)) ?_
          clear hK K
          (try go_frame)
          have h0 := H3.out.cell 0 _ rfl; have h1 := H3.out.cell 1 _ rfl; have hf := H3.out.free; have hl := H3.out.lt (by simp)
          clear ok c0 c1 c2
          refine hd_done (by kernel_rfl) ?_
          simp only [List.drop_succ_cons, List.drop_zero]
          go_wp2_with fail
          go_meet
          exact ⟨w1.heap.size, _, _, _, _, _, _, rfl, YVr.setO H3.out O3.out (by omega) (by omega), (F3.out.far (p := ⟨w1.heap.size, 0, none⟩) (.inr (by simp; omega)) _).far (p := ⟨w1.heap.size, 1, none⟩) (.inr (by simp; omega)) _⟩
      · skip
        go_simp
        have G0 := Lib.hid (F0.out.more (.cells #[.slice none 0 0, .slice none 0 0] 31)).drew; have H0 := Lib.hid (Has.new wv [.slice none 0 0, .slice none 0 0] 31).drew
        clear c0 c1 c2
        have c0 := G0.out.h0.cell 0 _ rfl; have c1 := G0.out.h0.cell 1 _ rfl; have c2 := G0.out.h0.cell 2 _ rfl
        (try simp only [])
        refine hK _ _ (by refine ⟨?_, ?_, ?_⟩ <;> (first | exact c0 | exact c1 | exact c2)) ?_
        clear hK K
        (try go_frame)
        refine hd_only_l (c := 3) rfl (by decide) (by kernel_rfl) (fun K hK => ?_)
        go_simp
        go_at_call 13
        refine (ytop_any 1 2 1 awK _).mono ?_
        rintro e w1 hr
        obtain ⟨ta1, tc1, pa1, pc1, f11, f12, rfl, ho, hb⟩ := YRet.fix hr (topS_len 1 2) (topO_len 1)
        have s1 := hb.size
        (try simp only [World.size_drew, World.size_alloc] at s1)
        have F1 := Lib.hid (Fm.call hb G0.out)
        have O1 := Lib.hid ho
        (try simp only [World.size_drew, World.size_alloc] at O1)
        have H1 := Lib.hid (H0.out.below hb (H0.out.lt (by simp)))
        have d1 : wv.heap.size < w1.heap.size := by have := H1.out.lt (by simp); omega
        clear c0 c1 c2 hr ho hb
        have c0 := F1.out.h0.cell 0 _ rfl; have c1 := F1.out.h0.cell 1 _ rfl; have c2 := F1.out.h0.cell 2 _ rfl
        (try simp only [])
        refine hK _ _ (by refine ⟨?_, ?_, ?_⟩ <;> (first | exact c0 | exact c1 | exact c2)) ?_
        clear hK K
        (try go_frame)
        refine hd_only_l (c := 4) rfl (by decide) (by kernel_rfl) (fun K hK => ?_)
        go_simp
        go_at_call 14
        refine (aw_touch4 _ _ _ _ _ (O1.out.ycub (fun _ _ _ => trivial))).mono ?_
        rintro e w2 hr
        obtain ⟨ta2, tc2, pa2, pc2, f21, f22, rfl, ho, hb⟩ := YRet.fix hr aw_st1.len aw_st1.olen
        have s2 := hb.size
        (try simp only [World.size_drew, World.size_alloc] at s2)
        have F2 := Lib.hid (Fm.call hb F1.out)
        have O2 := Lib.hid ho
        (try simp only [World.size_drew, World.size_alloc] at O2)
        have H2 := Lib.hid (H1.out.below hb (H1.out.lt (by simp)))
        have d2 : wv.heap.size < w2.heap.size := by have := H2.out.lt (by simp); omega
        clear c0 c1 c2 hr ho hb
        have c0 := F2.out.h0.cell 0 _ rfl; have c1 := F2.out.h0.cell 1 _ rfl; have c2 := F2.out.h0.cell 2 _ rfl
        (try simp only [])
        refine hK _ _ (by refine ⟨?_, ?_, ?_⟩ <;> (first | exact c0 | exact c1 | exact c2)) ?_
        clear hK K
        (try go_frame)
        refine hd_only_l (c := 5) rfl (by decide) (by kernel_rfl) (fun K hK => ?_)
        go_simp
        go_at_call 14
        refine (aw_touch6 _ _ _ _ _ (O2.out.ycub (fun _ _ _ => trivial))).mono ?_
        rintro e w3 hr
        obtain ⟨ta3, tc3, pa3, pc3, f31, f32, rfl, ho, hb⟩ := YRet.fix hr aw_st2.len aw_st2.olen
        have s3 := hb.size
        (try simp only [World.size_drew, World.size_alloc] at s3)
        have F3 := Lib.hid (Fm.call hb F2.out)
        have O3 := Lib.hid ho
        (try simp only [World.size_drew, World.size_alloc] at O3)
        have H3 := Lib.hid (H2.out.below hb (H2.out.lt (by simp)))
        have d3 : wv.heap.size < w3.heap.size := by have := H3.out.lt (by simp); omega
        clear c0 c1 c2 hr ho hb
        have c0 := F3.out.h0.cell 0 _ rfl; have c1 := F3.out.h0.cell 1 _ rfl; have c2 := F3.out.h0.cell 2 _ rfl
        (try simp only [])
        refine hK _ _ (by refine ⟨?_, ?_, ?_⟩ <;> (first | exact c0 | exact c1 | exact c2)) ?_
        clear hK K
        (try go_frame)
        have h0 := H3.out.cell 0 _ rfl; have h1 := H3.out.cell 1 _ rfl; have hf := H3.out.free; have hl := H3.out.lt (by simp)
        clear ok c0 c1 c2
        refine hd_done (by kernel_rfl) ?_
        simp only [List.drop_succ_cons, List.drop_zero]
        go_wp2_with fail
        go_meet
        exact ⟨wv.heap.size, _, _, _, _, _, _, rfl, YVr.setO H3.out O3.out (by omega) (by omega), (F3.out.far (p := ⟨wv.heap.size, 0, none⟩) (.inr (by simp; omega)) _).far (p := ⟨wv.heap.size, 1, none⟩) (.inr (by simp; omega)) _⟩
  case rest =>
    obtain ⟨ob, f1, f2, na, nc, no, noc, rfl, hV, hF⟩ := hcut
    have F5 := Lib.hid hF; have V5 := Lib.hid hV
    clear hF hV c0 c1 c2 F0 F1
    have c0 := F5.out.h0.cell 0 _ rfl; have c1 := F5.out.h0.cell 1 _ rfl; have c2 := F5.out.h0.cell 2 _ rfl; have lc := F5.out.h0.lt (by simp)
    have x0 := V5.out.has.cell 0 _ rfl; have x1 := V5.out.has.cell 1 _ rfl; have lx := V5.out.lt
    go_wp2_with fail
    refine (aw_age 6 0 (by decide) (by decide) (by decide) _ _ _ _ _ (V5.out.own.ycub (fun _ _ _ => trivial))).mono ?_
    rintro e w6 ⟨rfl, hb⟩
    have F6 := Lib.hid (Fm.call hb F5.out)
    have V6 := Lib.hid (V5.out.below hb)
    clear hb c0 c1 c2 x0 x1 lc lx
    have c0 := F6.out.h0.cell 0 _ rfl; have c1 := F6.out.h0.cell 1 _ rfl; have c2 := F6.out.h0.cell 2 _ rfl; have lc := F6.out.h0.lt (by simp)
    have x0 := V6.out.has.cell 0 _ rfl; have x1 := V6.out.has.cell 1 _ rfl; have lx := V6.out.lt
    go_wp2_with fail
    refine (aw_age 4 1 (by decide) (by decide) (by decide) _ _ _ _ _ (V6.out.own.ycub (fun _ _ _ => trivial))).mono ?_
    rintro e w7 ⟨rfl, hb⟩
    have F7 := Lib.hid (Fm.call hb F6.out)
    have V7 := Lib.hid (V6.out.below hb)
    clear hb c0 c1 c2 x0 x1 lc lx
    have c0 := F7.out.h0.cell 0 _ rfl; have c1 := F7.out.h0.cell 1 _ rfl; have c2 := F7.out.h0.cell 2 _ rfl; have lc := F7.out.h0.lt (by simp)
    have x0 := V7.out.has.cell 0 _ rfl; have x1 := V7.out.has.cell 1 _ rfl; have lx := V7.out.lt
    go_wp2_with fail
    refine (aw_age 8 2 (by decide) (by decide) (by decide) _ _ _ _ _ (V7.out.own.ycub (fun _ _ _ => trivial))).mono ?_
    rintro e w8 ⟨rfl, hb⟩
    have F8 := Lib.hid (Fm.call hb F7.out)
    have V8 := Lib.hid (V7.out.below hb)
    clear hb c0 c1 c2 x0 x1 lc lx
    have c0 := F8.out.h0.cell 0 _ rfl; have c1 := F8.out.h0.cell 1 _ rfl; have c2 := F8.out.h0.cell 2 _ rfl; have lc := F8.out.h0.lt (by simp)
    have x0 := V8.out.has.cell 0 _ rfl; have x1 := V8.out.has.cell 1 _ rfl; have lx := V8.out.lt
    obtain ⟨tb, tf, z, rfl, hz, hcz, _, _, _, _⟩ := Ints.get (V8.out.own.ycub (K := fun _ => True) (fun _ _ _ => trivial)).ints (show 0 < 1 by decide)
    obtain rfl : 2 = z := by have e : awO2[0]? = some 2 := (by decide); rw [e] at hz; exact Option.some.inj hz
    rw [Nat.add_zero] at hcz
    clear hz
    go_wp2
    go_ret
    exact ⟨ret_b (by decide), F8.out.below⟩
end Go.Proofs.Ytlpelpjcbclemaa
