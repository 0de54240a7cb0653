/-
  timeboundlaw24.awake: the chapter's example is as it says.
-/
import Derived.Test.YtikhbijobkkhgaaMuU
import Derived.Test.YtikhbijobkkhgaaMuX
namespace Go.Proofs.Ytikhbijobkkhgaa
open Go.RowKit

/-- A variable of a state, in memory of the call's own. -/
def SCell (S B : Nat) (s : Value) (X : List (List (List Int))) (wx : World) : Prop := ∃ ob oa oc, s = .pointer (some ⟨ob, 0, none⟩) ∧ Has wx ob [.slice oa S oc] ∧ OCub wx (fun i => B ≤ i ∧ i ≠ ob) (.slice oa S oc) X ∧ B ≤ ob
theorem SCell.below {S B : Nat} {s : Value} {X : List (List (List Int))} {w w' : World} (hb : Below w.heap.size w w') (h : SCell S B s X w) : SCell S B s X w' := by
  obtain ⟨ob, oa, oc, rfl, hX, hO, hB⟩ := h
  exact ⟨ob, oa, oc, rfl, hX.below hb (hX.lt (by simp)), OCub.loc.below hO hb, hB⟩
theorem SCell.drew {S B : Nat} {s : Value} {X : List (List (List Int))} {w : World} (h : SCell S B s X w) : SCell S B s X w.drew := h.below (Below.refl _ _).drew
theorem SCell.more {S B : Nat} {s : Value} {X : List (List (List Int))} {w : World} (o : Obj) (h : SCell S B s X w) : SCell S B s X (w.alloc o) := h.below ((Below.refl _ _).alloc (Nat.le_refl _) _)

theorem awake_m1 : touchM 1 2 (topS 1 2) 4 = [[[4], []]] := by decide
theorem awake_m2 : touchM 1 2 [[[4], []]] 6 = [[[6], [4]]] := by decide
theorem awake_st0 : MSt [4, 6] 1 2 (topS 1 2) := top_st _ _ _
theorem awake_st1 : MSt [4, 6] 1 2 [[[4], []]] := awake_m1 ▸ touch_st awake_st0 (by decide) (by decide) (by decide) (by decide)
theorem awake_st2 : MSt [4, 6] 1 2 [[[6], [4]]] := awake_m2 ▸ touch_st awake_st1 (by decide) (by decide) (by decide) (by decide)
theorem awake_a6 : ageN 1 2 [[[6], [4]]] 6 = 0 := by decide
theorem awake_a4 : ageN 1 2 [[[6], [4]]] 4 = 1 := by decide
theorem awake_a8 : ageN 1 2 [[[6], [4]]] 8 = 2 := by decide

set_option maxHeartbeats 4000000 in
theorem awake_any (w : World) : Calls Try.prog 17 #[] w fun e w' => e = .returned (.bool true) ∧ Below w.heap.size w w' := by
  have C := Lib.hid (show COk (1 : Nat) (2 : Nat) (1 : Nat) from ⟨by decide, by decide, by decide, by decide, by decide, by decide⟩)
  have TP : Hid (∀ w, Calls Try.prog 25 #[.agg #[.int .i64 1, .int .i64 2, .int .i64 1]] w (StRet (topS 1 2) w)) := Lib.hid (fun w => mtop_any 1 2 1 C.out w)
  have T1 : Hid (∀ a cap (w : World), Cube (fun _ => True) w a 1 cap (topS 1 2) → Calls Try.prog 19 #[.agg #[.int .i64 1, .int .i64 2, .int .i64 1], .agg #[.slice a 1 cap], .int .i64 4] w (StRet [[[4], []]] w)) := Lib.hid (fun a cap w r => awake_m1 ▸ touch_any [4, 6] (by decide) 1 2 1 C.out (topS 1 2) awake_st0 (fun _ => True) a 1 cap 4 (by decide) (by decide) (by decide) w r)
  have T2 : Hid (∀ a cap (w : World), Cube (fun _ => True) w a 1 cap [[[4], []]] → Calls Try.prog 19 #[.agg #[.int .i64 1, .int .i64 2, .int .i64 1], .agg #[.slice a 1 cap], .int .i64 6] w (StRet [[[6], [4]]] w)) := Lib.hid (fun a cap w r => awake_m2 ▸ touch_any [4, 6] (by decide) 1 2 1 C.out [[[4], []]] awake_st1 (fun _ => True) a 1 cap 6 (by decide) (by decide) (by decide) w r)
  have A6 : Hid (∀ a cap (w : World), Cube (fun _ => True) w a 1 cap [[[6], [4]]] → Calls Try.prog 20 #[.agg #[.int .i64 1, .int .i64 2, .int .i64 1], .agg #[.slice a 1 cap], .int .i64 6] w (IntBelow 0 w)) := Lib.hid (fun a cap w r => (age_any 1 2 1 C.out [[[6], [4]]] awake_st2 (fun _ => True) a 1 cap 6 (by decide) (by decide) w r).mono (fun e w' h => ⟨by rw [h.1, awake_a6]; rfl, h.2⟩))
  have A4 : Hid (∀ a cap (w : World), Cube (fun _ => True) w a 1 cap [[[6], [4]]] → Calls Try.prog 20 #[.agg #[.int .i64 1, .int .i64 2, .int .i64 1], .agg #[.slice a 1 cap], .int .i64 4] w (IntBelow 1 w)) := Lib.hid (fun a cap w r => (age_any 1 2 1 C.out [[[6], [4]]] awake_st2 (fun _ => True) a 1 cap 4 (by decide) (by decide) w r).mono (fun e w' h => ⟨by rw [h.1, awake_a4]; rfl, h.2⟩))
  have A8 : Hid (∀ a cap (w : World), Cube (fun _ => True) w a 1 cap [[[6], [4]]] → Calls Try.prog 20 #[.agg #[.int .i64 1, .int .i64 2, .int .i64 1], .agg #[.slice a 1 cap], .int .i64 8] w (IntBelow 2 w)) := Lib.hid (fun a cap w r => (age_any 1 2 1 C.out [[[6], [4]]] awake_st2 (fun _ => True) a 1 cap 8 (by decide) (by decide) w r).mono (fun e w' h => ⟨by rw [h.1, awake_a8]; rfl, h.2⟩))
  have VA : Hid (∀ a cap (w : World), Cube (fun _ => True) w a 1 cap [[[6], [4]]] → Calls Try.prog 15 #[.agg #[.int .i64 1, .int .i64 2, .int .i64 1], .agg #[.slice a 1 cap]] w (BoolRet (ValidM 1 2 [[[6], [4]]]) w)) := Lib.hid (fun a cap w r => mvalid_any 1 2 1 C.out (fun _ => True) a 1 cap _ w r)
  have F0 := Lib.hid (Fm.new (Fm.start Non w) rfl [.int .i64 1, .int .i64 2, .int .i64 1] 26)
  go_enter Try.func17, Try.ntmps17
  go_upto_region 2 with fail
  obtain ⟨w0, hw0⟩ : ∃ w0, w0 = w.alloc (.cells #[.int .i64 1, .int .i64 2, .int .i64 1] 26) := ⟨_, rfl⟩
  have F1 := Lib.hid (show Fm Non w w0 [[.int .i64 1, .int .i64 2, .int .i64 1]] from by rw [hw0]; exact F0.out)
  have hs0 : w0.heap.size = w.heap.size + 1 := by rw [hw0]; simp
  rw [← hw0]
  clear hw0 F0
  have c0 := F1.out.h0.cell 0 _ rfl; have c1 := F1.out.h0.cell 1 _ rfl; have c2 := F1.out.h0.cell 2 _ rfl
  have HS0 := Lib.hid hs0
  go_cut [2] (fun s2 wx => SCell 1 (w.heap.size + 1) s2 [[[6], [4]]] wx ∧ Fm Non w wx [[.int .i64 1, .int .i64 2, .int .i64 1]])
  case first =>
    have k0 : w.heap.size < w0.heap.size := by omega
    clear hs0
    go_region_held3 (fun w' => w'.cell? ⟨w.heap.size, 0, none⟩ = some (.int .i64 1) ∧ w'.cell? ⟨w.heap.size, 1, none⟩ = some (.int .i64 2) ∧ w'.cell? ⟨w.heap.size, 2, none⟩ = some (.int .i64 1)) (((try dsimp only); (try go_split_ands); (repeat' apply And.intro); all_goals (repeat (first | assumption | (refine cell_later hb5 ?_) | (refine cell_later hb4 ?_) | (refine cell_later hb3 ?_) | (refine cell_alloc (by first | assumption | omega | (simp; omega)) ?_) | (refine cell_set (by omega) ?_) | (refine cell_drew ?_)))))
      (first
        | (go_at_call 25; ((with_reducible refine (TP.out _).mono ?_); rintro e w3 h3; obtain ⟨oa3, oc3, rfl, ho3, hb3⟩ := StRet.fix h3 (S := 1) rfl; have s3 := hb3.size; (try simp only [World.size_alloc, World.size_drew] at s3); have l3 : w.heap.size < w3.heap.size := (by omega)))
        | (go_at_call 19; ((with_reducible refine (T1.out _ _ _ (by first | exact ho3.cubeT | exact (OCub.k_alloc ho3).cubeT)).mono ?_); rintro e w4 h4; obtain ⟨oa4, oc4, rfl, ho4, hb4⟩ := StRet.fix h4 (S := 1) rfl; have s4 := hb4.size; (try simp only [World.size_alloc] at s4); have l4 : w.heap.size < w4.heap.size := (by omega)))
        | (go_at_call 19; ((with_reducible refine (T2.out _ _ _ (by first | exact ho4.cubeT | exact (OCub.k_alloc ho4).cubeT)).mono ?_); rintro e w5 h5; obtain ⟨oa5, oc5, rfl, ho5, hb5⟩ := StRet.fix h5 (S := 1) rfl; have s5 := hb5.size; (try simp only [World.size_alloc] at s5); have l5 : w.heap.size < w5.heap.size := (by omega); (try (have x50 : Has w5 w0.heap.size [.slice none 0 0] := (by with_reducible refine Has.k_below hb5 (by first | omega | (simp; done) | (simp; omega)) (Has.k_below hb4 (by first | omega | (simp; done) | (simp; omega)) (Has.k_below hb3 (by first | omega | (simp; done) | (simp; omega)) (Has.drew (Has.k_new rfl))))); have x50c := x50.cell 0 _ rfl; have x50f := x50.free; have x50l := x50.lt (by simp))); (try (have x51 : Has w5 w3.heap.size [.slice none 0 0] := (by with_reducible refine Has.k_below hb5 (by first | omega | (simp; done) | (simp; omega)) (Has.k_below hb4 (by first | omega | (simp; done) | (simp; omega)) (Has.k_new rfl))); have x51c := x51.cell 0 _ rfl; have x51f := x51.free; have x51l := x51.lt (by simp))); (try (have x52 : Has w5 w4.heap.size [.slice none 0 0] := (by with_reducible refine Has.k_below hb5 (by first | omega | (simp; done) | (simp; omega)) (Has.k_new rfl)); have x52c := x52.cell 0 _ rfl; have x52f := x52.free; have x52l := x52.lt (by simp))); (try (have x53 := Has.new w5 [.slice none 0 0] 30; have x53c := x53.cell 0 _ rfl; have x53f := x53.free; have x53l := x53.lt (by simp))))))
    all_goals
      have hs0 := HS0.out
      have F3 := Lib.hid (show Fm Non w w3 [[.int .i64 1, .int .i64 2, .int .i64 1]] from by first | exact Fm.call hb3 F1.out.drew | exact Fm.call hb3 (F1.out.more _).drew)
      have F4 := Lib.hid (show Fm Non w w4 [[.int .i64 1, .int .i64 2, .int .i64 1]] from by first | exact Fm.call hb4 F3.out | exact Fm.call hb4 (F3.out.more _))
      have F5 := Lib.hid (show Fm Non w w5 [[.int .i64 1, .int .i64 2, .int .i64 1]] from by first | exact Fm.call hb5 F4.out | exact Fm.call hb5 (F4.out.more _))
      have O5 := Lib.hid ho5
      clear c0 c1 c2 ho5 ho4 ho3 h3 h4 h5
      go_wp2_with fail
      go_meet
      refine ⟨⟨_, oa5, oc5, rfl, ?_, ?_, ?_⟩, ?_⟩
      · first | exact Has.k_set0 x50 | exact Has.k_set0 x51 | exact Has.k_set0 x52 | exact Has.new w5 [.slice oa5 1 oc5] 30
      · first
          | exact OwnRow.wid _ _ _ _ _ _ (fun i hi => by have h1 := hi.1; have h2 := hi.2; (try simp only [World.size_alloc] at h1); constructor <;> omega) (OCub.k_set (fun i hi e => by have h1 := hi.1; (try simp only [World.size_alloc] at h1); omega) O5.out.bt1)
          | exact OwnRow.wid _ _ _ _ _ _ (fun i hi => by have h1 := hi.1; have h2 := hi.2; (try simp only [World.size_alloc, World.size_drew] at h1); constructor <;> omega) (OCub.k_alloc O5.out.bt1)
      · first | omega | (simp; omega)
      · repeat (first | (with_reducible exact F5.out) | (with_reducible refine Fm.more ?_ _) | (refine Fm.far ?_ (.inr (by simp; omega)) _))
  case rest =>
    obtain ⟨⟨ob, oa, oc, rfl, hX, hO, hob⟩, hF⟩ := hcut
    have F2 := Lib.hid hF; have X2 := Lib.hid hX; have O2 := Lib.hid hO
    clear hF hX hO c0 c1 c2 F1 HS0 hs0
    have c0 := F2.out.h0.cell 0 _ rfl; have c1 := F2.out.h0.cell 1 _ rfl; have c2 := F2.out.h0.cell 2 _ rfl; have lt0 := F2.out.h0.lt (by simp); have x0 := X2.out.cell 0 _ rfl; have x1 := X2.out.lt (by simp)
    go_wp2_with fail
    refine (A6.out _ _ _ O2.out.cubeT).mono ?_
    rintro e w3 ⟨rfl, hb3⟩
    have F3 := Lib.hid (Fm.call hb3 F2.out); have X3 := Lib.hid (X2.out.below hb3 x1); have O3 := Lib.hid (OCub.loc.below O2.out hb3)
    clear hb3 c0 c1 c2 lt0 x0 x1
    have c0 := F3.out.h0.cell 0 _ rfl; have c1 := F3.out.h0.cell 1 _ rfl; have c2 := F3.out.h0.cell 2 _ rfl; have lt0 := F3.out.h0.lt (by simp); have x0 := X3.out.cell 0 _ rfl; have x1 := X3.out.lt (by simp)
    go_wp2_with fail
    refine (A4.out _ _ _ O3.out.cubeT).mono ?_
    rintro e w4 ⟨rfl, hb4⟩
    have F4 := Lib.hid (Fm.call hb4 F3.out); have X4 := Lib.hid (X3.out.below hb4 x1); have O4 := Lib.hid (OCub.loc.below O3.out hb4)
    clear hb4 c0 c1 c2 lt0 x0 x1
    have c0 := F4.out.h0.cell 0 _ rfl; have c1 := F4.out.h0.cell 1 _ rfl; have c2 := F4.out.h0.cell 2 _ rfl; have lt0 := F4.out.h0.lt (by simp); have x0 := X4.out.cell 0 _ rfl; have x1 := X4.out.lt (by simp)
    go_wp2_with fail
    refine (A8.out _ _ _ O4.out.cubeT).mono ?_
    rintro e w5 ⟨rfl, hb5⟩
    have F5 := Lib.hid (Fm.call hb5 F4.out); have X5 := Lib.hid (X4.out.below hb5 x1); have O5 := Lib.hid (OCub.loc.below O4.out hb5)
    clear hb5 c0 c1 c2 lt0 x0 x1
    have c0 := F5.out.h0.cell 0 _ rfl; have c1 := F5.out.h0.cell 1 _ rfl; have c2 := F5.out.h0.cell 2 _ rfl; have lt0 := F5.out.h0.lt (by simp); have x0 := X5.out.cell 0 _ rfl; have x1 := X5.out.lt (by simp)
    go_wp2_with fail
    refine (VA.out _ _ _ O5.out.cubeT).mono ?_
    rintro e w6 ⟨b, rfl, hbv, hb6⟩
    obtain rfl : b = true := hbv.2 awake_st2.valid
    go_wp2
    go_ret
    exact ⟨rfl, (Fm.call hb6 F5.out).below⟩
end Go.Proofs.Ytikhbijobkkhgaa
