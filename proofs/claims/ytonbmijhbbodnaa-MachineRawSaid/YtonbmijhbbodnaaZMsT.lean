/-
  machine.Begin of the sanity check's image.
  machine.Run of the sanity check's image.
-/
import Derived.Deep.DeepCutAuto
import Derived.Deep.RegionHeld3
import Derived.Test.YtonbmijhbbodnaaZMsP
import Derived.Test.YtonbmijhbbodnaaZHeadi
namespace Go.Proofs.Ytonbmijhbbodnaa
open Go.RowKit

/-- The sanity check's image. -/
def exImg : Img := ⟨[IEN], 0, [[⟨0, 1, [], []⟩]]⟩
theorem ex_chk : UnitsOk exImg.code exImg.data 0 exImg.units := by
  refine ⟨⟨by simp, by simp, ⟨rfl, by decide, by decide, trivial⟩, fun k x hx => ?_, by decide⟩, (show endOf 0 [⟨0, 1, [], []⟩] = (1 : Int) from by decide)⟩
  match k, hx with
  | 0, hx =>
    cases hx
    refine ⟨fun i hi => .inl (by simp at hi ⊢; omega), by decide, fun i a p _ ha => by simp at ha, by decide, by decide⟩
abbrev Core0 (q0 q1 q2 : Nat) : List Value := CoCells (some ⟨q0, 0, none⟩) 8 8 (some ⟨q1, 0, none⟩) 0 0 (some ⟨q2, 0, none⟩) 4 4 0 false
set_option maxRecDepth 100000 in
set_option maxHeartbeats 16000000 in
theorem begin_one (K : Nat → Prop) (ca : Option Addr) (cn cc : Nat) (D : Int) (ua : Option Addr) (un uc : Nat) (w : World) (h : IsImg K w ca cn cc D ua un uc exImg) :
    Calls Try.prog 58 #[MV ca cn cc D ua un uc, .int .i64 0, NIL, NIL] w fun e w' => ∃ q0 q1 q2, e = .returned (.tuple #[.agg #[.slice (some ⟨q0, 0, none⟩) 8 8, .slice (some ⟨q1, 0, none⟩) 0 0, .slice (some ⟨q2, 0, none⟩) 4 4, .int .i64 0, .bool false], .int .i64 0]) ∧ Below w.heap.size w w' := by
  have hD : D = 0 := h.data
  subst hD
  obtain rfl : un = 1 := h.units.hlen.symm
  have F0 := Lib.hid (Fm.new (Fm.new (Fm.start Non w) rfl (MCells ca cn cc 0 ua 1 uc) 31) (by simp) ZC 36)
  have H := Lib.hid h
  obtain ⟨ub, uo, u, s, na, nl, nc, rfl, hu, _, lub, hn, hcs⟩ := UnL.get h.units (i := 0) (by omega)
  cases hu
  obtain rfl : nl = 1 := hn.hlen.symm
  have g0 := hcs 0 _ rfl; have g1 := hcs 1 _ rfl; have g2 := hcs 2 _ rfl; have g3 := hcs 3 _ rfl; have g4 := hcs 4 _ rfl; have g5 := hcs 5 _ rfl; have g6 := hcs 6 _ rfl; have g7 := hcs 7 _ rfl; have g8 := hcs 8 _ rfl; have g9 := hcs 9 _ rfl
  simp only [Nat.zero_mul, Nat.add_zero] at g0 g1 g2 g3 g4 g5 g6 g7 g8 g9
  have HN := Lib.hid hn
  have HU := Lib.hid (show ∀ w' : World, Below w.heap.size w w' → ∀ j v, (UCells s na 1 nc)[j]? = some v → w'.cell? ⟨ub, uo + j, none⟩ = some v from fun w' hb j v hj => by
    have := hcs j v hj
    simp only [Nat.zero_mul, Nat.add_zero] at this
    exact (hb.cell (p := ⟨ub, uo + j, none⟩) lub).trans this)
  clear h hn hcs g0 g1 g2 g3 g4 g5 g6 g7 g8 g9
  go_enter Try.func58, Try.ntmps58
  go_upto_region 1 with fail
  obtain ⟨w1, hw1⟩ : ∃ w1, w1 = (w.alloc (.cells #[.slice ca cn cc, .int .i64 0, NIL, .slice (some ⟨ub, uo, none⟩) 1 uc] 31)).alloc (.cells #[NIL, NIL, NIL, .int .i64 0, .bool false] 36) := ⟨_, rfl⟩
  rw [← hw1]
  have F1 := Lib.hid (show Fm Non w w1 [MCells ca cn cc 0 (some ⟨ub, uo, none⟩) 1 uc, ZC] by rw [hw1]; exact F0.out)
  clear hw1 F0
  have m0 := F1.out.h0.cell 0 _ rfl; have m1 := F1.out.h0.cell 1 _ rfl; have m2 := F1.out.h0.cell 2 _ rfl; have m3 := F1.out.h0.cell 3 _ rfl
  go_wp2_with fail
  refine (mcheckM_any K ca cn cc 0 _ 1 uc exImg w1 (H.out.below F1.out.below) (by unfold Limit exImg; simp) (by intro x hx; simp [exImg] at hx; subst hx; decide) (by decide) (.inl ex_chk)).mono ?_
  rintro _ w2 ⟨r, rfl, hr, hck, hb⟩
  obtain rfl : r = 0 := by
    rcases hr with h | h
    · exact h
    · exact absurd (hck.same (.ok (by unfold Limit exImg; simp) (by intro x hx; simp [exImg] at hx; subst hx; decide) (by decide) ex_chk)) (by omega)
  have F2 := Lib.hid (Fm.call hb F1.out)
  clear hb hr hck m0 m1 m2 m3 F1
  have m2 := F2.out.h0.cell 2 _ rfl; have m3 := F2.out.h0.cell 3 _ rfl
  have G := HU.out w2 F2.out.below
  have g0 := G 0 _ rfl; have g1 := G 1 _ rfl; have g2 := G 2 _ rfl; have g3 := G 3 _ rfl; have g4 := G 4 _ rfl; have g5 := G 5 _ rfl; have g6 := G 6 _ rfl; have g7 := G 7 _ rfl; have g8 := G 8 _ rfl; have g9 := G 9 _ rfl
  simp only [Nat.add_zero] at g0
  clear G
  go_upto_block 0 with fail
  obtain ⟨w3, hw3⟩ : ∃ w3, w3 = w2.alloc (.cells #[.string s, .slice na 1 nc, .slice none 0 0, .slice none 0 0, .slice none 0 0, .slice none 0 0, .slice none 0 0, .slice none 0 0, .slice none 0 0, .slice none 0 0] 79) := ⟨_, rfl⟩
  rw [← hw3]
  have B3 := Lib.hid (show Below w2.heap.size w2 w3 by rw [hw3]; exact (Below.refl _ _).alloc (Nat.le_refl _) _)
  have U3 := Lib.hid (show Has w3 w2.heap.size (UCells s na 1 nc) by rw [hw3]; exact Has.new w2 (UCells s na 1 nc) 79)
  have F3 := Lib.hid (Fm.call B3.out F2.out)
  have PU := Lib.hid (show w.heap.size + 2 ≤ w2.heap.size by have := F2.out.size; simpa using this)
  clear hw3 B3 m2 m3 g0 g1 g2 g3 g4 g5 g6 g7 g8 g9 F2
  generalize w2.heap.size = pu at U3 PU ⊢
  go_wp2
  refine wp_loop_rounds 1 ?_
  rw [rounds_succ]
  have m2 := F3.out.h0.cell 2 _ rfl
  go_wp2_with fail
  refine (filled_nil w3).mono ?_
  rintro _ w4 ⟨rfl, hw⟩
  subst hw
  have m0 := F3.out.h0.cell 0 _ rfl; have m1 := F3.out.h0.cell 1 _ rfl; have m3 := F3.out.h0.cell 3 _ rfl
  have g0 := U3.out.cell 0 _ rfl; have g1 := U3.out.cell 1 _ rfl; have g2 := U3.out.cell 2 _ rfl; have g3 := U3.out.cell 3 _ rfl; have g4 := U3.out.cell 4 _ rfl; have g5 := U3.out.cell 5 _ rfl; have g6 := U3.out.cell 6 _ rfl; have g7 := U3.out.cell 7 _ rfl; have g8 := U3.out.cell 8 _ rfl; have g9 := U3.out.cell 9 _ rfl
  go_wp2_with fail
  refine (there_one ca cn cc 0 _ 1 uc s na 1 nc _).mono ?_
  rintro _ w5 ⟨rfl, hb⟩
  have F5 := Lib.hid (Fm.call hb F3.out)
  have U5 := Lib.hid (U3.out.below hb (U3.out.lt (by simp)))
  clear hb m0 m1 m2 m3 g0 g1 g2 g3 g4 g5 g6 g7 g8 g9 F3 U3
  obtain ⟨nb, no, x, ya, yl, yc, aa, al, ac, rfl, hx, _, lnb, _, _, d0, _, _, _, _, _⟩ := NdL.get (Row.below RNd.stays HN.out F5.out.below) (i := 0) (by omega)
  cases hx
  dsimp only at d0
  simp only [Nat.zero_mul, Nat.add_zero] at d0
  have m1 := F5.out.h0.cell 1 _ rfl; have g1 := U5.out.cell 1 _ rfl
  have l0 := F5.out.h0.lt (by simp); have lpu := U5.out.lt (by simp)
  go_upto_region 17 with fail
  go_cut [14] (fun s wx => ∃ q0 q1 q2 q4 : Nat, s = .pointer (some ⟨q4, 0, none⟩) ∧ Below w5.heap.size w5 wx ∧ w5.heap.size ≤ q4 ∧ Blk wx q4 36 (Core0 q0 q1 q2))
  case first =>
    as_aux_lemma =>
      have mk8 : ∀ w' : World, (Instr.makeSlice 22 (.int .i64 8) (.int .i64 8)).run Try.prog w' = .ok (.slice (some ⟨w'.heap.size, 0, none⟩) 8 8) (w'.alloc (.cells (zeros (.int .i64 0) 8).toArray 3)) := fun w' => by kernel_rfl
      have mk0 : ∀ w' : World, (Instr.makeSlice 22 (.int .i64 0) (.int .i64 0)).run Try.prog w' = .ok (.slice (some ⟨w'.heap.size, 0, none⟩) 0 0) (w'.alloc (.cells (zeros (.int .i64 0) 0).toArray 3)) := fun w' => by kernel_rfl
      have mkb : ∀ w' : World, (Instr.makeSlice 33 (.int .i64 4) (.int .i64 4)).run Try.prog w' = .ok (.slice (some ⟨w'.heap.size, 0, none⟩) 4 4) (w'.alloc (.cells (zeros (.bool false) 4).toArray 4)) := fun w' => by kernel_rfl
      refine hd_start 12 (fun w' => w'.cell? ⟨w.heap.size, 1, none⟩ = some (.int .i64 0) ∧ w'.cell? ⟨pu, 1, none⟩ = some (.slice (some ⟨nb, no, none⟩) 1 nc) ∧ w'.cell? ⟨nb, no, none⟩ = some (.int .i64 0)) (by kernel_rfl) ⟨by kernel_rfl, by kernel_rfl, by kernel_rfl, by decide⟩ (by refine ⟨m1, g1, d0⟩) (fun ok => ?_)
      refine hd_t 1 ok rfl ?_
      go_frame
      refine hd_t 2 ok rfl ?_
      go_frame
      refine hd_t 5 ok rfl ?_
      go_frame
      refine hd_t 6 ok rfl ?_
      go_frame
      refine hd_t 7 ok rfl ?_
      go_frame
      refine hd_t 8 ok rfl ?_
      go_frame
      refine hd_t 9 ok rfl ?_
      go_frame
      refine hd_inv_p [(85, 0), (88, 3), (89, 4), (95, 10), (14, 11)] (fun _ => undef) (fun b v w' => ∃ q, AJ w5.heap.size w5 (fun i q => match i with | 0 => .slice (some ⟨q, 0, none⟩) 8 8 | 3 => .slice (some ⟨q, 0, none⟩) 0 0 | 4 => .slice (some ⟨q, 0, none⟩) 4 4 | _ => .pointer (some ⟨q, 0, none⟩)) (fun i => match i with | 0 => 3 | 3 => 3 | 4 => 4 | _ => 36) (fun i => match i with | 0 => zeros (.int .i64 0) 8 | 3 => zeros (.int .i64 0) 0 | 4 => zeros (.bool false) 4 | _ => ZC) (fun i => i ≠ 10) b v q w' ∧ (b 10 = true → b 0 = true ∧ b 3 = true ∧ b 4 = true ∧ v 10 = .agg #[v 0, v 3, v 4, .int .i64 0, .bool false])) (.inl ok) ⟨by decide, by decide, by kernel_rfl, rfl⟩ (by kernel_rfl) (by kernel_rfl) (by decide) ⟨fun _ => 0, AJ.start rfl (Below.refl _ _).drew _, fun h => by cases h⟩ ?_ ?_
      · intro i oi hi ho b v a w' hJ hv hr hb hdep hS K hK
        obtain ⟨q, hA, h3⟩ := hJ
        have hAs := hA.size
        obtain ⟨s1, s2, s3⟩ := hS
        have SS : ∀ o : Obj, (w'.alloc o).cell? ⟨w.heap.size, 1, none⟩ = some (.int .i64 0) ∧ (w'.alloc o).cell? ⟨pu, 1, none⟩ = some (.slice (some ⟨nb, no, none⟩) 1 nc) ∧ (w'.alloc o).cell? ⟨nb, no, none⟩ = some (.int .i64 0) := fun o => ⟨cell_alloc (by omega) s1, cell_alloc (by omega) s2, cell_alloc (by omega) s3⟩
        have hi4 : i = 0 ∨ i = 3 ∨ i = 4 ∨ i = 10 ∨ i = 11 := by simpa using hi
        rcases hi4 with rfl | rfl | rfl | rfl | rfl
        · obtain rfl := Option.some.inj ho
          go_simp
          exact hK _ _ (SS _) ⟨_, hA.step hb rfl, fun h => by obtain ⟨g0, g1, g2, g3⟩ := h3 h; rw [hb] at g0; cases g0⟩
        · obtain rfl := Option.some.inj ho
          have e87 : a.tmps[87]?.getD undef = .int .i64 0 := (get_eval a 87).trans (hr 87 (by decide))
          go_simp
          exact hK _ _ (SS _) ⟨_, hA.step hb rfl, fun h => by obtain ⟨g0, g1, g2, g3⟩ := h3 h; rw [hb] at g1; cases g1⟩
        · obtain rfl := Option.some.inj ho
          go_simp
          exact hK _ _ (SS _) ⟨_, hA.step hb rfl, fun h => by obtain ⟨g0, g1, g2, g3⟩ := h3 h; rw [hb] at g2; cases g2⟩
        · obtain rfl := Option.some.inj ho
          have d0 := hdep 0 (by kernel_rfl); have d1 := hdep 3 (by kernel_rfl); have d2 := hdep 4 (by kernel_rfl)
          have p0 : v 0 = .slice (some ⟨q 0, 0, none⟩) 8 8 := (hA.have_ 0 (by decide) d0).1
          have p1 : v 3 = .slice (some ⟨q 3, 0, none⟩) 0 0 := (hA.have_ 3 (by decide) d1).1
          have p2 : v 4 = .slice (some ⟨q 4, 0, none⟩) 4 4 := (hA.have_ 4 (by decide) d2).1
          have e85 : a.tmps[85]?.getD undef = .slice (some ⟨q 0, 0, none⟩) 8 8 := (get_eval a 85).trans ((hv 85 0 (by decide) d0).trans p0)
          have e88 : a.tmps[88]?.getD undef = .slice (some ⟨q 3, 0, none⟩) 0 0 := (get_eval a 88).trans ((hv 88 3 (by decide) d1).trans p1)
          have e89 : a.tmps[89]?.getD undef = .slice (some ⟨q 4, 0, none⟩) 4 4 := (get_eval a 89).trans ((hv 89 4 (by decide) d2).trans p2)
          have e94 : a.tmps[94]?.getD undef = .int .i64 0 := (get_eval a 94).trans (hr 94 (by decide))
          go_simp
          exact hK _ _ ⟨s1, s2, s3⟩ ⟨_, hA.keep (by simp) _, fun _ => ⟨by simpa [setB] using d0, by simpa [setB] using d1, by simpa [setB] using d2, by simp [setV, p0, p1, p2]⟩⟩
        · obtain rfl := Option.some.inj ho
          go_simp
          exact hK _ _ (SS _) ⟨_, hA.step hb rfl, fun h => by
            obtain ⟨g0, g1, g2, g3⟩ := h3 (by simpa [setB] using h)
            exact ⟨by simpa [setB] using g0, by simpa [setB] using g1, by simpa [setB] using g2, by simpa [setV] using g3⟩⟩
      · intro b v w' hall hJ hS
        obtain ⟨q, hA, h3⟩ := hJ
        obtain ⟨g0, g1, g2, g3⟩ := h3 (hall 10 (by decide))
        obtain ⟨p0, B0, l0⟩ := hA.have_ 0 (by decide) g0
        obtain ⟨p1, B1, l1⟩ := hA.have_ 3 (by decide) g1
        obtain ⟨p2, B2, l2⟩ := hA.have_ 4 (by decide) g2
        obtain ⟨p4, B4, l4⟩ := hA.have_ 11 (by decide) (hall 11 (by decide))
        have B4' : Blk w' (q 11) 36 ZC := B4
        have LA := laid_setRow (vs := Core0 (q 0) (q 3) (q 4)) B4'
        have BB := Lib.hid B4'
        have R := Lib.hid (show ∃ q0 q1 q2 q4 : Nat, Value.pointer (some ⟨q 11, 0, none⟩) = .pointer (some ⟨q4, 0, none⟩) ∧ Below w5.heap.size w5 (w'.setRow (q 11) (Core0 (q 0) (q 3) (q 4)).toArray) ∧ w5.heap.size ≤ q4 ∧ Blk (w'.setRow (q 11) (Core0 (q 0) (q 3) (q 4)).toArray) q4 36 (Core0 q0 q1 q2) from
          ⟨q 0, q 3, q 4, q 11, rfl, hA.below.trans (LA.chg.below (fun k hk e => by omega) hA.size), l4, LA.blk⟩)
        rw [p0, p1, p2] at g3
        simp only [putP, p0, p1, p2, p4, g3]
        clear hA h3 g0 g1 g2 g3 p0 p1 p2 p4 B0 B1 B2 B4 B4' l0 l1 l2 l4 hall LA ok hS
        go_frame
        refine hd_done (by kernel_rfl) ?_
        simp only [List.drop_succ_cons, List.drop_zero]
        refine wpList_store_row rfl 36 _ _ rfl (q 11) (Core0 (q 0) (q 3) (q 4)).toArray rfl rfl 36 ZC.toArray BB.out.heap (by kernel_rfl) (by simp) (by simp [Value.oneCell']) ?_
        go_wp2_with fail
        go_meet
        exact R.out
  case rest =>
    obtain ⟨q0, q1, q2, q4, rfl, hB, hge, b4⟩ := hcut
    obtain ⟨w6, hw6⟩ : ∃ w6 : World, w6 = wc := ⟨_, rfl⟩
    rw [← hw6] at hB b4 ⊢
    have F6 := Lib.hid (Fm.call hB F5.out)
    have Q6 := Lib.hid b4.has
    clear hw6 hB hge b4 m1 g1 d0 l0 lpu lnb F5 U5
    go_wp2
    refine wp_loop_rounds 1 ?_
    rw [rounds_succ]
    have m2 := F6.out.h0.cell 2 _ rfl
    go_wp2
    refine wp_loop_rounds 1 ?_
    rw [rounds_succ]
    have x0 := Q6.out.cell 0 _ rfl; have x1 := Q6.out.cell 1 _ rfl; have x2 := Q6.out.cell 2 _ rfl; have x3 := Q6.out.cell 3 _ rfl; have x4 := Q6.out.cell 4 _ rfl
    have z0 := F6.out.h1.cell 0 _ rfl; have z1 := F6.out.h1.cell 1 _ rfl; have z2 := F6.out.h1.cell 2 _ rfl; have z3 := F6.out.h1.cell 3 _ rfl; have z4 := F6.out.h1.cell 4 _ rfl; have zf := F6.out.h1.free
    go_wp2
    refine bodyPost_ret (v := .tuple #[.agg #[.slice (some ⟨q0, 0, none⟩) 8 8, .slice (some ⟨q1, 0, none⟩) 0 0, .slice (some ⟨q2, 0, none⟩) 4 4, .int .i64 0, .bool false], .int .i64 0]) (by simp [results, Try.results58, go_sem, z0, z1, z2, z3, z4]) rfl ⟨q0, q1, q2, rfl, ?_⟩
    repeat (first | with_reducible exact F6.out.below | (with_reducible refine Below.setCell ?_ (by dsimp only; omega) _))

theorem words_nil (q : Nat) (w : World) : Calls Try.prog 61 #[NIL, .pointer (some ⟨q, 0, none⟩)] w fun e w' => e = .returned NIL ∧ w' = w := by
  go_enter Try.func61, Try.ntmps61
  go_wp2
  refine wp_loop_rounds 1 ?_
  rw [rounds_succ]
  go_wp2
  go_ret
  exact ⟨rfl, rfl⟩
abbrev OZ : List Value := [NIL, NIL, NIL, NIL, .int .i64 0]
set_option maxRecDepth 100000 in
set_option maxHeartbeats 16000000 in
theorem run_one (K : Nat → Prop) (ca : Option Addr) (cn cc : Nat) (D : Int) (ua : Option Addr) (un uc : Nat) (w : World) (h : IsImg K w ca cn cc D ua un uc exImg) :
    Calls Try.prog 32 #[MV ca cn cc D ua un uc, .int .i64 0, NIL, NIL, .int .i64 9] w fun e w' => ∃ qk g c, e = .returned (.tuple #[.agg #[NIL, NIL, NIL, .slice (some ⟨qk, 0, none⟩) 1 1, .int .i64 1], .slice (some ⟨g, 0, none⟩) 1 c, .int .i64 0]) ∧ Has w' g (EvCells ⟨0, -1, false⟩) ∧ g < w'.heap.size ∧ Below w.heap.size w w' := by
  have hD : D = 0 := h.data
  subst hD
  obtain rfl : un = 1 := h.units.hlen.symm
  have F0 := Lib.hid (Fm.new (Fm.new (Fm.start Non w) rfl (MCells ca cn cc 0 ua 1 uc) 31) (by simp) OZ 81)
  have H := Lib.hid h
  obtain ⟨ub, uo, u, s, na, nl, nc, rfl, hu, _, lub, hn, hcs⟩ := UnL.get h.units (i := 0) (by omega)
  cases hu
  obtain rfl : nl = 1 := hn.hlen.symm
  have HN := Lib.hid hn
  have HU := Lib.hid (show ∀ w' : World, Below w.heap.size w w' → ∀ j v, (UCells s na 1 nc)[j]? = some v → w'.cell? ⟨ub, uo + j, none⟩ = some v from fun w' hb j v hj => by
    have := hcs j v hj
    simp only [Nat.zero_mul, Nat.add_zero] at this
    exact (hb.cell (p := ⟨ub, uo + j, none⟩) lub).trans this)
  have hcn : cn ≤ 1024 := by have := h.code.hlen; unfold exImg at this; simp at this; omega
  clear h hn hcs
  go_enter Try.func32, Try.ntmps32
  go_upto_region 1 with fail
  obtain ⟨w1, hw1⟩ : ∃ w1, w1 = (w.alloc (.cells #[.slice ca cn cc, .int .i64 0, NIL, .slice (some ⟨ub, uo, none⟩) 1 uc] 31)).alloc (.cells #[NIL, NIL, NIL, NIL, .int .i64 0] 81) := ⟨_, rfl⟩
  rw [← hw1]
  have F1 := Lib.hid (show Fm Non w w1 [MCells ca cn cc 0 (some ⟨ub, uo, none⟩) 1 uc, OZ] by rw [hw1]; exact F0.out)
  clear hw1 F0
  have m0 := F1.out.h0.cell 0 _ rfl; have m1 := F1.out.h0.cell 1 _ rfl; have m2 := F1.out.h0.cell 2 _ rfl; have m3 := F1.out.h0.cell 3 _ rfl
  go_wp2_with fail
  refine (begin_one K ca cn cc 0 _ 1 uc w1 (H.out.below F1.out.below)).mono ?_
  rintro _ w2 ⟨q0, q1, q2, rfl, hb⟩
  have F2 := Lib.hid (Fm.call hb F1.out)
  clear hb m0 m1 m2 m3 F1
  have m3 := F2.out.h0.cell 3 _ rfl
  have lm2 := F2.out.h0.lt (by simp)
  have G := HU.out w2 F2.out.below
  have g0 := G 0 _ rfl; have g1 := G 1 _ rfl; have g2 := G 2 _ rfl; have g3 := G 3 _ rfl; have g4 := G 4 _ rfl; have g5 := G 5 _ rfl; have g6 := G 6 _ rfl; have g7 := G 7 _ rfl; have g8 := G 8 _ rfl; have g9 := G 9 _ rfl
  have lub2 : ub < w2.heap.size := Nat.lt_of_lt_of_le lub F2.out.below.size
  simp only [Nat.add_zero] at g0
  clear G
  go_upto_region 8 with fail
  obtain ⟨w3, hw3⟩ : ∃ w3, w3 = ((w2.alloc (.cells #[.slice (some ⟨q0, 0, none⟩) 8 8, .slice (some ⟨q1, 0, none⟩) 0 0, .slice (some ⟨q2, 0, none⟩) 4 4, .int .i64 0, .bool false] 36)).alloc (.cells #[.string s, .slice na 1 nc, NIL, NIL, NIL, NIL, NIL, NIL, NIL, NIL] 79)).alloc (.cells #[NIL] 82) := ⟨_, rfl⟩
  rw [← hw3]
  obtain ⟨qc, hqc⟩ : ∃ qc, qc = w2.heap.size := ⟨_, rfl⟩
  rw [← hqc]
  have B3 := Lib.hid (show Below w2.heap.size w2 w3 by rw [hw3]; exact (((Below.refl _ _).alloc (Nat.le_refl _) _).alloc (by simp) _).alloc (by simp; omega) _)
  have F3 := Lib.hid (Fm.call B3.out F2.out)
  have Q3 := Lib.hid (show Has w3 qc (CoCells (some ⟨q0, 0, none⟩) 8 8 (some ⟨q1, 0, none⟩) 0 0 (some ⟨q2, 0, none⟩) 4 4 0 false) by rw [hw3, hqc]; exact ((Has.new w2 (CoCells (some ⟨q0, 0, none⟩) 8 8 (some ⟨q1, 0, none⟩) 0 0 (some ⟨q2, 0, none⟩) 4 4 0 false) 36).old (by simp)).old (by simp; omega))
  have U3 := Lib.hid (show Has w3 (qc + 1) (UCells s na 1 nc) by rw [hw3, hqc]; exact ((Has.new (w2.alloc (.cells #[.slice (some ⟨q0, 0, none⟩) 8 8, .slice (some ⟨q1, 0, none⟩) 0 0, .slice (some ⟨q2, 0, none⟩) 4 4, .int .i64 0, .bool false] 36)) (UCells s na 1 nc) 79).at' (by simp)).old (by simp))
  have E3 := Lib.hid (show Has w3 (qc + 1 + 1) [NIL] by rw [hw3, hqc]; exact (Has.new _ [NIL] 82).at' (by simp))
  have LQ := Lib.hid (show w.heap.size + 2 ≤ qc ∧ qc + 3 = w3.heap.size by have := F2.out.size; rw [hw3, hqc]; simp at *; omega)
  clear hw3 hqc B3 m3 g0 g1 g2 g3 g4 g5 g6 g7 g8 g9 F2 lm2 lub2
  have m0 := F3.out.h0.cell 0 _ rfl; have m1 := F3.out.h0.cell 1 _ rfl; have m2 := F3.out.h0.cell 2 _ rfl; have m3 := F3.out.h0.cell 3 _ rfl
  go_wp2_with fail
  refine (each_one K ca cn cc 0 _ 1 uc [IEN] qc (qc + 1 + 1) (some ⟨q0, 0, none⟩) 8 8 (some ⟨q1, 0, none⟩) 0 0 (some ⟨q2, 0, none⟩) 4 4 w3 (H.out.below F3.out.below).code hcn rfl Q3.out E3.out (by omega)).mono ?_
  rintro _ w4 ⟨rfl, ⟨g, c, hpv, hgv, hgl, hgm, hc0, hc1⟩, hq4, hch⟩
  have F4 := Lib.hid (Fm.chgd hch F3.out (fun k hk => .inr (by have := LQ.out; simp; omega)))
  have U4 := Lib.hid (hch.has U3.out (by have := LQ.out; omega) (fun e => by omega))
  have E4 := Lib.hid hpv; have G4 := Lib.hid hgv; have Q4 := Lib.hid hq4
  have LG := Lib.hid (show qc + 3 ≤ g ∧ g < w4.heap.size ∧ w3.heap.size ≤ w4.heap.size from ⟨by have := LQ.out; omega, hgm, hch.size⟩)
  clear hpv hgv hq4 hch hgl hgm m0 m1 m2 m3 F3 Q3 U3 E3
  go_upto_region 11 with fail
  have u1 := U4.out.cell 1 _ rfl; have e0 := E4.out.cell 0 _ rfl
  have lu := U4.out.lt (by simp); have le := E4.out.lt (by simp)
  go_cut [18] (fun s wx => ∃ qo qk : Nat, s = .pointer (some ⟨qo, 0, none⟩) ∧ Has wx qo [NIL, NIL, NIL, .slice (some ⟨qk, 0, none⟩) 1 1, .int .i64 1] ∧ Has wx qk [.int .i64 0] ∧ qk ≠ qo ∧ w4.heap.size ≤ qk ∧ w4.heap.size ≤ qo ∧ Below w4.heap.size w4 wx)
  case first =>
    as_aux_lemma =>
      have mk1 : ∀ w' : World, (Instr.makeSlice 22 (.int .i64 1) (.int .i64 1)).run Try.prog w' = .ok (.slice (some ⟨w'.heap.size, 0, none⟩) 1 1) (w'.alloc (.cells #[.int .i64 0] 3)) := fun w' => by kernel_rfl
      go_region_held3 (fun w' => w'.cell? ⟨qc + 1, 1, none⟩ = some (.slice na 1 nc) ∧ w'.cell? ⟨qc + 1 + 1, 0, none⟩ = some (.slice (some ⟨g, 0, none⟩) 1 c)) (((try dsimp only); (try go_split_ands); (repeat' apply And.intro); all_goals (repeat (first | with_reducible assumption | (with_reducible refine cell_set (by omega) ?_) | (with_reducible refine cell_alloc (by first | omega | (simp; omega)) ?_) | (with_reducible refine cell_drew ?_))))) (fail)
      · go_wp2_with fail
        go_meet
        exact ⟨w4.heap.size + 1, w4.heap.size, rfl, ((Has.new (w4.alloc (.cells #[.int .i64 0] 3)) [NIL, NIL, NIL, .slice (some ⟨w4.heap.size, 0, none⟩) 1 1, .int .i64 1] 81).at' (by simp)).drew, ((Has.new w4 [.int .i64 0] 3).old (by simp)).drew, by omega, by omega, by omega, (((Below.refl _ _).alloc (Nat.le_refl _) _).alloc (by simp) _).drew⟩
      · go_wp2_with fail
        go_meet
        exact ⟨w4.heap.size, w4.heap.size + 1, rfl, ((Has.new w4 [NIL, NIL, NIL, .slice (some ⟨w4.heap.size + 1, 0, none⟩) 1 1, .int .i64 1] 81).old (by simp)).drew, ((Has.new (w4.alloc (.cells #[NIL, NIL, NIL, .slice (some ⟨w4.heap.size + 1, 0, none⟩) 1 1, .int .i64 1] 81)) [.int .i64 0] 3).at' (by simp)).drew, by omega, by omega, by omega, (((Below.refl _ _).alloc (Nat.le_refl _) _).alloc (by simp) _).drew⟩
  case rest =>
    obtain ⟨qo, qk, rfl, hqo, hqk, hne, hk1, ho1, hB⟩ := hcut
    obtain ⟨w5, hw5⟩ : ∃ w5 : World, w5 = wc := ⟨_, rfl⟩
    rw [← hw5] at hqo hqk hB ⊢
    have F5 := Lib.hid (Fm.call hB F4.out)
    have U5 := Lib.hid (U4.out.below hB lu); have E5 := Lib.hid (E4.out.below hB le); have G5 := Lib.hid (G4.out.below hB LG.out.2.1)
    have O5 := Lib.hid hqo; have K5 := Lib.hid hqk
    have LL := Lib.hid (show (qc + 3 ≤ g ∧ g < qk ∧ g < qo) ∧ qk ≠ qo ∧ w.heap.size + 2 ≤ qc from by have := LG.out; have := LQ.out; exact ⟨⟨by omega, by omega, by omega⟩, hne, by omega⟩)
    clear hw5 hqo hqk hB u1 e0 lu le hne hk1 ho1 F4 U4 E4 G4 Q4
    have u0 := U5.out.cell 0 _ rfl; have u1 := U5.out.cell 1 _ rfl; have u2 := U5.out.cell 2 _ rfl; have u3 := U5.out.cell 3 _ rfl; have u4 := U5.out.cell 4 _ rfl; have u5 := U5.out.cell 5 _ rfl; have u6 := U5.out.cell 6 _ rfl; have u7 := U5.out.cell 7 _ rfl; have u8 := U5.out.cell 8 _ rfl; have u9 := U5.out.cell 9 _ rfl
    have e0 := E5.out.cell 0 _ rfl
    go_wp2_with fail
    refine (nodes_one K s na nc g c w5 (Row.below RNd.stays HN.out F5.out.below) G5.out (G5.out.lt (by simp))).mono ?_
    rintro _ w6 ⟨nb, nk, rfl, hni, hb⟩
    have F6 := Lib.hid (Fm.call hb F5.out)
    have U6 := Lib.hid (U5.out.below hb (U5.out.lt (by simp))); have E6 := Lib.hid (E5.out.below hb (E5.out.lt (by simp))); have G6 := Lib.hid (G5.out.below hb (G5.out.lt (by simp)))
    have O6 := Lib.hid (O5.out.below hb (O5.out.lt (by simp))); have K6 := Lib.hid (K5.out.below hb (K5.out.lt (by simp)))
    obtain ⟨nb', no, z, hnb, hz, nc0, _, _, _, _⟩ := Ints.get hni (i := 0) (by omega)
    cases hnb; cases hz
    rw [Nat.add_zero] at nc0
    clear hb hni u0 u1 u2 u3 u4 u5 u6 u7 u8 u9 e0 F5 U5 E5 G5 O5 K5
    go_wp2
    refine wp_loop_rounds 2 ?_
    rw [rounds_succ]
    have o3 := O6.out.cell 3 _ rfl; have k0 := K6.out.cell 0 _ rfl; have kf := K6.out.free
    go_wp2
    obtain ⟨w7, hw7⟩ : ∃ w7, w7 = w6.setCell ⟨qk, 0, none⟩ (.int .i64 1) := ⟨_, rfl⟩
    rw [← hw7]
    have F7 := Lib.hid (show Fm Non w w7 [MCells ca cn cc 0 (some ⟨ub, uo, none⟩) 1 uc, OZ] by rw [hw7]; exact F6.out.far (.inr (by have := LL.out; simp; omega)) _)
    have U7 := Lib.hid (show Has w7 (qc + 1) (UCells s na 1 nc) by rw [hw7]; exact U6.out.other (by have := LL.out; simp; omega))
    have E7 := Lib.hid (show Has w7 (qc + 1 + 1) [.slice (some ⟨g, 0, none⟩) 1 c] by rw [hw7]; exact E6.out.other (by have := LL.out; simp; omega))
    have G7 := Lib.hid (show Has w7 g (EvCells ⟨0, -1, false⟩) by rw [hw7]; exact G6.out.other (by have := LL.out; simp; omega))
    have O7 := Lib.hid (show Has w7 qo [NIL, NIL, NIL, .slice (some ⟨qk, 0, none⟩) 1 1, .int .i64 1] by rw [hw7]; exact O6.out.other (by have := LL.out; simp; omega))
    clear hw7 nc0 o3 k0 kf F6 U6 E6 G6 O6 K6
    rw [rounds_succ]
    have u8 := U7.out.cell 8 _ rfl
    go_wp2
    refine wp_loop_rounds 1 ?_
    rw [rounds_succ]
    go_upto_region 23 with fail
    clear u8
    have u9 := U7.out.cell 9 _ rfl; have m2 := F7.out.h0.cell 2 _ rfl
    have o1 := O7.out.cell 1 _ rfl; have o2 := O7.out.cell 2 _ rfl; have of := O7.out.free
    have lo := O7.out.lt (by simp); have lu := U7.out.lt (by simp); have lm := F7.out.h0.lt (by simp)
    have n1 : qo ≠ qc + 1 := by have := LL.out; omega
    have n2 : qo ≠ w.heap.size := by have := LL.out; omega
    go_region_held3 (fun w' => w'.cell? ⟨qc + 1, 9, none⟩ = some NIL ∧ w'.cell? ⟨w.heap.size, 2, none⟩ = some NIL) (((try dsimp only); (try go_split_ands); (repeat' apply And.intro); all_goals (repeat (first | with_reducible assumption | (with_reducible refine cell_set (by omega) ?_) | (with_reducible refine cell_alloc (by omega) ?_) | (with_reducible refine cell_drew ?_))))) ((go_at_call 61; refine (words_nil _ _).mono ?_; rintro e w' ⟨rfl, hw'⟩; subst hw'))
    obtain ⟨w8, hw8⟩ : ∃ w8, w8 = ((w7.setCell ⟨qo, 1, none⟩ NIL).setCell ⟨qo, 2, none⟩ NIL).drew := ⟨_, rfl⟩
    rw [← hw8]
    have F8 := Lib.hid (show Fm Non w w8 [MCells ca cn cc 0 (some ⟨ub, uo, none⟩) 1 uc, OZ] by
      have := LL.out
      rw [hw8]
      exact ((F7.out.far (.inr (by simp; omega)) _).far (.inr (by simp; omega)) _).drew)
    have E8 := Lib.hid (show Has w8 (qc + 1 + 1) [.slice (some ⟨g, 0, none⟩) 1 c] by rw [hw8]; exact ((E7.out.other (by have := LL.out; simp; omega)).other (by have := LL.out; simp; omega)).drew)
    have G8 := Lib.hid (show Has w8 g (EvCells ⟨0, -1, false⟩) by rw [hw8]; exact ((G7.out.other (by have := LL.out; simp; omega)).other (by have := LL.out; simp; omega)).drew)
    have O8 := Lib.hid (show Has w8 qo [NIL, NIL, NIL, .slice (some ⟨qk, 0, none⟩) 1 1, .int .i64 1] by rw [hw8]; exact (((O7.out.set (k := 1) (by simp) _).set (k := 2) (by simp) _).at rfl).drew)
    clear hw8 u9 m2 o1 o2 of lo lu lm n1 n2 F7 U7 E7 G7 O7
    have o0 := O8.out.cell 0 _ rfl; have o1 := O8.out.cell 1 _ rfl; have o2 := O8.out.cell 2 _ rfl; have o3 := O8.out.cell 3 _ rfl; have o4 := O8.out.cell 4 _ rfl
    have e0 := E8.out.cell 0 _ rfl
    have z0 := F8.out.h1.cell 0 _ rfl; have z1 := F8.out.h1.cell 1 _ rfl; have z2 := F8.out.h1.cell 2 _ rfl; have z3 := F8.out.h1.cell 3 _ rfl; have z4 := F8.out.h1.cell 4 _ rfl; have zf := F8.out.h1.free
    have lo := O8.out.lt (by simp); have le := E8.out.lt (by simp); have lz := F8.out.h1.lt (by simp)
    have n1 : qo ≠ w.heap.size + 1 := by have := LL.out; omega
    have n2 : qc + 1 + 1 ≠ w.heap.size + 1 := by have := LL.out; omega
    have n3 : w.heap.size + 1 ≠ qo := by have := LL.out; omega
    have n4 : w.heap.size + 1 ≠ qc + 1 + 1 := by have := LL.out; omega
    go_upto_region 24 with fail
    go_region_held3 (fun w' => w'.cell? ⟨qo, 0, none⟩ = some NIL ∧ w'.cell? ⟨qo, 1, none⟩ = some NIL ∧ w'.cell? ⟨qo, 2, none⟩ = some NIL ∧ w'.cell? ⟨qo, 3, none⟩ = some (.slice (some ⟨qk, 0, none⟩) 1 1) ∧ w'.cell? ⟨qo, 4, none⟩ = some (.int .i64 1) ∧ w'.cell? ⟨qc + 1 + 1, 0, none⟩ = some (.slice (some ⟨g, 0, none⟩) 1 c)) (((try dsimp only); (try go_split_ands); (repeat' apply And.intro); all_goals (repeat (first | with_reducible assumption | (with_reducible refine cell_set (by omega) ?_) | (with_reducible refine cell_alloc (by omega) ?_) | (with_reducible refine cell_drew ?_))))) (fail)
    clear o0 o1 o2 o3 o4 e0 lo le lz n1 n2 n3 n4
    go_wp2
    refine bodyPost_ret (v := .tuple #[.agg #[NIL, NIL, NIL, .slice (some ⟨qk, 0, none⟩) 1 1, .int .i64 1], .slice (some ⟨g, 0, none⟩) 1 c, .int .i64 0]) (by simp [results, Try.results32, go_sem, z0, z1, z2, z3, z4]) rfl ⟨qk, g, c, rfl, ?_, ?_, ?_⟩
    · have := LL.out
      repeat (first | with_reducible exact G8.out | (with_reducible refine Has.drew ?_) | (with_reducible refine Has.other ?_ (by dsimp only; omega)))
    · have := G8.out.lt (by simp)
      simpa using this
    · repeat (first | with_reducible exact F8.out.below | (with_reducible refine Below.drew ?_) | (with_reducible refine Below.setCell ?_ (by dsimp only; omega) _))
end Go.Proofs.Ytonbmijhbbodnaa
