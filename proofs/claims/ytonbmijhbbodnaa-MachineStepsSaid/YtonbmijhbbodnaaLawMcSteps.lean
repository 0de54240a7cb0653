/-
  timeboundlaw21.MachineSteps returns true, whatever its list and its number are. No condition.
-/
import Derived.Deep.CutBlock
import Derived.Deep.DeepCutAuto
import Derived.Test.YtonbmijhbbodnaaMsM
import Derived.Test.YtonbmijhbbodnaaMsO
import Derived.Test.YtonbmijhbbodnaaZMsP
import Derived.Test.YtonbmijhbbodnaaZMsV
import Derived.Test.YtonbmijhbbodnaaZHeadi
import Derived.Test.YtonbmijhbbodnaaZImG
namespace Go.Proofs.Ytonbmijhbbodnaa
open Go.RowKit

set_option maxHeartbeats 1000000 in
theorem mfew_any (a : Option Addr) (len cap : Nat) (w : World) (h : len ≤ 9223372036854775807) :
    (len ≤ 400 → Calls Try.prog 8 #[.slice a len cap] w fun e w' => e = .returned (.bool true) ∧ w' = w) ∧
    (¬ len ≤ 400 → Calls Try.prog 8 #[.slice a len cap] w fun e w' => e = .returned (.bool false) ∧ w' = w) := by
  constructor
  all_goals
    intro hl
    go_enter Try.func8, Try.ntmps8
    go_wp2
    go_ret
    exact ⟨ret_b (by simp; omega), rfl⟩
set_option maxRecDepth 100000 in
set_option maxHeartbeats 16000000 in
theorem mcSteps_law (a0 : Option Addr) (len0 cap0 : Nat) (z0 : List Int) (a1 : Int) (w1f : (Lit.int .u8 a1).wf = true) (w : World) (w0 : IsRow .i64 w a0 len0 cap0 z0) :
    Calls Try.prog 3 #[.slice a0 len0 cap0, .int .u8 a1] w fun e w' => e = .returned (.bool true) ∧ Below w.heap.size w w' := by
  have hl0 := w0.lens
  have hB : 0 ≤ a1 ∧ a1 ≤ 255 := by simpa [Lit.wf, IntKind.min, IntKind.max, IntKind.signed, IntKind.bits] using w1f
  obtain ⟨B0, B1⟩ := hB
  clear w1f
  obtain ⟨N, hN⟩ : ∃ N : Nat, a1 % 30 = (N : Int) := ⟨(a1 % 30).toNat, by omega⟩
  have HN := Lib.hid (show N < 30 by omega)
  by_cases hf : len0 ≤ 400
  · have FEW := Lib.hid ((mfew_any a0 len0 cap0 w hl0).1 hf)
    have W0 := Lib.hid w0
    clear w0 hf
    go_enter Try.func3, Try.ntmps3
    go_wp2_with fail
    refine FEW.out.mono ?_
    rintro e w' ⟨rfl, rfl⟩
    go_wp2_with fail
    refine (new_any a0 len0 cap0 z0 _ W0.out).mono ?_
    rintro e w2 ⟨rfl, hd2, hb2⟩
    have D2 := Lib.hid hd2; have C2 := Lib.hid hb2; have L2 := Lib.hid hd2.lt
    clear hd2 hb2 FEW W0
    obtain ⟨d, hd⟩ : ∃ d, d = w'.heap.size := ⟨_, rfl⟩
    rw [← hd] at D2 L2 ⊢
    have HD := Lib.hid (show w'.heap.size = d from hd.symm)
    clear hd
    go_wp2_with fail
    refine (straight_any d w2 D2.out).mono ?_
    rintro e w3 ⟨ca, cc, bu, n, code, nds, rfl, hn2, hn13, sok, him, hd3, hb3⟩
    have D3 := Lib.hid hd3; have C3 := Lib.hid hb3; have SO := Lib.hid sok; have IM := Lib.hid him; have L3 := Lib.hid hb3.size
    have HN2 := Lib.hid (show 2 ≤ n ∧ n ≤ 13 from ⟨hn2, hn13⟩)
    clear hd3 hb3 sok him D2 hn2
    go_upto_region 5 with fail
    obtain ⟨w4, hw4⟩ : ∃ w4, w4 = w3.alloc (.cells #[.slice ca (n + 1) cc, .int .i64 6, NIL, .slice (some ⟨bu, 0, none⟩) 1 1] 31) := ⟨_, rfl⟩
    rw [← hw4]
    have B4 := Lib.hid (show Below w3.heap.size w3 w4 by rw [hw4]; exact (Below.refl _ _).alloc (Nat.le_refl _) _)
    have M4 := Lib.hid (show Has w4 w3.heap.size (MCells ca (n + 1) cc 6 (some ⟨bu, 0, none⟩) 1 1) by rw [hw4]; exact Has.new w3 (MCells ca (n + 1) cc 6 (some ⟨bu, 0, none⟩) 1 1) 31)
    have I4 := Lib.hid (IM.out.nar.below B4.out)
    have D4 := Lib.hid (D3.out.below B4.out (Nat.le_refl _))
    have G4 := Lib.hid (show Below w'.heap.size w' w4 from by
      have e := HD.out
      have s := C2.out.size
      have l := L2.out
      have C : Chg (fun k => k = d) w2 w3 := ⟨C3.out.os, C3.out.tape, C3.out.output, C3.out.size, fun k hk hm => C3.out.block k hk hm⟩
      exact (C2.out.trans (C.below (fun k hk e' => by omega) s)).trans (B4.out.mono (by have := L3.out; omega)))
    have Z4 := Lib.hid (show w4.heap.size = w3.heap.size + 1 by rw [hw4]; simp)
    have LB := Lib.hid (show w2.heap.size + 3 ≤ w3.heap.size from by
      obtain ⟨ub, uo, u, s, na, nl, nc, -, hu, hK, lub, -, -⟩ := UnL.get IM.out.units (i := 0) (by omega)
      unfold Ge at hK
      omega)
    clear hw4 B4 C2 C3 IM D3
    obtain ⟨mq, hmq⟩ : ∃ mq, mq = w3.heap.size := ⟨_, rfl⟩
    rw [← hmq] at M4 I4 Z4 L3 LB ⊢
    clear hmq
    have m0 := M4.out.cell 0 _ rfl; have m1 := M4.out.cell 1 _ rfl
    go_cut [7] (fun s wx => ∃ q0 q1 q2 q4 : Nat, ∃ p : Int, s = .pointer (some ⟨q4, 0, none⟩) ∧ 0 ≤ p ∧ p < (n : Int) + 1 ∧ McAt w' d (w2.heap.size + 3) mq q0 q1 q2 q4 ca (n + 1) cc bu (stImg n code nds) [0, 0, 0, 0, 0, 0, 0, 0] [0, 0, 0, 0, 0, 0] [false, false, false, false] p wx)
    case first =>
      as_aux_lemma =>
        have mk8 : ∀ w' : World, (Instr.makeSlice 22 (.int .i64 8) (.int .i64 8)).run Try.prog w' = .ok (.slice (some ⟨w'.heap.size, 0, none⟩) 8 8) (w'.alloc (.cells (zeros (.int .i64 0) 8).toArray 3)) := fun w' => by kernel_rfl
        have mk6 : ∀ w' : World, (Instr.makeSlice 22 (.int .i64 6) (.int .i64 6)).run Try.prog w' = .ok (.slice (some ⟨w'.heap.size, 0, none⟩) 6 6) (w'.alloc (.cells (zeros (.int .i64 0) 6).toArray 3)) := fun w' => by kernel_rfl
        have mkb : ∀ w' : World, (Instr.makeSlice 33 (.int .i64 4) (.int .i64 4)).run Try.prog w' = .ok (.slice (some ⟨w'.heap.size, 0, none⟩) 4 4) (w'.alloc (.cells (zeros (.bool false) 4).toArray 4)) := fun w' => by kernel_rfl
        have lmq := M4.out.lt (by simp)
        have hn13' : (n : Int) + 1 ≤ 14 := by omega
        refine hd_start 12 (fun w' => w'.cell? ⟨mq, 0, none⟩ = some (.slice ca (n + 1) cc) ∧ w'.cell? ⟨mq, 1, none⟩ = some (.int .i64 6)) (by kernel_rfl) ⟨by kernel_rfl, by kernel_rfl, by kernel_rfl, by decide⟩ (by refine ⟨m0, m1⟩) (fun ok => ?_)
        refine hd_t 1 ok rfl ?_
        go_frame
        refine hd_t 2 ok rfl ?_
        go_frame
        refine hd_t 5 ok rfl ?_
        go_frame
        refine hd_t 6 ok rfl ?_
        go_frame
        refine hd_t 7 ok rfl ?_
        go_frame
        refine hd_inv_p [(25, 0), (28, 3), (29, 4), (33, 8), (34, 9), (35, 10), (7, 11)] (fun _ => undef) (fun b v u => ∃ q, AJD d w4.heap.size w4 (fun i q => match i with | 0 => .slice (some ⟨q, 0, none⟩) 8 8 | 3 => .slice (some ⟨q, 0, none⟩) 6 6 | 4 => .slice (some ⟨q, 0, none⟩) 4 4 | _ => .pointer (some ⟨q, 0, none⟩)) (fun i => match i with | 0 => 3 | 3 => 3 | 4 => 4 | _ => 36) (fun i => match i with | 0 => zeros (.int .i64 0) 8 | 3 => zeros (.int .i64 0) 6 | 4 => zeros (.bool false) 4 | _ => ZC) (fun i => i ≠ 10 ∧ i ≠ 9 ∧ i ≠ 8) b v q u ∧ (b 8 = true → v 8 = .int .i64 ((n : Int) + 1)) ∧ (b 9 = true → ∃ p : Int, v 9 = .int .i64 p ∧ 0 ≤ p ∧ p < (n : Int) + 1) ∧ (b 10 = true → b 0 = true ∧ b 3 = true ∧ b 4 = true ∧ b 9 = true ∧ v 10 = .agg #[v 0, v 3, v 4, v 9, .bool false])) (.inl ok) ⟨by decide, by decide, by kernel_rfl, rfl⟩ (by kernel_rfl) (by kernel_rfl) (by decide) ⟨fun _ => 0, AJD.start rfl (But.of_below (Below.refl _ _).drew) (D4.out.drewN 1) (by have := L2.out; have := L3.out; have := Z4.out; omega) _, (fun h => by cases h), (fun h => by cases h), fun h => by cases h⟩ ?_ ?_
        · intro i oi hi ho b v a u hJ hv hr hb hdep hS K hK
          obtain ⟨q, hA, h8, h9, h3⟩ := hJ
          have hAs := hA.size
          have dl := hA.dlt
          obtain ⟨s1, s2⟩ := hS
          have SS : ∀ o : Obj, (u.alloc o).cell? ⟨mq, 0, none⟩ = some (.slice ca (n + 1) cc) ∧ (u.alloc o).cell? ⟨mq, 1, none⟩ = some (.int .i64 6) := fun o => ⟨cell_alloc (by omega) s1, cell_alloc (by omega) s2⟩
          have hi4 : i = 0 ∨ i = 3 ∨ i = 4 ∨ i = 8 ∨ i = 9 ∨ i = 10 ∨ i = 11 := by simpa using hi
          rcases hi4 with rfl | rfl | rfl | rfl | rfl | rfl | rfl
          · obtain rfl := Option.some.inj ho
            go_simp
            exact hK _ _ (SS _) ⟨_, hA.step hb rfl, (fun h => h8 h), (fun h => h9 h), fun h => by obtain ⟨g0, g1, g2, g9, g3⟩ := h3 h; rw [hb] at g0; cases g0⟩
          · obtain rfl := Option.some.inj ho
            have e27 : a.tmps[27]?.getD undef = .int .i64 6 := (get_eval a 27).trans (hr 27 (by decide))
            go_simp
            exact hK _ _ (SS _) ⟨_, hA.step hb rfl, (fun h => h8 h), (fun h => h9 h), fun h => by obtain ⟨g0, g1, g2, g9, g3⟩ := h3 h; rw [hb] at g1; cases g1⟩
          · obtain rfl := Option.some.inj ho
            go_simp
            exact hK _ _ (SS _) ⟨_, hA.step hb rfl, (fun h => h8 h), (fun h => h9 h), fun h => by obtain ⟨g0, g1, g2, g9, g3⟩ := h3 h; rw [hb] at g2; cases g2⟩
          · obtain rfl := Option.some.inj ho
            have e32 : a.tmps[32]?.getD undef = .slice ca (n + 1) cc := (get_eval a 32).trans (hr 32 (by decide))
            go_simp
            exact hK _ _ ⟨s1, s2⟩ ⟨_, hA.keep (But.of_below (Below.refl _ _)) hA.deck (by simp) _, (fun _ => by simp [setV]), (fun h => h9 h), fun h => by
              obtain ⟨g0, g1, g2, g9, g3⟩ := h3 (by simpa [setB] using h)
              exact ⟨by simpa [setB] using g0, by simpa [setB] using g1, by simpa [setB] using g2, by simpa [setB] using g9, by simpa [setV] using g3⟩⟩
          · obtain rfl := Option.some.inj ho
            have d8 := hdep 8 (by kernel_rfl)
            have e30 : a.tmps[30]?.getD undef = .pointer (some ⟨d, 0, none⟩) := (get_eval a 30).trans (hr 30 (by decide))
            have e33 : a.tmps[33]?.getD undef = .int .i64 ((n : Int) + 1) := (get_eval a 33).trans ((hv 33 8 (by decide) d8).trans (h8 d8))
            go_simp
            go_at_call 12
            refine (next_any d ((n : Int) + 1) (by omega) (by omega) u hA.deck).mono ?_
            rintro e u2 ⟨r, rfl, r0, r1, hd2, hb2⟩
            have NM : mq ≠ d := by have := L2.out; have := L3.out; omega
            refine hK _ _ ⟨?_, ?_⟩ ⟨_, hA.keep hb2 hd2 (by simp) _, (fun h => h8 h), fun _ => ⟨r, by simp [setV], r0, r1⟩, fun h => by obtain ⟨g0, g1, g2, g9, g3⟩ := h3 (by simpa [setB] using h); rw [hb] at g9; cases g9⟩
            · exact (World.cell?_of_block (w := u) (a := ⟨mq, 0, none⟩) (hb2.block mq (by omega) NM)).trans s1
            · exact (World.cell?_of_block (w := u) (a := ⟨mq, 1, none⟩) (hb2.block mq (by omega) NM)).trans s2
          · obtain rfl := Option.some.inj ho
            have d0 := hdep 0 (by kernel_rfl); have d1 := hdep 3 (by kernel_rfl); have d2 := hdep 4 (by kernel_rfl); have d9 := hdep 9 (by kernel_rfl)
            have p0 : v 0 = .slice (some ⟨q 0, 0, none⟩) 8 8 := (hA.have_ 0 (by decide) d0).1
            have p1 : v 3 = .slice (some ⟨q 3, 0, none⟩) 6 6 := (hA.have_ 3 (by decide) d1).1
            have p2 : v 4 = .slice (some ⟨q 4, 0, none⟩) 4 4 := (hA.have_ 4 (by decide) d2).1
            obtain ⟨p, p9, _, _⟩ := h9 d9
            have e25 : a.tmps[25]?.getD undef = .slice (some ⟨q 0, 0, none⟩) 8 8 := (get_eval a 25).trans ((hv 25 0 (by decide) d0).trans p0)
            have e28 : a.tmps[28]?.getD undef = .slice (some ⟨q 3, 0, none⟩) 6 6 := (get_eval a 28).trans ((hv 28 3 (by decide) d1).trans p1)
            have e29 : a.tmps[29]?.getD undef = .slice (some ⟨q 4, 0, none⟩) 4 4 := (get_eval a 29).trans ((hv 29 4 (by decide) d2).trans p2)
            have e34 : a.tmps[34]?.getD undef = .int .i64 p := (get_eval a 34).trans ((hv 34 9 (by decide) d9).trans p9)
            go_simp
            exact hK _ _ ⟨s1, s2⟩ ⟨_, hA.keep (But.of_below (Below.refl _ _)) hA.deck (by simp) _, (fun h => h8 h), (fun h => h9 h), fun _ => ⟨by simpa [setB] using d0, by simpa [setB] using d1, by simpa [setB] using d2, by simpa [setB] using d9, by simp [setV, p0, p1, p2, p9]⟩⟩
          · obtain rfl := Option.some.inj ho
            go_simp
            exact hK _ _ (SS _) ⟨_, hA.step hb rfl, (fun h => h8 h), (fun h => h9 h), fun h => by
              obtain ⟨g0, g1, g2, g9, g3⟩ := h3 (by simpa [setB] using h)
              exact ⟨by simpa [setB] using g0, by simpa [setB] using g1, by simpa [setB] using g2, by simpa [setB] using g9, by simpa [setV] using g3⟩⟩
        · intro b v u hall hJ hS
          obtain ⟨q, hA, h8, h9, h3⟩ := hJ
          obtain ⟨g0, g1, g2, g9, g3⟩ := h3 (hall 10 (by decide))
          obtain ⟨p, p9, pl, ph⟩ := h9 g9
          obtain ⟨p0, B0_, l0⟩ := hA.have_ 0 (by decide) g0
          obtain ⟨p1, B1_, l1⟩ := hA.have_ 3 (by decide) g1
          obtain ⟨p2, B2_, l2⟩ := hA.have_ 4 (by decide) g2
          obtain ⟨p4, B4_, l4⟩ := hA.have_ 11 (by decide) (hall 11 (by decide))
          have n01 := hA.apart 0 3 (by decide) (by decide) g0 g1 (by decide)
          have n02 := hA.apart 0 4 (by decide) (by decide) g0 g2 (by decide)
          have n04 := hA.apart 0 11 (by decide) (by decide) g0 (hall 11 (by decide)) (by decide)
          have n12 := hA.apart 3 4 (by decide) (by decide) g1 g2 (by decide)
          have n14 := hA.apart 3 11 (by decide) (by decide) g1 (hall 11 (by decide)) (by decide)
          have n24 := hA.apart 4 11 (by decide) (by decide) g2 (hall 11 (by decide)) (by decide)
          have B4' : Blk u (q 11) 36 ZC := B4_
          have LA := laid_setRow (vs := CoCells (some ⟨q 0, 0, none⟩) 8 8 (some ⟨q 3, 0, none⟩) 6 6 (some ⟨q 4, 0, none⟩) 4 4 p false) B4'
          have BB := Lib.hid B4'
          have hl : w'.heap.size ≤ d ∧ d < w2.heap.size + 3 ∧ w2.heap.size + 3 ≤ mq ∧ mq < w4.heap.size ∧ w'.heap.size ≤ w4.heap.size := by
            have h1 := L2.out; have h2 := L3.out; have h3 := Z4.out; have h4 := HD.out; have h5 := G4.out.size; have h6 := LB.out
            omega
          have A0 : Chg (fun k => k = d) w4 u := ⟨hA.but.os, hA.but.tape, hA.but.output, hA.but.size, fun k hk hm => hA.but.block k hk hm⟩
          have R := Lib.hid (show ∃ q0 q1 q2 q4 : Nat, ∃ p' : Int, Value.pointer (some ⟨q 11, 0, none⟩) = .pointer (some ⟨q4, 0, none⟩) ∧ 0 ≤ p' ∧ p' < (n : Int) + 1 ∧ McAt w' d (w2.heap.size + 3) mq q0 q1 q2 q4 ca (n + 1) cc bu (stImg n code nds) [0, 0, 0, 0, 0, 0, 0, 0] [0, 0, 0, 0, 0, 0] [false, false, false, false] p' (u.setRow (q 11) (CoCells (some ⟨q 0, 0, none⟩) 8 8 (some ⟨q 3, 0, none⟩) 6 6 (some ⟨q 4, 0, none⟩) 4 4 p false).toArray) from by
            have i0 : ∀ k x, ¬ k = d → x = k → ¬ x = d := fun k x h e => by omega
            refine ⟨q 0, q 3, q 4, q 11, p, rfl, pl, ph, ?_, deck_chg hA.deck LA.chg (fun j _ hj e => by omega), (I4.out.chgN A0 (fun k hk e => by have := hk.1; unfold Ge at this; omega)).chgN LA.chg (fun k hk e => by have := hk.2; omega), LA.chg.has (A0.has M4.out (M4.out.lt (by simp)) (by omega)) (by have := hA.size; omega) (by omega), (B0_.chg LA.chg n04).at rfl, (B1_.chg LA.chg n14).at rfl, (B2_.chg LA.chg n24).at rfl, LA.blk, by omega, ⟨rfl, rfl, rfl⟩, ⟨?_, ?_, by unfold I64; omega⟩⟩
            · exact (G4.out.trans (A0.below (fun k hk e => by omega) hl.2.2.2.2)).trans (LA.chg.below (fun k hk e => by omega) (by have := hA.size; omega))
            · intro z hz; simp at hz; subst hz; unfold I64; omega
            · intro z hz; simp at hz; subst hz; unfold I64; omega)
          rw [p0, p1, p2, p9] at g3
          simp only [putP, p0, p1, p2, p4, p9, g3]
          clear hA h8 h9 h3 g0 g1 g2 g9 g3 p0 p1 p2 p4 p9 B0_ B1_ B2_ B4_ B4' l0 l1 l2 l4 n01 n02 n04 n12 n14 n24 hall LA ok hS A0
          go_frame
          refine hd_done (by kernel_rfl) ?_
          simp only [List.drop_succ_cons, List.drop_zero]
          refine wpList_store_row rfl 36 _ _ rfl (q 11) (CoCells (some ⟨q 0, 0, none⟩) 8 8 (some ⟨q 3, 0, none⟩) 6 6 (some ⟨q 4, 0, none⟩) 4 4 p false).toArray rfl rfl 36 ZC.toArray BB.out.heap (by kernel_rfl) (by simp) (by simp [Value.oneCell']) ?_
          go_wp2_with fail
          go_meet
          exact R.out
    case rest =>
      obtain ⟨q0, q1, q2, q4, p, rfl, hp0, hp1, hat⟩ := hcut
      have A5 := Lib.hid hat
      clear hat M4 I4 D4 G4 m0 m1 hp0 hp1
      go_wp2
      go_loopw [8] (fun i wr => ∃ (k : Nat) (regs : List Int), 1 ≤ k ∧ k ≤ 8 ∧ i = .int .i64 k ∧ McAt w' d (w2.heap.size + 3) mq q0 q1 q2 q4 ca (n + 1) cc bu (stImg n code nds) regs [0, 0, 0, 0, 0, 0] [false, false, false, false] p wr) (fun i _ => 8 - (intOf i).toNat)
      case atStart => exact ⟨1, _, Nat.le_refl _, by omega, rfl, A5.out⟩
      case round =>
        obtain ⟨k, regs, hk1, hk8, rfl, hat⟩ := hrel
        have A6 := Lib.hid hat
        clear hat A5
        by_cases hlt : k < 8
        · have hlt' : (k : Int) < 8 := by omega
          have x0 := A6.out.b4.cell (i := 0) rfl
          go_upto_region 9 with fail
          refine hd_start 6 (fun w' => w'.cell? ⟨q4, 0, none⟩ = some (.slice (some ⟨q0, 0, none⟩) 8 8)) (by kernel_rfl) ⟨by kernel_rfl, by kernel_rfl, by kernel_rfl, by decide⟩ x0 (fun ok => ?_)
          refine hd_t 0 ok rfl ?_
          go_frame
          refine hd_t 1 ok rfl ?_
          go_frame
          refine hd_t 2 ok rfl ?_
          go_frame
          refine hd_t 3 ok rfl ?_
          go_frame
          have AD := Lib.hid A6.out.drew
          clear A6 x0
          generalize wr.drew = wd at AD ⊢
          refine hd_only_l (c := 4) rfl (by decide) (by kernel_rfl) (fun K hK => ?_)
          go_simp
          go_at_call 13
          refine (dword_any d wd AD.out.deck).mono ?_
          rintro e u2 ⟨r, rfl, hr, hd, hb⟩
          have A7 := Lib.hid (AD.out.word hb hd)
          have HR := Lib.hid (show I64 r by unfold Wd at hr; unfold I64; omega)
          clear AD hr hd hb
          have x0 := A7.out.b4.cell (i := 0) rfl
          (try simp only [])
          refine hK _ _ (by first | exact x0) ?_
          clear hK K
          (try go_frame)
          refine hd_t 5 ok rfl ?_
          go_frame
          clear ok
          obtain ⟨yk, hyk⟩ : ∃ y, regs[k]? = some y := ⟨_, List.getElem?_eq_getElem (by rw [A7.out.lr.1]; exact hlt)⟩
          have ck := A7.out.b0.cell (ivs_get hyk)
          have cf := A7.out.b0.free k
          clear hyk
          refine hd_done (by kernel_rfl) ?_
          simp only [List.drop_succ_cons, List.drop_zero]
          go_wp2
          clear ck cf x0
          have A8 := Lib.hid (A7.out.setR k HR.out)
          clear A7
          go_roundw
          case rel => exact ⟨k + 1, _, by omega, by omega, by go_num, A8.out⟩
          case measure => simp [intOf]; omega
        · go_wp2
          clear hlt hk1 hk8
          obtain ⟨wo, rfl⟩ : ∃ wo : World, wo = wr := ⟨_, rfl⟩
          go_loopw [9] (fun i wr => ∃ (j : Nat) (data : List Int), j ≤ 6 ∧ i = .int .i64 j ∧ McAt w' d (w2.heap.size + 3) mq q0 q1 q2 q4 ca (n + 1) cc bu (stImg n code nds) regs data [false, false, false, false] p wr) (fun i _ => 6 - (intOf i).toNat)
          case atStart => exact ⟨0, _, by omega, rfl, A6.out⟩
          case round =>
            obtain ⟨j, data, hk6, rfl, hat⟩ := hrel
            have A6 := Lib.hid hat
            clear hat
            have x1 := A6.out.b4.cell (i := 1) rfl
            by_cases hlt : j < 6
            · have hlt' : (j : Int) < 6 := by omega
              go_upto_region 13 with fail
              refine hd_start 6 (fun w' => w'.cell? ⟨q4, 1, none⟩ = some (.slice (some ⟨q1, 0, none⟩) 6 6)) (by kernel_rfl) ⟨by kernel_rfl, by kernel_rfl, by kernel_rfl, by decide⟩ x1 (fun ok => ?_)
              refine hd_t 0 ok rfl ?_
              go_frame
              refine hd_t 1 ok rfl ?_
              go_frame
              refine hd_t 2 ok rfl ?_
              go_frame
              refine hd_t 3 ok rfl ?_
              go_frame
              have AD := Lib.hid A6.out.drew
              clear A6 x1
              generalize wr.drew = wd at AD ⊢
              refine hd_only_l (c := 4) rfl (by decide) (by kernel_rfl) (fun K hK => ?_)
              go_simp
              go_at_call 13
              refine (dword_any d wd AD.out.deck).mono ?_
              rintro e u2 ⟨r, rfl, hr, hd, hb⟩
              have A7 := Lib.hid (AD.out.word hb hd)
              have HR := Lib.hid (show I64 r by unfold Wd at hr; unfold I64; omega)
              clear AD hr hd hb
              have x1 := A7.out.b4.cell (i := 1) rfl
              (try simp only [])
              refine hK _ _ (by first | exact x1) ?_
              clear hK K
              (try go_frame)
              refine hd_t 5 ok rfl ?_
              go_frame
              clear ok
              obtain ⟨yk, hyk⟩ : ∃ y, data[j]? = some y := ⟨_, List.getElem?_eq_getElem (by rw [A7.out.lr.2.1]; exact hlt)⟩
              have ck := A7.out.b1.cell (ivs_get hyk)
              have cf := A7.out.b1.free j
              clear hyk
              refine hd_done (by kernel_rfl) ?_
              simp only [List.drop_succ_cons, List.drop_zero]
              go_wp2
              clear ck cf x1
              have A8 := Lib.hid (A7.out.setD j HR.out)
              clear A7
              go_roundw
              case rel => exact ⟨j + 1, _, by omega, by go_num, A8.out⟩
              case measure => simp [intOf]; omega
            · obtain ⟨wv, rfl⟩ : ∃ wv : World, wv = wr := ⟨_, rfl⟩
              go_upto_region 14 with fail
              clear hlt x1 hk6
              have x2 := A6.out.b4.cell (i := 2) rfl
              refine hd_start 6 (fun w' => w'.cell? ⟨q4, 2, none⟩ = some (.slice (some ⟨q2, 0, none⟩) 4 4)) (by kernel_rfl) ⟨by kernel_rfl, by kernel_rfl, by kernel_rfl, by decide⟩ x2 (fun ok => ?_)
              refine hd_t 0 ok rfl ?_
              go_frame
              refine hd_t 1 ok rfl ?_
              go_frame
              refine hd_t 2 ok rfl ?_
              go_frame
              have AD := Lib.hid A6.out.drew
              clear A6 x2
              generalize wv.drew = wd at AD ⊢
              refine hd_only_l (c := 3) rfl (by decide) (by kernel_rfl) (fun K hK => ?_)
              go_simp
              go_at_call 12
              refine (next_any d 2 (by omega) (by omega) wd AD.out.deck).mono ?_
              rintro e u2 ⟨r, rfl, r0, r1, hd, hb⟩
              have A7 := Lib.hid (AD.out.word hb hd)
              clear AD hd hb
              have x2 := A7.out.b4.cell (i := 2) rfl
              obtain ⟨rb, hrb⟩ : ∃ rb : Bool, (r == 1) = rb := ⟨_, rfl⟩
              (try simp only [])
              refine hK _ _ (by first | exact x2) ?_
              clear hK K
              (try go_frame)
              refine hd_t 4 ok rfl ?_
              go_frame
              refine hd_t 5 ok rfl ?_
              go_frame
              clear ok
              have ck := A7.out.b2.cell (i := 0) (v := .bool false) rfl
              have cf := A7.out.b2.free 0
              refine hd_done (by kernel_rfl) ?_
              simp only [List.drop_succ_cons, List.drop_zero]
              go_wp2_with fail
              have A8 := Lib.hid (A7.out.setH 0 rb)
              clear A7 ck cf x2 hrb r0 r1
              generalize u2.setCell ⟨q2, 0, none⟩ (.bool rb) = u3 at A8 ⊢
              have HDK := Lib.hid A8.out.deck
              refine (next_any d 9 (by omega) (by omega) u3 HDK.out).mono ?_
              rintro e u4 ⟨r, rfl, r0, r1, hd, hb⟩
              have A9 := Lib.hid (A8.out.word hb hd)
              clear A8 hd hb HDK
              go_upto_if 67 with fail
              go_cut [] (fun wx => ∃ regs' : List Int, McAt w' d (w2.heap.size + 3) mq q0 q1 q2 q4 ca (n + 1) cc bu (stImg n code nds) regs' data [rb, false, false, false] p wx)
              case first =>
                have x0 := A9.out.b4.cell (i := 0) rfl
                obtain ⟨y0, hy0⟩ : ∃ y, regs[0]? = some y := ⟨_, List.getElem?_eq_getElem (by rw [A9.out.lr.1]; omega)⟩
                have ck := A9.out.b0.cell (ivs_get hy0)
                have cf := A9.out.b0.free 0
                have AS := Lib.hid (A9.out.setR 0 (z := 1) (by unfold I64; omega))
                clear hy0
                by_cases h8 : r = 8
                · subst h8
                  go_wp2_with fail
                  go_meet
                  exact ⟨_, AS.out⟩
                · have e8 : (r == 8) = false := by simpa using h8
                  go_wp2_with fail
                  go_meet
                  exact ⟨_, A9.out⟩
              case rest =>
                obtain ⟨regs', hat⟩ := hcut
                have ML := Lib.hid hat.loop
                have LQ := Lib.hid (show w'.heap.size ≤ q4 by have := hat.ls; omega)
                have hn1000 : n ≤ 1000 := by omega
                have LIM := Lib.hid (st_limit SO.out hn1000)
                have UN := Lib.hid (st_units SO.out hn1000)
                have GD := Lib.hid (st_good SO.out)
                clear hat A9 r0 r1
                go_wp2
                obtain ⟨wz, rfl⟩ : ∃ wz : World, wz = wc := ⟨_, rfl⟩
                go_loopw [10] (fun i wr => ∃ (k2 : Nat) (ra : Option Addr) (rn rc : Nat) (da : Option Addr) (dn dc : Nat) (ha : Option Addr) (hn hc : Nat) (c : Co), k2 ≤ N ∧ i = .int .i64 k2 ∧ McLoop w' d (w2.heap.size + 3) mq q4 ca (n + 1) cc bu (stImg n code nds) ra rn rc da dn dc ha hn hc c wr) (fun i _ => N - (intOf i).toNat)
                case atStart => exact ⟨0, _, _, _, _, _, _, _, _, _, _, Nat.zero_le _, rfl, ML.out⟩
                case round =>
                  clear ML
                  obtain ⟨k2, ra, rn, rc, da, dn, dc, ha, hn, hc, ⟨gr, gd, gh, pc, en⟩, hk2, rfl, ml⟩ := hrel
                  have ML := Lib.hid ml
                  clear ml
                  obtain ⟨wt, rfl⟩ : ∃ wt : World, wt = wr := ⟨_, rfl⟩
                  by_cases hlt : k2 < N
                  · have hlt' : (k2 : Int) < (N : Int) := by omega
                    have m0 := ML.out.hm.cell 0 _ rfl; have m1 := ML.out.hm.cell 1 _ rfl; have m2 := ML.out.hm.cell 2 _ rfl; have m3 := ML.out.hm.cell 3 _ rfl
                    have x0 := ML.out.hcc.cell 0 _ rfl; have x1 := ML.out.hcc.cell 1 _ rfl; have x2 := ML.out.hcc.cell 2 _ rfl; have x3 := ML.out.hcc.cell 3 _ rfl; have x4 := ML.out.hcc.cell 4 _ rfl
                    dsimp only at x3 x4
                    go_wp2_with fail
                    refine Calls.mono (mStep_any (Nar (Ge (w2.heap.size + 3)) mq) (fun k => k ≠ q4) ca (n + 1) cc 6 (some ⟨bu, 0, none⟩) 1 1 (stImg n code nds) ra rn rc da dn dc ha hn hc ⟨gr, gd, gh, pc, en⟩ wt ML.out.img ML.out.co (by show (0 : Int) < 6; decide) LIM.out GD.out (.inl UN.out) ML.out.ls.2.2.1 ML.out.ls.2.2.2.1 ML.out.ls.2.2.2.2) ?_
                    rintro e u1 ⟨pa, pn, pc_, pda, pdn, pdc, pha, phn, phc, ⟨pr, pd, ph, ppc, pe⟩, ⟨va, vd, vj⟩, er, rfl, hst, hpco, hb⟩
                    have M1 := Lib.hid (ML.out.to hb)
                    have P1 := Lib.hid hpco; have ST := Lib.hid hst; have LT := Lib.hid (ML.out.hcc.lt (by simp)); have LB1 := Lib.hid hb.size
                    clear hb hst hpco m0 m1 m2 m3 x0 x1 x2 x3 x4
                    go_upto_region 21 with fail
                    obtain ⟨u2, hu2⟩ : ∃ u2, u2 = (u1.alloc (.cells #[.slice pa pn pc_, .slice pda pdn pdc, .slice pha phn phc, .int .i64 ppc, .bool pe] 36)).alloc (.cells #[.int .i64 va, .int .i64 vd, .bool vj] 39) := ⟨_, rfl⟩
                    rw [← hu2]
                    have BB := Lib.hid (show Below u1.heap.size u1 u2 by rw [hu2]; exact ((Below.refl _ _).alloc (Nat.le_refl _) _).alloc (by simp) _)
                    have P2 := Lib.hid (show Has u2 u1.heap.size (CoCells pa pn pc_ pda pdn pdc pha phn phc ppc pe) by rw [hu2]; exact (Has.new u1 (CoCells pa pn pc_ pda pdn pdc pha phn phc ppc pe) 36).old (by simp))
                    have V2 := Lib.hid (show Has u2 (u1.heap.size + 1) (EvCells ⟨va, vd, vj⟩) by rw [hu2]; exact (Has.new (u1.alloc _) (EvCells ⟨va, vd, vj⟩) 39).at' (by simp))
                    have M2 := Lib.hid (M1.out.to BB.out)
                    have Q2 := Lib.hid (P1.out.below BB.out)
                    clear hu2 BB M1 P1
                    generalize u1.heap.size = yp at P2 V2 LB1 ⊢
                    have m0 := M2.out.hm.cell 0 _ rfl; have m1 := M2.out.hm.cell 1 _ rfl; have m2 := M2.out.hm.cell 2 _ rfl; have m3 := M2.out.hm.cell 3 _ rfl
                    have x0 := M2.out.hcc.cell 0 _ rfl; have x1 := M2.out.hcc.cell 1 _ rfl; have x2 := M2.out.hcc.cell 2 _ rfl; have x3 := M2.out.hcc.cell 3 _ rfl; have x4 := M2.out.hcc.cell 4 _ rfl
                    dsimp only at x3 x4
                    go_wp2_with fail
                    refine Calls.mono (rStep_any (Nar (Ge (w2.heap.size + 3)) mq) (fun k => k ≠ q4) ca (n + 1) cc 6 (some ⟨bu, 0, none⟩) 1 1 (stImg n code nds) ra rn rc da dn dc ha hn hc ⟨gr, gd, gh, pc, en⟩ u2 M2.out.img M2.out.co (by show (0 : Int) < 6; decide)) ?_
                    rintro e u3 ⟨qa, qn, qc, qda, qdn, qdc, qha, qhn, qhc, dq, vq, fr, rfl, hst2, hqco, hb⟩
                    obtain ⟨hdq, hvq, hfr⟩ := StepIs.same hst2 ST.out
                    subst hdq hvq
                    have hfr := hfr.symm
                    subst hfr
                    have M3 := Lib.hid (M2.out.to hb)
                    have P3 := Lib.hid (P2.out.below hb (P2.out.lt (by simp)))
                    have V3 := Lib.hid (V2.out.below hb (V2.out.lt (by simp)))
                    have Q3 := Lib.hid (Q2.out.below hb)
                    have R3 := Lib.hid hqco; have LB3 := Lib.hid (show wt.heap.size ≤ u2.heap.size ∧ u2.heap.size ≤ u3.heap.size from ⟨by have := P2.out.lt (by simp); have := LB1.out; omega, hb.size⟩)
                    clear hb hst2 hqco m0 m1 m2 m3 x0 x1 x2 x3 x4 M2 P2 V2 Q2
                    go_upto_region 22 with fail
                    obtain ⟨u4, hu4⟩ : ∃ u4, u4 = (u3.alloc (.cells #[.slice qa qn qc, .slice qda qdn qdc, .slice qha qhn qhc, .int .i64 ppc, .bool pe] 36)).alloc (.cells #[.int .i64 va, .int .i64 vd, .bool vj] 39) := ⟨_, rfl⟩
                    rw [← hu4]
                    have BB := Lib.hid (show Below u3.heap.size u3 u4 by rw [hu4]; exact ((Below.refl _ _).alloc (Nat.le_refl _) _).alloc (by simp) _)
                    have S4 := Lib.hid (show Has u4 u3.heap.size (CoCells qa qn qc qda qdn qdc qha qhn qhc ppc pe) by rw [hu4]; exact (Has.new u3 (CoCells qa qn qc qda qdn qdc qha qhn qhc ppc pe) 36).old (by simp))
                    have W4 := Lib.hid (show Has u4 (u3.heap.size + 1) (EvCells ⟨va, vd, vj⟩) by rw [hu4]; exact (Has.new (u3.alloc _) (EvCells ⟨va, vd, vj⟩) 39).at' (by simp))
                    have M4 := Lib.hid (M3.out.to BB.out)
                    have P4 := Lib.hid (P3.out.below BB.out (P3.out.lt (by simp)))
                    have V4 := Lib.hid (V3.out.below BB.out (V3.out.lt (by simp)))
                    have Q4 := Lib.hid (Q3.out.below BB.out)
                    have R4 := Lib.hid (R3.out.below BB.out)
                    clear hu4 BB M3 P3 V3 Q3 R3
                    obtain ⟨yq, hyq⟩ : ∃ yq, yq = u3.heap.size := ⟨_, rfl⟩
                    rw [← hyq] at S4 W4 LB3 ⊢
                    clear hyq
                    obtain ⟨vb, hvb⟩ : ∃ b : Bool, b = true ↔ CoOk (stImg n code nds) ⟨gr, gd, gh, pc, en⟩ := by
                      by_cases h : CoOk (stImg n code nds) ⟨gr, gd, gh, pc, en⟩
                      · exact ⟨true, by simp [h]⟩
                      · exact ⟨false, by simp [h]⟩
                    have CS := Lib.hid (show ∀ s : BelowW u4, Calls Try.prog 16 #[CoV pa pn pc_ pda pdn pdc pha phn phc ppc pe, CoV qa qn qc qda qdn qdc qha qhn qhc ppc pe] s.world fun e w' => e = .returned (.bool true) ∧ Below s.world.heap.size s.world w' from
                      fun s => csame_any _ _ pa pn pc_ pda pdn pdc pha phn phc qa qn qc qda qdn qdc qha qhn qhc ⟨pr, pd, ph, ppc, pe⟩ s.world (Q4.out.below s.ok) (R4.out.below s.ok))
                    have VA := Lib.hid (show ∀ s : BelowW u4, Calls Try.prog 17 #[MV ca (n + 1) cc 6 (some ⟨bu, 0, none⟩) 1 1, CoV ra rn rc da dn dc ha hn hc pc en] s.world fun e w' => e = .returned (.bool vb) ∧ Below s.world.heap.size s.world w' from
                      fun s => (mvalid_any _ _ ca (n + 1) cc 6 (some ⟨bu, 0, none⟩) 1 1 (stImg n code nds) ra rn rc da dn dc ha hn hc ⟨gr, gd, gh, pc, en⟩ s.world (M4.out.img.below s.ok) (M4.out.co.below s.ok)).mono (by
                        rintro e w' ⟨b, rfl, hb, hbb⟩
                        exact ⟨by rw [show b = vb from Bool.eq_iff_iff.2 (hb.trans hvb.symm)], hbb⟩))
                    have VR := Lib.hid (show ∀ s : BelowW u4, Calls Try.prog 18 #[MV ca (n + 1) cc 6 (some ⟨bu, 0, none⟩) 1 1, CoV ra rn rc da dn dc ha hn hc pc en] s.world fun e w' => e = .returned (.bool vb) ∧ Below s.world.heap.size s.world w' from
                      fun s => (rvalid_any _ _ ca (n + 1) cc 6 (some ⟨bu, 0, none⟩) 1 1 (stImg n code nds) ra rn rc da dn dc ha hn hc ⟨gr, gd, gh, pc, en⟩ s.world (M4.out.img.below s.ok) (M4.out.co.below s.ok)).mono (by
                        rintro e w' ⟨b, rfl, hb, hbb⟩
                        exact ⟨by rw [show b = vb from Bool.eq_iff_iff.2 (hb.trans hvb.symm)], hbb⟩))
                    clear hvb
                    have hm4 := M4.out.hm; have hc4 := M4.out.hcc
                    have m0 := fun s : BelowW u4 => (hm4.every (hm4.lt (by simp)) s).cell 0 _ rfl
                    have m1 := fun s : BelowW u4 => (hm4.every (hm4.lt (by simp)) s).cell 1 _ rfl
                    have m2 := fun s : BelowW u4 => (hm4.every (hm4.lt (by simp)) s).cell 2 _ rfl
                    have m3 := fun s : BelowW u4 => (hm4.every (hm4.lt (by simp)) s).cell 3 _ rfl
                    have x0 := fun s : BelowW u4 => (hc4.every (hc4.lt (by simp)) s).cell 0 _ rfl
                    have x1 := fun s : BelowW u4 => (hc4.every (hc4.lt (by simp)) s).cell 1 _ rfl
                    have x2 := fun s : BelowW u4 => (hc4.every (hc4.lt (by simp)) s).cell 2 _ rfl
                    have x3 := fun s : BelowW u4 => (hc4.every (hc4.lt (by simp)) s).cell 3 _ rfl
                    have x4 := fun s : BelowW u4 => (hc4.every (hc4.lt (by simp)) s).cell 4 _ rfl
                    have p0 := fun s : BelowW u4 => (P4.out.every (P4.out.lt (by simp)) s).cell 0 _ rfl
                    have p1 := fun s : BelowW u4 => (P4.out.every (P4.out.lt (by simp)) s).cell 1 _ rfl
                    have p2 := fun s : BelowW u4 => (P4.out.every (P4.out.lt (by simp)) s).cell 2 _ rfl
                    have p3 := fun s : BelowW u4 => (P4.out.every (P4.out.lt (by simp)) s).cell 3 _ rfl
                    have p4 := fun s : BelowW u4 => (P4.out.every (P4.out.lt (by simp)) s).cell 4 _ rfl
                    have s0 := fun s : BelowW u4 => (S4.out.every (S4.out.lt (by simp)) s).cell 0 _ rfl
                    have s1 := fun s : BelowW u4 => (S4.out.every (S4.out.lt (by simp)) s).cell 1 _ rfl
                    have s2 := fun s : BelowW u4 => (S4.out.every (S4.out.lt (by simp)) s).cell 2 _ rfl
                    have s3 := fun s : BelowW u4 => (S4.out.every (S4.out.lt (by simp)) s).cell 3 _ rfl
                    have s4 := fun s : BelowW u4 => (S4.out.every (S4.out.lt (by simp)) s).cell 4 _ rfl
                    have v0 := fun s : BelowW u4 => (V4.out.every (V4.out.lt (by simp)) s).cell 0 _ rfl
                    have v1 := fun s : BelowW u4 => (V4.out.every (V4.out.lt (by simp)) s).cell 1 _ rfl
                    have v2 := fun s : BelowW u4 => (V4.out.every (V4.out.lt (by simp)) s).cell 2 _ rfl
                    have t0 := fun s : BelowW u4 => (W4.out.every (W4.out.lt (by simp)) s).cell 0 _ rfl
                    have t1 := fun s : BelowW u4 => (W4.out.every (W4.out.lt (by simp)) s).cell 1 _ rfl
                    have t2 := fun s : BelowW u4 => (W4.out.every (W4.out.lt (by simp)) s).cell 2 _ rfl
                    clear hm4 hc4
                    dsimp only at x3 x4 v0 v1 v2 t0 t1 t2
                    have qe : (er != er) = false := by simp
                    have qa_ : (va != va) = false := by simp
                    have qd_ : (vd != vd) = false := by simp
                    have qj_ : (vj != vj) = false := by simp
                    have qv_ : (vb != vb) = false := by simp
                    refine wp_region_below (by kernel_rfl) (by kernel_rfl) ?_
                    repeat (go_big_quiet_step ((first | (go_at_call 16; (with_reducible exact calls_below _ (CS.out _))) | (go_at_call 17; (with_reducible exact calls_below _ (VA.out _))) | (go_at_call 18; (with_reducible exact calls_below _ (VR.out _))))))
                    refine wpQuiet_nil ?_
                    rintro w9 ⟨s, rfl⟩
                    obtain ⟨u5, ok5⟩ := s
                    clear m0 m1 m2 m3 x0 x1 x2 x3 x4 p0 p1 p2 p3 p4 s0 s1 s2 s3 s4 v0 v1 v2 t0 t1 t2 CS VA VR
                    dsimp only
                    have M5 := Lib.hid (M4.out.to ok5)
                    have S5 := Lib.hid (S4.out.below ok5 (S4.out.lt (by simp)))
                    have R5 := Lib.hid (R4.out.below ok5)
                    clear M4 S4 R4 P4 V4 W4 Q4
                    by_cases h0 : er = 0
                    · subst h0
                      have x0 := M5.out.hcc.cell 0 _ rfl; have x1 := M5.out.hcc.cell 1 _ rfl; have x2 := M5.out.hcc.cell 2 _ rfl; have x3 := M5.out.hcc.cell 3 _ rfl; have x4 := M5.out.hcc.cell 4 _ rfl; have xf := M5.out.hcc.free
                      have s0 := S5.out.cell 0 _ rfl; have s1 := S5.out.cell 1 _ rfl; have s2 := S5.out.cell 2 _ rfl; have s3 := S5.out.cell 3 _ rfl; have s4 := S5.out.cell 4 _ rfl
                      dsimp only at x3 x4
                      have NY : q4 ≠ yq := by have := LT.out; have := LB3.out; omega
                      have LL := Lib.hid (step_lens3 ST.out)
                      have MS := Lib.hid (M5.out.store (c' := ⟨pr, pd, ph, ppc, pe⟩) (R5.out.wide (fun j hj => by
                        have := LT.out; have := LB3.out
                        unfold Or2 at hj
                        rcases hj with h | h
                        · exact h
                        · omega)) (by
                          have l := M5.out.ls; have h1 := R5.out.regs.hlen; have h2 := R5.out.data.hlen; have h3 := R5.out.held.hlen
                          have g1 := M5.out.co.regs.hlen; have g2 := M5.out.co.data.hlen; have g3 := M5.out.co.held.hlen; have l3 := LL.out
                          dsimp only at h1 h2 h3 g1 g2 g3 l3
                          omega) LQ.out)
                      go_wp2
                      clear x0 x1 x2 x3 x4 xf s0 s1 s2 s3 s4
                      go_roundw
                      case rel => exact ⟨k2 + 1, _, _, _, _, _, _, _, _, _, _, by omega, by go_num, MS.out⟩
                      case measure => simp [intOf]; omega
                    · have e0 : (er != 0) = true := by simpa using h0
                      go_wp2_with fail
                      refine (mawake_any _).mono ?_
                      rintro e u6 ⟨rfl, hb⟩
                      go_wp2
                      go_ret
                      exact ⟨rfl, M5.out.below.trans (hb.mono M5.out.below.size)⟩
                  · go_wp2_with fail
                    refine (mawake_any _).mono ?_
                    rintro e u6 ⟨rfl, hb⟩
                    go_wp2
                    go_ret
                    exact ⟨rfl, ML.out.below.trans (hb.mono ML.out.below.size)⟩
  · have FEW := Lib.hid ((mfew_any a0 len0 cap0 w hl0).2 hf)
    clear w0 hf
    go_enter Try.func3, Try.ntmps3
    go_wp2_with fail
    refine FEW.out.mono ?_
    rintro e w' ⟨rfl, rfl⟩
    go_wp2_with fail
    refine (mawake_any _).mono ?_
    rintro e w2 ⟨rfl, hb⟩
    go_wp2
    go_ret
    exact ⟨rfl, hb⟩
end Go.Proofs.Ytonbmijhbbodnaa
