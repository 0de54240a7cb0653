/-
  timeboundlaw19.InstrBack returns true, whatever its arguments are. No condition.
-/
import Derived.Test.YtonbmijhbbodnaaInY
import Derived.Test.YtonbmijhbbodnaaInU
import Derived.Test.YtonbmijhbbodnaaHeadi
import Derived.Test.YtonbmijhbbodnaaQuiet
import Derived.Laws.Concat
import Derived.Deep.DeepCutAuto
namespace Go.Proofs.Ytonbmijhbbodnaa
open Go.RowKit

abbrev Z6 : List Value := ICells ⟨0, 0, 0, 0, 0, 0⟩
/-- An instruction in a variable. -/
structure Vr (B : Nat) (w : World) (q : Nat) (x : Ins) : Prop where
  has : Blk w q 50 (ICells x)
  ge : B ≤ q
  lt : q < w.heap.size
theorem Vr.below {B : Nat} {w w' : World} {q : Nat} {x : Ins} (h : Vr B w q x) (hb : Below w.heap.size w w') : Vr B w' q x := ⟨h.has.below hb h.lt, h.ge, Nat.lt_of_lt_of_le h.lt hb.size⟩
set_option maxRecDepth 100000 in
set_option maxHeartbeats 16000000 in
theorem back_law (a0 a1 a2 a3 a4 o0 o1 o2 o3 a6 : Int) (w0 : (Lit.int .u8 a0).wf = true) (w1 : (Lit.int .u8 a1).wf = true) (w2 : (Lit.int .u8 a2).wf = true) (w3 : (Lit.int .u8 a3).wf = true) (w4 : (Lit.int .i32 a4).wf = true) (u0 : (Lit.int .u8 o0).wf = true) (u1 : (Lit.int .u8 o1).wf = true) (u2 : (Lit.int .u8 o2).wf = true) (u3 : (Lit.int .u8 o3).wf = true) (w6 : (Lit.int .i32 a6).wf = true) (w : World) :
    Calls Try.prog 6 #[.int .u8 a0, .int .u8 a1, .int .u8 a2, .int .u8 a3, .int .i32 a4, .agg #[.int .u8 o0, .int .u8 o1, .int .u8 o2, .int .u8 o3], .int .i32 a6] w (TrueRet w) := by
  have W0 := wf_u8 w0; have W1 := wf_u8 w1; have W2 := wf_u8 w2; have W3 := wf_u8 w3; have W4 := wf_i32 w4
  have U0 := wf_u8 u0; have U1 := wf_u8 u1; have U2 := wf_u8 u2; have U3 := wf_u8 u3; have W6 := wf_i32 w6
  obtain ⟨k1, hk1⟩ : ∃ k, k = a0 % 220 := ⟨_, rfl⟩
  obtain ⟨k2, hk2⟩ : ∃ k, k = o0 % 220 := ⟨_, rfl⟩
  obtain ⟨x, hx⟩ : ∃ x, x = ofI k1 a1 a2 a3 a4 := ⟨_, rfl⟩
  obtain ⟨y, hy⟩ : ∃ y, y = ofI k2 o1 o2 o3 a6 := ⟨_, rfl⟩
  have HX := Lib.hid (show ∀ wq, Calls Try.prog 19 #[.int .u8 k1, .int .u8 a1, .int .u8 a2, .int .u8 a3, .int .i32 a4] wq (OfRet x wq) from fun wq => by rw [hx]; exact of_any k1 a1 a2 a3 a4 wq (by omega) W1 W2 W3 W4)
  have HY := Lib.hid (show ∀ wq, Calls Try.prog 19 #[.int .u8 k2, .int .u8 o1, .int .u8 o2, .int .u8 o3, .int .i32 a6] wq (OfRet y wq) from fun wq => by rw [hy]; exact of_any k2 o1 o2 o3 a6 wq (by omega) U1 U2 U3 W6)
  have CX := Lib.hid (show chkI x = 0 by rw [hx]; unfold ofI; rw [if_neg (by omega)]; exact ofB_ok W4)
  have CY := Lib.hid (show chkI y = 0 by rw [hy]; unfold ofI; rw [if_neg (by omega)]; exact ofB_ok W6)
  have IX := Lib.hid (show x.In by rw [hx]; exact ofI_in W4)
  have IY := Lib.hid (show y.In by rw [hy]; exact ofI_in W6)
  have m1 : a0 % 220 = k1 := hk1.symm
  have m2 : o0 % 220 = k2 := hk2.symm
  have m3 : IntKind.u8.wrap (a0.tmod 220) = k1 := by rw [IntKind.wrap_u8, Int.tmod_eq_emod_of_nonneg W0.1]; omega
  have m4 : IntKind.u8.wrap (o0.tmod 220) = k2 := by rw [IntKind.wrap_u8, Int.tmod_eq_emod_of_nonneg U0.1]; omega
  have m5 : a0.tmod 220 = k1 := by rw [Int.tmod_eq_emod_of_nonneg W0.1]; exact m1
  have m6 : o0.tmod 220 = k2 := by rw [Int.tmod_eq_emod_of_nonneg U0.1]; exact m2
  have F0 := Lib.hid (Fm.new (Fm.start Non w) rfl [.int .u8 o0, .int .u8 o1, .int .u8 o2, .int .u8 o3] 57)
  clear w0 w1 w2 w3 w4 u0 u1 u2 u3 w6 hk1 hk2 hx hy
  go_enter Try.func6, Try.ntmps6
  go_upto_region 1 with fail
  obtain ⟨wv, hwv⟩ : ∃ wv, wv = w.alloc (.cells #[.int .u8 o0, .int .u8 o1, .int .u8 o2, .int .u8 o3] 57) := ⟨_, rfl⟩
  rw [← hwv]
  have F1 := Lib.hid (show Fm Non w wv [[.int .u8 o0, .int .u8 o1, .int .u8 o2, .int .u8 o3]] by rw [hwv]; exact F0.out)
  have SV := Lib.hid (show wv.heap.size = w.heap.size + 1 by rw [hwv]; simp)
  clear hwv F0
  have t0 := F1.out.h0
  have c0 := t0.cell 0 _ rfl; have c1 := t0.cell 1 _ rfl; have c2 := t0.cell 2 _ rfl; have c3 := t0.cell 3 _ rfl
  clear t0
  go_cut [15, 16] (fun s15 s16 wx => ∃ bx by_ : Nat, s15 = .pointer (some ⟨bx, 0, none⟩) ∧ s16 = .pointer (some ⟨by_, 0, none⟩) ∧ Vr wv.heap.size wx bx x ∧ Vr wv.heap.size wx by_ y ∧ Below wv.heap.size wv wx)
  case first =>
    as_aux_lemma =>
      refine hd_start 20 (fun w' => w'.cell? ⟨w.heap.size, 0, none⟩ = some (.int .u8 o0) ∧ w'.cell? ⟨w.heap.size, 1, none⟩ = some (.int .u8 o1) ∧ w'.cell? ⟨w.heap.size, 2, none⟩ = some (.int .u8 o2) ∧ w'.cell? ⟨w.heap.size, 3, none⟩ = some (.int .u8 o3)) (by kernel_rfl) ⟨by kernel_rfl, by kernel_rfl, by kernel_rfl, by decide⟩ (by refine ⟨c0, c1, c2, c3⟩) (fun ok => ?_)
      refine hd_take_l (i := 0) (v := ?_) ok rfl (by decide) (by kernel_rfl) (by kernel_rfl) (fun _ _ _ h => h) (Or.inl ⟨by kernel_rfl, ?_⟩) ?_
      rotate_left
      · (intro w hSw; (try dsimp only at hSw); (try go_split_ands); go_simp; (try (with_reducible rfl)))
      go_frame
      refine hd_take_l (i := 1) (v := ?_) ok rfl (by decide) (by kernel_rfl) (by kernel_rfl) (fun _ _ _ h => h) (Or.inl ⟨by kernel_rfl, ?_⟩) ?_
      rotate_left
      · (intro w hSw; (try dsimp only at hSw); (try go_split_ands); go_simp; (try (with_reducible rfl)))
      go_frame
      refine hd_take_l (i := 2) (v := ?_) ok rfl (by decide) (by kernel_rfl) (by kernel_rfl) (fun _ _ _ h => h) (Or.inl ⟨by kernel_rfl, ?_⟩) ?_
      rotate_left
      · (intro w hSw; (try dsimp only at hSw); (try go_split_ands); go_simp; (try (with_reducible rfl)))
      go_frame
      refine hd_take_l (i := 3) (v := ?_) ok rfl (by decide) (by kernel_rfl) (by kernel_rfl) (fun _ _ _ h => h) (Or.inl ⟨by kernel_rfl, ?_⟩) ?_
      rotate_left
      · (intro w hSw; (try dsimp only at hSw); (try go_split_ands); go_simp; (try (with_reducible rfl)))
      go_frame
      refine hd_take_l (i := 4) (v := ?_) ok rfl (by decide) (by kernel_rfl) (by kernel_rfl) (fun _ _ _ h => h) (Or.inl ⟨by kernel_rfl, ?_⟩) ?_
      rotate_left
      · (intro w hSw; (try dsimp only at hSw); (try go_split_ands); go_simp; (try (with_reducible rfl)))
      go_frame
      refine hd_take_l (i := 5) (v := ?_) ok rfl (by decide) (by kernel_rfl) (by kernel_rfl) (fun _ _ _ h => h) (Or.inl ⟨by kernel_rfl, ?_⟩) ?_
      rotate_left
      · (intro w hSw; (try dsimp only at hSw); (try go_split_ands); go_simp; (try (with_reducible rfl)))
      go_frame
      refine hd_take_l (i := 7) (v := ?_) ok rfl (by decide) (by kernel_rfl) (by kernel_rfl) (fun _ _ _ h => h) (Or.inl ⟨by kernel_rfl, ?_⟩) ?_
      rotate_left
      · (intro w hSw; (try dsimp only at hSw); (try go_split_ands); go_simp; (try (with_reducible rfl)))
      go_frame
      refine hd_take_l (i := 8) (v := ?_) ok rfl (by decide) (by kernel_rfl) (by kernel_rfl) (fun _ _ _ h => h) (Or.inl ⟨by kernel_rfl, ?_⟩) ?_
      rotate_left
      · (intro w hSw; (try dsimp only at hSw); (try go_split_ands); go_simp; (try (with_reducible rfl)))
      go_frame
      refine hd_take_l (i := 9) (v := ?_) ok rfl (by decide) (by kernel_rfl) (by kernel_rfl) (fun _ _ _ h => h) (Or.inl ⟨by kernel_rfl, ?_⟩) ?_
      rotate_left
      · (intro w hSw; (try dsimp only at hSw); (try go_split_ands); go_simp; (try (with_reducible rfl)))
      go_frame
      refine hd_take_l (i := 10) (v := ?_) ok rfl (by decide) (by kernel_rfl) (by kernel_rfl) (fun _ _ _ h => h) (Or.inl ⟨by kernel_rfl, ?_⟩) ?_
      rotate_left
      · (intro w hSw; (try dsimp only at hSw); (try go_split_ands); go_simp; (try (with_reducible rfl)))
      go_frame
      refine hd_take_l (i := 11) (v := ?_) ok rfl (by decide) (by kernel_rfl) (by kernel_rfl) (fun _ _ _ h => h) (Or.inl ⟨by kernel_rfl, ?_⟩) ?_
      rotate_left
      · (intro w hSw; (try dsimp only at hSw); (try go_split_ands); go_simp; (try (with_reducible rfl)))
      go_frame
      refine hd_take_l (i := 12) (v := ?_) ok rfl (by decide) (by kernel_rfl) (by kernel_rfl) (fun _ _ _ h => h) (Or.inl ⟨by kernel_rfl, ?_⟩) ?_
      rotate_left
      · (intro w hSw; (try dsimp only at hSw); (try go_split_ands); go_simp; (try (with_reducible rfl)))
      go_frame
      refine hd_take_l (i := 13) (v := ?_) ok rfl (by decide) (by kernel_rfl) (by kernel_rfl) (fun _ _ _ h => h) (Or.inl ⟨by kernel_rfl, ?_⟩) ?_
      rotate_left
      · (intro w hSw; (try dsimp only at hSw); (try go_split_ands); go_simp; (try (with_reducible rfl)))
      go_frame
      refine hd_take_l (i := 14) (v := ?_) ok rfl (by decide) (by kernel_rfl) (by kernel_rfl) (fun _ _ _ h => h) (Or.inl ⟨by kernel_rfl, ?_⟩) ?_
      rotate_left
      · (intro w hSw; (try dsimp only at hSw); (try go_split_ands); go_simp; (try (with_reducible rfl)))
      go_frame
      refine hd_take_l (i := 15) (v := ?_) ok rfl (by decide) (by kernel_rfl) (by kernel_rfl) (fun _ _ _ h => h) (Or.inl ⟨by kernel_rfl, ?_⟩) ?_
      rotate_left
      · (intro w hSw; (try dsimp only at hSw); (try go_split_ands); go_simp; (try (with_reducible rfl)))
      go_frame
      refine hd_take_l (i := 16) (v := ?_) ok rfl (by decide) (by kernel_rfl) (by kernel_rfl) (fun _ _ _ h => h) (Or.inl ⟨by kernel_rfl, ?_⟩) ?_
      rotate_left
      · (intro w hSw; (try dsimp only at hSw); (try go_split_ands); go_simp; (try (with_reducible rfl)))
      go_frame
      refine hd_inv_p [(31, 6), (42, 17), (15, 18), (16, 19)] (fun _ => undef) (fun b v w' => Below wv.heap.size wv w' ∧ ∃ xq yq : Nat, (b 6 = true → v 6 = IV x) ∧ (b 17 = true → v 17 = IV y) ∧ (b 18 = true → v 18 = .pointer (some ⟨xq, 0, none⟩) ∧ Vr wv.heap.size w' xq ⟨0, 0, 0, 0, 0, 0⟩) ∧ (b 19 = true → v 19 = .pointer (some ⟨yq, 0, none⟩) ∧ Vr wv.heap.size w' yq ⟨0, 0, 0, 0, 0, 0⟩) ∧ (b 18 = true → b 19 = true → xq ≠ yq)) (.inl ok) ⟨by decide, by decide, by kernel_rfl, rfl⟩ (by kernel_rfl) (by kernel_rfl) (by decide) ⟨(Below.refl _ _).drew, 0, 0, (fun h => by cases h), (fun h => by cases h), (fun h => by cases h), (fun h => by cases h), (fun h _ => by cases h)⟩ ?_ ?_
      · intro i oi hi ho b v a w' hJ hv hr hb hdep hS K hK
        obtain ⟨hB, xq, yq, j1, j2, j3, j4, j34⟩ := hJ
        have hBs := hB.size
        have hi4 : i = 6 ∨ i = 17 ∨ i = 18 ∨ i = 19 := by simpa using hi
        rcases hi4 with rfl | rfl | rfl | rfl
        · obtain rfl := Option.some.inj ho
          try dsimp only at hS
          obtain ⟨s0, s1, s2, s3⟩ := hS
          have e26 : a.tmps[26]?.getD undef = .int .u8 k1 := (get_eval a 26).trans (hr 26 (by decide))
          have e27 : a.tmps[27]?.getD undef = .int .u8 a1 := (get_eval a 27).trans (hr 27 (by decide))
          have e28 : a.tmps[28]?.getD undef = .int .u8 a2 := (get_eval a 28).trans (hr 28 (by decide))
          have e29 : a.tmps[29]?.getD undef = .int .u8 a3 := (get_eval a 29).trans (hr 29 (by decide))
          have e30 : a.tmps[30]?.getD undef = .int .i32 a4 := (get_eval a 30).trans (hr 30 (by decide))
          go_simp
          (try rw [e26, e27, e28, e29, e30])
          go_at_call 19
          refine (HX.out _).mono ?_
          rintro e u ⟨rfl, hu⟩
          exact hK _ _ ⟨cell_later hu s0, cell_later hu s1, cell_later hu s2, cell_later hu s3⟩ ⟨hB.trans (hu.mono hBs), xq, yq, fun _ => rfl, j2, fun h => ⟨(j3 h).1, (j3 h).2.below hu⟩, fun h => ⟨(j4 h).1, (j4 h).2.below hu⟩, j34⟩
        · obtain rfl := Option.some.inj ho
          try dsimp only at hS
          obtain ⟨s0, s1, s2, s3⟩ := hS
          have e34 : a.tmps[34]?.getD undef = .int .u8 k2 := (get_eval a 34).trans (hr 34 (by decide))
          have e36 : a.tmps[36]?.getD undef = .int .u8 o1 := (get_eval a 36).trans (hr 36 (by decide))
          have e38 : a.tmps[38]?.getD undef = .int .u8 o2 := (get_eval a 38).trans (hr 38 (by decide))
          have e40 : a.tmps[40]?.getD undef = .int .u8 o3 := (get_eval a 40).trans (hr 40 (by decide))
          have e41 : a.tmps[41]?.getD undef = .int .i32 a6 := (get_eval a 41).trans (hr 41 (by decide))
          go_simp
          (try rw [e34, e36, e38, e40, e41])
          go_at_call 19
          refine (HY.out _).mono ?_
          rintro e u ⟨rfl, hu⟩
          exact hK _ _ ⟨cell_later hu s0, cell_later hu s1, cell_later hu s2, cell_later hu s3⟩ ⟨hB.trans (hu.mono hBs), xq, yq, j1, fun _ => rfl, fun h => ⟨(j3 h).1, (j3 h).2.below hu⟩, fun h => ⟨(j4 h).1, (j4 h).2.below hu⟩, j34⟩
        · obtain rfl := Option.some.inj ho
          try dsimp only at hS
          obtain ⟨s0, s1, s2, s3⟩ := hS
          go_simp
          have hu : Below w'.heap.size w' (w'.alloc (.cells Z6.toArray 50)) := (Below.refl _ _).alloc (Nat.le_refl _) _
          exact hK _ _ ⟨cell_later hu s0, cell_later hu s1, cell_later hu s2, cell_later hu s3⟩ ⟨hB.trans (hu.mono hBs), w'.heap.size, yq, j1, j2, fun _ => ⟨rfl, Blk.new w' Z6 50, hBs, by simp⟩, fun h => ⟨(j4 h).1, (j4 h).2.below hu⟩, fun _ h => by have := (j4 h).2.lt; omega⟩
        · obtain rfl := Option.some.inj ho
          try dsimp only at hS
          obtain ⟨s0, s1, s2, s3⟩ := hS
          go_simp
          have hu : Below w'.heap.size w' (w'.alloc (.cells Z6.toArray 50)) := (Below.refl _ _).alloc (Nat.le_refl _) _
          exact hK _ _ ⟨cell_later hu s0, cell_later hu s1, cell_later hu s2, cell_later hu s3⟩ ⟨hB.trans (hu.mono hBs), xq, w'.heap.size, j1, j2, fun h => ⟨(j3 h).1, (j3 h).2.below hu⟩, fun _ => ⟨rfl, Blk.new w' Z6 50, hBs, by simp⟩, fun h _ => by have := (j3 h).2.lt; omega⟩
      · intro b v w' hall hJ hS
        obtain ⟨hB, xq, yq, j1, j2, j3, j4, j34⟩ := hJ
        have v1 := j1 (hall 6 (by decide))
        have v2 := j2 (hall 17 (by decide))
        obtain ⟨v3, p3⟩ := j3 (hall 18 (by decide))
        obtain ⟨v4, p4⟩ := j4 (hall 19 (by decide))
        have hxy := j34 (hall 18 (by decide)) (hall 19 (by decide))
        have hyx : ¬ yq = xq := fun e => hxy e.symm
        simp only [putP, v1, v2, v3, v4]
        clear j1 j2 j3 j4 j34 hall hS ok v1 v2 v3 v4
        have L1 := laid_setRow (vs := ICells x) p3.has
        have L2 := laid_setRow (vs := ICells y) (p4.has.chg L1.chg hyx)
        have P3 := Lib.hid (show Vr wv.heap.size _ xq x from ⟨L1.blk.chg L2.chg hxy, p3.ge, Nat.lt_of_lt_of_le p3.lt (Nat.le_trans L1.chg.size L2.chg.size)⟩)
        have P4 := Lib.hid (show Vr wv.heap.size _ yq y from ⟨L2.blk, p4.ge, Nat.lt_of_lt_of_le p4.lt (Nat.le_trans L1.chg.size L2.chg.size)⟩)
        have HB := Lib.hid ((((Chg.of_below (M := Non) hB).trans L1.chg (fun j hj e => by have := p3.ge; omega)).trans L2.chg (fun j hj e => by have := p4.ge; omega)).below0)
        have B3 := Lib.hid p3.has
        have B4 := Lib.hid (p4.has.chg L1.chg hyx)
        clear p3 p4 hB L1 L2
        go_frame
        refine hd_done (by kernel_rfl) ?_
        simp only [List.drop_succ_cons, List.drop_zero]
        refine wpList_store_row rfl 50 _ _ rfl xq (ICells x).toArray rfl rfl 50 Z6.toArray B3.out.heap (by kernel_rfl) (by simp) (by simp [Value.oneCell']) ?_
        refine wpList_store_row rfl 50 _ _ rfl yq (ICells y).toArray rfl rfl 50 Z6.toArray B4.out.heap (by kernel_rfl) (by simp) (by simp [Value.oneCell']) ?_
        go_wp2_with fail
        go_meet
        exact ⟨xq, yq, rfl, rfl, P3.out, P4.out, HB.out⟩
  case rest =>
    obtain ⟨bx, by_, rfl, rfl, vx, vy, hB⟩ := hcut
    have VX := Lib.hid vx; have VY := Lib.hid vy
    have HB := Lib.hid ((show Below w.heap.size w wv from F1.out.below).trans (hB.mono (by have := SV.out; omega)))
    clear vx vy hB c0 c1 c2 c3 m1 m2 m3 m4 m5 m6 HX HY F1 W0 W1 W2 W3 W4 U0 U1 U2 U3 W6
    have EX : encB [x] = enc8 x ∧ encE [x] = 0 := ⟨encE_one.2 CX.out, encE_one.1.trans CX.out⟩
    have EY : encB [y] = enc8 y ∧ encE [y] = 0 := ⟨encE_one.2 CY.out, encE_one.1.trans CY.out⟩
    have EB : encB [x, y] = enc8 x ++ enc8 y ∧ encE [x, y] = 0 := by
      have := encE_good (l := [x, y]) (by simp) (fun z hz => by simp at hz; rcases hz with rfl | rfl; exact CX.out; exact CY.out)
      exact ⟨this.2.trans (by simp [encs]), this.1⟩
    have BX := Lib.hid (enc8_byt x); have BY := Lib.hid (enc8_byt y)
    have BB := Lib.hid (show Byt (enc8 x ++ enc8 y) from fun z hz => by rcases List.mem_append.1 hz with h | h; exact enc8_byt x z h; exact enc8_byt y z h)
    have lx : (enc8 x).length = 8 := rfl
    have ly : (enc8 y).length = 8 := rfl
    have lb : (enc8 x ++ enc8 y).length = 16 := rfl
    have DD := dec_two CX.out CY.out
    have HEX := Lib.hid EX; have HEY := Lib.hid EY; have HEB := Lib.hid EB; have HDD := Lib.hid DD
    have HLX := Lib.hid lx; have HLY := Lib.hid ly; have HLB := Lib.hid lb
    clear EX EY EB DD lx ly lb
    -- the bytes of both
    have x0 := VX.out.has.cell (i := 0) rfl; have x1 := VX.out.has.cell (i := 1) rfl; have x2 := VX.out.has.cell (i := 2) rfl; have x3 := VX.out.has.cell (i := 3) rfl; have x4 := VX.out.has.cell (i := 4) rfl; have x5 := VX.out.has.cell (i := 5) rfl
    have y0 := VY.out.has.cell (i := 0) rfl; have y1 := VY.out.has.cell (i := 1) rfl; have y2 := VY.out.has.cell (i := 2) rfl; have y3 := VY.out.has.cell (i := 3) rfl; have y4 := VY.out.has.cell (i := 4) rfl; have y5 := VY.out.has.cell (i := 5) rfl
    have N1 := Lib.hid (ins_new wc [x, y] 2 50 rfl (by omega) (fun z hz => by simp at hz; rcases hz with rfl | rfl; exact IX.out; exact IY.out))
    go_wp2_with fail
    refine (encode_any _ _ 2 2 [x, y] _ N1.out).mono ?_
    rintro e w1 ⟨v1, rfl, p1, b1⟩
    rw [HEB.out.2]
    rw [HEB.out.1, HLB.out] at p1
    obtain ⟨pa, pc, rfl⟩ := flat_form p1
    have b1' : Below wc.heap.size wc w1 := ((Below.refl _ _).alloc (Nat.le_refl _) _).trans (b1.mono (by simp))
    have VX1 := Lib.hid (VX.out.below b1'); have VY1 := Lib.hid (VY.out.below b1'); have HB1 := Lib.hid (HB.out.trans (b1'.mono HB.out.size)); have P1 := Lib.hid p1
    clear b1 b1' p1 x0 x1 x2 x3 x4 x5 y0 y1 y2 y3 y4 y5 N1 VX VY HB
    have x0 := VX1.out.has.cell (i := 0) rfl; have x1 := VX1.out.has.cell (i := 1) rfl; have x2 := VX1.out.has.cell (i := 2) rfl; have x3 := VX1.out.has.cell (i := 3) rfl; have x4 := VX1.out.has.cell (i := 4) rfl; have x5 := VX1.out.has.cell (i := 5) rfl
    have N1 := Lib.hid (ins_new w1 [x] 1 50 rfl (by omega) (fun z hz => by simp at hz; subst hz; exact IX.out))
    go_wp2_with fail
    refine (encode_any _ _ 1 1 [x] _ N1.out).mono ?_
    rintro e w2 ⟨v2, rfl, p2, b2⟩
    rw [HEX.out.2]
    rw [HEX.out.1, HLX.out] at p2
    obtain ⟨qa, qc, rfl⟩ := flat_form p2
    have b2' : Below w1.heap.size w1 w2 := ((Below.refl _ _).alloc (Nat.le_refl _) _).trans (b2.mono (by simp))
    have VX2 := Lib.hid (VX1.out.below b2'); have VY2 := Lib.hid (VY1.out.below b2'); have HB2 := Lib.hid (below_go HB1.out b2'); have P2 := Lib.hid (flat_below P1.out b2'); have Q2 := Lib.hid p2
    clear b2 b2' p2 x0 x1 x2 x3 x4 x5 N1 VX1 VY1 HB1 P1
    have y0 := VY2.out.has.cell (i := 0) rfl; have y1 := VY2.out.has.cell (i := 1) rfl; have y2 := VY2.out.has.cell (i := 2) rfl; have y3 := VY2.out.has.cell (i := 3) rfl; have y4 := VY2.out.has.cell (i := 4) rfl; have y5 := VY2.out.has.cell (i := 5) rfl
    have N1 := Lib.hid (ins_new w2 [y] 1 50 rfl (by omega) (fun z hz => by simp at hz; subst hz; exact IY.out))
    go_wp2_with fail
    refine (encode_any _ _ 1 1 [y] _ N1.out).mono ?_
    rintro e w3 ⟨v3, rfl, p3, b3⟩
    rw [HEY.out.2]
    rw [HEY.out.1, HLY.out] at p3
    obtain ⟨ra, rc, rfl⟩ := flat_form p3
    have b3' : Below w2.heap.size w2 w3 := ((Below.refl _ _).alloc (Nat.le_refl _) _).trans (b3.mono (by simp))
    have VX3 := Lib.hid (VX2.out.below b3'); have VY3 := Lib.hid (VY2.out.below b3'); have HB3 := Lib.hid (below_go HB2.out b3'); have P3 := Lib.hid (flat_below P2.out b3'); have Q3 := Lib.hid (flat_below Q2.out b3'); have R3 := Lib.hid p3
    clear b3 b3' p3 y0 y1 y2 y3 y4 y5 N1 VX2 VY2 HB2 P2 Q2
    have PB := Lib.hid (flat_bytes (K := fun _ => True) P3.out BB.out (by omega) (fun _ _ => trivial))
    go_wp2_with fail
    refine (decode_any _ pa 16 pc (enc8 x ++ enc8 y) _ PB.out BB.out).mono ?_
    rintro e w4 ⟨v4, rfl, p4, b4⟩
    have l2 : ([x, y] : List Ins).length = 2 := rfl
    rw [HDD.out.1]
    rw [HDD.out.2, l2] at p4
    obtain ⟨da, dc, rfl⟩ := flat_form p4
    have VX4 := Lib.hid (VX3.out.below b4); have VY4 := Lib.hid (VY3.out.below b4); have HB4 := Lib.hid (below_go HB3.out b4)
    have CP := Lib.hid (flat_bytes (K := fun _ => True) (flat_below P3.out b4) BB.out (by omega) (fun _ _ => trivial))
    have CQ := Lib.hid (flat_bytes (K := fun _ => True) (flat_below Q3.out b4) BX.out (by omega) (fun _ _ => trivial))
    have CR := Lib.hid (flat_bytes (K := fun _ => True) (flat_below R3.out b4) BY.out (by omega) (fun _ _ => trivial))
    have CD := Lib.hid (flat_ins (K := fun _ => True) p4 (fun z hz => by simp at hz; rcases hz with rfl | rfl; exact IX.out; exact IY.out) (by omega) (fun _ _ => trivial))
    clear p4 b4 l2 VX3 VY3 HB3 P3 Q3 R3 PB
    go_upto_region 6 with fail
    obtain ⟨gb, go, x', rfl, hx', _, _, lg, a0, a1, a2, a3, a4, a5⟩ := InsL.get CD.out (show 0 < 2 by omega)
    obtain ⟨gb', go', y', e', hy', _, _, _, b0, b1, b2, b3, b4, b5⟩ := InsL.get CD.out (show 1 < 2 by omega)
    cases e'
    simp at hx' hy'
    subst hx'
    subst hy'
    simp only [Nat.zero_mul, Nat.add_zero, Nat.one_mul] at a0 a1 a2 a3 a4 a5 b0 b1 b2 b3 b4 b5
    obtain ⟨sp, hsp⟩ : ∃ q, q = strOfNums (enc8 x ++ enc8 y) := ⟨_, rfl⟩
    obtain ⟨sq, hsq⟩ : ∃ q, q = strOfNums (enc8 x) := ⟨_, rfl⟩
    obtain ⟨sr, hsr⟩ : ∃ q, q = strOfNums (enc8 y) := ⟨_, rfl⟩
    obtain ⟨q, hq⟩ : ∃ q, q = eqI ⟨x.k, x.a, x.b, x.c, x.op, x.imm⟩ ⟨y.k, y.a, y.b, y.c, y.op, y.imm⟩ := ⟨_, rfl⟩
    have eq1 : (sq.toList == sr.toList) = q := by
      rw [hsq, hsr, hq, str_beq BX.out BY.out, eqI_iff]
      by_cases e : x = y
      · subst e; simp
      · rw [decide_eq_false (fun h => e (enc8_inj CX.out CY.out h))]
        exact (decide_eq_false e).symm
    have eq2 : (sp.toList == (sq ++ sr).toList) = true := by
      rw [hsp, hsq, hsr, Lib.strOfNums_toList]
      have : (strOfNums (enc8 x) ++ strOfNums (enc8 y)).toList = Lib.bytesOf (enc8 x ++ enc8 y) := by
        rw [Lib.toList_data]
        simp [strOfNums, Lib.bytesOf]
      rw [this]
      simp
    have eq3 : eqI ⟨x.k, x.a, x.b, x.c, x.op, x.imm⟩ ⟨x.k, x.a, x.b, x.c, x.op, x.imm⟩ = true := by rw [eqI_iff]; simp
    have eq4 : eqI ⟨y.k, y.a, y.b, y.c, y.op, y.imm⟩ ⟨y.k, y.a, y.b, y.c, y.op, y.imm⟩ = true := by rw [eqI_iff]; simp
    have eq5 : eqI ⟨x.k, x.a, x.b, x.c, x.op, x.imm⟩ ⟨y.k, y.a, y.b, y.c, y.op, y.imm⟩ = q := hq.symm
    have szq : sq.size = 8 := by rw [hsq, strOfNums_size]; rfl
    have szr : sr.size = 8 := by rw [hsr, strOfNums_size]; rfl
    have add1 : ∀ t : TypeId, ∀ s : BelowW w4, (binOp .add t (.string sq) (.string sr)).run Try.prog s.world = .ok (.string (sq ++ sr)) s.world := fun t s => by
      rw [binOp_string_add]
      exact run_string_add (P := Try.prog) s.world sq sr (by omega) (by omega)
    have cv1 : ∀ s : BelowW w4, (convert 47 9 (.slice pa 16 pc)).run Try.prog s.world = .ok (.string sp) s.world := fun s => by rw [hsp]; exact conv_bytes (Row.below RU8.stays CP.out s.ok)
    have cv2 : ∀ s : BelowW w4, (convert 47 9 (.slice qa 8 qc)).run Try.prog s.world = .ok (.string sq) s.world := fun s => by rw [hsq]; exact conv_bytes (Row.below RU8.stays CQ.out s.ok)
    have cv3 : ∀ s : BelowW w4, (convert 47 9 (.slice ra 8 rc)).run Try.prog s.world = .ok (.string sr) s.world := fun s => by rw [hsr]; exact conv_bytes (Row.below RU8.stays CR.out s.ok)
    have xc0 := fun s : BelowW w4 => cell_later s.ok (VX4.out.has.cell (i := 0) (v := .int .i64 x.k) rfl)
    have xc1 := fun s : BelowW w4 => cell_later s.ok (VX4.out.has.cell (i := 1) (v := .int .i64 x.a) rfl)
    have xc2 := fun s : BelowW w4 => cell_later s.ok (VX4.out.has.cell (i := 2) (v := .int .i64 x.b) rfl)
    have xc3 := fun s : BelowW w4 => cell_later s.ok (VX4.out.has.cell (i := 3) (v := .int .i64 x.c) rfl)
    have xc4 := fun s : BelowW w4 => cell_later s.ok (VX4.out.has.cell (i := 4) (v := .int .i64 x.op) rfl)
    have xc5 := fun s : BelowW w4 => cell_later s.ok (VX4.out.has.cell (i := 5) (v := .int .i64 x.imm) rfl)
    have yc0 := fun s : BelowW w4 => cell_later s.ok (VY4.out.has.cell (i := 0) (v := .int .i64 y.k) rfl)
    have yc1 := fun s : BelowW w4 => cell_later s.ok (VY4.out.has.cell (i := 1) (v := .int .i64 y.a) rfl)
    have yc2 := fun s : BelowW w4 => cell_later s.ok (VY4.out.has.cell (i := 2) (v := .int .i64 y.b) rfl)
    have yc3 := fun s : BelowW w4 => cell_later s.ok (VY4.out.has.cell (i := 3) (v := .int .i64 y.c) rfl)
    have yc4 := fun s : BelowW w4 => cell_later s.ok (VY4.out.has.cell (i := 4) (v := .int .i64 y.op) rfl)
    have yc5 := fun s : BelowW w4 => cell_later s.ok (VY4.out.has.cell (i := 5) (v := .int .i64 y.imm) rfl)
    have l0c0 := fun s : BelowW w4 => cell_later s.ok a0
    have l0c1 := fun s : BelowW w4 => cell_later s.ok a1
    have l0c2 := fun s : BelowW w4 => cell_later s.ok a2
    have l0c3 := fun s : BelowW w4 => cell_later s.ok a3
    have l0c4 := fun s : BelowW w4 => cell_later s.ok a4
    have l0c5 := fun s : BelowW w4 => cell_later s.ok a5
    have l1c0 := fun s : BelowW w4 => cell_later s.ok b0
    have l1c1 := fun s : BelowW w4 => cell_later s.ok b1
    have l1c2 := fun s : BelowW w4 => cell_later s.ok b2
    have l1c3 := fun s : BelowW w4 => cell_later s.ok b3
    have l1c4 := fun s : BelowW w4 => cell_later s.ok b4
    have l1c5 := fun s : BelowW w4 => cell_later s.ok b5
    clear a0 a1 a2 a3 a4 a5 b0 b1 b2 b3 b4 b5 hsp hsq hsr hq
    refine wp_region_below (by kernel_rfl) (by kernel_rfl) ?_
    repeat (go_big_quiet_step ((go_at_call 23; exact calls_below _ (awake_any _))))
    refine wpQuiet_nil ?_
    rintro w' ⟨s, rfl⟩
    have C9 := Lib.hid (below_go HB4.out s.ok)
    go_wp2
    go_ret
    exact ⟨rfl, C9.out⟩
end Go.Proofs.Ytonbmijhbbodnaa
