/-
  timeboundref32.Proves.
  The sums of simplex.Proves (plain), and its test.
  simplex.Proves.
-/
import Derived.Test.YtdegpgonphgbcaaZPrC
import Derived.Test.YtdegpgonphgbcaaZSxH
namespace Go.Proofs.Ytdegpgonphgbcaa
open Go.RowKit

set_option maxRecDepth 100000 in
set_option maxHeartbeats 32000000 in
theorem rproves_any (K : Nat → Prop) (cols : Int) (rows : List MRow) (goal : List (Int × Int)) (c0 : Int) (hs : SmallP cols rows goal c0) (l : List (Int × Int)) (hsm : Sml l) (ra : Option Addr) (rn rc : Nat) (ga : Option Addr) (gn gc : Nat) (a : Option Addr) (n c : Nat) (w : World) (R : Row RRw 2 K w ra rn rc rows) (G : Row RTm 2 K w ga gn gc goal) (X : Row RTm 2 K w a n c l) :
    Calls Try.prog 15 #[MdV cols (.slice ra rn rc) ga gn gc c0, .slice a n c] w (PvRet (n = rn ∧ GoodP l ∧ ProveP cols rows goal (l.map toR)) (valAt rows c0 (l.map toR) rows.length) w) := by
  obtain ⟨wa, hwa⟩ : ∃ wa, wa = (w.alloc (.cells (MdC cols (.slice ra rn rc) ga gn gc c0).toArray 28)).alloc (.cells #[.int .i64 0, .int .i64 0] 31) := ⟨_, rfl⟩
  have BA := Lib.hid (show Below w.heap.size w wa by rw [hwa]; exact ((Below.refl _ _).alloc (Nat.le_refl _) _).alloc (by simp) _)
  have MA := Lib.hid (show Blk wa w.heap.size 28 (MdC cols (.slice ra rn rc) ga gn gc c0) by rw [hwa]; exact (Blk.new w _ _).old _)
  have TA := Lib.hid (show Blk wa (w.heap.size + 1) 31 [.int .i64 0, .int .i64 0] by rw [hwa]; exact (Blk.new (w.alloc _) [.int .i64 0, .int .i64 0] 31).at' (by simp))
  have XA := X.keeps RTm.stays (fun y _ hl => BA.out.block y hl) BA.out.size
  have NAT := Lib.hid (natural_any K l hsm.in63 a n c rn wa XA)
  have HS := Lib.hid hs; have HSM := Lib.hid hsm; have HR := Lib.hid R; have HX := Lib.hid X; have HGO := Lib.hid G; have HRL := Lib.hid R.hlen; have hrn6 : rn ≤ 6 := by have := R.hlen; have := hs.2.2.1; omega
  have HWA := Lib.hid hwa
  have m1 := MA.out.cell (i := 1) rfl
  clear hwa R X XA hs hsm G
  go_enter Try.func15, Try.ntmps15
  go_upto_region 1 with fail
  rw [← HWA.out]
  go_wp2_with fail
  refine NAT.out.mono ?_
  rintro e w1 ⟨r, rfl, hr, hb⟩
  have HRR := Lib.hid hr
  have B1 := Lib.hid (BA.out.trans (hb.mono BA.out.size))
  have M1 := Lib.hid (MA.out.below hb MA.out.lt)
  have T1 := Lib.hid (TA.out.below hb TA.out.lt)
  clear hr hb m1
  cases r with
  | false =>
    have NO := Lib.hid (show ¬ (n = rn ∧ GoodP l ∧ ProveP cols rows goal (l.map toR)) from fun h => by have := HRR.out.2 ⟨by rw [h.1], h.2.1⟩; cases this)
    have t0 := T1.out.cell (i := 0) rfl; have t1 := T1.out.cell (i := 1) rfl; have tf := T1.out.free
    have BF := Lib.hid (show Below w.heap.size w ((w1.setCell ⟨w.heap.size + 1, 0, none⟩ (.int .i64 0)).setCell ⟨w.heap.size + 1, 1, none⟩ (.int .i64 1)) from (B1.out.setCell (Nat.le_succ _) _).setCell (Nat.le_succ _) _)
    have TF := Lib.hid ((T1.out.set 0 (.int .i64 0)).set 1 (.int .i64 1))
    go_wp2
    have r0 := TF.out.cell (i := 0) rfl; have r1 := TF.out.cell (i := 1) rfl
    refine bodyPost_ret (v := .tuple #[FrV 0, .bool false]) (by simp [results, Try.results15, go_sem, r0, r1]) rfl (pv_no NO.out BF.out)
  | true =>
    have HG := Lib.hid (HRR.out.1 rfl)
    have HF := Lib.hid (show Frs l from ⟨HSM.out, HG.out.2⟩)
    have HN := Lib.hid (show n = rn by have := HG.out.1; omega)
    clear HRR
    have m3 := M1.out.cell (i := 3) rfl
    obtain ⟨z0, hz0⟩ : ∃ z0 : Rat, z0 = (c0 : Rat) := ⟨_, rfl⟩
    have W0 := Lib.hid (fun w => rwhole_any c0 w)
    rw [← hz0] at W0
    have HZ0 := Lib.hid hz0
    clear hz0
    go_wp2_with fail
    refine (W0.out _).mono ?_
    rintro e w2 ⟨rfl, hb⟩
    have B2 := Lib.hid (B1.out.trans (hb.mono B1.out.size))
    have M2 := Lib.hid (M1.out.below hb M1.out.lt)
    have T2 := Lib.hid (T1.out.below hb T1.out.lt)
    clear hb m3
    obtain ⟨w3, hw3⟩ : ∃ w3, w3 = w2.alloc (.cells #[.int .i64 z0.num, .int .i64 (z0.den : Int)] 31) := ⟨_, rfl⟩
    have A3 := Lib.hid (show Below w2.heap.size w2 w3 by rw [hw3]; exact (Below.refl _ _).alloc (Nat.le_refl _) _)
    have B3 := Lib.hid (B2.out.trans (A3.out.mono B2.out.size))
    have M3 := Lib.hid (M2.out.below A3.out M2.out.lt)
    have T3 := Lib.hid (T2.out.below A3.out T2.out.lt)
    have V3 := Lib.hid (show Blk w3 w2.heap.size 31 (FrC (valAt rows c0 (l.map toR) 0)) by
      rw [show valAt rows c0 (l.map toR) 0 = z0 by rw [HZ0.out]; rfl, hw3]; exact Blk.new w2 _ _)
    have HW3 := Lib.hid hw3
    obtain ⟨V, hV⟩ : ∃ V, V = w2.heap.size := ⟨_, rfl⟩
    have LV := Lib.hid (show w.heap.size + 1 < V from by rw [hV]; exact T2.out.lt)
    rw [← hV] at V3
    have HVV := Lib.hid hV
    clear hw3 hV M2 T2 A3
    go_upto_region 4 with fail
    rw [← HW3.out, ← HVV.out]
    have m1 := M3.out.cell (i := 1) rfl
    go_wp2
    clear m1
    go_loopw [30] (fun i wr => ∃ k : Nat, k ≤ rn ∧ i = .int .i64 k ∧ Blk wr V 31 (FrC (valAt rows c0 (l.map toR) k)) ∧ Chg (fun x => x = V) w3 wr) (fun i _ => rn - (intOf i).toNat)
    case atStart => exact ⟨0, Nat.zero_le _, rfl, V3.out, Chg.refl _⟩
    case round =>
      obtain ⟨k, hk, rfl, hbs, hc⟩ := hrel
      obtain ⟨wo, rfl⟩ : ∃ wo : World, wo = wr := ⟨_, rfl⟩
      have SB := Lib.hid hbs; have SC := Lib.hid hc
      have BR := Lib.hid (show Below w.heap.size w wo from B3.out.trans (SC.out.below (fun x hx e => by have := LV.out; omega) B3.out.size))
      clear hbs hc
      obtain ⟨d, hd⟩ : ∃ d, d = valAt rows c0 (l.map toR) k := ⟨_, rfl⟩
      rw [← hd] at SB
      have HD := Lib.hid hd
      clear hd
      by_cases hlt : k < rn
      · obtain ⟨⟨tm, x⟩, hx⟩ : ∃ t, rows[k]? = some t := ⟨_, List.getElem?_eq_getElem (by have := HRL.out; omega)⟩
        obtain ⟨b, o, rfl, kb, lb, ⟨ta, tn, tc, t0, htm⟩, t1⟩ := (HR.out.keeps RRw.stays (fun y _ hl => BR.out.block y hl) BR.out.size).row k (tm, x) hx
        dsimp only at t0 t1
        obtain ⟨tok, mx0, mx1⟩ := small_rows HS.out (tm, x) (List.mem_of_getElem? hx)
        dsimp only at tok mx0 mx1
        have hkn : k < n := by have := HN.out; omega
        obtain ⟨b1, o1, y, rfl, hy, y0, y1, lb1⟩ := Frs.get HF.out (HX.out.keeps RTm.stays (fun y _ hl => BR.out.block y hl) BR.out.size) (i := k) hkn
        obtain ⟨m, hm⟩ : ∃ m, m = y * (x : Rat) := ⟨_, rfl⟩
        have smy : Sm 25200 y := by rw [hy]; exact HF.out.sm k
        have smm : Sm (50 * 25200) m := by rw [hm, Rat.mul_comm]; exact smy.mul mx0 mx1
        have smd := valAt_sm HS.out HF.out k
        have smd1 := valAt_sm HS.out HF.out (k + 1)
        have HNX := Lib.hid (show valAt rows c0 (l.map toR) (k + 1) = d + m by rw [hm, HD.out, Rat.mul_comm, hy]; conv => lhs; unfold valAt; rw [rowD_of hx])
        have MUL := Lib.hid (rmul y (x : Rat) (smy.fit (by decide)) ((Sm.int (C := 50) mx0 mx1).fit (by decide)) (by rw [← hm]; exact smm.fit (by decide)))
        rw [← hm] at MUL
        have ADD := Lib.hid (radd d m (by rw [HD.out]; exact smd.fit (by omega)) (smm.fit (by decide)) (by rw [← HNX.out]; exact smd1.fit (by omega)))
        have hk1 : (k : Int) < (rn : Int) := by omega
        have hk2 : (k : Int) < (n : Int) := by omega
        clear hx hy hm smy smm smd smd1 tok mx0 mx1 htm kb
        go_upto_region 7 with fail
        obtain ⟨w4, hw4⟩ : ∃ w4, w4 = wo.alloc (.cells #[.slice ta tn tc, .int .i64 x] 50) := ⟨_, rfl⟩
        have B4 := Lib.hid (show Below wo.heap.size wo w4 by rw [hw4]; exact (Below.refl _ _).alloc (Nat.le_refl _) _)
        have X4 := Lib.hid (show Blk w4 wo.heap.size 50 [.slice ta tn tc, .int .i64 x] by rw [hw4]; exact Blk.new wo _ _)
        rw [← hw4]
        obtain ⟨Z, hZ⟩ : ∃ Z, Z = wo.heap.size := ⟨_, rfl⟩
        rw [← hZ] at X4 ⊢
        have x0 := (B4.out.cell (p := ⟨b1, o1 + k * 2, none⟩) lb1).trans y0
        have x1 := (B4.out.cell (p := ⟨b1, o1 + k * 2 + 1, none⟩) lb1).trans y1
        have S4 := Lib.hid (SB.out.below B4.out SB.out.lt)
        have C4 := Lib.hid (SC.out.tr B4.out)
        have z1 := X4.out.cell (i := 1) rfl
        clear hw4 hZ t0 t1 y0 y1
        have lb0 := World.block_lt_of_cell? _ _ z1
        have lb1 := World.block_lt_of_cell? _ _ x0
        have lb2 := World.block_lt_of_cell? _ _ x1
        dsimp only at lb0 lb1 lb2
        go_cut [9] (fun s wx => ∃ B10 : Nat, s = .pointer (some ⟨B10, 0, none⟩) ∧ w4.heap.size ≤ B10 ∧ Blk wx B10 31 (FrC (m)) ∧ Below w4.heap.size w4 wx)
        case first =>
          as_aux_lemma =>
            refine hd_start_e 14 (fun w' => w'.cell? ⟨Z, 1, none⟩ = some (.int .i64 x) ∧ w'.cell? ⟨b1, o1 + k * 2, none⟩ = some (.int .i64 y.num) ∧ w'.cell? ⟨b1, o1 + k * 2 + 1, none⟩ = some (.int .i64 (y.den : Int))) (by kernel_rfl) ⟨by kernel_rfl, by rfl⟩ (by refine ⟨z1, x0, x1⟩) (fun ok => ?_)
            refine hd_take_e (i := 0) (v := ?_) ok rfl (by decide) (by kernel_rfl) (by kernel_rfl) (fun _ _ _ h => h) (Or.inl ⟨by kernel_rfl, ?_⟩) ?_
            rotate_left
            · (intro w hSw; (try dsimp only at hSw); (try go_split_ands); go_simp; (try (with_reducible rfl)))
            go_frame
            refine hd_take_e (i := 1) (v := ?_) ok rfl (by decide) (by kernel_rfl) (by kernel_rfl) (fun _ _ _ h => h) (Or.inl ⟨by kernel_rfl, ?_⟩) ?_
            rotate_left
            · (intro w hSw; (try dsimp only at hSw); (try go_split_ands); go_simp; (try (with_reducible rfl)))
            go_frame
            refine hd_take_e (i := 2) (v := ?_) ok rfl (by decide) (by kernel_rfl) (by kernel_rfl) (fun _ _ _ h => h) (Or.inl ⟨by kernel_rfl, ?_⟩) ?_
            rotate_left
            · (intro w hSw; (try dsimp only at hSw); (try go_split_ands); go_simp; (try (with_reducible rfl)))
            go_frame
            refine hd_take_e (i := 3) (v := ?_) ok rfl (by decide) (by kernel_rfl) (by kernel_rfl) (fun _ _ _ h => h) (Or.inl ⟨by kernel_rfl, ?_⟩) ?_
            rotate_left
            · (intro w hSw; (try dsimp only at hSw); (try go_split_ands); go_simp; (try (with_reducible rfl)))
            go_frame
            refine hd_take_e (i := 4) (v := ?_) ok rfl (by decide) (by kernel_rfl) (by kernel_rfl) (fun _ _ _ h => h) (Or.inl ⟨by kernel_rfl, ?_⟩) ?_
            rotate_left
            · (intro w hSw; (try dsimp only at hSw); (try go_split_ands); go_simp; (try (with_reducible rfl)))
            go_frame
            refine hd_take_e (i := 5) (v := ?_) ok rfl (by decide) (by kernel_rfl) (by kernel_rfl) (fun _ _ _ h => h) (Or.inl ⟨by kernel_rfl, ?_⟩) ?_
            rotate_left
            · (intro w hSw; (try dsimp only at hSw); (try go_split_ands); go_simp; (try (with_reducible rfl)))
            go_frame
            refine hd_inv_s [(42, 6), (43, 7), (35, 8), (44, 9), (45, 10), (10, 13), (9, 11)] [12] (fun _ => undef) (fun b v w' => Below w4.heap.size w4 w' ∧ (b 6 = true → v 6 = FrV (x : Rat)) ∧ (b 7 = true → v 7 = .tuple #[FrV m, .int .i64 0]) ∧ (b 8 = true → v 8 = .tuple #[FrV m, .int .i64 0]) ∧ (b 9 = true → v 9 = FrV m) ∧ (b 10 = true → v 10 = .int .i64 0) ∧ (b 13 = true → v 13 = .int .i64 0) ∧ ∃ q7, (b 11 = true → v 11 = .pointer (some ⟨q7, 0, none⟩) ∧ w4.heap.size ≤ q7) ∧ (b 11 = true → b 12 = false → Blk w' q7 31 [.int .i64 0, .int .i64 0]) ∧ (b 12 = true → b 11 = true ∧ Blk w' q7 31 (FrC (m)))) (.inr ok) ⟨by decide, by decide, by kernel_rfl, rfl⟩ (by kernel_rfl) (by kernel_rfl) (by kernel_rfl) (by decide) ⟨(Below.refl _ _).drew, (fun h => by cases h), (fun h => by cases h), (fun h => by cases h), (fun h => by cases h), (fun h => by cases h), (fun h => by cases h), 0, (fun h => by cases h), (fun h => by cases h), (fun h => by cases h)⟩ ?_ ?_
            · intro i oj hi ho bb v a w' hJ hv hr hb hdep hS K hK
              obtain ⟨hB, j6, j7, j8, j9, j10, j13, q7, jal, jz, jst⟩ := hJ
              have hBs := hB.size
              have hi4 : i = 6 ∨ i = 7 ∨ i = 8 ∨ i = 9 ∨ i = 10 ∨ i = 13 ∨ i = 11 ∨ i = 12 := by simpa using hi
              try dsimp only at hS
              obtain ⟨s0, s1, s2⟩ := hS
              rcases hi4 with rfl | rfl | rfl | rfl | rfl | rfl | rfl | rfl
              · obtain rfl := Option.some.inj ho
                have e41 : a.tmps[41]?.getD undef = .int .i64 x := (get_eval a 41).trans (hr 41 (by decide))
                go_simp
                go_at_call 39
                refine (rwhole_any x _).mono ?_
                rintro e u ⟨rfl, hu⟩
                exact hK _ _ ⟨cell_later hu s0, cell_later hu s1, cell_later hu s2⟩ ⟨hB.trans (hu.mono hBs), fun _ => rfl, j7, j8, j9, j10, j13, q7, jal, fun h1 h2 => (jz h1 h2).below hu (jz h1 h2).lt, fun h => ⟨(jst h).1, (jst h).2.below hu (jst h).2.lt⟩⟩
              · obtain rfl := Option.some.inj ho
                have e39 : a.tmps[39]?.getD undef = FrV y := (get_eval a 39).trans (hr 39 (by decide))
                have d6 := hdep 6 (by kernel_rfl)
                have e42 : a.tmps[42]?.getD undef = FrV (x : Rat) := (get_eval a 42).trans ((hv 42 6 (by decide) d6).trans (j6 d6))
                go_simp
                go_at_call 23
                refine (MUL.out _).mono ?_
                rintro e u ⟨rfl, hu⟩
                exact hK _ _ ⟨cell_later hu s0, cell_later hu s1, cell_later hu s2⟩ ⟨hB.trans (hu.mono hBs), j6, fun _ => rfl, j8, j9, j10, j13, q7, jal, fun h1 h2 => (jz h1 h2).below hu (jz h1 h2).lt, fun h => ⟨(jst h).1, (jst h).2.below hu (jst h).2.lt⟩⟩
              · obtain rfl := Option.some.inj ho
                have d7 := hdep 7 (by kernel_rfl)
                have e43 : a.tmps[43]?.getD undef = .tuple #[FrV m, .int .i64 0] := (get_eval a 43).trans ((hv 43 7 (by decide) d7).trans (j7 d7))
                go_simp
                exact hK _ _ ⟨s0, s1, s2⟩ ⟨hB, j6, j7, fun _ => rfl, j9, j10, j13, q7, jal, jz, jst⟩
              · obtain rfl := Option.some.inj ho
                have d8 := hdep 8 (by kernel_rfl)
                have e35 : a.tmps[35]?.getD undef = .tuple #[FrV m, .int .i64 0] := (get_eval a 35).trans ((hv 35 8 (by decide) d8).trans (j8 d8))
                go_simp
                exact hK _ _ ⟨s0, s1, s2⟩ ⟨hB, j6, j7, j8, fun _ => rfl, j10, j13, q7, jal, jz, jst⟩
              · obtain rfl := Option.some.inj ho
                have d8 := hdep 8 (by kernel_rfl)
                have e35 : a.tmps[35]?.getD undef = .tuple #[FrV m, .int .i64 0] := (get_eval a 35).trans ((hv 35 8 (by decide) d8).trans (j8 d8))
                go_simp
                exact hK _ _ ⟨s0, s1, s2⟩ ⟨hB, j6, j7, j8, j9, fun _ => rfl, j13, q7, jal, jz, jst⟩
              · obtain rfl := Option.some.inj ho
                have d10 := hdep 10 (by kernel_rfl)
                have e45 : a.tmps[45]?.getD undef = .int .i64 0 := (get_eval a 45).trans ((hv 45 10 (by decide) d10).trans (j10 d10))
                go_simp
                exact hK _ _ ⟨s0, s1, s2⟩ ⟨hB, j6, j7, j8, j9, j10, fun _ => rfl, q7, jal, jz, jst⟩
              · obtain rfl := Option.some.inj ho
                go_simp
                have hu : Below w'.heap.size w' (w'.alloc (.cells #[.int .i64 0, .int .i64 0] 31)) := (Below.refl _ _).alloc (Nat.le_refl _) _
                exact hK _ _ ⟨cell_later hu s0, cell_later hu s1, cell_later hu s2⟩ ⟨hB.trans (hu.mono hBs), j6, j7, j8, j9, j10, j13, w'.heap.size, fun _ => ⟨rfl, hBs⟩, fun _ _ => Blk.new w' [.int .i64 0, .int .i64 0] 31, fun h => by have := (jst h).1; rw [hb] at this; cases this⟩
              · obtain rfl := Option.some.inj ho
                have dal := hdep 11 (by kernel_rfl)
                obtain ⟨val, lal⟩ := jal dal
                have bz := jz dal hb
                have e9 : a.tmps[9]?.getD undef = .pointer (some ⟨q7, 0, none⟩) := (get_eval a 9).trans ((hv 9 11 (by decide) dal).trans val)
                have d9 := hdep 9 (by kernel_rfl)
                have e44 : a.tmps[44]?.getD undef = FrV m := (get_eval a 44).trans ((hv 44 9 (by decide) d9).trans (j9 d9))
                have z0 := bz.cell (i := 0) rfl; have z1 := bz.cell (i := 1) rfl; have zf := bz.free
                go_simp
                have hc2 : Below w4.heap.size w4 ((w'.setCell ⟨q7, 0, none⟩ (.int .i64 (m).num)).setCell ⟨q7, 1, none⟩ (.int .i64 ((m).den : Int))) := (hB.setCell lal _).setCell lal _
                exact hK (.int .i64 0) _ ⟨cell_set (by omega) (cell_set (by omega) s0), cell_set (by omega) (cell_set (by omega) s1), cell_set (by omega) (cell_set (by omega) s2)⟩ ⟨hc2, j6, j7, j8, j9, j10, j13, q7, jal, (fun _ h => by cases h), fun _ => ⟨dal, ((bz.set 0 _).set 1 _).at rfl⟩⟩
            · intro bb v w' hall hJ hS
              obtain ⟨hB, j6, j7, j8, j9, j10, j13, q7, jal, jz, jst⟩ := hJ
              have v6 := j6 (hall 6 (by decide))
              have v7 := j7 (hall 7 (by decide))
              have v8 := j8 (hall 8 (by decide))
              have v9 := j9 (hall 9 (by decide))
              have v10 := j10 (hall 10 (by decide))
              have v13 := j13 (hall 13 (by decide))
              obtain ⟨val, lal⟩ := jal (hall 11 (by decide))
              have R := Lib.hid (show ∃ B10 : Nat, Value.pointer (some ⟨q7, 0, none⟩) = .pointer (some ⟨B10, 0, none⟩) ∧ w4.heap.size ≤ B10 ∧ Blk w' B10 31 (FrC (m)) ∧ Below w4.heap.size w4 w' from ⟨q7, rfl, lal, (jst (hall 12 (by decide))).2, hB⟩)
              simp only [putP, v6, v7, v8, v9, v10, v13, val]
              clear hB j6 j7 j8 j9 j10 j13 jal jz jst v6 v7 v8 v9 v10 v13 val lal hS hall ok
              go_frame
              refine hd_end (by kernel_rfl) rfl ?_
              go_wp2_with fail
              go_meet
              exact R.out
        case rest =>
          obtain ⟨B8, rfl, lB8, b8, hB⟩ := hcut
          obtain ⟨w5, hw5⟩ : ∃ w5 : World, w5 = wc := ⟨_, rfl⟩
          rw [← hw5] at b8 hB ⊢
          clear hw5
          have S5 := Lib.hid (S4.out.below hB S4.out.lt)
          have C5 := Lib.hid (C4.out.tr hB)
          have s0 := S5.out.cell (i := 0) rfl; have s1 := S5.out.cell (i := 1) rfl
          have q0 := b8.cell (i := 0) rfl; have q1 := b8.cell (i := 1) rfl
          clear hB b8 x0 x1 z1 S4 C4 lB8
          go_wp2_with fail
          refine (ADD.out _).mono ?_
          rintro e w6 ⟨rfl, hb⟩
          rw [← HNX.out]
          obtain ⟨z, hz⟩ : ∃ z, z = valAt rows c0 (l.map toR) (k + 1) := ⟨_, rfl⟩
          have S6 := Lib.hid (S5.out.below hb S5.out.lt)
          have C6 := Lib.hid (C5.out.tr hb)
          have FIN := Lib.hid (show Blk ((w6.setCell ⟨V, 0, none⟩ (.int .i64 z.num)).setCell ⟨V, 1, none⟩ (.int .i64 (z.den : Int))) V 31 (FrC z) ∧ Chg (fun x => x = V) w3 ((w6.setCell ⟨V, 0, none⟩ (.int .i64 z.num)).setCell ⟨V, 1, none⟩ (.int .i64 (z.den : Int))) from ⟨((S6.out.set 0 _).set 1 _).at rfl, (C6.out.setCell (p := ⟨V, 0, none⟩) (fun _ => rfl) _).setCell (p := ⟨V, 1, none⟩) (fun _ => rfl) _⟩)
          clear s0 s1 q0 q1 hb
          rw [← hz]
          have HZ := Lib.hid hz
          clear hz
          have s0 := S6.out.cell (i := 0) rfl; have s1 := S6.out.cell (i := 1) rfl; have sf := S6.out.free
          go_wp2
          go_roundw
          case rel => exact ⟨k + 1, by omega, by go_num, by rw [← HZ.out]; exact FIN.out.1, FIN.out.2⟩
          case measure => simp [intOf]; omega
      · obtain rfl : k = rn := by omega
        have HDD := Lib.hid (show d = valAt rows c0 (l.map toR) rows.length by rw [HD.out, HRL.out])
        have M4 := Lib.hid (M3.out.chg SC.out (fun e => by have := LV.out; omega))
        have T4 := Lib.hid (T3.out.chg SC.out (fun e => by have := LV.out; omega))
        have m0 := M4.out.cell (i := 0) rfl
        have LVS := Lib.hid SB.out.lt
        have hcols : 0 ≤ cols ∧ cols ≤ 6 := ⟨HS.out.1, HS.out.2.1⟩
        obtain ⟨C, rfl⟩ : ∃ C : Nat, cols = (C : Int) := ⟨cols.toNat, by omega⟩
        have hC6 : C ≤ 6 := by omega
        clear hcols M3 T3 hk hlt
        go_wp2
        clear m0
        go_loopw [55] (fun i wr => ∃ j : Nat, j ≤ C ∧ i = .int .i64 j ∧ (∀ q : Int, 0 ≤ q → q < j → (coefF goal q : Rat) ≤ colAt rows (l.map toR) q rows.length) ∧ Below wo.heap.size wo wr) (fun i _ => C - (intOf i).toNat)
        case atStart => exact ⟨0, Nat.zero_le _, rfl, fun q h1 h2 => by omega, Below.refl _ _⟩
        case round =>
          obtain ⟨j, hj, rfl, hT, hb⟩ := hrel
          obtain ⟨wp, rfl⟩ : ∃ wp : World, wp = wr := ⟨_, rfl⟩
          have HT := Lib.hid hT; have HB := Lib.hid hb
          clear hT hb
          have BP := Lib.hid (BR.out.trans (HB.out.mono BR.out.size))
          by_cases hltj : j < C
          · obtain ⟨z1, hz1⟩ : ∃ z0 : Rat, z0 = ((0 : Int) : Rat) := ⟨_, rfl⟩
            have W1 := Lib.hid (fun w => rwhole_any 0 w)
            rw [← hz1] at W1
            have HZ1 := Lib.hid hz1
            clear hz1
            go_wp2_with fail
            refine (W1.out _).mono ?_
            rintro e w5 ⟨rfl, hb⟩
            have B5 := Lib.hid hb
            have M5 := Lib.hid ((M4.out.below HB.out M4.out.lt).below hb (by have := M4.out.lt; have := HB.out.size; omega))
            clear hb
            obtain ⟨w6, hw6⟩ : ∃ w6, w6 = w5.alloc (.cells #[.int .i64 z1.num, .int .i64 (z1.den : Int)] 31) := ⟨_, rfl⟩
            have A6 := Lib.hid (show Below w5.heap.size w5 w6 by rw [hw6]; exact (Below.refl _ _).alloc (Nat.le_refl _) _)
            have B6 := Lib.hid (B5.out.trans (A6.out.mono B5.out.size))
            have M6 := Lib.hid (M5.out.below A6.out M5.out.lt)
            have S6 := Lib.hid (show Blk w6 w5.heap.size 31 (FrC (colAt rows (l.map toR) j 0)) by
              rw [show colAt rows (l.map toR) j 0 = z1 by rw [HZ1.out]; rfl, hw6]; exact Blk.new w5 _ _)
            have HW6 := Lib.hid hw6
            obtain ⟨S, hS⟩ : ∃ S, S = w5.heap.size := ⟨_, rfl⟩
            have LS := Lib.hid (show wp.heap.size ≤ S ∧ w.heap.size < S from by rw [hS]; exact ⟨B5.out.size, M5.out.lt⟩)
            rw [← hS] at S6
            have HSS := Lib.hid hS
            clear hw6 hS M5 A6
            go_upto_region 14 with fail
            rw [← HW6.out, ← HSS.out]
            have m1 := M6.out.cell (i := 1) rfl
            go_wp2
            clear m1
            go_loopw [62] (fun i wr => ∃ k' : Nat, k' ≤ k ∧ i = .int .i64 k' ∧ Blk wr S 31 (FrC (colAt rows (l.map toR) j k')) ∧ Chg (fun x => x = S) w6 wr) (fun i _ => k - (intOf i).toNat)
            case atStart => exact ⟨0, Nat.zero_le _, rfl, S6.out, Chg.refl _⟩
            case round =>
              obtain ⟨k', hk', rfl, hbs, hc⟩ := hrel
              obtain ⟨wq, rfl⟩ : ∃ wq : World, wq = wr := ⟨_, rfl⟩
              have SB2 := Lib.hid hbs; have SC2 := Lib.hid hc
              have BQ := Lib.hid (show Below wp.heap.size wp wq from B6.out.trans (SC2.out.below (fun x hx e => by have := LS.out; omega) B6.out.size))
              have BQ0 := Lib.hid (BP.out.trans (BQ.out.mono BP.out.size))
              clear hbs hc
              obtain ⟨d2, hd2⟩ : ∃ d, d = colAt rows (l.map toR) j k' := ⟨_, rfl⟩
              rw [← hd2] at SB2
              have HD2 := Lib.hid hd2
              clear hd2
              by_cases hltk : k' < k
              · obtain ⟨⟨tm, x⟩, hx⟩ : ∃ t, rows[k']? = some t := ⟨_, List.getElem?_eq_getElem (by have := HRL.out; omega)⟩
                obtain ⟨b, o, rfl, kb, lb, ⟨ta, tn, tc, t0, htm⟩, t1⟩ := (HR.out.keeps RRw.stays (fun y _ hl => BQ0.out.block y hl) BQ0.out.size).row k' (tm, x) hx
                dsimp only at t0 t1
                obtain ⟨tok, mx0, mx1⟩ := small_rows HS.out (tm, x) (List.mem_of_getElem? hx)
                dsimp only at tok mx0 mx1
                have hkn : k' < n := by have := HN.out; omega
                obtain ⟨b1, o1, y, rfl, hy, y0, y1, lb1⟩ := Frs.get HF.out (HX.out.keeps RTm.stays (fun y _ hl => BQ0.out.block y hl) BQ0.out.size) (i := k') hkn
                obtain ⟨cf, hcf⟩ : ∃ cf, cf = coefF tm j := ⟨_, rfl⟩
                obtain ⟨cc0, cc1⟩ := coef_nine (m := 9) (by decide) tok j
                rw [← hcf] at cc0 cc1
                obtain ⟨m, hm⟩ : ∃ m, m = y * (cf : Rat) := ⟨_, rfl⟩
                have smy : Sm 25200 y := by rw [hy]; exact HF.out.sm k'
                have smm : Sm (9 * 25200) m := by rw [hm, Rat.mul_comm]; exact smy.mul cc0 cc1
                have smd := colAt_sm HS.out HF.out j k'
                have smd1 := colAt_sm HS.out HF.out j (k' + 1)
                have HNX := Lib.hid (show colAt rows (l.map toR) j (k' + 1) = d2 + m by rw [hm, HD2.out, Rat.mul_comm, hy, hcf]; conv => lhs; unfold colAt; rw [rowD_of hx])
                have MUL := Lib.hid (rmul y (cf : Rat) (smy.fit (by decide)) ((Sm.int (C := 9) cc0 cc1).fit (by decide)) (by rw [← hm]; exact smm.fit (by decide)))
                rw [← hm] at MUL
                have ADD := Lib.hid (radd d2 m (by rw [HD2.out]; exact smd.fit (by omega)) (smm.fit (by decide)) (by rw [← HNX.out]; exact smd1.fit (by omega)))
                have hk1 : (k' : Int) < (k : Int) := by omega
                have hk2 : (k' : Int) < (n : Int) := by omega
                obtain ⟨w7, hw7⟩ : ∃ w7, w7 = wq.alloc (.cells #[.slice ta tn tc, .int .i64 x] 50) := ⟨_, rfl⟩
                have B7 := Lib.hid (show Below wq.heap.size wq w7 by rw [hw7]; exact (Below.refl _ _).alloc (Nat.le_refl _) _)
                have X7 := Lib.hid (show Blk w7 wq.heap.size 50 [.slice ta tn tc, .int .i64 x] by rw [hw7]; exact Blk.new wq _ _)
                have HTM7 := htm.keeps RTm.stays (fun y _ hl => B7.out.block y hl) B7.out.size
                have COEF := Lib.hid (show ∀ u, Below w7.heap.size w7 u → Calls Try.prog 46 #[.slice ta tn tc, .int .i64 j] u (IntB cf u) from fun u hu => by
                  rw [hcf]; exact coef_any K tm j ta tn tc u (HTM7.keeps RTm.stays (fun y _ hl => hu.block y hl) hu.size))
                have HW7 := Lib.hid hw7
                clear hx hy hm smy smm smd smd1 tok mx0 mx1 htm kb cc0 cc1 hcf HTM7 hw7
                go_upto_region 17 with fail
                rw [← HW7.out]
                obtain ⟨Z, hZ⟩ : ∃ Z, Z = wq.heap.size := ⟨_, rfl⟩
                rw [← hZ] at X7 ⊢
                have x0 := (B7.out.cell (p := ⟨b1, o1 + k' * 2, none⟩) lb1).trans y0
                have x1 := (B7.out.cell (p := ⟨b1, o1 + k' * 2 + 1, none⟩) lb1).trans y1
                have S7 := Lib.hid (SB2.out.below B7.out SB2.out.lt)
                have C7 := Lib.hid (SC2.out.tr B7.out)
                have z1 := X7.out.cell (i := 0) rfl
                clear hZ t0 t1 y0 y1
                have lb0 := World.block_lt_of_cell? _ _ z1
                have lb1 := World.block_lt_of_cell? _ _ x0
                have lb2 := World.block_lt_of_cell? _ _ x1
                dsimp only at lb0 lb1 lb2
                go_cut [15] (fun s wx => ∃ B10 : Nat, s = .pointer (some ⟨B10, 0, none⟩) ∧ w7.heap.size ≤ B10 ∧ Blk wx B10 31 (FrC (m)) ∧ Below w7.heap.size w7 wx)
                case first =>
                  as_aux_lemma =>
                    refine hd_start_e 16 (fun w' => w'.cell? ⟨Z, 0, none⟩ = some (.slice ta tn tc) ∧ w'.cell? ⟨b1, o1 + k' * 2, none⟩ = some (.int .i64 y.num) ∧ w'.cell? ⟨b1, o1 + k' * 2 + 1, none⟩ = some (.int .i64 (y.den : Int))) (by kernel_rfl) ⟨by kernel_rfl, by rfl⟩ (by refine ⟨z1, x0, x1⟩) (fun ok => ?_)
                    refine hd_take_e (i := 0) (v := ?_) ok rfl (by decide) (by kernel_rfl) (by kernel_rfl) (fun _ _ _ h => h) (Or.inl ⟨by kernel_rfl, ?_⟩) ?_
                    rotate_left
                    · (intro w hSw; (try dsimp only at hSw); (try go_split_ands); go_simp; (try (with_reducible rfl)))
                    go_frame
                    refine hd_take_e (i := 1) (v := ?_) ok rfl (by decide) (by kernel_rfl) (by kernel_rfl) (fun _ _ _ h => h) (Or.inl ⟨by kernel_rfl, ?_⟩) ?_
                    rotate_left
                    · (intro w hSw; (try dsimp only at hSw); (try go_split_ands); go_simp; (try (with_reducible rfl)))
                    go_frame
                    refine hd_take_e (i := 2) (v := ?_) ok rfl (by decide) (by kernel_rfl) (by kernel_rfl) (fun _ _ _ h => h) (Or.inl ⟨by kernel_rfl, ?_⟩) ?_
                    rotate_left
                    · (intro w hSw; (try dsimp only at hSw); (try go_split_ands); go_simp; (try (with_reducible rfl)))
                    go_frame
                    refine hd_take_e (i := 3) (v := ?_) ok rfl (by decide) (by kernel_rfl) (by kernel_rfl) (fun _ _ _ h => h) (Or.inl ⟨by kernel_rfl, ?_⟩) ?_
                    rotate_left
                    · (intro w hSw; (try dsimp only at hSw); (try go_split_ands); go_simp; (try (with_reducible rfl)))
                    go_frame
                    refine hd_take_e (i := 4) (v := ?_) ok rfl (by decide) (by kernel_rfl) (by kernel_rfl) (fun _ _ _ h => h) (Or.inl ⟨by kernel_rfl, ?_⟩) ?_
                    rotate_left
                    · (intro w hSw; (try dsimp only at hSw); (try go_split_ands); go_simp; (try (with_reducible rfl)))
                    go_frame
                    refine hd_take_e (i := 5) (v := ?_) ok rfl (by decide) (by kernel_rfl) (by kernel_rfl) (fun _ _ _ h => h) (Or.inl ⟨by kernel_rfl, ?_⟩) ?_
                    rotate_left
                    · (intro w hSw; (try dsimp only at hSw); (try go_split_ands); go_simp; (try (with_reducible rfl)))
                    go_frame
                    refine hd_take_e (i := 6) (v := ?_) ok rfl (by decide) (by kernel_rfl) (by kernel_rfl) (fun _ _ _ h => h) (Or.inl ⟨by kernel_rfl, ?_⟩) ?_
                    rotate_left
                    · (intro w hSw; (try dsimp only at hSw); (try go_split_ands); go_simp; (try (with_reducible rfl)))
                    go_frame
                    refine hd_inv_s [(75, 7), (76, 8), (77, 9), (67, 10), (78, 11), (79, 12), (16, 15), (15, 13)] [14] (fun _ => undef) (fun b v w' => Below w7.heap.size w7 w' ∧ (b 7 = true → v 7 = .int .i64 cf) ∧ (b 8 = true → v 8 = FrV (cf : Rat)) ∧ (b 9 = true → v 9 = .tuple #[FrV m, .int .i64 0]) ∧ (b 10 = true → v 10 = .tuple #[FrV m, .int .i64 0]) ∧ (b 11 = true → v 11 = FrV m) ∧ (b 12 = true → v 12 = .int .i64 0) ∧ (b 15 = true → v 15 = .int .i64 0) ∧ ∃ q7, (b 13 = true → v 13 = .pointer (some ⟨q7, 0, none⟩) ∧ w7.heap.size ≤ q7) ∧ (b 13 = true → b 14 = false → Blk w' q7 31 [.int .i64 0, .int .i64 0]) ∧ (b 14 = true → b 13 = true ∧ Blk w' q7 31 (FrC (m)))) (.inr ok) ⟨by decide, by decide, by kernel_rfl, rfl⟩ (by kernel_rfl) (by kernel_rfl) (by kernel_rfl) (by decide) ⟨(Below.refl _ _).drew, (fun h => by cases h), (fun h => by cases h), (fun h => by cases h), (fun h => by cases h), (fun h => by cases h), (fun h => by cases h), (fun h => by cases h), 0, (fun h => by cases h), (fun h => by cases h), (fun h => by cases h)⟩ ?_ ?_
                    · intro i oj hi ho bb v a w' hJ hv hr hb hdep hS K hK
                      obtain ⟨hB, j7, j8, j9, j10, j11, j12, j15, q7, jal, jz, jst⟩ := hJ
                      have hBs := hB.size
                      have hi4 : i = 7 ∨ i = 8 ∨ i = 9 ∨ i = 10 ∨ i = 11 ∨ i = 12 ∨ i = 15 ∨ i = 13 ∨ i = 14 := by simpa using hi
                      try dsimp only at hS
                      obtain ⟨s0, s1, s2⟩ := hS
                      rcases hi4 with rfl | rfl | rfl | rfl | rfl | rfl | rfl | rfl | rfl
                      · obtain rfl := Option.some.inj ho
                        have e73 : a.tmps[73]?.getD undef = .slice ta tn tc := (get_eval a 73).trans (hr 73 (by decide))
                        have e74 : a.tmps[74]?.getD undef = .int .i64 j := (get_eval a 74).trans (hr 74 (by decide))
                        go_simp
                        go_at_call 46
                        refine (COEF.out _ hB).mono ?_
                        rintro e u ⟨rfl, hu⟩
                        exact hK _ _ ⟨cell_later hu s0, cell_later hu s1, cell_later hu s2⟩ ⟨hB.trans (hu.mono hBs), fun _ => rfl, j8, j9, j10, j11, j12, j15, q7, jal, fun h1 h2 => (jz h1 h2).below hu (jz h1 h2).lt, fun h => ⟨(jst h).1, (jst h).2.below hu (jst h).2.lt⟩⟩
                      · obtain rfl := Option.some.inj ho
                        have d7 := hdep 7 (by kernel_rfl)
                        have e75 : a.tmps[75]?.getD undef = .int .i64 cf := (get_eval a 75).trans ((hv 75 7 (by decide) d7).trans (j7 d7))
                        go_simp
                        go_at_call 39
                        refine (rwhole_any cf _).mono ?_
                        rintro e u ⟨rfl, hu⟩
                        exact hK _ _ ⟨cell_later hu s0, cell_later hu s1, cell_later hu s2⟩ ⟨hB.trans (hu.mono hBs), j7, fun _ => rfl, j9, j10, j11, j12, j15, q7, jal, fun h1 h2 => (jz h1 h2).below hu (jz h1 h2).lt, fun h => ⟨(jst h).1, (jst h).2.below hu (jst h).2.lt⟩⟩
                      · obtain rfl := Option.some.inj ho
                        have e71 : a.tmps[71]?.getD undef = FrV y := (get_eval a 71).trans (hr 71 (by decide))
                        have d8 := hdep 8 (by kernel_rfl)
                        have e76 : a.tmps[76]?.getD undef = FrV (cf : Rat) := (get_eval a 76).trans ((hv 76 8 (by decide) d8).trans (j8 d8))
                        go_simp
                        go_at_call 23
                        refine (MUL.out _).mono ?_
                        rintro e u ⟨rfl, hu⟩
                        exact hK _ _ ⟨cell_later hu s0, cell_later hu s1, cell_later hu s2⟩ ⟨hB.trans (hu.mono hBs), j7, j8, fun _ => rfl, j10, j11, j12, j15, q7, jal, fun h1 h2 => (jz h1 h2).below hu (jz h1 h2).lt, fun h => ⟨(jst h).1, (jst h).2.below hu (jst h).2.lt⟩⟩
                      · obtain rfl := Option.some.inj ho
                        have d9 := hdep 9 (by kernel_rfl)
                        have e77 : a.tmps[77]?.getD undef = .tuple #[FrV m, .int .i64 0] := (get_eval a 77).trans ((hv 77 9 (by decide) d9).trans (j9 d9))
                        go_simp
                        exact hK _ _ ⟨s0, s1, s2⟩ ⟨hB, j7, j8, j9, fun _ => rfl, j11, j12, j15, q7, jal, jz, jst⟩
                      · obtain rfl := Option.some.inj ho
                        have d10 := hdep 10 (by kernel_rfl)
                        have e67 : a.tmps[67]?.getD undef = .tuple #[FrV m, .int .i64 0] := (get_eval a 67).trans ((hv 67 10 (by decide) d10).trans (j10 d10))
                        go_simp
                        exact hK _ _ ⟨s0, s1, s2⟩ ⟨hB, j7, j8, j9, j10, fun _ => rfl, j12, j15, q7, jal, jz, jst⟩
                      · obtain rfl := Option.some.inj ho
                        have d10 := hdep 10 (by kernel_rfl)
                        have e67 : a.tmps[67]?.getD undef = .tuple #[FrV m, .int .i64 0] := (get_eval a 67).trans ((hv 67 10 (by decide) d10).trans (j10 d10))
                        go_simp
                        exact hK _ _ ⟨s0, s1, s2⟩ ⟨hB, j7, j8, j9, j10, j11, fun _ => rfl, j15, q7, jal, jz, jst⟩
                      · obtain rfl := Option.some.inj ho
                        have d12 := hdep 12 (by kernel_rfl)
                        have e79 : a.tmps[79]?.getD undef = .int .i64 0 := (get_eval a 79).trans ((hv 79 12 (by decide) d12).trans (j12 d12))
                        go_simp
                        exact hK _ _ ⟨s0, s1, s2⟩ ⟨hB, j7, j8, j9, j10, j11, j12, fun _ => rfl, q7, jal, jz, jst⟩
                      · obtain rfl := Option.some.inj ho
                        go_simp
                        have hu : Below w'.heap.size w' (w'.alloc (.cells #[.int .i64 0, .int .i64 0] 31)) := (Below.refl _ _).alloc (Nat.le_refl _) _
                        exact hK _ _ ⟨cell_later hu s0, cell_later hu s1, cell_later hu s2⟩ ⟨hB.trans (hu.mono hBs), j7, j8, j9, j10, j11, j12, j15, w'.heap.size, fun _ => ⟨rfl, hBs⟩, fun _ _ => Blk.new w' [.int .i64 0, .int .i64 0] 31, fun h => by have := (jst h).1; rw [hb] at this; cases this⟩
                      · obtain rfl := Option.some.inj ho
                        have dal := hdep 13 (by kernel_rfl)
                        obtain ⟨val, lal⟩ := jal dal
                        have bz := jz dal hb
                        have e15 : a.tmps[15]?.getD undef = .pointer (some ⟨q7, 0, none⟩) := (get_eval a 15).trans ((hv 15 13 (by decide) dal).trans val)
                        have d11 := hdep 11 (by kernel_rfl)
                        have e78 : a.tmps[78]?.getD undef = FrV m := (get_eval a 78).trans ((hv 78 11 (by decide) d11).trans (j11 d11))
                        have z0 := bz.cell (i := 0) rfl; have z1 := bz.cell (i := 1) rfl; have zf := bz.free
                        go_simp
                        have hc2 : Below w7.heap.size w7 ((w'.setCell ⟨q7, 0, none⟩ (.int .i64 (m).num)).setCell ⟨q7, 1, none⟩ (.int .i64 ((m).den : Int))) := (hB.setCell lal _).setCell lal _
                        exact hK (.int .i64 0) _ ⟨cell_set (by omega) (cell_set (by omega) s0), cell_set (by omega) (cell_set (by omega) s1), cell_set (by omega) (cell_set (by omega) s2)⟩ ⟨hc2, j7, j8, j9, j10, j11, j12, j15, q7, jal, (fun _ h => by cases h), fun _ => ⟨dal, ((bz.set 0 _).set 1 _).at rfl⟩⟩
                    · intro bb v w' hall hJ hS
                      obtain ⟨hB, j7, j8, j9, j10, j11, j12, j15, q7, jal, jz, jst⟩ := hJ
                      have v7 := j7 (hall 7 (by decide))
                      have v8 := j8 (hall 8 (by decide))
                      have v9 := j9 (hall 9 (by decide))
                      have v10 := j10 (hall 10 (by decide))
                      have v11 := j11 (hall 11 (by decide))
                      have v12 := j12 (hall 12 (by decide))
                      have v15 := j15 (hall 15 (by decide))
                      obtain ⟨val, lal⟩ := jal (hall 13 (by decide))
                      have R := Lib.hid (show ∃ B10 : Nat, Value.pointer (some ⟨q7, 0, none⟩) = .pointer (some ⟨B10, 0, none⟩) ∧ w7.heap.size ≤ B10 ∧ Blk w' B10 31 (FrC (m)) ∧ Below w7.heap.size w7 w' from ⟨q7, rfl, lal, (jst (hall 14 (by decide))).2, hB⟩)
                      simp only [putP, v7, v8, v9, v10, v11, v12, v15, val]
                      clear hB j7 j8 j9 j10 j11 j12 j15 jal jz jst v7 v8 v9 v10 v11 v12 v15 val lal hS hall ok
                      go_frame
                      refine hd_end (by kernel_rfl) rfl ?_
                      go_wp2_with fail
                      go_meet
                      exact R.out
                case rest =>
                  obtain ⟨B8, rfl, lB8, b8, hB⟩ := hcut
                  obtain ⟨w8, hw8⟩ : ∃ w5 : World, w5 = wc := ⟨_, rfl⟩
                  rw [← hw8] at b8 hB ⊢
                  clear hw8
                  have S8 := Lib.hid (S7.out.below hB S7.out.lt)
                  have C8 := Lib.hid (C7.out.tr hB)
                  have s0 := S8.out.cell (i := 0) rfl; have s1 := S8.out.cell (i := 1) rfl
                  have q0 := b8.cell (i := 0) rfl; have q1 := b8.cell (i := 1) rfl
                  clear hB b8 x0 x1 z1 S7 C7 lB8
                  go_wp2_with fail
                  refine (ADD.out _).mono ?_
                  rintro e w9 ⟨rfl, hb⟩
                  rw [← HNX.out]
                  obtain ⟨z, hz⟩ : ∃ z, z = colAt rows (l.map toR) j (k' + 1) := ⟨_, rfl⟩
                  have S9 := Lib.hid (S8.out.below hb S8.out.lt)
                  have C9 := Lib.hid (C8.out.tr hb)
                  have FIN := Lib.hid (show Blk ((w9.setCell ⟨S, 0, none⟩ (.int .i64 z.num)).setCell ⟨S, 1, none⟩ (.int .i64 (z.den : Int))) S 31 (FrC z) ∧ Chg (fun x => x = S) w6 ((w9.setCell ⟨S, 0, none⟩ (.int .i64 z.num)).setCell ⟨S, 1, none⟩ (.int .i64 (z.den : Int))) from ⟨((S9.out.set 0 _).set 1 _).at rfl, (C9.out.setCell (p := ⟨S, 0, none⟩) (fun _ => rfl) _).setCell (p := ⟨S, 1, none⟩) (fun _ => rfl) _⟩)
                  clear s0 s1 q0 q1 hb
                  rw [← hz]
                  have HZ := Lib.hid hz
                  clear hz
                  have s0 := S9.out.cell (i := 0) rfl; have s1 := S9.out.cell (i := 1) rfl; have sf := S9.out.free
                  go_wp2
                  go_roundw
                  case rel => exact ⟨k' + 1, by omega, by go_num, by rw [← HZ.out]; exact FIN.out.1, FIN.out.2⟩
                  case measure => simp [intOf]; omega
              · obtain rfl : k' = k := by omega
                have hd2l : d2 = colAt rows (l.map toR) j rows.length := by rw [HD2.out, HRL.out]
                have fd : Fit d2 := by rw [HD2.out]; exact (colAt_sm HS.out HF.out j k').fit (by omega)
                obtain ⟨cg, hcg⟩ : ∃ cg, cg = coefF goal j := ⟨_, rfl⟩
                obtain ⟨cc0, cc1⟩ := coef_nine (m := 9) (by decide) HS.out.2.2.2.1 j
                rw [← hcg] at cc0 cc1
                have fz : Fit (cg : Rat) := (Sm.int (C := 9) cc0 cc1).fit (by decide)
                have GQ := HGO.out.keeps RTm.stays (fun y _ hl => BQ0.out.block y hl) BQ0.out.size
                have COEF := Lib.hid (show ∀ s : BelowW wq, Calls Try.prog 46 #[.slice ga gn gc, .int .i64 j] s.world fun e w' => e = .returned (.int .i64 cg) ∧ Below s.world.heap.size s.world w' from fun s => by
                  rw [hcg]; exact coef_any K goal j ga gn gc s.world (GQ.keeps RTm.stays (fun y _ hl => s.ok.block y hl) s.ok.size))
                obtain ⟨z, hz⟩ : ∃ z : Rat, z = (cg : Rat) := ⟨_, rfl⟩
                have WH := Lib.hid (show ∀ w : World, Calls Try.prog 39 #[.int .i64 cg] w fun e w' => e = .returned (FrV z) ∧ Below w.heap.size w w' from fun w => by rw [hz]; exact rwhole_any cg w)
                have CM := Lib.hid (rcmp d2 z fd (by rw [hz]; exact fz))
                have HDX := Lib.hid (show (cmpR d2 z < 0) ↔ ¬ (coefF goal j : Rat) ≤ colAt rows (l.map toR) j rows.length by rw [cmpR_lt, hd2l, hz, hcg])
                generalize cmpR d2 z = cv at CM HDX
                have MQ := Lib.hid (M6.out.chg SC2.out (fun e => by have := LS.out; omega))
                have TQ := Lib.hid ((T4.out.below HB.out T4.out.lt).below BQ.out (by have := T4.out.lt; have := HB.out.size; omega))
                have yl := MQ.out.lt
                have sl := SB2.out.lt
                have i0 := fun s : BelowW wq => (s.ok.cell (p := ⟨w.heap.size, 2, none⟩) yl).trans (MQ.out.cell (i := 2) rfl)
                have i1 := fun s : BelowW wq => (s.ok.cell (p := ⟨S, 0, none⟩) sl).trans (SB2.out.cell (i := 0) rfl)
                have i2 := fun s : BelowW wq => (s.ok.cell (p := ⟨S, 1, none⟩) sl).trans (SB2.out.cell (i := 1) rfl)
                clear hd2l hz fz fd hcg cc0 cc1 GQ
                by_cases hcv : cv < 0
                · have NO := Lib.hid (show ¬ (n = k' ∧ GoodP l ∧ ProveP C rows goal (l.map toR)) from fun h => (HDX.out.1 hcv) (h.2.2 j (by omega) (by omega)))
                  have hcd : decide (cv < 0) = true := decide_eq_true hcv
                  go_wp2
                  refine wp_region_below (by kernel_rfl) (by kernel_rfl) ?_
                  repeat (go_big_quiet_step (first | (go_at_call 46; (with_reducible exact calls_below _ (COEF.out _))) | (go_at_call 39; (with_reducible exact calls_below _ (WH.out _))) | (go_at_call 21; (with_reducible exact calls_below _ (CM.out _)))))
                  refine wpQuiet_nil ?_
                  rintro w' ⟨s, rfl⟩
                  obtain ⟨w7, ok7⟩ := s
                  clear i0 i1 i2
                  have T7 := Lib.hid (TQ.out.below ok7 TQ.out.lt)
                  have B7 := Lib.hid (BQ0.out.trans (ok7.mono BQ0.out.size))
                  have t0 := T7.out.cell (i := 0) rfl; have t1 := T7.out.cell (i := 1) rfl; have tf := T7.out.free
                  have BF := Lib.hid (show Below w.heap.size w ((w7.setCell ⟨w.heap.size + 1, 0, none⟩ (.int .i64 0)).setCell ⟨w.heap.size + 1, 1, none⟩ (.int .i64 1)) from (B7.out.setCell (Nat.le_succ _) _).setCell (Nat.le_succ _) _)
                  have TF := Lib.hid ((T7.out.set 0 (.int .i64 0)).set 1 (.int .i64 1))
                  go_wp2
                  have r0 := TF.out.cell (i := 0) rfl; have r1 := TF.out.cell (i := 1) rfl
                  refine bodyPost_ret (v := .tuple #[FrV 0, .bool false]) (by simp [results, Try.results15, go_sem, r0, r1]) rfl (pv_no NO.out BF.out)
                · have HT2 := Lib.hid (show ∀ q : Int, 0 ≤ q → q < (j + 1 : Nat) → (coefF goal q : Rat) ≤ colAt rows (l.map toR) q rows.length from fun q h1 h2 => by
                    by_cases e : q = j
                    · subst e; exact Classical.byContradiction fun h => hcv (HDX.out.2 h)
                    · exact HT.out q h1 (by omega))
                  have hcd : decide (cv < 0) = false := decide_eq_false hcv
                  go_wp2
                  refine wp_region_below (by kernel_rfl) (by kernel_rfl) ?_
                  repeat (go_big_quiet_step (first | (go_at_call 46; (with_reducible exact calls_below _ (COEF.out _))) | (go_at_call 39; (with_reducible exact calls_below _ (WH.out _))) | (go_at_call 21; (with_reducible exact calls_below _ (CM.out _)))))
                  refine wpQuiet_nil ?_
                  rintro w' ⟨s, rfl⟩
                  obtain ⟨w7, ok7⟩ := s
                  clear i0 i1 i2
                  go_wp2
                  go_roundw
                  case rel => exact ⟨j + 1, by omega, by go_num, HT2.out, HB.out.trans ((BQ.out.trans (ok7.mono BQ.out.size)).mono HB.out.size)⟩
                  case measure => simp [intOf]; omega
          · obtain rfl : j = C := by omega
            have YES := Lib.hid (show (n = k ∧ GoodP l ∧ ProveP j rows goal (l.map toR)) from ⟨HN.out, HG.out.2, fun q h1 h2 => HT.out q h1 h2⟩)
            have V7 := Lib.hid (SB.out.below HB.out SB.out.lt)
            have T7 := Lib.hid (T4.out.below HB.out T4.out.lt)
            have v0 := V7.out.cell (i := 0) rfl; have v1 := V7.out.cell (i := 1) rfl
            have t0 := T7.out.cell (i := 0) rfl; have t1 := T7.out.cell (i := 1) rfl; have tf := T7.out.free
            have BF := Lib.hid (show Below w.heap.size w ((wp.setCell ⟨w.heap.size + 1, 0, none⟩ (.int .i64 d.num)).setCell ⟨w.heap.size + 1, 1, none⟩ (.int .i64 (d.den : Int))) from (BP.out.setCell (Nat.le_succ _) _).setCell (Nat.le_succ _) _)
            have TF := Lib.hid ((T7.out.set 0 (.int .i64 d.num)).set 1 (.int .i64 (d.den : Int)))
            have HVN := Lib.hid (show w.heap.size + 1 ≠ V by have := LV.out; omega)
            go_wp2
            have r0 := TF.out.cell (i := 0) rfl; have r1 := TF.out.cell (i := 1) rfl
            refine bodyPost_ret (v := .tuple #[FrV d, .bool true]) (by simp [results, Try.results15, go_sem, r0, r1]) rfl (by rw [HDD.out]; rw [HDD.out] at BF; exact pv_yes YES.out BF.out)
end Go.Proofs.Ytdegpgonphgbcaa
namespace Go.Proofs.Ytdegpgonphgbcaa
open Go.RowKit

theorem coefF_none {l : List (Int × Int)} {c : Int} (h : ∀ t ∈ l, t.1 ≠ c) : coefF l c = 0 := by
  induction l with
  | nil => rfl
  | cons t l ih =>
    unfold coefF
    rw [if_neg (h t (List.mem_cons_self ..))]
    exact ih (fun s hs => h s (List.mem_cons_of_mem _ hs))
theorem coefF_snoc {l : List (Int × Int)} {t : Int × Int} (h : ∀ s ∈ l, s.1 < t.1) (c : Int) : coefF (l ++ [t]) c = if c = t.1 then t.2 else coefF l c := by
  induction l with
  | nil =>
    show coefF [t] c = _
    unfold coefF coefF
    by_cases e : t.1 = c
    · rw [if_pos e, if_pos e.symm]
    · rw [if_neg e, if_neg (fun h => e h.symm)]
  | cons s l ih =>
    have hs := h s (List.mem_cons_self ..)
    show coefF (s :: (l ++ [t])) c = _
    unfold coefF
    by_cases e : s.1 = c
    · rw [if_pos e, if_pos e, if_neg (by omega)]
    · rw [if_neg e, if_neg e]
      exact ih (fun u hu => h u (List.mem_cons_of_mem _ hu))
theorem terms_less {l : List (Int × Int)} {n m : Int} (h : TermsOk l n m l.length) {k : Nat} {t : Int × Int} (ht : l[k]? = some t) : ∀ s ∈ l.take k, s.1 < t.1 := by
  have key : ∀ j : Nat, ∀ p q : Nat, q = p + j → ∀ s u, l[p]? = some s → l[q + 1]? = some u → s.1 < u.1 := by
    intro j
    induction j with
    | zero =>
      intro p q e s u hs hu
      have hu : l[p + 1]? = some u := by rw [show p + 1 = q + 1 by omega]; exact hu
      exact (h (p + 1) u (List.getElem?_eq_some_iff.1 hu).1 hu).2.2.1 p s rfl hs
    | succ j ih =>
      intro p q e s u hs hu
      subst e
      have hlen := (List.getElem?_eq_some_iff.1 hu).1
      obtain ⟨v, hv⟩ : ∃ v, l[p + j + 1]? = some v := ⟨_, List.getElem?_eq_getElem (by omega)⟩
      have h1 := ih p (p + j) rfl s v hs hv
      have h2 := (h (p + (j + 1) + 1) u hlen hu).2.2.1 (p + j + 1) v (by omega) hv
      omega
  intro s hs
  obtain ⟨p, hp⟩ := List.getElem?_of_mem hs
  have hpk : p < k := by have := (List.getElem?_eq_some_iff.1 hp).1; rw [List.length_take] at this; omega
  rw [List.getElem?_take, if_pos hpk] at hp
  exact key (k - 1 - p) p (k - 1) (by omega) s t hp (by rw [show k - 1 + 1 = k by omega]; exact ht)
theorem coefF_take {l : List (Int × Int)} {n m : Int} (h : TermsOk l n m l.length) {k : Nat} {t : Int × Int} (ht : l[k]? = some t) (c : Int) : coefF (l.take (k + 1)) c = if c = t.1 then t.2 else coefF (l.take k) c := by
  rw [List.take_add_one, ht]
  exact coefF_snoc (terms_less h ht) c
theorem coefF_take0 {l : List (Int × Int)} {n m : Int} (h : TermsOk l n m l.length) {k : Nat} {t : Int × Int} (ht : l[k]? = some t) : coefF (l.take k) t.1 = 0 := coefF_none (fun s hs => by have := terms_less h ht s hs; omega)
theorem coef_take_nine {n m : Int} {l : List (Int × Int)} (hm : 0 ≤ m) (h : TermsOk l n m l.length) (k : Nat) (c : Int) : -m ≤ coefF (l.take k) c ∧ coefF (l.take k) c ≤ m := coefF_le hm (fun t ht => by obtain ⟨i, hi⟩ := List.getElem?_of_mem (List.mem_of_mem_take ht); exact (h i t (List.getElem?_eq_some_iff.1 hi).1 hi).2.2.2.2) c
theorem gR_set {l : List Rat} {i : Nat} (hi : i < l.length) (x : Rat) (c : Nat) : gR (l.set i x) c = if c = i then x else gR l c := by
  unfold gR
  rw [List.getD_eq_getElem?_getD, List.getElem?_set]
  by_cases e : i = c
  · subst e
    rw [if_pos rfl, if_pos hi, if_pos rfl]; rfl
  · rw [if_neg e, if_neg (fun h => e h.symm), List.getD_eq_getElem?_getD]
/-- The sums while a row is added, or the goal (s: 1 or -1 times its coefficients). -/
structure SumJ (C : Nat) (ss : List Rat) (base : Nat → Rat) (l : List (Int × Int)) (k : Nat) (y : Rat) : Prop where
  len : ss.length = C
  val : ∀ c : Nat, c < C → gR ss c = base c + (coefF (l.take k) c : Rat) * y
theorem SumJ.step {C : Nat} {ss : List Rat} {base : Nat → Rat} {l : List (Int × Int)} {k : Nat} {y : Rat} (h : SumJ C ss base l k y) {n m : Int} (ok : TermsOk l n m l.length) {i : Nat} {co : Int} (ht : l[k]? = some ((i : Int), co)) (hi : i < C) : SumJ C (ss.set i (gR ss i + (co : Rat) * y)) base l (k + 1) y := by
  refine ⟨by rw [List.length_set]; exact h.len, fun c hc => ?_⟩
  rw [gR_set (by rw [h.len]; exact hi), coefF_take ok ht]
  dsimp only
  by_cases e : c = i
  · subst e
    have z := coefF_take0 ok ht
    dsimp only at z
    rw [if_pos rfl, if_pos rfl, h.val c hc, z]
    simp only [Rat.intCast_zero]
    grind
  · rw [if_neg e, if_neg (by omega), h.val c hc]
theorem fr_row {w : World} {g : Nat} {xs : List Rat} (h : FBlk w g xs []) (hn : xs.length ≤ 1000) : Row RTm 2 (fun k => k = g) w (some ⟨g, 0, none⟩) xs.length xs.length (xs.map fun x => (x.num, (x.den : Int))) := by
  refine ⟨by simp, Nat.le_refl _, by omega, by omega, fun i t ht => ?_⟩
  rw [List.getElem?_map] at ht
  obtain ⟨x, hx, rfl⟩ := Option.map_eq_some_iff.1 ht
  obtain ⟨c0, c1⟩ := FBlk.get h hx
  exact ⟨g, 0, rfl, rfl, h.lt, by rw [Nat.zero_add]; exact c0, by rw [Nat.zero_add]; exact c1⟩
theorem fneg_any (t : Int × Int) (w : World) : Calls Try.prog 63 #[.agg #[.int .i64 t.1, .int .i64 t.2]] w (YesNo (t.1 < 0) w) := by
  obtain ⟨a, b⟩ := t
  dsimp only
  obtain ⟨wa, hwa⟩ : ∃ wa, wa = w.alloc (.cells #[.int .i64 a, .int .i64 b] 31) := ⟨_, rfl⟩
  have BA := Lib.hid (show Below w.heap.size w wa by rw [hwa]; exact (Below.refl _ _).alloc (Nat.le_refl _) _)
  have YA := Lib.hid (show Blk wa w.heap.size 31 [.int .i64 a, .int .i64 b] by rw [hwa]; exact Blk.new w _ _)
  have HWA := Lib.hid hwa
  have y0 := YA.out.cell (i := 0) rfl; have y1 := YA.out.cell (i := 1) rfl
  clear hwa
  by_cases hn : a < 0
  · have YES := Lib.hid hn
    go_enter Try.func63, Try.ntmps63
    go_upto_region 1 with fail
    rw [← HWA.out]
    go_wp2
    go_ret
    exact yes_ret YES.out BA.out rfl
  · have NO := Lib.hid (show ¬ a < 0 from hn)
    go_enter Try.func63, Try.ntmps63
    go_upto_region 1 with fail
    rw [← HWA.out]
    go_wp2
    go_ret
    exact no_ret (fun h => by have := NO.out; omega) BA.out rfl
end Go.Proofs.Ytdegpgonphgbcaa
namespace Go.Proofs.Ytdegpgonphgbcaa
open Go.RowKit

theorem fneg_all (xs : List Rat) : (∃ t ∈ xs.map (fun x => (x.num, (x.den : Int))), t.1 < 0) ↔ ∃ x ∈ xs, x < 0 := by
  constructor
  · rintro ⟨t, ht, hn⟩
    obtain ⟨x, hx, rfl⟩ := List.mem_map.1 ht
    exact ⟨x, hx, Rat.not_le.1 (fun h => by have := Rat.num_nonneg.2 h; dsimp only at hn; omega)⟩
  · rintro ⟨x, hx, hn⟩
    exact ⟨_, List.mem_map.2 ⟨x, hx, rfl⟩, Int.not_le.1 (fun h => absurd (Rat.num_nonneg.1 h) (Rat.not_le.2 hn))⟩
set_option maxRecDepth 100000 in
set_option maxHeartbeats 64000000 in
theorem sproves_any (K : Nat → Prop) (cols : Int) (rows : List MRow) (goal : List (Int × Int)) (c0 : Int) (hs : SmallP cols rows goal c0) (l : List (Int × Int)) (hsm : Sml l) (ra : Option Addr) (rn rc : Nat) (ga : Option Addr) (gn gc : Nat) (a : Option Addr) (n c : Nat) (w : World) (R : Row RRw 2 K w ra rn rc rows) (G : Row RTm 2 K w ga gn gc goal) (X : Row RTm 2 K w a n c l) :
    Calls Try.prog 31 #[MdV cols (.slice ra rn rc) ga gn gc c0, .slice a n c] w (PvRet (n = rn ∧ GoodP l ∧ ProveP cols rows goal (l.map toR)) (valAt rows c0 (l.map toR) rows.length) w) := by
  obtain ⟨wa, hwa⟩ : ∃ wa, wa = (w.alloc (.cells (MdC cols (.slice ra rn rc) ga gn gc c0).toArray 28)).alloc (.cells #[.int .i64 0, .int .i64 0] 31) := ⟨_, rfl⟩
  have BA := Lib.hid (show Below w.heap.size w wa by rw [hwa]; exact ((Below.refl _ _).alloc (Nat.le_refl _) _).alloc (by simp) _)
  have MA := Lib.hid (show Blk wa w.heap.size 28 (MdC cols (.slice ra rn rc) ga gn gc c0) by rw [hwa]; exact (Blk.new w _ _).old _)
  have TA := Lib.hid (show Blk wa (w.heap.size + 1) 31 [.int .i64 0, .int .i64 0] by rw [hwa]; exact (Blk.new (w.alloc _) [.int .i64 0, .int .i64 0] 31).at' (by simp))
  have VA := Lib.hid (valid_any K cols rows goal c0 ra rn rc ga gn gc wa (R.keeps RRw.stays (fun y _ hl => BA.out.block y hl) BA.out.size) (G.keeps RTm.stays (fun y _ hl => BA.out.block y hl) BA.out.size))
  have HV := Lib.hid (small_valid hs)
  have XA := Lib.hid (X.keeps RTm.stays (fun y _ hl => BA.out.block y hl) BA.out.size)
  have HS := Lib.hid hs; have HSM := Lib.hid hsm; have HR := Lib.hid R; have HX := Lib.hid X; have HGO := Lib.hid G; have HRL := Lib.hid R.hlen; have hrn6 : rn ≤ 6 := by have := R.hlen; have := hs.2.2.1; omega
  have HWA := Lib.hid hwa
  have m0 := MA.out.cell (i := 0) rfl; have m1 := MA.out.cell (i := 1) rfl; have m2 := MA.out.cell (i := 2) rfl; have m3 := MA.out.cell (i := 3) rfl
  clear hwa R X G hs hsm
  go_enter Try.func31, Try.ntmps31
  go_upto_region 1 with fail
  rw [← HWA.out]
  go_wp2_with fail
  refine VA.out.mono ?_
  rintro e w0 ⟨r, rfl, hr, hb⟩
  obtain rfl : r = true := hr.2 HV.out
  have B0 := Lib.hid (BA.out.trans (hb.mono BA.out.size))
  have M0 := Lib.hid (MA.out.below hb MA.out.lt)
  have T0 := Lib.hid (TA.out.below hb TA.out.lt)
  have GD := Lib.hid (good_any K l HSM.out.in63 a n c rn w0 (XA.out.keeps RTm.stays (fun y _ hl => hb.block y hl) hb.size))
  clear hr hb m0 m1 m2 m3 VA HV XA
  have m1 := M0.out.cell (i := 1) rfl
  go_wp2_with fail
  refine GD.out.mono ?_
  rintro e w1 ⟨r, rfl, hr, hb⟩
  have HRR := Lib.hid hr
  have B1 := Lib.hid (B0.out.trans (hb.mono B0.out.size))
  have M1 := Lib.hid (M0.out.below hb M0.out.lt)
  have T1 := Lib.hid (T0.out.below hb T0.out.lt)
  clear hr hb m1
  cases r with
  | false =>
    have NO := Lib.hid (show ¬ (n = rn ∧ GoodP l ∧ ProveP cols rows goal (l.map toR)) from fun h => by have := HRR.out.2 ⟨by rw [h.1], h.2.1⟩; cases this)
    obtain ⟨z0, hz0⟩ : ∃ z0 : Rat, z0 = ((0 : Int) : Rat) := ⟨_, rfl⟩
    have W0 := Lib.hid (fun w => whole_any 0 w)
    rw [← hz0] at W0
    have HZ0 := Lib.hid (show z0 = 0 by rw [hz0]; simp)
    clear hz0
    go_wp2_with fail
    refine (W0.out _).mono ?_
    rintro e w2 ⟨rfl, hb⟩
    have T2 := Lib.hid (T1.out.below hb T1.out.lt)
    have B2 := Lib.hid (B1.out.trans (hb.mono B1.out.size))
    clear hb
    have t0 := T2.out.cell (i := 0) rfl; have t1 := T2.out.cell (i := 1) rfl; have tf := T2.out.free
    have BF := Lib.hid (show Below w.heap.size w ((w2.setCell ⟨w.heap.size + 1, 0, none⟩ (.int .i64 z0.num)).setCell ⟨w.heap.size + 1, 1, none⟩ (.int .i64 (z0.den : Int))) from (B2.out.setCell (Nat.le_succ _) _).setCell (Nat.le_succ _) _)
    have TF := Lib.hid ((T2.out.set 0 (.int .i64 z0.num)).set 1 (.int .i64 (z0.den : Int)))
    go_wp2
    have r0 := TF.out.cell (i := 0) rfl; have r1 := TF.out.cell (i := 1) rfl
    refine bodyPost_ret (v := .tuple #[FrV z0, .bool false]) (by simp [results, Try.results31, go_sem, r0, r1]) rfl (by have h := pv_no (v := valAt rows c0 (l.map toR) rows.length) NO.out BF.out; rw [HZ0.out] at h ⊢; exact h)
  | true =>
    have HG := Lib.hid (HRR.out.1 rfl)
    have HF := Lib.hid (show Frs l from ⟨HSM.out, HG.out.2⟩)
    have HN := Lib.hid (show n = rn by have := HG.out.1; omega)
    clear HRR
    have hcols : 0 ≤ cols ∧ cols ≤ 6 := ⟨HS.out.1, HS.out.2.1⟩
    obtain ⟨C, rfl⟩ : ∃ C : Nat, cols = (C : Int) := ⟨cols.toNat, by omega⟩
    have hC6 : C ≤ 6 := by omega
    have hC8 : C ≤ 8 := by omega
    clear hcols
    have m0 := M1.out.cell (i := 0) rfl; have m3 := M1.out.cell (i := 3) rfl
    obtain ⟨z0, hz0⟩ : ∃ z0 : Rat, z0 = (c0 : Rat) := ⟨_, rfl⟩
    have W0 := Lib.hid (fun w => whole_any c0 w)
    rw [← hz0] at W0
    have HZ0 := Lib.hid hz0
    clear hz0
    go_upto_region 3 with fail
    go_cut [6, 7] (fun s6 s7 wx => ∃ V S : Nat, s6 = .pointer (some ⟨V, 0, none⟩) ∧ s7 = .slice (some ⟨S, 0, none⟩) C C ∧ w1.heap.size ≤ V ∧ w1.heap.size ≤ S ∧ V ≠ S ∧ Blk wx V 31 (FrC z0) ∧ FBlk wx S (List.replicate C 0) [] ∧ Below w1.heap.size w1 wx)
    case first =>
      as_aux_lemma =>
        refine hd_start 7 (fun w' => w'.cell? ⟨w.heap.size, 0, none⟩ = some (.int .i64 C) ∧ w'.cell? ⟨w.heap.size, 3, none⟩ = some (.int .i64 c0)) (by kernel_rfl) ⟨by kernel_rfl, by kernel_rfl, by kernel_rfl, by decide⟩ (by refine ⟨m0, m3⟩) (fun ok => ?_)
        refine hd_take_l (i := 0) (v := ?_) ok rfl (by decide) (by kernel_rfl) (by kernel_rfl) (fun _ _ _ h => h) (Or.inl ⟨by kernel_rfl, ?_⟩) ?_
        rotate_left
        · (intro w hSw; (try dsimp only at hSw); (try go_split_ands); go_simp; (try (with_reducible rfl)))
        go_frame
        refine hd_take_l (i := 1) (v := ?_) ok rfl (by decide) (by kernel_rfl) (by kernel_rfl) (fun _ _ _ h => h) (Or.inl ⟨by kernel_rfl, ?_⟩) ?_
        rotate_left
        · (intro w hSw; (try dsimp only at hSw); (try go_split_ands); go_simp; (try (with_reducible rfl)))
        go_frame
        refine hd_take_l (i := 3) (v := ?_) ok rfl (by decide) (by kernel_rfl) (by kernel_rfl) (fun _ _ _ h => h) (Or.inl ⟨by kernel_rfl, ?_⟩) ?_
        rotate_left
        · (intro w hSw; (try dsimp only at hSw); (try go_split_ands); go_simp; (try (with_reducible rfl)))
        go_frame
        refine hd_take_l (i := 4) (v := ?_) ok rfl (by decide) (by kernel_rfl) (by kernel_rfl) (fun _ _ _ h => h) (Or.inl ⟨by kernel_rfl, ?_⟩) ?_
        rotate_left
        · (intro w hSw; (try dsimp only at hSw); (try go_split_ands); go_simp; (try (with_reducible rfl)))
        go_frame
        refine hd_inv_p [(28, 2), (31, 5), (6, 6)] (fun _ => undef) (fun b v w' => Below w1.heap.size w1 w' ∧ (b 2 = true → v 2 = FrV z0) ∧ ∃ g q : Nat, (b 5 = true → v 5 = .slice (some ⟨g, 0, none⟩) C C ∧ FBlk w' g (List.replicate C 0) [] ∧ w1.heap.size ≤ g) ∧ (b 6 = true → v 6 = .pointer (some ⟨q, 0, none⟩) ∧ Blk w' q 31 [.int .i64 0, .int .i64 0] ∧ w1.heap.size ≤ q) ∧ (b 5 = true → b 6 = true → q ≠ g)) (.inl ok) ⟨by decide, by decide, by kernel_rfl, rfl⟩ (by kernel_rfl) (by kernel_rfl) (by decide) ⟨(Below.refl _ _).drew, (fun h => by cases h), 0, 0, (fun h => by cases h), (fun h => by cases h), (fun h => by cases h)⟩ ?_ ?_
        · intro i oj hi ho bb v a w' hJ hv hr hb hdep hS K hK
          obtain ⟨hB, j2, g, q, j5, j6, jd⟩ := hJ
          have hBs := hB.size
          have hi4 : i = 2 ∨ i = 5 ∨ i = 6 := by simpa using hi
          try dsimp only at hS
          obtain ⟨s0, s1⟩ := hS
          rcases hi4 with rfl | rfl | rfl
          · obtain rfl := Option.some.inj ho
            have e27 : a.tmps[27]?.getD undef = .int .i64 c0 := (get_eval a 27).trans (hr 27 (by decide))
            go_simp
            go_at_call 58
            refine (W0.out _).mono ?_
            rintro e u ⟨rfl, hu⟩
            exact hK _ _ ⟨cell_later hu s0, cell_later hu s1⟩ ⟨hB.trans (hu.mono hBs), fun _ => rfl, g, q, fun h => ⟨(j5 h).1, (j5 h).2.1.below hu (j5 h).2.1.lt, (j5 h).2.2⟩, fun h => ⟨(j6 h).1, (j6 h).2.1.below hu (j6 h).2.1.lt, (j6 h).2.2⟩, jd⟩
          · obtain rfl := Option.some.inj ho
            have e30 : a.tmps[30]?.getD undef = .int .i64 C := (get_eval a 30).trans (hr 30 (by decide))
            go_simp
            go_at_call 36
            refine (zeros_any C hC8 _).mono ?_
            rintro e u ⟨g', rfl, hg', hz', hu⟩
            exact hK _ _ ⟨cell_later hu s0, cell_later hu s1⟩ ⟨hB.trans (hu.mono hBs), j2, g', q, fun _ => ⟨rfl, hz', by omega⟩, fun h => ⟨(j6 h).1, (j6 h).2.1.below hu (j6 h).2.1.lt, (j6 h).2.2⟩, fun _ h => by have := (j6 h).2.1.lt; omega⟩
          · obtain rfl := Option.some.inj ho
            go_simp
            have hu : Below w'.heap.size w' (w'.alloc (.cells #[.int .i64 0, .int .i64 0] 31)) := (Below.refl _ _).alloc (Nat.le_refl _) _
            exact hK _ _ ⟨cell_later hu s0, cell_later hu s1⟩ ⟨hB.trans (hu.mono hBs), j2, g, w'.heap.size, fun h => ⟨(j5 h).1, (j5 h).2.1.below hu (j5 h).2.1.lt, (j5 h).2.2⟩, fun _ => ⟨rfl, Blk.new w' [.int .i64 0, .int .i64 0] 31, hBs⟩, fun h _ => by have := (j5 h).2.1.lt; omega⟩
        · intro bb v w' hall hJ hS
          obtain ⟨hB, j2, g, q, j5, j6, jd⟩ := hJ
          have v2 := j2 (hall 2 (by decide))
          obtain ⟨v5, b5, l5⟩ := j5 (hall 5 (by decide))
          obtain ⟨v6, b6, l6⟩ := j6 (hall 6 (by decide))
          have nqg := jd (hall 5 (by decide)) (hall 6 (by decide))
          have LA := laid_setRow (vs := FrC z0) b6
          have R := Lib.hid (show ∃ V S : Nat, Value.pointer (some ⟨q, 0, none⟩) = .pointer (some ⟨V, 0, none⟩) ∧ Value.slice (some ⟨g, 0, none⟩) C C = .slice (some ⟨S, 0, none⟩) C C ∧ w1.heap.size ≤ V ∧ w1.heap.size ≤ S ∧ V ≠ S ∧ Blk (w'.setRow q (FrC z0).toArray) V 31 (FrC z0) ∧ FBlk (w'.setRow q (FrC z0).toArray) S (List.replicate C 0) [] ∧ Below w1.heap.size w1 (w'.setRow q (FrC z0).toArray) from ⟨q, g, rfl, rfl, l6, l5, nqg, LA.blk, b5.chg LA.chg (fun e => nqg e.symm), hB.trans (LA.chg.below (fun j hj e => by omega) hB.size)⟩)
          have BB := Lib.hid b6
          simp only [putP, v2, v5, v6]
          clear hB j2 j5 j6 jd v2 v5 v6 b5 b6 l5 l6 LA hS hall ok nqg
          go_frame
          refine hd_done (by kernel_rfl) ?_
          simp only [List.drop_succ_cons, List.drop_zero]
          refine wpList_store_row rfl 31 _ _ rfl q (FrC z0).toArray rfl rfl 31 #[.int .i64 0, .int .i64 0] BB.out.heap (by kernel_rfl) (by simp) (by simp [Value.oneCell']) ?_
          go_wp2_with fail
          go_meet
          exact R.out
    case rest =>
      obtain ⟨V, S, rfl, rfl, lV, lS, nVS, bV, bS, hB⟩ := hcut
      obtain ⟨w3, hw3⟩ : ∃ w3 : World, w3 = wc := ⟨_, rfl⟩
      rw [← hw3] at bV bS hB ⊢
      clear hw3
      have B3 := Lib.hid (B1.out.trans (hB.mono B1.out.size))
      have M3 := Lib.hid (M1.out.below hB M1.out.lt)
      have T3 := Lib.hid (T1.out.below hB T1.out.lt)
      have V3 := Lib.hid (show Blk w3 V 31 (FrC (valAt rows c0 (l.map toR) 0)) by rw [show valAt rows c0 (l.map toR) 0 = z0 by rw [HZ0.out]; rfl]; exact bV)
      have S3 := Lib.hid bS
      have LV := Lib.hid (show w.heap.size + 1 < V ∧ w.heap.size + 1 < S ∧ V ≠ S from ⟨by have := T1.out.lt; omega, by have := T1.out.lt; omega, nVS⟩)
      clear lV lS nVS bV bS hB m0 m3
      have m1 := M3.out.cell (i := 1) rfl
      go_wp2
      clear m1
      go_loopw [35] (fun i wr => ∃ (k : Nat) (ss : List Rat), k ≤ rn ∧ i = .int .i64 k ∧ FBlk wr S ss [] ∧ ss.length = C ∧ (∀ c : Nat, c < C → gR ss c = colAt rows (l.map toR) c k) ∧ Blk wr V 31 (FrC (valAt rows c0 (l.map toR) k)) ∧ Chg (fun x => x = V ∨ x = S) w3 wr) (fun i _ => rn - (intOf i).toNat)
      case atStart => exact ⟨0, List.replicate C 0, Nat.zero_le _, rfl, S3.out, by simp, fun c hc => by unfold gR colAt; rw [List.getD_eq_getElem?_getD, List.getElem?_replicate, if_pos hc]; rfl, V3.out, Chg.refl _⟩
      case round =>
        obtain ⟨k, ss, hk, rfl, hfb, hsl, hsv, hbv, hc⟩ := hrel
        obtain ⟨wo, rfl⟩ : ∃ wo : World, wo = wr := ⟨_, rfl⟩
        have FS := Lib.hid hfb; have SL := Lib.hid hsl; have SV := Lib.hid hsv; have VB := Lib.hid hbv; have SC := Lib.hid hc
        have BR := Lib.hid (show Below w.heap.size w wo from B3.out.trans (SC.out.below (fun x hx e => by have := LV.out; omega) B3.out.size))
        clear hfb hsl hsv hbv hc
        obtain ⟨d, hd⟩ : ∃ d, d = valAt rows c0 (l.map toR) k := ⟨_, rfl⟩
        rw [← hd] at VB
        have HD := Lib.hid hd
        clear hd
        by_cases hlt : k < rn
        · obtain ⟨⟨tm, x⟩, hx⟩ : ∃ t, rows[k]? = some t := ⟨_, List.getElem?_eq_getElem (by have := HRL.out; omega)⟩
          obtain ⟨b, o, rfl, kb, lb, ⟨ta, tn, tc, t0w, htm⟩, t1w⟩ := HR.out.row k (tm, x) hx
          dsimp only at t0w t1w
          have t0 := (BR.out.cell (p := ⟨b, o + k * 2, none⟩) lb).trans t0w
          have t1 := (BR.out.cell (p := ⟨b, o + k * 2 + 1, none⟩) lb).trans t1w
          clear t0w t1w
          obtain ⟨tok, mx0, mx1⟩ := small_rows HS.out (tm, x) (List.mem_of_getElem? hx)
          dsimp only at tok mx0 mx1
          have hkn : k < n := by have := HN.out; omega
          obtain ⟨b1, o1, y, rfl, hy, y0w, y1w, lb1⟩ := Frs.get HF.out HX.out (i := k) hkn
          have YW := Lib.hid (show w.cell? ⟨b1, o1 + k * 2, none⟩ = some (.int .i64 y.num) ∧ w.cell? ⟨b1, o1 + k * 2 + 1, none⟩ = some (.int .i64 (y.den : Int)) ∧ b1 < w.heap.size from ⟨y0w, y1w, lb1⟩)
          have y0 := (BR.out.cell (p := ⟨b1, o1 + k * 2, none⟩) lb1).trans y0w
          have y1 := (BR.out.cell (p := ⟨b1, o1 + k * 2 + 1, none⟩) lb1).trans y1w
          have lb1 : b1 < wo.heap.size := Nat.lt_of_lt_of_le lb1 BR.out.size
          clear y0w y1w
          obtain ⟨m, hm⟩ : ∃ m, m = (x : Rat) * y := ⟨_, rfl⟩
          have smy : Sm 25200 y := by rw [hy]; exact HF.out.sm k
          have SMY := Lib.hid smy
          have smm : Sm (50 * 25200) m := by rw [hm]; exact smy.mul mx0 mx1
          have smd := valAt_sm HS.out HF.out k
          have smd1 := valAt_sm HS.out HF.out (k + 1)
          obtain ⟨s, hs⟩ : ∃ s, s = d + m := ⟨_, rfl⟩
          have HNX := Lib.hid (show valAt rows c0 (l.map toR) (k + 1) = s by rw [hs, hm, HD.out, hy]; conv => lhs; unfold valAt; rw [rowD_of hx])
          have HCX := Lib.hid (show ∀ c : Nat, colAt rows (l.map toR) c (k + 1) = colAt rows (l.map toR) c k + (coefF tm c : Rat) * y from fun c => by rw [hy]; conv => lhs; unfold colAt; rw [rowD_of hx])
          have MUL := Lib.hid (smul (x : Rat) y ((Sm.int (C := 50) mx0 mx1).fit (by decide)) (smy.fit (by decide)) (by rw [← hm]; exact smm.fit (by decide)))
          rw [← hm] at MUL
          have ADD := Lib.hid (sadd d m (by rw [HD.out]; exact smd.fit (by omega)) (smm.fit (by decide)) (by rw [← hs, ← HNX.out]; exact smd1.fit (by omega)))
          rw [← hs] at ADD
          have TOK := Lib.hid tok
          have hk1 : (k : Int) < (rn : Int) := by omega
          have hk2 : (k : Int) < (n : Int) := by omega
          have htn6 : tn ≤ 6 := by have h : tm.length = tn := htm.hlen; have := terms_len tok HS.out.1; omega
          have HTL := Lib.hid (show tm.length = tn from htm.hlen)
          have HTM := Lib.hid htm
          clear hx hy hm smy smm smd smd1 tok mx0 mx1 kb hs htm
          obtain ⟨w4, hw4⟩ : ∃ w4, w4 = wo.alloc (.cells #[.slice ta tn tc, .int .i64 x] 50) := ⟨_, rfl⟩
          have B4 := Lib.hid (show Below wo.heap.size wo w4 by rw [hw4]; exact (Below.refl _ _).alloc (Nat.le_refl _) _)
          have X4 := Lib.hid (show Blk w4 wo.heap.size 50 [.slice ta tn tc, .int .i64 x] by rw [hw4]; exact Blk.new wo _ _)
          have HW4 := Lib.hid hw4
          clear hw4
          go_upto_region 7 with fail
          rw [← HW4.out]
          obtain ⟨Z, hZ⟩ : ∃ Z, Z = wo.heap.size := ⟨_, rfl⟩
          have LZ := Lib.hid (show Z ≠ V ∧ Z ≠ S from ⟨by have := VB.out.lt; omega, by have := FS.out.lt; omega⟩)
          have HZ := Lib.hid hZ
          rw [← hZ] at X4 ⊢
          clear hZ t0 t1
          have x0 := (B4.out.cell (p := ⟨b1, o1 + k * 2, none⟩) lb1).trans y0
          have x1 := (B4.out.cell (p := ⟨b1, o1 + k * 2 + 1, none⟩) lb1).trans y1
          have V4 := Lib.hid (VB.out.below B4.out VB.out.lt)
          have F4 := Lib.hid (FS.out.below B4.out FS.out.lt)
          have C4 := Lib.hid (SC.out.tr B4.out)
          have z1 := X4.out.cell (i := 1) rfl
          have s0 := V4.out.cell (i := 0) rfl; have s1 := V4.out.cell (i := 1) rfl
          clear y0 y1
          refine hr_start 10 (fun w' => w'.cell? ⟨V, 0, none⟩ = some (.int .i64 d.num) ∧ w'.cell? ⟨V, 1, none⟩ = some (.int .i64 (d.den : Int)) ∧ w'.cell? ⟨Z, 1, none⟩ = some (.int .i64 x) ∧ w'.cell? ⟨b1, o1 + k * 2, none⟩ = some (.int .i64 y.num) ∧ w'.cell? ⟨b1, o1 + k * 2 + 1, none⟩ = some (.int .i64 (y.den : Int))) (by kernel_rfl) (by kernel_rfl) (by refine ⟨s0, s1, z1, x0, x1⟩) (fun ok => ?_)
          refine hr_take (i := 0) (v := ?_) ok rfl (by rfl) (by kernel_rfl) (by kernel_rfl) (by kernel_rfl) (by kernel_rfl) (fun _ _ _ h => h) (Or.inl ⟨by kernel_rfl, ?_⟩) ?_
          rotate_left
          · (intro w hSw; (try dsimp only at hSw); (try go_split_ands); go_simp; (try (with_reducible rfl)))
          go_frame
          refine hr_take (i := 1) (v := ?_) ok rfl (by rfl) (by kernel_rfl) (by kernel_rfl) (by kernel_rfl) (by kernel_rfl) (fun _ _ _ h => h) (Or.inl ⟨by kernel_rfl, ?_⟩) ?_
          rotate_left
          · (intro w hSw; (try dsimp only at hSw); (try go_split_ands); go_simp; (try (with_reducible rfl)))
          go_frame
          refine hr_take (i := 2) (v := ?_) ok rfl (by rfl) (by kernel_rfl) (by kernel_rfl) (by kernel_rfl) (by kernel_rfl) (fun _ _ _ h => h) (Or.inl ⟨by kernel_rfl, ?_⟩) ?_
          rotate_left
          · (intro w hSw; (try dsimp only at hSw); (try go_split_ands); go_simp; (try (with_reducible rfl)))
          go_frame
          refine hr_take (i := 4) (v := ?_) ok rfl (by rfl) (by kernel_rfl) (by kernel_rfl) (by kernel_rfl) (by kernel_rfl) (fun _ _ _ h => h) (Or.inl ⟨by kernel_rfl, ?_⟩) ?_
          rotate_left
          · (intro w hSw; (try dsimp only at hSw); (try go_split_ands); go_simp; (try (with_reducible rfl)))
          go_frame
          refine hr_take (i := 5) (v := ?_) ok rfl (by rfl) (by kernel_rfl) (by kernel_rfl) (by kernel_rfl) (by kernel_rfl) (fun _ _ _ h => h) (Or.inl ⟨by kernel_rfl, ?_⟩) ?_
          rotate_left
          · (intro w hSw; (try dsimp only at hSw); (try go_split_ands); go_simp; (try (with_reducible rfl)))
          go_frame
          refine hr_take (i := 6) (v := ?_) ok rfl (by rfl) (by kernel_rfl) (by kernel_rfl) (by kernel_rfl) (by kernel_rfl) (fun _ _ _ h => h) (Or.inl ⟨by kernel_rfl, ?_⟩) ?_
          rotate_left
          · (intro w hSw; (try dsimp only at hSw); (try go_split_ands); go_simp; (try (with_reducible rfl)))
          go_frame
          refine hr_take (i := 7) (v := ?_) ok rfl (by rfl) (by kernel_rfl) (by kernel_rfl) (by kernel_rfl) (by kernel_rfl) (fun _ _ _ h => h) (Or.inl ⟨by kernel_rfl, ?_⟩) ?_
          rotate_left
          · (intro w hSw; (try dsimp only at hSw); (try go_split_ands); go_simp; (try (with_reducible rfl)))
          go_frame
          refine hr_only (c := 3) rfl (by kernel_rfl) (fun K hK => ?_)
          go_simp
          refine (whole_any x _).mono ?_
          rintro e' w' ⟨rfl, hb⟩
          have VB1 := Lib.hid (V4.out.drew.below hb V4.out.drew.lt)
          have BB1 := Lib.hid (show Below w4.heap.size w4 w' from (Below.refl _ _).drew.trans hb)
          have s0 := cell_later hb s0; have s1 := cell_later hb s1; have z1 := cell_later hb z1; have x0 := cell_later hb x0; have x1 := cell_later hb x1
          (try simp only [])
          refine hK _ _ (fun _ => by refine ⟨?_, ?_, ?_, ?_, ?_⟩ <;> (first | exact s0 | exact s1 | exact z1 | exact x0 | exact x1)) ?_
          clear hK K
          (try go_frame)

          clear hb
          refine hr_only (c := 8) rfl (by kernel_rfl) (fun K hK => ?_)
          go_simp
          refine (MUL.out _).mono ?_
          rintro e' w'' ⟨rfl, hb⟩
          have VB2 := Lib.hid (VB1.out.below hb VB1.out.lt)
          have BB2 := Lib.hid (BB1.out.trans (hb.mono BB1.out.size))
          have s0 := cell_later hb s0; have s1 := cell_later hb s1; have z1 := cell_later hb z1; have x0 := cell_later hb x0; have x1 := cell_later hb x1
          (try simp only [])
          refine hK _ _ (fun _ => by refine ⟨?_, ?_, ?_, ?_, ?_⟩ <;> (first | exact s0 | exact s1 | exact z1 | exact x0 | exact x1)) ?_
          clear hK K
          (try go_frame)

          clear hb VB1 BB1
          refine hr_only (c := 9) rfl (by kernel_rfl) (fun K hK => ?_)
          go_simp
          refine (ADD.out _).mono ?_
          rintro e' w3' ⟨rfl, hb⟩
          have VB3 := Lib.hid (VB2.out.below hb VB2.out.lt)
          have BB3 := Lib.hid (BB2.out.trans (hb.mono BB2.out.size))
          (try simp only [])
          refine hK _ _ (fun _ => by refine ⟨?_, ?_, ?_, ?_, ?_⟩ <;> (first | exact cell_later hb s0 | exact cell_later hb s1 | exact cell_later hb z1 | exact cell_later hb x0 | exact cell_later hb x1)) ?_
          clear hK K
          (try go_frame)

          clear s0 s1 z1 x0 x1 hb VB2 BB2
          have c1 := VB3.out.cell (i := 0) rfl
          have c2 := VB3.out.cell (i := 1) rfl
          have cf := VB3.out.free
          refine hr_only (c := 10) rfl (by kernel_rfl) (fun K hK => ?_)
          go_simp
          (try simp only [])
          refine hK _ _ (pend_no (by kernel_rfl)) ?_
          clear hK K
          (try go_frame)
          refine hr_end (by kernel_rfl) ?_
          obtain ⟨w5, hw5⟩ : ∃ w5, w5 = (w3'.setCell ⟨V, 0, none⟩ (.int .i64 s.num)).setCell ⟨V, 1, none⟩ (.int .i64 (s.den : Int)) := ⟨_, rfl⟩
          have V5 := Lib.hid (show Blk w5 V 31 (FrC (valAt rows c0 (l.map toR) (k + 1))) by
            rw [HNX.out, hw5]
            exact ((VB3.out.set 0 _).set 1 _).at rfl)
          have C5 := Lib.hid (show Chg (fun x => x = V) w4 w5 by rw [hw5]; exact Chg.setCell (M := fun x => x = V) (p := ⟨V, 1, none⟩) (Chg.setCell (M := fun x => x = V) (p := ⟨V, 0, none⟩) (Chg.of_below BB3.out) (fun _ => rfl) _) (fun _ => rfl) _)
          rw [← hw5]
          clear hw5 c1 c2 cf VB3 BB3 V4
          have X5 := Lib.hid (X4.out.chg C5.out LZ.out.1)
          have F5 := Lib.hid (F4.out.chg C5.out (fun e => LV.out.2.2 e.symm))
          have CW5 := Lib.hid (show Chg (fun x => x = V ∨ x = S) w3 w5 from C4.out.trans C5.out (fun x _ e => .inl e))
          have BW5 := Lib.hid (show Below wo.heap.size wo w5 ∨ True from .inr trivial)
          have z0' := X5.out.cell (i := 0) rfl
          clear BW5 C4 F4 X4
          go_wp2
          clear z0'
          go_loopw [53] (fun i wr => ∃ (j : Nat) (ss' : List Rat), j ≤ tn ∧ i = .int .i64 j ∧ FBlk wr S ss' [] ∧ SumJ C ss' (fun c => colAt rows (l.map toR) c k) tm j y ∧ Chg (fun x => x = S) w5 wr) (fun i _ => tn - (intOf i).toNat)
          case atStart => exact ⟨0, ss, Nat.zero_le _, rfl, F5.out, ⟨SL.out, fun c hc => by rw [SV.out c hc]; show _ = _ + ((0 : Int) : Rat) * y; simp only [Rat.intCast_zero]; grind⟩, Chg.refl _⟩
          case round =>
            obtain ⟨j, ss', hj, rfl, hfb, hsj, hc⟩ := hrel
            have FJ := Lib.hid hfb; have SJ := Lib.hid hsj; have CJ := Lib.hid hc
            clear hfb hsj hc
            have CWJ := Lib.hid (show Chg (fun x => x = V ∨ x = S) w3 wr from CW5.out.trans CJ.out (fun x _ e => .inr e))
            have BRJ := Lib.hid (show Below w.heap.size w wr from B3.out.trans (CWJ.out.below (fun x hx e => by have := LV.out; omega) B3.out.size))
            have XJ := Lib.hid (X5.out.chg CJ.out LZ.out.2)
            have VJ := Lib.hid (V5.out.chg CJ.out LV.out.2.2)
            by_cases hltj : j < tn
            · obtain ⟨bt, ot, ⟨of_, co⟩, rfl, ht, t0, t1, _, lbt⟩ := RTm.get (HTM.out.keeps RTm.stays (fun y _ hl => BRJ.out.block y hl) BRJ.out.size) hltj
              dsimp only at t0 t1
              obtain ⟨ho0, ho1, _, _, hc0, hc1⟩ := TOK.out j _ (List.getElem?_eq_some_iff.1 ht).1 ht
              dsimp only at ho0 ho1 hc0 hc1
              obtain ⟨i, rfl⟩ : ∃ i : Nat, of_ = (i : Int) := ⟨of_.toNat, by omega⟩
              have hiC : i < C := by omega
              obtain ⟨x, hgx⟩ : ∃ x, ss'[i]? = some x := ⟨_, List.getElem?_eq_getElem (by rw [SJ.out.len]; exact hiC)⟩
              have hgr : gR ss' i = x := gR_of hgx
              have y0 := (BRJ.out.cell (p := ⟨b1, o1 + k * 2, none⟩) YW.out.2.2).trans YW.out.1
              have y1 := (BRJ.out.cell (p := ⟨b1, o1 + k * 2 + 1, none⟩) YW.out.2.2).trans YW.out.2.1
              have smb := colAt_sm HS.out HF.out i k
              obtain ⟨cn0, cn1⟩ := coef_take_nine (m := 9) (by decide) TOK.out j i
              obtain ⟨cm0, cm1⟩ := coef_take_nine (m := 9) (by decide) TOK.out (j + 1) i
              have smx : Sm (226800 * k + 9 * 25200) x := by rw [← hgr, SJ.out.val i hiC]; exact smb.add (SMY.out.mul cn0 cn1)
              obtain ⟨m, hm⟩ : ∃ m, m = (co : Rat) * y := ⟨_, rfl⟩
              obtain ⟨s, hs⟩ : ∃ s, s = x + m := ⟨_, rfl⟩
              have SJN := Lib.hid (show SumJ C (ss'.set i s) (fun c => colAt rows (l.map toR) c k) tm (j + 1) y by rw [hs, hm, ← hgr]; exact SJ.out.step TOK.out ht hiC)
              have smm : Sm (9 * 25200) m := by rw [hm]; exact SMY.out.mul hc0 hc1
              have sms : Sm (226800 * k + 9 * 25200 + 9 * 25200) s := by rw [hs]; exact smx.add smm
              have MULJ := Lib.hid (smul (co : Rat) y ((Sm.int (C := 9) hc0 hc1).fit (by decide)) (SMY.out.fit (by decide)) (by rw [← hm]; exact smm.fit (by decide)))
              rw [← hm] at MULJ
              have ADDJ := Lib.hid (sadd x m (smx.fit (by omega)) (smm.fit (by decide)) (by rw [← hs]; exact sms.fit (by omega)))
              rw [← hs] at ADDJ
              have HGX := Lib.hid hgx; have HSL := Lib.hid SJ.out.len
              have hjt : (j : Int) < (tn : Int) := by omega
              have hi0 : 0 ≤ (i : Int) := by omega
              have hiC2 : (i : Int) < (C : Int) := by omega
              have hkn2 : (k : Int) < (n : Int) := by have := HN.out; omega
              clear ht hgr hm hs smx smm sms smb cn0 cn1 cm0 cm1 ho0 ho1 hgx
              obtain ⟨w6, hw6⟩ : ∃ w6, w6 = wr.alloc (.cells #[.int .i64 i, .int .i64 co] 56) := ⟨_, rfl⟩
              have B6 := Lib.hid (show Below wr.heap.size wr w6 by rw [hw6]; exact (Below.refl _ _).alloc (Nat.le_refl _) _)
              have X6 := Lib.hid (show Blk w6 wr.heap.size 56 [.int .i64 i, .int .i64 co] by rw [hw6]; exact Blk.new wr _ _)
              have HW6 := Lib.hid hw6
              clear hw6
              go_upto_region 11 with fail
              rw [← HW6.out]
              obtain ⟨Y, hY⟩ : ∃ Y, Y = wr.heap.size := ⟨_, rfl⟩
              rw [← hY] at X6 ⊢
              have lbw : b1 < wr.heap.size := Nat.lt_of_lt_of_le YW.out.2.2 BRJ.out.size
              have x0 := (B6.out.cell (p := ⟨b1, o1 + k * 2, none⟩) lbw).trans y0
              have x1 := (B6.out.cell (p := ⟨b1, o1 + k * 2 + 1, none⟩) lbw).trans y1
              have F6 := Lib.hid (FJ.out.below B6.out FJ.out.lt)
              have C6 := Lib.hid (CJ.out.tr B6.out)
              have e0 := X6.out.cell (i := 0) rfl; have e1 := X6.out.cell (i := 1) rfl
              obtain ⟨g0, g1⟩ := FBlk.get F6.out HGX.out
              clear hY t0 t1 y0 y1 lbw
              refine hr_start 18 (fun w' => w'.cell? ⟨S, i * 2, none⟩ = some (.int .i64 x.num) ∧ w'.cell? ⟨S, i * 2 + 1, none⟩ = some (.int .i64 (x.den : Int)) ∧ w'.cell? ⟨Y, 0, none⟩ = some (.int .i64 i) ∧ w'.cell? ⟨Y, 1, none⟩ = some (.int .i64 co) ∧ w'.cell? ⟨b1, o1 + k * 2, none⟩ = some (.int .i64 y.num) ∧ w'.cell? ⟨b1, o1 + k * 2 + 1, none⟩ = some (.int .i64 (y.den : Int))) (by kernel_rfl) (by kernel_rfl) (by refine ⟨g0, g1, e0, e1, x0, x1⟩) (fun ok => ?_)
              refine hr_take (i := 0) (v := ?_) ok rfl (by rfl) (by kernel_rfl) (by kernel_rfl) (by kernel_rfl) (by kernel_rfl) (fun _ _ _ h => h) (Or.inl ⟨by kernel_rfl, ?_⟩) ?_
              rotate_left
              · (intro w hSw; (try dsimp only at hSw); (try go_split_ands); go_simp; (try (with_reducible rfl)))
              go_frame
              refine hr_take (i := 1) (v := ?_) ok rfl (by rfl) (by kernel_rfl) (by kernel_rfl) (by kernel_rfl) (by kernel_rfl) (fun _ _ _ h => h) (Or.inl ⟨by kernel_rfl, ?_⟩) ?_
              rotate_left
              · (intro w hSw; (try dsimp only at hSw); (try go_split_ands); go_simp; (try (with_reducible rfl)))
              go_frame
              refine hr_take (i := 2) (v := ?_) ok rfl (by rfl) (by kernel_rfl) (by kernel_rfl) (by kernel_rfl) (by kernel_rfl) (fun _ _ _ h => h) (Or.inl ⟨by kernel_rfl, ?_⟩) ?_
              rotate_left
              · (intro w hSw; (try dsimp only at hSw); (try go_split_ands); go_simp; (try (with_reducible rfl)))
              go_frame
              refine hr_take (i := 3) (v := ?_) ok rfl (by rfl) (by kernel_rfl) (by kernel_rfl) (by kernel_rfl) (by kernel_rfl) (fun _ _ _ h => h) (Or.inl ⟨by kernel_rfl, ?_⟩) ?_
              rotate_left
              · (intro w hSw; (try dsimp only at hSw); (try go_split_ands); go_simp; (try (with_reducible rfl)))
              go_frame
              refine hr_take (i := 4) (v := ?_) ok rfl (by rfl) (by kernel_rfl) (by kernel_rfl) (by kernel_rfl) (by kernel_rfl) (fun _ _ _ h => h) (Or.inl ⟨by kernel_rfl, ?_⟩) ?_
              rotate_left
              · (intro w hSw; (try dsimp only at hSw); (try go_split_ands); go_simp; (try (with_reducible rfl)))
              go_frame
              refine hr_take (i := 5) (v := ?_) ok rfl (by rfl) (by kernel_rfl) (by kernel_rfl) (by kernel_rfl) (by kernel_rfl) (fun _ _ _ h => h) (Or.inl ⟨by kernel_rfl, ?_⟩) ?_
              rotate_left
              · (intro w hSw; (try dsimp only at hSw); (try go_split_ands); go_simp; (try (with_reducible rfl)))
              go_frame
              refine hr_take (i := 6) (v := ?_) ok rfl (by rfl) (by kernel_rfl) (by kernel_rfl) (by kernel_rfl) (by kernel_rfl) (fun _ _ _ h => h) (Or.inl ⟨by kernel_rfl, ?_⟩) ?_
              rotate_left
              · (intro w hSw; (try dsimp only at hSw); (try go_split_ands); go_simp; (try (with_reducible rfl)))
              go_frame
              refine hr_take (i := 7) (v := ?_) ok rfl (by rfl) (by kernel_rfl) (by kernel_rfl) (by kernel_rfl) (by kernel_rfl) (fun _ _ _ h => h) (Or.inl ⟨by kernel_rfl, ?_⟩) ?_
              rotate_left
              · (intro w hSw; (try dsimp only at hSw); (try go_split_ands); go_simp; (try (with_reducible rfl)))
              go_frame
              refine hr_take (i := 8) (v := ?_) ok rfl (by rfl) (by kernel_rfl) (by kernel_rfl) (by kernel_rfl) (by kernel_rfl) (fun _ _ _ h => h) (Or.inl ⟨by kernel_rfl, ?_⟩) ?_
              rotate_left
              · (intro w hSw; (try dsimp only at hSw); (try go_split_ands); go_simp; (try (with_reducible rfl)))
              go_frame
              refine hr_take (i := 9) (v := ?_) ok rfl (by rfl) (by kernel_rfl) (by kernel_rfl) (by kernel_rfl) (by kernel_rfl) (fun _ _ _ h => h) (Or.inl ⟨by kernel_rfl, ?_⟩) ?_
              rotate_left
              · (intro w hSw; (try dsimp only at hSw); (try go_split_ands); go_simp; (try (with_reducible rfl)))
              go_frame
              refine hr_take (i := 11) (v := ?_) ok rfl (by rfl) (by kernel_rfl) (by kernel_rfl) (by kernel_rfl) (by kernel_rfl) (fun _ _ _ h => h) (Or.inl ⟨by kernel_rfl, ?_⟩) ?_
              rotate_left
              · (intro w hSw; (try dsimp only at hSw); (try go_split_ands); go_simp; (try (with_reducible rfl)))
              go_frame
              refine hr_take (i := 12) (v := ?_) ok rfl (by rfl) (by kernel_rfl) (by kernel_rfl) (by kernel_rfl) (by kernel_rfl) (fun _ _ _ h => h) (Or.inl ⟨by kernel_rfl, ?_⟩) ?_
              rotate_left
              · (intro w hSw; (try dsimp only at hSw); (try go_split_ands); go_simp; (try (with_reducible rfl)))
              go_frame
              refine hr_take (i := 13) (v := ?_) ok rfl (by rfl) (by kernel_rfl) (by kernel_rfl) (by kernel_rfl) (by kernel_rfl) (fun _ _ _ h => h) (Or.inl ⟨by kernel_rfl, ?_⟩) ?_
              rotate_left
              · (intro w hSw; (try dsimp only at hSw); (try go_split_ands); go_simp; (try (with_reducible rfl)))
              go_frame
              refine hr_take (i := 14) (v := ?_) ok rfl (by rfl) (by kernel_rfl) (by kernel_rfl) (by kernel_rfl) (by kernel_rfl) (fun _ _ _ h => h) (Or.inl ⟨by kernel_rfl, ?_⟩) ?_
              rotate_left
              · (intro w hSw; (try dsimp only at hSw); (try go_split_ands); go_simp; (try (with_reducible rfl)))
              go_frame
              refine hr_only (c := 10) rfl (by kernel_rfl) (fun K hK => ?_)
              go_simp
              refine (whole_any co _).mono ?_
              rintro e' w' ⟨rfl, hb⟩
              have FB1 := Lib.hid (F6.out.drew.below hb F6.out.drew.lt)
              have CH1 := Lib.hid (show Chg (fun x => x = S) w5 w' from C6.out.drew.tr hb)
              have g0 := cell_later hb g0; have g1 := cell_later hb g1; have e0 := cell_later hb e0; have e1 := cell_later hb e1; have x0 := cell_later hb x0; have x1 := cell_later hb x1
              (try simp only [])
              refine hK _ _ (fun _ => by refine ⟨?_, ?_, ?_, ?_, ?_, ?_⟩ <;> (first | exact g0 | exact g1 | exact e0 | exact e1 | exact x0 | exact x1)) ?_
              clear hK K
              (try go_frame)

              clear hb
              refine hr_only (c := 15) rfl (by kernel_rfl) (fun K hK => ?_)
              go_simp
              refine (MULJ.out _).mono ?_
              rintro e' w'' ⟨rfl, hb⟩
              have FB2 := Lib.hid (FB1.out.below hb FB1.out.lt)
              have CH2 := Lib.hid (CH1.out.tr hb)
              have g0 := cell_later hb g0; have g1 := cell_later hb g1; have e0 := cell_later hb e0; have e1 := cell_later hb e1; have x0 := cell_later hb x0; have x1 := cell_later hb x1
              (try simp only [])
              refine hK _ _ (fun _ => by refine ⟨?_, ?_, ?_, ?_, ?_, ?_⟩ <;> (first | exact g0 | exact g1 | exact e0 | exact e1 | exact x0 | exact x1)) ?_
              clear hK K
              (try go_frame)

              clear hb FB1 CH1
              refine hr_only (c := 16) rfl (by kernel_rfl) (fun K hK => ?_)
              go_simp
              refine (ADDJ.out _).mono ?_
              rintro e' w3' ⟨rfl, hb⟩
              have FB3 := Lib.hid (FB2.out.below hb FB2.out.lt)
              have CH3 := Lib.hid (CH2.out.tr hb)
              (try simp only [])
              refine hK _ _ (fun _ => by refine ⟨?_, ?_, ?_, ?_, ?_, ?_⟩ <;> (first | exact cell_later hb g0 | exact cell_later hb g1 | exact cell_later hb e0 | exact cell_later hb e1 | exact cell_later hb x0 | exact cell_later hb x1)) ?_
              clear hK K
              (try go_frame)
              refine hr_take (i := 17) (v := ?_) ok rfl (by rfl) (by kernel_rfl) (by kernel_rfl) (by kernel_rfl) (by kernel_rfl) (fun _ _ _ h => h) (Or.inl ⟨by kernel_rfl, ?_⟩) ?_
              rotate_left
              · (intro w hSw; (try dsimp only at hSw); (try go_split_ands); go_simp; (try (with_reducible rfl)))
              go_frame
              clear g0 g1 e0 e1 x0 x1 hb FB2 CH2
              obtain ⟨c1, c2⟩ := FBlk.get FB3.out HGX.out
              have cf := FB3.out.free
              refine hr_only (c := 18) rfl (by kernel_rfl) (fun K hK => ?_)
              go_simp
              (try simp only [])
              refine hK _ _ (pend_no (by kernel_rfl)) ?_
              clear hK K
              (try go_frame)
              refine hr_end (by kernel_rfl) ?_
              have PS := Lib.hid (show FBlk ((w3'.setCell ⟨S, i * 2, none⟩ (.int .i64 s.num)).setCell ⟨S, i * 2 + 1, none⟩ (.int .i64 (s.den : Int))) S (ss'.set i s) [] from FBlk.put FB3.out (by rw [HSL.out]; omega) _)
              have PC := Lib.hid (chg_put (b := S) CH3.out (fun _ => rfl) i (.int .i64 s.num) (.int .i64 (s.den : Int)))
              clear c1 c2 cf FB3 CH3
              go_wp2
              go_roundw
              case rel => exact ⟨j + 1, _, by omega, by go_num, PS.out, SJN.out, PC.out⟩
              case measure => simp [intOf]; omega
            · obtain rfl : j = tn := by omega
              have NEW := Lib.hid (show ∀ c : Nat, c < C → gR ss' c = colAt rows (l.map toR) c (k + 1) from fun c hc => by
                rw [HCX.out c, SJ.out.val c hc, ← HTL.out, List.take_length])
              go_wp2
              go_roundw
              case rel => exact ⟨k + 1, ss', by omega, by go_num, FJ.out, SJ.out.len, NEW.out, VJ.out, CWJ.out⟩
              case measure => simp [intOf]; omega
        · obtain rfl : k = rn := by omega
          have HDD := Lib.hid (show d = valAt rows c0 (l.map toR) rows.length by rw [HD.out, HRL.out])
          have MO := Lib.hid (M3.out.chg SC.out (fun e => by have := LV.out; omega))
          have TO := Lib.hid (T3.out.chg SC.out (fun e => by have := LV.out; omega))
          have GOK := Lib.hid HS.out.2.2.2.1
          have HGL := Lib.hid HGO.out.hlen
          have hgn6 : gn ≤ 6 := by have h1 := HGO.out.hlen; have h2 := terms_len HS.out.2.2.2.1 HS.out.1; omega
          have hk6 : k ≤ 6 := hrn6
          have m2 := MO.out.cell (i := 2) rfl
          clear hk hlt
          go_wp2
          clear m2
          go_loopw [80] (fun i wr => ∃ (j : Nat) (ss' : List Rat), j ≤ gn ∧ i = .int .i64 j ∧ FBlk wr S ss' [] ∧ SumJ C ss' (fun c => colAt rows (l.map toR) c k) goal j (-1) ∧ Chg (fun x => x = S) wo wr) (fun i _ => gn - (intOf i).toNat)
          case atStart => exact ⟨0, ss, Nat.zero_le _, rfl, FS.out, ⟨SL.out, fun c hc => by rw [SV.out c hc]; show _ = _ + ((0 : Int) : Rat) * (-1); simp only [Rat.intCast_zero]; grind⟩, Chg.refl _⟩
          case round =>
            obtain ⟨j, ss', hj, rfl, hfb, hsj, hc⟩ := hrel
            have FJ := Lib.hid hfb; have SJ := Lib.hid hsj; have CJ := Lib.hid hc
            clear hfb hsj hc
            have BRJ := Lib.hid (show Below w.heap.size w wr from BR.out.trans (CJ.out.below (fun x hx e => by have := LV.out; omega) BR.out.size))
            by_cases hltj : j < gn
            · obtain ⟨bt, ot, ⟨of_, co⟩, rfl, ht, t0, t1, _, lbt⟩ := RTm.get (HGO.out.keeps RTm.stays (fun y _ hl => BRJ.out.block y hl) BRJ.out.size) hltj
              dsimp only at t0 t1
              obtain ⟨ho0, ho1, _, _, hc0, hc1⟩ := GOK.out j _ (List.getElem?_eq_some_iff.1 ht).1 ht
              dsimp only at ho0 ho1 hc0 hc1
              obtain ⟨i, rfl⟩ : ∃ i : Nat, of_ = (i : Int) := ⟨of_.toNat, by omega⟩
              have hiC : i < C := by omega
              obtain ⟨x, hgx⟩ : ∃ x, ss'[i]? = some x := ⟨_, List.getElem?_eq_getElem (by rw [SJ.out.len]; exact hiC)⟩
              have hgr : gR ss' i = x := gR_of hgx
              have smb := colAt_sm HS.out HF.out i k
              obtain ⟨cn0, cn1⟩ := coef_take_nine (m := 9) (by decide) GOK.out j i
              have sm1 : Sm 2520 (-1) := ⟨-2520, by rw [show ((-2520 : Int) : Rat) = -((2520 : Int) : Rat) from Rat.intCast_neg ..]; show 2520 * (-1) = -(2520 : Rat); grind, by decide, by decide⟩
              have smx : Sm (226800 * k + 9 * 2520) x := by rw [← hgr, SJ.out.val i hiC]; exact smb.add (sm1.mul cn0 cn1)
              obtain ⟨nc, hnc⟩ : ∃ nc, nc = -co := ⟨_, rfl⟩
              have wneg : IntKind.i64.wrap (-co) = nc := by rw [Go.IntWalk.i64_in _ ⟨by omega, by omega⟩, hnc]
              obtain ⟨m, hm⟩ : ∃ m, m = (nc : Rat) := ⟨_, rfl⟩
              obtain ⟨s, hs⟩ : ∃ s, s = x + m := ⟨_, rfl⟩
              have SJN := Lib.hid (show SumJ C (ss'.set i s) (fun c => colAt rows (l.map toR) c k) goal (j + 1) (-1) by
                have h := SJ.out.step GOK.out ht hiC
                rw [show gR ss' i + (co : Rat) * -1 = s by rw [hs, hm, hnc, hgr, Rat.intCast_neg]; grind] at h
                exact h)
              have smm : Sm (2520 * 9) m := by rw [hm]; exact Sm.int (by omega) (by omega)
              have sms : Sm (226800 * k + 9 * 2520 + 2520 * 9) s := by rw [hs]; exact smx.add smm
              have WN := Lib.hid (fun w => whole_any nc w)
              rw [← hm] at WN
              have ADDJ := Lib.hid (sadd x m (smx.fit (by omega)) (smm.fit (by decide)) (by rw [← hs]; exact sms.fit (by omega)))
              rw [← hs] at ADDJ
              have HGX := Lib.hid hgx; have HSL := Lib.hid SJ.out.len
              have hjt : (j : Int) < (gn : Int) := by omega
              have hi0 : 0 ≤ (i : Int) := by omega
              have hiC2 : (i : Int) < (C : Int) := by omega
              clear ht hgr hm hs smx smm sms smb cn0 cn1 ho0 ho1 hgx hnc sm1
              obtain ⟨w6, hw6⟩ : ∃ w6, w6 = wr.alloc (.cells #[.int .i64 i, .int .i64 co] 56) := ⟨_, rfl⟩
              have B6 := Lib.hid (show Below wr.heap.size wr w6 by rw [hw6]; exact (Below.refl _ _).alloc (Nat.le_refl _) _)
              have X6 := Lib.hid (show Blk w6 wr.heap.size 56 [.int .i64 i, .int .i64 co] by rw [hw6]; exact Blk.new wr _ _)
              have HW6 := Lib.hid hw6
              clear hw6
              go_upto_region 17 with fail
              rw [← HW6.out]
              obtain ⟨Y, hY⟩ : ∃ Y, Y = wr.heap.size := ⟨_, rfl⟩
              rw [← hY] at X6 ⊢
              have F6 := Lib.hid (FJ.out.below B6.out FJ.out.lt)
              have C6 := Lib.hid (CJ.out.tr B6.out)
              have e0 := X6.out.cell (i := 0) rfl; have e1 := X6.out.cell (i := 1) rfl
              obtain ⟨g0, g1⟩ := FBlk.get F6.out HGX.out
              clear hY t0 t1
              refine hr_start 14 (fun w' => w'.cell? ⟨S, i * 2, none⟩ = some (.int .i64 x.num) ∧ w'.cell? ⟨S, i * 2 + 1, none⟩ = some (.int .i64 (x.den : Int)) ∧ w'.cell? ⟨Y, 0, none⟩ = some (.int .i64 i) ∧ w'.cell? ⟨Y, 1, none⟩ = some (.int .i64 co)) (by kernel_rfl) (by kernel_rfl) (by refine ⟨g0, g1, e0, e1⟩) (fun ok => ?_)
              refine hr_take (i := 0) (v := ?_) ok rfl (by rfl) (by kernel_rfl) (by kernel_rfl) (by kernel_rfl) (by kernel_rfl) (fun _ _ _ h => h) (Or.inl ⟨by kernel_rfl, ?_⟩) ?_
              rotate_left
              · (intro w hSw; (try dsimp only at hSw); (try go_split_ands); go_simp; (try (with_reducible rfl)))
              go_frame
              refine hr_take (i := 1) (v := ?_) ok rfl (by rfl) (by kernel_rfl) (by kernel_rfl) (by kernel_rfl) (by kernel_rfl) (fun _ _ _ h => h) (Or.inl ⟨by kernel_rfl, ?_⟩) ?_
              rotate_left
              · (intro w hSw; (try dsimp only at hSw); (try go_split_ands); go_simp; (try (with_reducible rfl)))
              go_frame
              refine hr_take (i := 2) (v := ?_) ok rfl (by rfl) (by kernel_rfl) (by kernel_rfl) (by kernel_rfl) (by kernel_rfl) (fun _ _ _ h => h) (Or.inl ⟨by kernel_rfl, ?_⟩) ?_
              rotate_left
              · (intro w hSw; (try dsimp only at hSw); (try go_split_ands); go_simp; (try (with_reducible rfl)))
              go_frame
              refine hr_take (i := 3) (v := ?_) ok rfl (by rfl) (by kernel_rfl) (by kernel_rfl) (by kernel_rfl) (by kernel_rfl) (fun _ _ _ h => h) (Or.inl ⟨by kernel_rfl, ?_⟩) ?_
              rotate_left
              · (intro w hSw; (try dsimp only at hSw); (try go_split_ands); go_simp; (try (with_reducible rfl)))
              go_frame
              refine hr_take (i := 4) (v := ?_) ok rfl (by rfl) (by kernel_rfl) (by kernel_rfl) (by kernel_rfl) (by kernel_rfl) (fun _ _ _ h => h) (Or.inl ⟨by kernel_rfl, ?_⟩) ?_
              rotate_left
              · (intro w hSw; (try dsimp only at hSw); (try go_split_ands); go_simp; (try (with_reducible rfl)))
              go_frame
              refine hr_take (i := 5) (v := ?_) ok rfl (by rfl) (by kernel_rfl) (by kernel_rfl) (by kernel_rfl) (by kernel_rfl) (fun _ _ _ h => h) (Or.inl ⟨by kernel_rfl, ?_⟩) ?_
              rotate_left
              · (intro w hSw; (try dsimp only at hSw); (try go_split_ands); go_simp; (try (with_reducible rfl)))
              go_frame
              refine hr_take (i := 6) (v := ?_) ok rfl (by rfl) (by kernel_rfl) (by kernel_rfl) (by kernel_rfl) (by kernel_rfl) (fun _ _ _ h => h) (Or.inl ⟨by kernel_rfl, ?_⟩) ?_
              rotate_left
              · (intro w hSw; (try dsimp only at hSw); (try go_split_ands); go_simp; (try (with_reducible rfl)))
              go_frame
              refine hr_take (i := 7) (v := ?_) ok rfl (by rfl) (by kernel_rfl) (by kernel_rfl) (by kernel_rfl) (by kernel_rfl) (fun _ _ _ h => h) (Or.inl ⟨by kernel_rfl, ?_⟩) ?_
              rotate_left
              · (intro w hSw; (try dsimp only at hSw); (try go_split_ands); go_simp; (try (with_reducible rfl)))
              go_frame
              refine hr_take (i := 8) (v := ?_) ok rfl (by rfl) (by kernel_rfl) (by kernel_rfl) (by kernel_rfl) (by kernel_rfl) (fun _ _ _ h => h) (Or.inl ⟨by kernel_rfl, ?_⟩) ?_
              rotate_left
              · (intro w hSw; (try dsimp only at hSw); (try go_split_ands); go_simp; (try (with_reducible rfl)))
              go_frame
              refine hr_take (i := 9) (v := ?_) ok rfl (by rfl) (by kernel_rfl) (by kernel_rfl) (by kernel_rfl) (by kernel_rfl) (fun _ _ _ h => h) (Or.inl ⟨by kernel_rfl, ?_⟩) ?_
              rotate_left
              · (intro w hSw; (try dsimp only at hSw); (try go_split_ands); go_simp; (try (with_reducible rfl)))
              go_frame
              refine hr_take (i := 10) (v := ?_) ok rfl (by rfl) (by kernel_rfl) (by kernel_rfl) (by kernel_rfl) (by kernel_rfl) (fun _ _ _ h => h) (Or.inl ⟨by kernel_rfl, ?_⟩) ?_
              rotate_left
              · (intro w hSw; (try dsimp only at hSw); (try go_split_ands); go_simp; (try (with_reducible rfl)))
              go_frame
              refine hr_only (c := 11) rfl (by kernel_rfl) (fun K hK => ?_)
              go_simp
              refine (WN.out _).mono ?_
              rintro e' w' ⟨rfl, hb⟩
              have FB1 := Lib.hid (F6.out.drew.below hb F6.out.drew.lt)
              have CH1 := Lib.hid (show Chg (fun x => x = S) wo w' from C6.out.drew.tr hb)
              have g0 := cell_later hb g0; have g1 := cell_later hb g1; have e0 := cell_later hb e0; have e1 := cell_later hb e1
              (try simp only [])
              refine hK _ _ (fun _ => by refine ⟨?_, ?_, ?_, ?_⟩ <;> (first | exact g0 | exact g1 | exact e0 | exact e1)) ?_
              clear hK K
              (try go_frame)

              clear hb
              refine hr_only (c := 12) rfl (by kernel_rfl) (fun K hK => ?_)
              go_simp
              refine (ADDJ.out _).mono ?_
              rintro e' w3' ⟨rfl, hb⟩
              have FB3 := Lib.hid (FB1.out.below hb FB1.out.lt)
              have CH3 := Lib.hid (CH1.out.tr hb)
              (try simp only [])
              refine hK _ _ (fun _ => by refine ⟨?_, ?_, ?_, ?_⟩ <;> (first | exact cell_later hb g0 | exact cell_later hb g1 | exact cell_later hb e0 | exact cell_later hb e1)) ?_
              clear hK K
              (try go_frame)
              refine hr_take (i := 13) (v := ?_) ok rfl (by rfl) (by kernel_rfl) (by kernel_rfl) (by kernel_rfl) (by kernel_rfl) (fun _ _ _ h => h) (Or.inl ⟨by kernel_rfl, ?_⟩) ?_
              rotate_left
              · (intro w hSw; (try dsimp only at hSw); (try go_split_ands); go_simp; (try (with_reducible rfl)))
              go_frame
              clear g0 g1 e0 e1 hb FB1 CH1
              obtain ⟨c1, c2⟩ := FBlk.get FB3.out HGX.out
              have cf := FB3.out.free
              refine hr_only (c := 14) rfl (by kernel_rfl) (fun K hK => ?_)
              go_simp
              (try simp only [])
              refine hK _ _ (pend_no (by kernel_rfl)) ?_
              clear hK K
              (try go_frame)
              refine hr_end (by kernel_rfl) ?_
              have PS := Lib.hid (show FBlk ((w3'.setCell ⟨S, i * 2, none⟩ (.int .i64 s.num)).setCell ⟨S, i * 2 + 1, none⟩ (.int .i64 (s.den : Int))) S (ss'.set i s) [] from FBlk.put FB3.out (by rw [HSL.out]; omega) _)
              have PC := Lib.hid (chg_put (b := S) CH3.out (fun _ => rfl) i (.int .i64 s.num) (.int .i64 (s.den : Int)))
              clear c1 c2 cf FB3 CH3
              go_wp2
              go_roundw
              case rel => exact ⟨j + 1, _, by omega, by go_num, PS.out, SJN.out, PC.out⟩
              case measure => simp [intOf]; omega
            · obtain rfl : j = gn := by omega
              have SFIN := Lib.hid (show ∀ c : Nat, c < C → gR ss' c = colAt rows (l.map toR) c k - (coefF goal c : Rat) from fun c hc => by
                rw [SJ.out.val c hc, ← HGL.out, List.take_length]; grind)
              have NEG := Lib.hid (show (∃ t ∈ ss'.map (fun x => (x.num, (x.den : Int))), t.1 < 0) ↔ ¬ ProveP C rows goal (l.map toR) by
                rw [fneg_all]
                unfold ProveP
                rw [HRL.out]
                constructor
                · rintro ⟨x, hx, hn⟩ h
                  obtain ⟨c, hc⟩ := List.getElem?_of_mem hx
                  have hcC : c < C := by rw [← SJ.out.len]; exact (List.getElem?_eq_some_iff.1 hc).1
                  have h1 := SFIN.out c hcC
                  rw [gR_of hc] at h1
                  have h2 := h c (by omega) (by omega)
                  grind
                · intro h
                  refine Classical.byContradiction fun no => h fun c h0 h1 => ?_
                  obtain ⟨c', rfl⟩ : ∃ c' : Nat, c = (c' : Int) := ⟨c.toNat, by omega⟩
                  have h2 := SFIN.out c' (by omega)
                  have hx : ss'[c']? = some (gR ss' c') := by
                    unfold gR
                    rw [List.getD_eq_getElem?_getD, List.getElem?_eq_getElem (by rw [SJ.out.len]; omega)]; rfl
                  have : ¬ gR ss' c' < 0 := fun hn => no ⟨_, List.mem_of_getElem? hx, hn⟩
                  grind)
              have FR := fr_row FJ.out (by rw [SJ.out.len]; omega)
              rw [SJ.out.len] at FR
              have CP := Lib.hid (fcontP_any (fun t => t.1 < 0) (fun x => x = S) _ (fun t _ w => fneg_any t w) _ _ _ wr FR)
              have VJ := Lib.hid (VB.out.chg CJ.out (fun e => LV.out.2.2 e))
              have TJ := Lib.hid (TO.out.chg CJ.out (fun e => by have := LV.out; omega))
              clear FR
              go_wp2_with fail
              refine CP.out.mono ?_
              rintro e w7 ⟨r, rfl, hr, hb⟩
              have HRR := Lib.hid (hr.trans NEG.out)
              have B7 := Lib.hid (BRJ.out.trans (hb.mono BRJ.out.size))
              have V7 := Lib.hid (VJ.out.below hb VJ.out.lt)
              have T7 := Lib.hid (TJ.out.below hb TJ.out.lt)
              clear hr hb
              cases r with
              | true =>
                have NO := Lib.hid (show ¬ (n = k ∧ GoodP l ∧ ProveP C rows goal (l.map toR)) from fun h => HRR.out.1 rfl h.2.2)
                obtain ⟨z1, hz1⟩ : ∃ z0 : Rat, z0 = ((0 : Int) : Rat) := ⟨_, rfl⟩
                have W1 := Lib.hid (fun w => whole_any 0 w)
                rw [← hz1] at W1
                have HZ1 := Lib.hid (show z1 = 0 by rw [hz1]; simp)
                clear hz1
                go_wp2_with fail
                refine (W1.out _).mono ?_
                rintro e w8 ⟨rfl, hb⟩
                have T8 := Lib.hid (T7.out.below hb T7.out.lt)
                have B8 := Lib.hid (B7.out.trans (hb.mono B7.out.size))
                clear hb
                have t0 := T8.out.cell (i := 0) rfl; have t1 := T8.out.cell (i := 1) rfl; have tf := T8.out.free
                have BF := Lib.hid (show Below w.heap.size w ((w8.setCell ⟨w.heap.size + 1, 0, none⟩ (.int .i64 z1.num)).setCell ⟨w.heap.size + 1, 1, none⟩ (.int .i64 (z1.den : Int))) from (B8.out.setCell (Nat.le_succ _) _).setCell (Nat.le_succ _) _)
                have TF := Lib.hid ((T8.out.set 0 (.int .i64 z1.num)).set 1 (.int .i64 (z1.den : Int)))
                go_wp2
                have r0 := TF.out.cell (i := 0) rfl; have r1 := TF.out.cell (i := 1) rfl
                refine bodyPost_ret (v := .tuple #[FrV z1, .bool false]) (by simp [results, Try.results31, go_sem, r0, r1]) rfl (by have h := pv_no (v := valAt rows c0 (l.map toR) rows.length) NO.out BF.out; rw [HZ1.out] at h ⊢; exact h)
              | false =>
                have YES := Lib.hid (show (n = k ∧ GoodP l ∧ ProveP C rows goal (l.map toR)) from ⟨HN.out, HG.out.2, Classical.byContradiction fun h => by have := HRR.out.2 h; cases this⟩)
                have v0 := V7.out.cell (i := 0) rfl; have v1 := V7.out.cell (i := 1) rfl
                have t0 := T7.out.cell (i := 0) rfl; have t1 := T7.out.cell (i := 1) rfl; have tf := T7.out.free
                have BF := Lib.hid (show Below w.heap.size w ((w7.setCell ⟨w.heap.size + 1, 0, none⟩ (.int .i64 d.num)).setCell ⟨w.heap.size + 1, 1, none⟩ (.int .i64 (d.den : Int))) from (B7.out.setCell (Nat.le_succ _) _).setCell (Nat.le_succ _) _)
                have TF := Lib.hid ((T7.out.set 0 (.int .i64 d.num)).set 1 (.int .i64 (d.den : Int)))
                go_wp2
                have r0 := TF.out.cell (i := 0) rfl; have r1 := TF.out.cell (i := 1) rfl
                refine bodyPost_ret (v := .tuple #[FrV d, .bool true]) (by simp [results, Try.results31, go_sem, r0, r1]) rfl (by rw [HDD.out]; rw [HDD.out] at BF; exact pv_yes YES.out BF.out)
end Go.Proofs.Ytdegpgonphgbcaa
