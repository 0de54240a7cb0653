/-
  timeboundref32.
-/
import Derived.Test.YtdegpgonphgbcaaZTbC
namespace Go.Proofs.Ytdegpgonphgbcaa
open Go.RowKit
set_option maxRecDepth 100000 in
set_option maxHeartbeats 32000000 in
theorem rprovesq_any (K : Nat → Prop) (cols : Int) (rows : List MRow) (goal : List (Int × Int)) (c0 : Int) (hs : SmallP cols rows goal c0) (l : List (Int × Int)) (q : Nat) (hsm : FrQ q l) (ra : Option Addr) (rn rc : Nat) (ga : Option Addr) (gn gc : Nat) (a : Option Addr) (n c : Nat) (w : World) (R : Row RRw 2 K w ra rn rc rows) (G : Row RTm 2 K w ga gn gc goal) (X : Row RTm 2 K w a n c l) :
    Calls Try.prog 15 #[MdV cols (.slice ra rn rc) ga gn gc c0, .slice a n c] w (PvRet (n = rn ∧ GoodP l ∧ ProveP cols rows goal (l.map toR)) (valAt rows c0 (l.map toR) rows.length) w) := by
  obtain ⟨wa, hwa⟩ : ∃ wa, wa = (w.alloc (.cells (MdC cols (.slice ra rn rc) ga gn gc c0).toArray 28)).alloc (.cells #[.int .i64 0, .int .i64 0] 31) := ⟨_, rfl⟩
  have BA := Lib.hid (show Below w.heap.size w wa by rw [hwa]; exact ((Below.refl _ _).alloc (Nat.le_refl _) _).alloc (by simp) _)
  have MA := Lib.hid (show Blk wa w.heap.size 28 (MdC cols (.slice ra rn rc) ga gn gc c0) by rw [hwa]; exact (Blk.new w _ _).old _)
  have TA := Lib.hid (show Blk wa (w.heap.size + 1) 31 [.int .i64 0, .int .i64 0] by rw [hwa]; exact (Blk.new (w.alloc _) [.int .i64 0, .int .i64 0] 31).at' (by simp))
  have XA := X.keeps RTm.stays (fun y _ hl => BA.out.block y hl) BA.out.size
  have NAT := Lib.hid (natural_any K l hsm.in63 a n c rn wa XA)
  have HS := Lib.hid hs; have HSM := Lib.hid hsm; have HR := Lib.hid R; have HX := Lib.hid X; have HGO := Lib.hid G; have HRL := Lib.hid R.hlen; have hrn6 : rn ≤ 6 := by have := R.hlen; have := hs.2.2.1; omega
  have HWA := Lib.hid hwa
  have m1 := MA.out.cell (i := 1) rfl
  clear hwa R X XA hs hsm G
  go_enter Try.func15, Try.ntmps15
  go_upto_region 1 with fail
  rw [← HWA.out]
  go_wp2_with fail
  refine NAT.out.mono ?_
  rintro e w1 ⟨r, rfl, hr, hb⟩
  have HRR := Lib.hid hr
  have B1 := Lib.hid (BA.out.trans (hb.mono BA.out.size))
  have M1 := Lib.hid (MA.out.below hb MA.out.lt)
  have T1 := Lib.hid (TA.out.below hb TA.out.lt)
  clear hr hb m1
  cases r with
  | false =>
    have NO := Lib.hid (show ¬ (n = rn ∧ GoodP l ∧ ProveP cols rows goal (l.map toR)) from fun h => by have := HRR.out.2 ⟨by rw [h.1], h.2.1⟩; cases this)
    have t0 := T1.out.cell (i := 0) rfl; have t1 := T1.out.cell (i := 1) rfl; have tf := T1.out.free
    have BF := Lib.hid (show Below w.heap.size w ((w1.setCell ⟨w.heap.size + 1, 0, none⟩ (.int .i64 0)).setCell ⟨w.heap.size + 1, 1, none⟩ (.int .i64 1)) from (B1.out.setCell (Nat.le_succ _) _).setCell (Nat.le_succ _) _)
    have TF := Lib.hid ((T1.out.set 0 (.int .i64 0)).set 1 (.int .i64 1))
    go_wp2
    have r0 := TF.out.cell (i := 0) rfl; have r1 := TF.out.cell (i := 1) rfl
    refine bodyPost_ret (v := .tuple #[FrV 0, .bool false]) (by simp [results, Try.results15, go_sem, r0, r1]) rfl (pv_no NO.out BF.out)
  | true =>
    have HG := Lib.hid (HRR.out.1 rfl)
    have HF := Lib.hid (show FrQ q l from HSM.out)
    have HN := Lib.hid (show n = rn by have := HG.out.1; omega)
    clear HRR
    have m3 := M1.out.cell (i := 3) rfl
    obtain ⟨z0, hz0⟩ : ∃ z0 : Rat, z0 = (c0 : Rat) := ⟨_, rfl⟩
    have W0 := Lib.hid (fun w => rwhole_any c0 w)
    rw [← hz0] at W0
    have HZ0 := Lib.hid hz0
    clear hz0
    go_wp2_with fail
    refine (W0.out _).mono ?_
    rintro e w2 ⟨rfl, hb⟩
    have B2 := Lib.hid (B1.out.trans (hb.mono B1.out.size))
    have M2 := Lib.hid (M1.out.below hb M1.out.lt)
    have T2 := Lib.hid (T1.out.below hb T1.out.lt)
    clear hb m3
    obtain ⟨w3, hw3⟩ : ∃ w3, w3 = w2.alloc (.cells #[.int .i64 z0.num, .int .i64 (z0.den : Int)] 31) := ⟨_, rfl⟩
    have A3 := Lib.hid (show Below w2.heap.size w2 w3 by rw [hw3]; exact (Below.refl _ _).alloc (Nat.le_refl _) _)
    have B3 := Lib.hid (B2.out.trans (A3.out.mono B2.out.size))
    have M3 := Lib.hid (M2.out.below A3.out M2.out.lt)
    have T3 := Lib.hid (T2.out.below A3.out T2.out.lt)
    have V3 := Lib.hid (show Blk w3 w2.heap.size 31 (FrC (valAt rows c0 (l.map toR) 0)) by
      rw [show valAt rows c0 (l.map toR) 0 = z0 by rw [HZ0.out]; rfl, hw3]; exact Blk.new w2 _ _)
    have HW3 := Lib.hid hw3
    obtain ⟨V, hV⟩ : ∃ V, V = w2.heap.size := ⟨_, rfl⟩
    have LV := Lib.hid (show w.heap.size + 1 < V from by rw [hV]; exact T2.out.lt)
    rw [← hV] at V3
    have HVV := Lib.hid hV
    clear hw3 hV M2 T2 A3
    go_upto_region 4 with fail
    rw [← HW3.out, ← HVV.out]
    have m1 := M3.out.cell (i := 1) rfl
    go_wp2
    clear m1
    go_loopw [30] (fun i wr => ∃ k : Nat, k ≤ rn ∧ i = .int .i64 k ∧ Blk wr V 31 (FrC (valAt rows c0 (l.map toR) k)) ∧ Chg (fun x => x = V) w3 wr) (fun i _ => rn - (intOf i).toNat)
    case atStart => exact ⟨0, Nat.zero_le _, rfl, V3.out, Chg.refl _⟩
    case round =>
      obtain ⟨k, hk, rfl, hbs, hc⟩ := hrel
      obtain ⟨wo, rfl⟩ : ∃ wo : World, wo = wr := ⟨_, rfl⟩
      have SB := Lib.hid hbs; have SC := Lib.hid hc
      have BR := Lib.hid (show Below w.heap.size w wo from B3.out.trans (SC.out.below (fun x hx e => by have := LV.out; omega) B3.out.size))
      clear hbs hc
      obtain ⟨d, hd⟩ : ∃ d, d = valAt rows c0 (l.map toR) k := ⟨_, rfl⟩
      rw [← hd] at SB
      have HD := Lib.hid hd
      clear hd
      by_cases hlt : k < rn
      · obtain ⟨⟨tm, x⟩, hx⟩ : ∃ t, rows[k]? = some t := ⟨_, List.getElem?_eq_getElem (by have := HRL.out; omega)⟩
        obtain ⟨b, o, rfl, kb, lb, ⟨ta, tn, tc, t0, htm⟩, t1⟩ := (HR.out.keeps RRw.stays (fun y _ hl => BR.out.block y hl) BR.out.size).row k (tm, x) hx
        dsimp only at t0 t1
        obtain ⟨tok, mx0, mx1⟩ := small_rows HS.out (tm, x) (List.mem_of_getElem? hx)
        dsimp only at tok mx0 mx1
        have hkn : k < n := by have := HN.out; omega
        obtain ⟨b1, o1, y, rfl, hy, y0, y1, lb1⟩ := FrQ.get HF.out (HX.out.keeps RTm.stays (fun y _ hl => BR.out.block y hl) BR.out.size) (i := k) hkn
        obtain ⟨m, hm⟩ : ∃ m, m = y * (x : Rat) := ⟨_, rfl⟩
        have smy : Sq q 2200000000 y := by rw [hy]; exact HF.out.sm k
        have smm : Sq q (50 * 2200000000) m := by rw [hm, Rat.mul_comm]; exact smy.mul mx0 mx1
        have smd := valAt_sq HS.out HF.out k
        have smd1 := valAt_sq HS.out HF.out (k + 1)
        have HNX := Lib.hid (show valAt rows c0 (l.map toR) (k + 1) = d + m by rw [hm, HD.out, Rat.mul_comm, hy]; conv => lhs; unfold valAt; rw [rowD_of hx])
        have MUL := Lib.hid (rmul y (x : Rat) (smy.fit (by decide)) ((Sm.int (C := 50) mx0 mx1).fit (by decide)) (by rw [← hm]; exact smm.fit (by decide)))
        rw [← hm] at MUL
        have ADD := Lib.hid (radd d m (by rw [HD.out]; exact smd.fit (by omega)) (smm.fit (by decide)) (by rw [← HNX.out]; exact smd1.fit (by omega)))
        have hk1 : (k : Int) < (rn : Int) := by omega
        have hk2 : (k : Int) < (n : Int) := by omega
        clear hx hy hm smy smm smd smd1 tok mx0 mx1 htm kb
        go_upto_region 7 with fail
        obtain ⟨w4, hw4⟩ : ∃ w4, w4 = wo.alloc (.cells #[.slice ta tn tc, .int .i64 x] 50) := ⟨_, rfl⟩
        have B4 := Lib.hid (show Below wo.heap.size wo w4 by rw [hw4]; exact (Below.refl _ _).alloc (Nat.le_refl _) _)
        have X4 := Lib.hid (show Blk w4 wo.heap.size 50 [.slice ta tn tc, .int .i64 x] by rw [hw4]; exact Blk.new wo _ _)
        rw [← hw4]
        obtain ⟨Z, hZ⟩ : ∃ Z, Z = wo.heap.size := ⟨_, rfl⟩
        rw [← hZ] at X4 ⊢
        have x0 := (B4.out.cell (p := ⟨b1, o1 + k * 2, none⟩) lb1).trans y0
        have x1 := (B4.out.cell (p := ⟨b1, o1 + k * 2 + 1, none⟩) lb1).trans y1
        have S4 := Lib.hid (SB.out.below B4.out SB.out.lt)
        have C4 := Lib.hid (SC.out.tr B4.out)
        have z1 := X4.out.cell (i := 1) rfl
        clear hw4 hZ t0 t1 y0 y1
        have lb0 := World.block_lt_of_cell? _ _ z1
        have lb1 := World.block_lt_of_cell? _ _ x0
        have lb2 := World.block_lt_of_cell? _ _ x1
        dsimp only at lb0 lb1 lb2
        go_cut [9] (fun s wx => ∃ B10 : Nat, s = .pointer (some ⟨B10, 0, none⟩) ∧ w4.heap.size ≤ B10 ∧ Blk wx B10 31 (FrC (m)) ∧ Below w4.heap.size w4 wx)
        case first =>
          as_aux_lemma =>
            refine hd_start_e 14 (fun w' => w'.cell? ⟨Z, 1, none⟩ = some (.int .i64 x) ∧ w'.cell? ⟨b1, o1 + k * 2, none⟩ = some (.int .i64 y.num) ∧ w'.cell? ⟨b1, o1 + k * 2 + 1, none⟩ = some (.int .i64 (y.den : Int))) (by kernel_rfl) ⟨by kernel_rfl, by rfl⟩ (by refine ⟨z1, x0, x1⟩) (fun ok => ?_)
            refine he_t 0 ok rfl ?_
            go_frame
            refine he_t 1 ok rfl ?_
            go_frame
            refine he_t 2 ok rfl ?_
            go_frame
            refine he_t 3 ok rfl ?_
            go_frame
            refine he_t 4 ok rfl ?_
            go_frame
            refine he_t 5 ok rfl ?_
            go_frame
            refine hd_inv_s [(42, 6), (43, 7), (35, 8), (44, 9), (45, 10), (10, 13), (9, 11)] [12] (fun _ => undef) (fun b v w' => Below w4.heap.size w4 w' ∧ (b 6 = true → v 6 = FrV (x : Rat)) ∧ (b 7 = true → v 7 = .tuple #[FrV m, .int .i64 0]) ∧ (b 8 = true → v 8 = .tuple #[FrV m, .int .i64 0]) ∧ (b 9 = true → v 9 = FrV m) ∧ (b 10 = true → v 10 = .int .i64 0) ∧ (b 13 = true → v 13 = .int .i64 0) ∧ ∃ q7, (b 11 = true → v 11 = .pointer (some ⟨q7, 0, none⟩) ∧ w4.heap.size ≤ q7) ∧ (b 11 = true → b 12 = false → Blk w' q7 31 [.int .i64 0, .int .i64 0]) ∧ (b 12 = true → b 11 = true ∧ Blk w' q7 31 (FrC (m)))) (.inr ok) ⟨by decide, by decide, by kernel_rfl, rfl⟩ (by kernel_rfl) (by kernel_rfl) (by kernel_rfl) (by decide) ⟨(Below.refl _ _).drew, (fun h => by cases h), (fun h => by cases h), (fun h => by cases h), (fun h => by cases h), (fun h => by cases h), (fun h => by cases h), 0, (fun h => by cases h), (fun h => by cases h), (fun h => by cases h)⟩ ?_ ?_
            · intro iA oj hi ho bb vA aA w' hJ hv hr hb hdep hS K hK
              obtain ⟨hB, j6, j7, j8, j9, j10, j13, q7, jal, jz, jst⟩ := hJ
              have hBs := hB.size
              have hi4 : iA = 6 ∨ iA = 7 ∨ iA = 8 ∨ iA = 9 ∨ iA = 10 ∨ iA = 13 ∨ iA = 11 ∨ iA = 12 := by simpa using hi
              try dsimp only at hS
              obtain ⟨s0, s1, s2⟩ := hS
              rcases hi4 with rfl | rfl | rfl | rfl | rfl | rfl | rfl | rfl
              · obtain rfl := Option.some.inj ho
                have e41 : aA.tmps[41]?.getD undef = .int .i64 x := (get_eval aA 41).trans (hr 41 (by decide))
                go_simp
                go_at_call 39
                refine (rwhole_any x _).mono ?_
                rintro e u ⟨rfl, hu⟩
                exact hK _ _ ⟨cell_later hu s0, cell_later hu s1, cell_later hu s2⟩ ⟨hB.trans (hu.mono hBs), fun _ => rfl, j7, j8, j9, j10, j13, q7, jal, fun h1 h2 => (jz h1 h2).below hu (jz h1 h2).lt, fun h => ⟨(jst h).1, (jst h).2.below hu (jst h).2.lt⟩⟩
              · obtain rfl := Option.some.inj ho
                have e39 : aA.tmps[39]?.getD undef = FrV y := (get_eval aA 39).trans (hr 39 (by decide))
                have d6 := hdep 6 (by kernel_rfl)
                have e42 : aA.tmps[42]?.getD undef = FrV (x : Rat) := (get_eval aA 42).trans ((hv 42 6 (by decide) d6).trans (j6 d6))
                go_simp
                go_at_call 23
                refine (MUL.out _).mono ?_
                rintro e u ⟨rfl, hu⟩
                exact hK _ _ ⟨cell_later hu s0, cell_later hu s1, cell_later hu s2⟩ ⟨hB.trans (hu.mono hBs), j6, fun _ => rfl, j8, j9, j10, j13, q7, jal, fun h1 h2 => (jz h1 h2).below hu (jz h1 h2).lt, fun h => ⟨(jst h).1, (jst h).2.below hu (jst h).2.lt⟩⟩
              · obtain rfl := Option.some.inj ho
                have d7 := hdep 7 (by kernel_rfl)
                have e43 : aA.tmps[43]?.getD undef = .tuple #[FrV m, .int .i64 0] := (get_eval aA 43).trans ((hv 43 7 (by decide) d7).trans (j7 d7))
                go_simp
                exact hK _ _ ⟨s0, s1, s2⟩ ⟨hB, j6, j7, fun _ => rfl, j9, j10, j13, q7, jal, jz, jst⟩
              · obtain rfl := Option.some.inj ho
                have d8 := hdep 8 (by kernel_rfl)
                have e35 : aA.tmps[35]?.getD undef = .tuple #[FrV m, .int .i64 0] := (get_eval aA 35).trans ((hv 35 8 (by decide) d8).trans (j8 d8))
                go_simp
                exact hK _ _ ⟨s0, s1, s2⟩ ⟨hB, j6, j7, j8, fun _ => rfl, j10, j13, q7, jal, jz, jst⟩
              · obtain rfl := Option.some.inj ho
                have d8 := hdep 8 (by kernel_rfl)
                have e35 : aA.tmps[35]?.getD undef = .tuple #[FrV m, .int .i64 0] := (get_eval aA 35).trans ((hv 35 8 (by decide) d8).trans (j8 d8))
                go_simp
                exact hK _ _ ⟨s0, s1, s2⟩ ⟨hB, j6, j7, j8, j9, fun _ => rfl, j13, q7, jal, jz, jst⟩
              · obtain rfl := Option.some.inj ho
                have d10 := hdep 10 (by kernel_rfl)
                have e45 : aA.tmps[45]?.getD undef = .int .i64 0 := (get_eval aA 45).trans ((hv 45 10 (by decide) d10).trans (j10 d10))
                go_simp
                exact hK _ _ ⟨s0, s1, s2⟩ ⟨hB, j6, j7, j8, j9, j10, fun _ => rfl, q7, jal, jz, jst⟩
              · obtain rfl := Option.some.inj ho
                go_simp
                have hu : Below w'.heap.size w' (w'.alloc (.cells #[.int .i64 0, .int .i64 0] 31)) := (Below.refl _ _).alloc (Nat.le_refl _) _
                exact hK _ _ ⟨cell_later hu s0, cell_later hu s1, cell_later hu s2⟩ ⟨hB.trans (hu.mono hBs), j6, j7, j8, j9, j10, j13, w'.heap.size, fun _ => ⟨rfl, hBs⟩, fun _ _ => Blk.new w' [.int .i64 0, .int .i64 0] 31, fun h => by have := (jst h).1; rw [hb] at this; cases this⟩
              · obtain rfl := Option.some.inj ho
                have dal := hdep 11 (by kernel_rfl)
                obtain ⟨val, lal⟩ := jal dal
                have bz := jz dal hb
                have e9 : aA.tmps[9]?.getD undef = .pointer (some ⟨q7, 0, none⟩) := (get_eval aA 9).trans ((hv 9 11 (by decide) dal).trans val)
                have d9 := hdep 9 (by kernel_rfl)
                have e44 : aA.tmps[44]?.getD undef = FrV m := (get_eval aA 44).trans ((hv 44 9 (by decide) d9).trans (j9 d9))
                have z0 := bz.cell (i := 0) rfl; have z1 := bz.cell (i := 1) rfl; have zf := bz.free
                go_simp
                have hc2 : Below w4.heap.size w4 ((w'.setCell ⟨q7, 0, none⟩ (.int .i64 (m).num)).setCell ⟨q7, 1, none⟩ (.int .i64 ((m).den : Int))) := (hB.setCell lal _).setCell lal _
                exact hK (.int .i64 0) _ ⟨cell_set (by omega) (cell_set (by omega) s0), cell_set (by omega) (cell_set (by omega) s1), cell_set (by omega) (cell_set (by omega) s2)⟩ ⟨hc2, j6, j7, j8, j9, j10, j13, q7, jal, (fun _ h => by cases h), fun _ => ⟨dal, ((bz.set 0 _).set 1 _).at rfl⟩⟩
            · intro bb vA w' hall hJ hS
              obtain ⟨hB, j6, j7, j8, j9, j10, j13, q7, jal, jz, jst⟩ := hJ
              have v6 := j6 (hall 6 (by decide))
              have v7 := j7 (hall 7 (by decide))
              have v8 := j8 (hall 8 (by decide))
              have v9 := j9 (hall 9 (by decide))
              have v10 := j10 (hall 10 (by decide))
              have v13 := j13 (hall 13 (by decide))
              obtain ⟨val, lal⟩ := jal (hall 11 (by decide))
              have R := Lib.hid (show ∃ B10 : Nat, Value.pointer (some ⟨q7, 0, none⟩) = .pointer (some ⟨B10, 0, none⟩) ∧ w4.heap.size ≤ B10 ∧ Blk w' B10 31 (FrC (m)) ∧ Below w4.heap.size w4 w' from ⟨q7, rfl, lal, (jst (hall 12 (by decide))).2, hB⟩)
              simp only [putP, v6, v7, v8, v9, v10, v13, val]
              clear hB j6 j7 j8 j9 j10 j13 jal jz jst v6 v7 v8 v9 v10 v13 val lal hS hall ok
              go_frame
              refine hd_end (by kernel_rfl) rfl ?_
              go_wp2_with fail
              go_meet
              exact R.out
        case rest =>
          obtain ⟨B8, rfl, lB8, b8, hB⟩ := hcut
          obtain ⟨w5, hw5⟩ : ∃ w5 : World, w5 = wc := ⟨_, rfl⟩
          rw [← hw5] at b8 hB ⊢
          clear hw5
          have S5 := Lib.hid (S4.out.below hB S4.out.lt)
          have C5 := Lib.hid (C4.out.tr hB)
          have s0 := S5.out.cell (i := 0) rfl; have s1 := S5.out.cell (i := 1) rfl
          have q0 := b8.cell (i := 0) rfl; have q1 := b8.cell (i := 1) rfl
          clear hB b8 x0 x1 z1 S4 C4 lB8
          go_wp2_with fail
          refine (ADD.out _).mono ?_
          rintro e w6 ⟨rfl, hb⟩
          rw [← HNX.out]
          obtain ⟨z, hz⟩ : ∃ z, z = valAt rows c0 (l.map toR) (k + 1) := ⟨_, rfl⟩
          have S6 := Lib.hid (S5.out.below hb S5.out.lt)
          have C6 := Lib.hid (C5.out.tr hb)
          have FIN := Lib.hid (show Blk ((w6.setCell ⟨V, 0, none⟩ (.int .i64 z.num)).setCell ⟨V, 1, none⟩ (.int .i64 (z.den : Int))) V 31 (FrC z) ∧ Chg (fun x => x = V) w3 ((w6.setCell ⟨V, 0, none⟩ (.int .i64 z.num)).setCell ⟨V, 1, none⟩ (.int .i64 (z.den : Int))) from ⟨((S6.out.set 0 _).set 1 _).at rfl, (C6.out.setCell (p := ⟨V, 0, none⟩) (fun _ => rfl) _).setCell (p := ⟨V, 1, none⟩) (fun _ => rfl) _⟩)
          clear s0 s1 q0 q1 hb
          rw [← hz]
          have HZ := Lib.hid hz
          clear hz
          have s0 := S6.out.cell (i := 0) rfl; have s1 := S6.out.cell (i := 1) rfl; have sf := S6.out.free
          go_wp2
          go_roundw
          case rel => exact ⟨k + 1, by omega, by go_num, by rw [← HZ.out]; exact FIN.out.1, FIN.out.2⟩
          case measure => simp [intOf]; omega
      · obtain rfl : k = rn := by omega
        have HDD := Lib.hid (show d = valAt rows c0 (l.map toR) rows.length by rw [HD.out, HRL.out])
        have M4 := Lib.hid (M3.out.chg SC.out (fun e => by have := LV.out; omega))
        have T4 := Lib.hid (T3.out.chg SC.out (fun e => by have := LV.out; omega))
        have m0 := M4.out.cell (i := 0) rfl
        have LVS := Lib.hid SB.out.lt
        have hcols : 0 ≤ cols ∧ cols ≤ 6 := ⟨HS.out.1, HS.out.2.1⟩
        obtain ⟨C, rfl⟩ : ∃ C : Nat, cols = (C : Int) := ⟨cols.toNat, by omega⟩
        have hC6 : C ≤ 6 := by omega
        clear hcols M3 T3 hk hlt
        go_wp2
        clear m0
        go_loopw [55] (fun i wr => ∃ j : Nat, j ≤ C ∧ i = .int .i64 j ∧ (∀ q : Int, 0 ≤ q → q < j → (coefF goal q : Rat) ≤ colAt rows (l.map toR) q rows.length) ∧ Below wo.heap.size wo wr) (fun i _ => C - (intOf i).toNat)
        case atStart => exact ⟨0, Nat.zero_le _, rfl, fun q h1 h2 => by omega, Below.refl _ _⟩
        case round =>
          obtain ⟨j, hj, rfl, hT, hb⟩ := hrel
          obtain ⟨wp, rfl⟩ : ∃ wp : World, wp = wr := ⟨_, rfl⟩
          have HT := Lib.hid hT; have HB := Lib.hid hb
          clear hT hb
          have BP := Lib.hid (BR.out.trans (HB.out.mono BR.out.size))
          by_cases hltj : j < C
          · obtain ⟨z1, hz1⟩ : ∃ z0 : Rat, z0 = ((0 : Int) : Rat) := ⟨_, rfl⟩
            have W1 := Lib.hid (fun w => rwhole_any 0 w)
            rw [← hz1] at W1
            have HZ1 := Lib.hid hz1
            clear hz1
            go_wp2_with fail
            refine (W1.out _).mono ?_
            rintro e w5 ⟨rfl, hb⟩
            have B5 := Lib.hid hb
            have M5 := Lib.hid ((M4.out.below HB.out M4.out.lt).below hb (by have := M4.out.lt; have := HB.out.size; omega))
            clear hb
            obtain ⟨w6, hw6⟩ : ∃ w6, w6 = w5.alloc (.cells #[.int .i64 z1.num, .int .i64 (z1.den : Int)] 31) := ⟨_, rfl⟩
            have A6 := Lib.hid (show Below w5.heap.size w5 w6 by rw [hw6]; exact (Below.refl _ _).alloc (Nat.le_refl _) _)
            have B6 := Lib.hid (B5.out.trans (A6.out.mono B5.out.size))
            have M6 := Lib.hid (M5.out.below A6.out M5.out.lt)
            have S6 := Lib.hid (show Blk w6 w5.heap.size 31 (FrC (colAt rows (l.map toR) j 0)) by
              rw [show colAt rows (l.map toR) j 0 = z1 by rw [HZ1.out]; rfl, hw6]; exact Blk.new w5 _ _)
            have HW6 := Lib.hid hw6
            obtain ⟨S, hS⟩ : ∃ S, S = w5.heap.size := ⟨_, rfl⟩
            have LS := Lib.hid (show wp.heap.size ≤ S ∧ w.heap.size < S from by rw [hS]; exact ⟨B5.out.size, M5.out.lt⟩)
            rw [← hS] at S6
            have HSS := Lib.hid hS
            clear hw6 hS M5 A6
            go_upto_region 14 with fail
            rw [← HW6.out, ← HSS.out]
            have m1 := M6.out.cell (i := 1) rfl
            go_wp2
            clear m1
            go_loopw [62] (fun i wr => ∃ k' : Nat, k' ≤ k ∧ i = .int .i64 k' ∧ Blk wr S 31 (FrC (colAt rows (l.map toR) j k')) ∧ Chg (fun x => x = S) w6 wr) (fun i _ => k - (intOf i).toNat)
            case atStart => exact ⟨0, Nat.zero_le _, rfl, S6.out, Chg.refl _⟩
            case round =>
              obtain ⟨k', hk', rfl, hbs, hc⟩ := hrel
              obtain ⟨wq, rfl⟩ : ∃ wq : World, wq = wr := ⟨_, rfl⟩
              have SB2 := Lib.hid hbs; have SC2 := Lib.hid hc
              have BQ := Lib.hid (show Below wp.heap.size wp wq from B6.out.trans (SC2.out.below (fun x hx e => by have := LS.out; omega) B6.out.size))
              have BQ0 := Lib.hid (BP.out.trans (BQ.out.mono BP.out.size))
              clear hbs hc
              obtain ⟨d2, hd2⟩ : ∃ d, d = colAt rows (l.map toR) j k' := ⟨_, rfl⟩
              rw [← hd2] at SB2
              have HD2 := Lib.hid hd2
              clear hd2
              by_cases hltk : k' < k
              · obtain ⟨⟨tm, x⟩, hx⟩ : ∃ t, rows[k']? = some t := ⟨_, List.getElem?_eq_getElem (by have := HRL.out; omega)⟩
                obtain ⟨b, o, rfl, kb, lb, ⟨ta, tn, tc, t0, htm⟩, t1⟩ := (HR.out.keeps RRw.stays (fun y _ hl => BQ0.out.block y hl) BQ0.out.size).row k' (tm, x) hx
                dsimp only at t0 t1
                obtain ⟨tok, mx0, mx1⟩ := small_rows HS.out (tm, x) (List.mem_of_getElem? hx)
                dsimp only at tok mx0 mx1
                have hkn : k' < n := by have := HN.out; omega
                obtain ⟨b1, o1, y, rfl, hy, y0, y1, lb1⟩ := FrQ.get HF.out (HX.out.keeps RTm.stays (fun y _ hl => BQ0.out.block y hl) BQ0.out.size) (i := k') hkn
                obtain ⟨cf, hcf⟩ : ∃ cf, cf = coefF tm j := ⟨_, rfl⟩
                obtain ⟨cc0, cc1⟩ := coef_nine (m := 9) (by decide) tok j
                rw [← hcf] at cc0 cc1
                obtain ⟨m, hm⟩ : ∃ m, m = y * (cf : Rat) := ⟨_, rfl⟩
                have smy : Sq q 2200000000 y := by rw [hy]; exact HF.out.sm k'
                have smm : Sq q (9 * 2200000000) m := by rw [hm, Rat.mul_comm]; exact smy.mul cc0 cc1
                have smd := colAt_sq HS.out HF.out j k'
                have smd1 := colAt_sq HS.out HF.out j (k' + 1)
                have HNX := Lib.hid (show colAt rows (l.map toR) j (k' + 1) = d2 + m by rw [hm, HD2.out, Rat.mul_comm, hy, hcf]; conv => lhs; unfold colAt; rw [rowD_of hx])
                have MUL := Lib.hid (rmul y (cf : Rat) (smy.fit (by decide)) ((Sm.int (C := 9) cc0 cc1).fit (by decide)) (by rw [← hm]; exact smm.fit (by decide)))
                rw [← hm] at MUL
                have ADD := Lib.hid (radd d2 m (by rw [HD2.out]; exact smd.fit (by omega)) (smm.fit (by decide)) (by rw [← HNX.out]; exact smd1.fit (by omega)))
                have hk1 : (k' : Int) < (k : Int) := by omega
                have hk2 : (k' : Int) < (n : Int) := by omega
                obtain ⟨w7, hw7⟩ : ∃ w7, w7 = wq.alloc (.cells #[.slice ta tn tc, .int .i64 x] 50) := ⟨_, rfl⟩
                have B7 := Lib.hid (show Below wq.heap.size wq w7 by rw [hw7]; exact (Below.refl _ _).alloc (Nat.le_refl _) _)
                have X7 := Lib.hid (show Blk w7 wq.heap.size 50 [.slice ta tn tc, .int .i64 x] by rw [hw7]; exact Blk.new wq _ _)
                have HTM7 := htm.keeps RTm.stays (fun y _ hl => B7.out.block y hl) B7.out.size
                have COEF := Lib.hid (show ∀ u, Below w7.heap.size w7 u → Calls Try.prog 46 #[.slice ta tn tc, .int .i64 j] u (IntB cf u) from fun u hu => by
                  rw [hcf]; exact coef_any K tm j ta tn tc u (HTM7.keeps RTm.stays (fun y _ hl => hu.block y hl) hu.size))
                have HW7 := Lib.hid hw7
                clear hx hy hm smy smm smd smd1 tok mx0 mx1 htm kb cc0 cc1 hcf HTM7 hw7
                go_upto_region 17 with fail
                rw [← HW7.out]
                obtain ⟨Z, hZ⟩ : ∃ Z, Z = wq.heap.size := ⟨_, rfl⟩
                rw [← hZ] at X7 ⊢
                have x0 := (B7.out.cell (p := ⟨b1, o1 + k' * 2, none⟩) lb1).trans y0
                have x1 := (B7.out.cell (p := ⟨b1, o1 + k' * 2 + 1, none⟩) lb1).trans y1
                have S7 := Lib.hid (SB2.out.below B7.out SB2.out.lt)
                have C7 := Lib.hid (SC2.out.tr B7.out)
                have z1 := X7.out.cell (i := 0) rfl
                clear hZ t0 t1 y0 y1
                have lb0 := World.block_lt_of_cell? _ _ z1
                have lb1 := World.block_lt_of_cell? _ _ x0
                have lb2 := World.block_lt_of_cell? _ _ x1
                dsimp only at lb0 lb1 lb2
                go_cut [15] (fun s wx => ∃ B10 : Nat, s = .pointer (some ⟨B10, 0, none⟩) ∧ w7.heap.size ≤ B10 ∧ Blk wx B10 31 (FrC (m)) ∧ Below w7.heap.size w7 wx)
                case first =>
                  as_aux_lemma =>
                    refine hd_start_e 16 (fun w' => w'.cell? ⟨Z, 0, none⟩ = some (.slice ta tn tc) ∧ w'.cell? ⟨b1, o1 + k' * 2, none⟩ = some (.int .i64 y.num) ∧ w'.cell? ⟨b1, o1 + k' * 2 + 1, none⟩ = some (.int .i64 (y.den : Int))) (by kernel_rfl) ⟨by kernel_rfl, by rfl⟩ (by refine ⟨z1, x0, x1⟩) (fun ok => ?_)
                    refine he_t 0 ok rfl ?_
                    go_frame
                    refine he_t 1 ok rfl ?_
                    go_frame
                    refine he_t 2 ok rfl ?_
                    go_frame
                    refine he_t 3 ok rfl ?_
                    go_frame
                    refine he_t 4 ok rfl ?_
                    go_frame
                    refine he_t 5 ok rfl ?_
                    go_frame
                    refine he_t 6 ok rfl ?_
                    go_frame
                    refine hd_inv_s [(75, 7), (76, 8), (77, 9), (67, 10), (78, 11), (79, 12), (16, 15), (15, 13)] [14] (fun _ => undef) (fun b v w' => Below w7.heap.size w7 w' ∧ (b 7 = true → v 7 = .int .i64 cf) ∧ (b 8 = true → v 8 = FrV (cf : Rat)) ∧ (b 9 = true → v 9 = .tuple #[FrV m, .int .i64 0]) ∧ (b 10 = true → v 10 = .tuple #[FrV m, .int .i64 0]) ∧ (b 11 = true → v 11 = FrV m) ∧ (b 12 = true → v 12 = .int .i64 0) ∧ (b 15 = true → v 15 = .int .i64 0) ∧ ∃ q7, (b 13 = true → v 13 = .pointer (some ⟨q7, 0, none⟩) ∧ w7.heap.size ≤ q7) ∧ (b 13 = true → b 14 = false → Blk w' q7 31 [.int .i64 0, .int .i64 0]) ∧ (b 14 = true → b 13 = true ∧ Blk w' q7 31 (FrC (m)))) (.inr ok) ⟨by decide, by decide, by kernel_rfl, rfl⟩ (by kernel_rfl) (by kernel_rfl) (by kernel_rfl) (by decide) ⟨(Below.refl _ _).drew, (fun h => by cases h), (fun h => by cases h), (fun h => by cases h), (fun h => by cases h), (fun h => by cases h), (fun h => by cases h), (fun h => by cases h), 0, (fun h => by cases h), (fun h => by cases h), (fun h => by cases h)⟩ ?_ ?_
                    · intro iA oj hi ho bb vA aA w' hJ hv hr hb hdep hS K hK
                      obtain ⟨hB, j7, j8, j9, j10, j11, j12, j15, q7, jal, jz, jst⟩ := hJ
                      have hBs := hB.size
                      have hi4 : iA = 7 ∨ iA = 8 ∨ iA = 9 ∨ iA = 10 ∨ iA = 11 ∨ iA = 12 ∨ iA = 15 ∨ iA = 13 ∨ iA = 14 := by simpa using hi
                      try dsimp only at hS
                      obtain ⟨s0, s1, s2⟩ := hS
                      rcases hi4 with rfl | rfl | rfl | rfl | rfl | rfl | rfl | rfl | rfl
                      · obtain rfl := Option.some.inj ho
                        have e73 : aA.tmps[73]?.getD undef = .slice ta tn tc := (get_eval aA 73).trans (hr 73 (by decide))
                        have e74 : aA.tmps[74]?.getD undef = .int .i64 j := (get_eval aA 74).trans (hr 74 (by decide))
                        go_simp
                        go_at_call 46
                        refine (COEF.out _ hB).mono ?_
                        rintro e u ⟨rfl, hu⟩
                        exact hK _ _ ⟨cell_later hu s0, cell_later hu s1, cell_later hu s2⟩ ⟨hB.trans (hu.mono hBs), fun _ => rfl, j8, j9, j10, j11, j12, j15, q7, jal, fun h1 h2 => (jz h1 h2).below hu (jz h1 h2).lt, fun h => ⟨(jst h).1, (jst h).2.below hu (jst h).2.lt⟩⟩
                      · obtain rfl := Option.some.inj ho
                        have d7 := hdep 7 (by kernel_rfl)
                        have e75 : aA.tmps[75]?.getD undef = .int .i64 cf := (get_eval aA 75).trans ((hv 75 7 (by decide) d7).trans (j7 d7))
                        go_simp
                        go_at_call 39
                        refine (rwhole_any cf _).mono ?_
                        rintro e u ⟨rfl, hu⟩
                        exact hK _ _ ⟨cell_later hu s0, cell_later hu s1, cell_later hu s2⟩ ⟨hB.trans (hu.mono hBs), j7, fun _ => rfl, j9, j10, j11, j12, j15, q7, jal, fun h1 h2 => (jz h1 h2).below hu (jz h1 h2).lt, fun h => ⟨(jst h).1, (jst h).2.below hu (jst h).2.lt⟩⟩
                      · obtain rfl := Option.some.inj ho
                        have e71 : aA.tmps[71]?.getD undef = FrV y := (get_eval aA 71).trans (hr 71 (by decide))
                        have d8 := hdep 8 (by kernel_rfl)
                        have e76 : aA.tmps[76]?.getD undef = FrV (cf : Rat) := (get_eval aA 76).trans ((hv 76 8 (by decide) d8).trans (j8 d8))
                        go_simp
                        go_at_call 23
                        refine (MUL.out _).mono ?_
                        rintro e u ⟨rfl, hu⟩
                        exact hK _ _ ⟨cell_later hu s0, cell_later hu s1, cell_later hu s2⟩ ⟨hB.trans (hu.mono hBs), j7, j8, fun _ => rfl, j10, j11, j12, j15, q7, jal, fun h1 h2 => (jz h1 h2).below hu (jz h1 h2).lt, fun h => ⟨(jst h).1, (jst h).2.below hu (jst h).2.lt⟩⟩
                      · obtain rfl := Option.some.inj ho
                        have d9 := hdep 9 (by kernel_rfl)
                        have e77 : aA.tmps[77]?.getD undef = .tuple #[FrV m, .int .i64 0] := (get_eval aA 77).trans ((hv 77 9 (by decide) d9).trans (j9 d9))
                        go_simp
                        exact hK _ _ ⟨s0, s1, s2⟩ ⟨hB, j7, j8, j9, fun _ => rfl, j11, j12, j15, q7, jal, jz, jst⟩
                      · obtain rfl := Option.some.inj ho
                        have d10 := hdep 10 (by kernel_rfl)
                        have e67 : aA.tmps[67]?.getD undef = .tuple #[FrV m, .int .i64 0] := (get_eval aA 67).trans ((hv 67 10 (by decide) d10).trans (j10 d10))
                        go_simp
                        exact hK _ _ ⟨s0, s1, s2⟩ ⟨hB, j7, j8, j9, j10, fun _ => rfl, j12, j15, q7, jal, jz, jst⟩
                      · obtain rfl := Option.some.inj ho
                        have d10 := hdep 10 (by kernel_rfl)
                        have e67 : aA.tmps[67]?.getD undef = .tuple #[FrV m, .int .i64 0] := (get_eval aA 67).trans ((hv 67 10 (by decide) d10).trans (j10 d10))
                        go_simp
                        exact hK _ _ ⟨s0, s1, s2⟩ ⟨hB, j7, j8, j9, j10, j11, fun _ => rfl, j15, q7, jal, jz, jst⟩
                      · obtain rfl := Option.some.inj ho
                        have d12 := hdep 12 (by kernel_rfl)
                        have e79 : aA.tmps[79]?.getD undef = .int .i64 0 := (get_eval aA 79).trans ((hv 79 12 (by decide) d12).trans (j12 d12))
                        go_simp
                        exact hK _ _ ⟨s0, s1, s2⟩ ⟨hB, j7, j8, j9, j10, j11, j12, fun _ => rfl, q7, jal, jz, jst⟩
                      · obtain rfl := Option.some.inj ho
                        go_simp
                        have hu : Below w'.heap.size w' (w'.alloc (.cells #[.int .i64 0, .int .i64 0] 31)) := (Below.refl _ _).alloc (Nat.le_refl _) _
                        exact hK _ _ ⟨cell_later hu s0, cell_later hu s1, cell_later hu s2⟩ ⟨hB.trans (hu.mono hBs), j7, j8, j9, j10, j11, j12, j15, w'.heap.size, fun _ => ⟨rfl, hBs⟩, fun _ _ => Blk.new w' [.int .i64 0, .int .i64 0] 31, fun h => by have := (jst h).1; rw [hb] at this; cases this⟩
                      · obtain rfl := Option.some.inj ho
                        have dal := hdep 13 (by kernel_rfl)
                        obtain ⟨val, lal⟩ := jal dal
                        have bz := jz dal hb
                        have e15 : aA.tmps[15]?.getD undef = .pointer (some ⟨q7, 0, none⟩) := (get_eval aA 15).trans ((hv 15 13 (by decide) dal).trans val)
                        have d11 := hdep 11 (by kernel_rfl)
                        have e78 : aA.tmps[78]?.getD undef = FrV m := (get_eval aA 78).trans ((hv 78 11 (by decide) d11).trans (j11 d11))
                        have z0 := bz.cell (i := 0) rfl; have z1 := bz.cell (i := 1) rfl; have zf := bz.free
                        go_simp
                        have hc2 : Below w7.heap.size w7 ((w'.setCell ⟨q7, 0, none⟩ (.int .i64 (m).num)).setCell ⟨q7, 1, none⟩ (.int .i64 ((m).den : Int))) := (hB.setCell lal _).setCell lal _
                        exact hK (.int .i64 0) _ ⟨cell_set (by omega) (cell_set (by omega) s0), cell_set (by omega) (cell_set (by omega) s1), cell_set (by omega) (cell_set (by omega) s2)⟩ ⟨hc2, j7, j8, j9, j10, j11, j12, j15, q7, jal, (fun _ h => by cases h), fun _ => ⟨dal, ((bz.set 0 _).set 1 _).at rfl⟩⟩
                    · intro bb vA w' hall hJ hS
                      obtain ⟨hB, j7, j8, j9, j10, j11, j12, j15, q7, jal, jz, jst⟩ := hJ
                      have v7 := j7 (hall 7 (by decide))
                      have v8 := j8 (hall 8 (by decide))
                      have v9 := j9 (hall 9 (by decide))
                      have v10 := j10 (hall 10 (by decide))
                      have v11 := j11 (hall 11 (by decide))
                      have v12 := j12 (hall 12 (by decide))
                      have v15 := j15 (hall 15 (by decide))
                      obtain ⟨val, lal⟩ := jal (hall 13 (by decide))
                      have R := Lib.hid (show ∃ B10 : Nat, Value.pointer (some ⟨q7, 0, none⟩) = .pointer (some ⟨B10, 0, none⟩) ∧ w7.heap.size ≤ B10 ∧ Blk w' B10 31 (FrC (m)) ∧ Below w7.heap.size w7 w' from ⟨q7, rfl, lal, (jst (hall 14 (by decide))).2, hB⟩)
                      simp only [putP, v7, v8, v9, v10, v11, v12, v15, val]
                      clear hB j7 j8 j9 j10 j11 j12 j15 jal jz jst v7 v8 v9 v10 v11 v12 v15 val lal hS hall ok
                      go_frame
                      refine hd_end (by kernel_rfl) rfl ?_
                      go_wp2_with fail
                      go_meet
                      exact R.out
                case rest =>
                  obtain ⟨B8, rfl, lB8, b8, hB⟩ := hcut
                  obtain ⟨w8, hw8⟩ : ∃ w5 : World, w5 = wc := ⟨_, rfl⟩
                  rw [← hw8] at b8 hB ⊢
                  clear hw8
                  have S8 := Lib.hid (S7.out.below hB S7.out.lt)
                  have C8 := Lib.hid (C7.out.tr hB)
                  have s0 := S8.out.cell (i := 0) rfl; have s1 := S8.out.cell (i := 1) rfl
                  have q0 := b8.cell (i := 0) rfl; have q1 := b8.cell (i := 1) rfl
                  clear hB b8 x0 x1 z1 S7 C7 lB8
                  go_wp2_with fail
                  refine (ADD.out _).mono ?_
                  rintro e w9 ⟨rfl, hb⟩
                  rw [← HNX.out]
                  obtain ⟨z, hz⟩ : ∃ z, z = colAt rows (l.map toR) j (k' + 1) := ⟨_, rfl⟩
                  have S9 := Lib.hid (S8.out.below hb S8.out.lt)
                  have C9 := Lib.hid (C8.out.tr hb)
                  have FIN := Lib.hid (show Blk ((w9.setCell ⟨S, 0, none⟩ (.int .i64 z.num)).setCell ⟨S, 1, none⟩ (.int .i64 (z.den : Int))) S 31 (FrC z) ∧ Chg (fun x => x = S) w6 ((w9.setCell ⟨S, 0, none⟩ (.int .i64 z.num)).setCell ⟨S, 1, none⟩ (.int .i64 (z.den : Int))) from ⟨((S9.out.set 0 _).set 1 _).at rfl, (C9.out.setCell (p := ⟨S, 0, none⟩) (fun _ => rfl) _).setCell (p := ⟨S, 1, none⟩) (fun _ => rfl) _⟩)
                  clear s0 s1 q0 q1 hb
                  rw [← hz]
                  have HZ := Lib.hid hz
                  clear hz
                  have s0 := S9.out.cell (i := 0) rfl; have s1 := S9.out.cell (i := 1) rfl; have sf := S9.out.free
                  go_wp2
                  go_roundw
                  case rel => exact ⟨k' + 1, by omega, by go_num, by rw [← HZ.out]; exact FIN.out.1, FIN.out.2⟩
                  case measure => simp [intOf]; omega
              · obtain rfl : k' = k := by omega
                have hd2l : d2 = colAt rows (l.map toR) j rows.length := by rw [HD2.out, HRL.out]
                have fd : Fit d2 := by rw [HD2.out]; exact (colAt_sq HS.out HF.out j k').fit (by omega)
                obtain ⟨cg, hcg⟩ : ∃ cg, cg = coefF goal j := ⟨_, rfl⟩
                obtain ⟨cc0, cc1⟩ := coef_nine (m := 9) (by decide) HS.out.2.2.2.1 j
                rw [← hcg] at cc0 cc1
                have fz : Fit (cg : Rat) := (Sm.int (C := 9) cc0 cc1).fit (by decide)
                have GQ := HGO.out.keeps RTm.stays (fun y _ hl => BQ0.out.block y hl) BQ0.out.size
                have COEF := Lib.hid (show ∀ s : BelowW wq, Calls Try.prog 46 #[.slice ga gn gc, .int .i64 j] s.world fun e w' => e = .returned (.int .i64 cg) ∧ Below s.world.heap.size s.world w' from fun s => by
                  rw [hcg]; exact coef_any K goal j ga gn gc s.world (GQ.keeps RTm.stays (fun y _ hl => s.ok.block y hl) s.ok.size))
                obtain ⟨z, hz⟩ : ∃ z : Rat, z = (cg : Rat) := ⟨_, rfl⟩
                have WH := Lib.hid (show ∀ w : World, Calls Try.prog 39 #[.int .i64 cg] w fun e w' => e = .returned (FrV z) ∧ Below w.heap.size w w' from fun w => by rw [hz]; exact rwhole_any cg w)
                have CM := Lib.hid (rcmp d2 z fd (by rw [hz]; exact fz))
                have HDX := Lib.hid (show (cmpR d2 z < 0) ↔ ¬ (coefF goal j : Rat) ≤ colAt rows (l.map toR) j rows.length by rw [cmpR_lt, hd2l, hz, hcg])
                generalize cmpR d2 z = cv at CM HDX
                have MQ := Lib.hid (M6.out.chg SC2.out (fun e => by have := LS.out; omega))
                have TQ := Lib.hid ((T4.out.below HB.out T4.out.lt).below BQ.out (by have := T4.out.lt; have := HB.out.size; omega))
                have yl := MQ.out.lt
                have sl := SB2.out.lt
                have i0 := fun s : BelowW wq => (s.ok.cell (p := ⟨w.heap.size, 2, none⟩) yl).trans (MQ.out.cell (i := 2) rfl)
                have i1 := fun s : BelowW wq => (s.ok.cell (p := ⟨S, 0, none⟩) sl).trans (SB2.out.cell (i := 0) rfl)
                have i2 := fun s : BelowW wq => (s.ok.cell (p := ⟨S, 1, none⟩) sl).trans (SB2.out.cell (i := 1) rfl)
                clear hd2l hz fz fd hcg cc0 cc1 GQ
                by_cases hcv : cv < 0
                · have NO := Lib.hid (show ¬ (n = k' ∧ GoodP l ∧ ProveP C rows goal (l.map toR)) from fun h => (HDX.out.1 hcv) (h.2.2 j (by omega) (by omega)))
                  have hcd : decide (cv < 0) = true := decide_eq_true hcv
                  go_wp2
                  refine wp_region_below (by kernel_rfl) (by kernel_rfl) ?_
                  repeat (go_big_quiet_step (first | (go_at_call 46; (with_reducible exact calls_below _ (COEF.out _))) | (go_at_call 39; (with_reducible exact calls_below _ (WH.out _))) | (go_at_call 21; (with_reducible exact calls_below _ (CM.out _)))))
                  refine wpQuiet_nil ?_
                  rintro w' ⟨s, rfl⟩
                  obtain ⟨w7, ok7⟩ := s
                  clear i0 i1 i2
                  have T7 := Lib.hid (TQ.out.below ok7 TQ.out.lt)
                  have B7 := Lib.hid (BQ0.out.trans (ok7.mono BQ0.out.size))
                  have t0 := T7.out.cell (i := 0) rfl; have t1 := T7.out.cell (i := 1) rfl; have tf := T7.out.free
                  have BF := Lib.hid (show Below w.heap.size w ((w7.setCell ⟨w.heap.size + 1, 0, none⟩ (.int .i64 0)).setCell ⟨w.heap.size + 1, 1, none⟩ (.int .i64 1)) from (B7.out.setCell (Nat.le_succ _) _).setCell (Nat.le_succ _) _)
                  have TF := Lib.hid ((T7.out.set 0 (.int .i64 0)).set 1 (.int .i64 1))
                  go_wp2
                  have r0 := TF.out.cell (i := 0) rfl; have r1 := TF.out.cell (i := 1) rfl
                  refine bodyPost_ret (v := .tuple #[FrV 0, .bool false]) (by simp [results, Try.results15, go_sem, r0, r1]) rfl (pv_no NO.out BF.out)
                · have HT2 := Lib.hid (show ∀ q : Int, 0 ≤ q → q < (j + 1 : Nat) → (coefF goal q : Rat) ≤ colAt rows (l.map toR) q rows.length from fun q h1 h2 => by
                    by_cases e : q = j
                    · subst e; exact Classical.byContradiction fun h => hcv (HDX.out.2 h)
                    · exact HT.out q h1 (by omega))
                  have hcd : decide (cv < 0) = false := decide_eq_false hcv
                  go_wp2
                  refine wp_region_below (by kernel_rfl) (by kernel_rfl) ?_
                  repeat (go_big_quiet_step (first | (go_at_call 46; (with_reducible exact calls_below _ (COEF.out _))) | (go_at_call 39; (with_reducible exact calls_below _ (WH.out _))) | (go_at_call 21; (with_reducible exact calls_below _ (CM.out _)))))
                  refine wpQuiet_nil ?_
                  rintro w' ⟨s, rfl⟩
                  obtain ⟨w7, ok7⟩ := s
                  clear i0 i1 i2
                  go_wp2
                  go_roundw
                  case rel => exact ⟨j + 1, by omega, by go_num, HT2.out, HB.out.trans ((BQ.out.trans (ok7.mono BQ.out.size)).mono HB.out.size)⟩
                  case measure => simp [intOf]; omega
          · obtain rfl : j = C := by omega
            have YES := Lib.hid (show (n = k ∧ GoodP l ∧ ProveP j rows goal (l.map toR)) from ⟨HN.out, HG.out.2, fun q h1 h2 => HT.out q h1 h2⟩)
            have V7 := Lib.hid (SB.out.below HB.out SB.out.lt)
            have T7 := Lib.hid (T4.out.below HB.out T4.out.lt)
            have v0 := V7.out.cell (i := 0) rfl; have v1 := V7.out.cell (i := 1) rfl
            have t0 := T7.out.cell (i := 0) rfl; have t1 := T7.out.cell (i := 1) rfl; have tf := T7.out.free
            have BF := Lib.hid (show Below w.heap.size w ((wp.setCell ⟨w.heap.size + 1, 0, none⟩ (.int .i64 d.num)).setCell ⟨w.heap.size + 1, 1, none⟩ (.int .i64 (d.den : Int))) from (BP.out.setCell (Nat.le_succ _) _).setCell (Nat.le_succ _) _)
            have TF := Lib.hid ((T7.out.set 0 (.int .i64 d.num)).set 1 (.int .i64 (d.den : Int)))
            have HVN := Lib.hid (show w.heap.size + 1 ≠ V by have := LV.out; omega)
            go_wp2
            have r0 := TF.out.cell (i := 0) rfl; have r1 := TF.out.cell (i := 1) rfl
            refine bodyPost_ret (v := .tuple #[FrV d, .bool true]) (by simp [results, Try.results15, go_sem, r0, r1]) rfl (by rw [HDD.out]; rw [HDD.out] at BF; exact pv_yes YES.out BF.out)
end Go.Proofs.Ytdegpgonphgbcaa
