/-
  simplex.Proves.
-/
import Derived.Test.YtdegpgonphgbcaaPrH
namespace Go.Proofs.Ytdegpgonphgbcaa
open Go.RowKit

theorem fneg_all (xs : List Rat) : (∃ t ∈ xs.map (fun x => (x.num, (x.den : Int))), t.1 < 0) ↔ ∃ x ∈ xs, x < 0 := by
  constructor
  · rintro ⟨t, ht, hn⟩
    obtain ⟨x, hx, rfl⟩ := List.mem_map.1 ht
    exact ⟨x, hx, Rat.not_le.1 (fun h => by have := Rat.num_nonneg.2 h; dsimp only at hn; omega)⟩
  · rintro ⟨x, hx, hn⟩
    exact ⟨_, List.mem_map.2 ⟨x, hx, rfl⟩, Int.not_le.1 (fun h => absurd (Rat.num_nonneg.1 h) (Rat.not_le.2 hn))⟩
set_option maxRecDepth 100000 in
set_option maxHeartbeats 64000000 in
theorem sproves_any (K : Nat → Prop) (cols : Int) (rows : List MRow) (goal : List (Int × Int)) (c0 : Int) (hs : SmallP cols rows goal c0) (l : List (Int × Int)) (hsm : Sml l) (ra : Option Addr) (rn rc : Nat) (ga : Option Addr) (gn gc : Nat) (a : Option Addr) (n c : Nat) (w : World) (R : Row RRw 2 K w ra rn rc rows) (G : Row RTm 2 K w ga gn gc goal) (X : Row RTm 2 K w a n c l) :
    Calls Try.prog 31 #[MdV cols (.slice ra rn rc) ga gn gc c0, .slice a n c] w (PvRet (n = rn ∧ GoodP l ∧ ProveP cols rows goal (l.map toR)) (valAt rows c0 (l.map toR) rows.length) w) := by
  obtain ⟨wa, hwa⟩ : ∃ wa, wa = (w.alloc (.cells (MdC cols (.slice ra rn rc) ga gn gc c0).toArray 28)).alloc (.cells #[.int .i64 0, .int .i64 0] 31) := ⟨_, rfl⟩
  have BA := Lib.hid (show Below w.heap.size w wa by rw [hwa]; exact ((Below.refl _ _).alloc (Nat.le_refl _) _).alloc (by simp) _)
  have MA := Lib.hid (show Blk wa w.heap.size 28 (MdC cols (.slice ra rn rc) ga gn gc c0) by rw [hwa]; exact (Blk.new w _ _).old _)
  have TA := Lib.hid (show Blk wa (w.heap.size + 1) 31 [.int .i64 0, .int .i64 0] by rw [hwa]; exact (Blk.new (w.alloc _) [.int .i64 0, .int .i64 0] 31).at' (by simp))
  have VA := Lib.hid (valid_any K cols rows goal c0 ra rn rc ga gn gc wa (R.keeps RRw.stays (fun y _ hl => BA.out.block y hl) BA.out.size) (G.keeps RTm.stays (fun y _ hl => BA.out.block y hl) BA.out.size))
  have HV := Lib.hid (small_valid hs)
  have XA := Lib.hid (X.keeps RTm.stays (fun y _ hl => BA.out.block y hl) BA.out.size)
  have HS := Lib.hid hs; have HSM := Lib.hid hsm; have HR := Lib.hid R; have HX := Lib.hid X; have HGO := Lib.hid G; have HRL := Lib.hid R.hlen; have hrn6 : rn ≤ 6 := by have := R.hlen; have := hs.2.2.1; omega
  have HWA := Lib.hid hwa
  have m0 := MA.out.cell (i := 0) rfl; have m1 := MA.out.cell (i := 1) rfl; have m2 := MA.out.cell (i := 2) rfl; have m3 := MA.out.cell (i := 3) rfl
  clear hwa R X G hs hsm
  go_enter Try.func31, Try.ntmps31
  go_upto_region 1 with fail
  rw [← HWA.out]
  go_wp2_with fail
  refine VA.out.mono ?_
  rintro e w0 ⟨r, rfl, hr, hb⟩
  obtain rfl : r = true := hr.2 HV.out
  have B0 := Lib.hid (BA.out.trans (hb.mono BA.out.size))
  have M0 := Lib.hid (MA.out.below hb MA.out.lt)
  have T0 := Lib.hid (TA.out.below hb TA.out.lt)
  have GD := Lib.hid (good_any K l HSM.out.in63 a n c rn w0 (XA.out.keeps RTm.stays (fun y _ hl => hb.block y hl) hb.size))
  clear hr hb m0 m1 m2 m3 VA HV XA
  have m1 := M0.out.cell (i := 1) rfl
  go_wp2_with fail
  refine GD.out.mono ?_
  rintro e w1 ⟨r, rfl, hr, hb⟩
  have HRR := Lib.hid hr
  have B1 := Lib.hid (B0.out.trans (hb.mono B0.out.size))
  have M1 := Lib.hid (M0.out.below hb M0.out.lt)
  have T1 := Lib.hid (T0.out.below hb T0.out.lt)
  clear hr hb m1
  cases r with
  | false =>
    have NO := Lib.hid (show ¬ (n = rn ∧ GoodP l ∧ ProveP cols rows goal (l.map toR)) from fun h => by have := HRR.out.2 ⟨by rw [h.1], h.2.1⟩; cases this)
    obtain ⟨z0, hz0⟩ : ∃ z0 : Rat, z0 = ((0 : Int) : Rat) := ⟨_, rfl⟩
    have W0 := Lib.hid (fun w => whole_any 0 w)
    rw [← hz0] at W0
    have HZ0 := Lib.hid (show z0 = 0 by rw [hz0]; simp)
    clear hz0
    go_wp2_with fail
    refine (W0.out _).mono ?_
    rintro e w2 ⟨rfl, hb⟩
    have T2 := Lib.hid (T1.out.below hb T1.out.lt)
    have B2 := Lib.hid (B1.out.trans (hb.mono B1.out.size))
    clear hb
    have t0 := T2.out.cell (i := 0) rfl; have t1 := T2.out.cell (i := 1) rfl; have tf := T2.out.free
    have BF := Lib.hid (show Below w.heap.size w ((w2.setCell ⟨w.heap.size + 1, 0, none⟩ (.int .i64 z0.num)).setCell ⟨w.heap.size + 1, 1, none⟩ (.int .i64 (z0.den : Int))) from (B2.out.setCell (Nat.le_succ _) _).setCell (Nat.le_succ _) _)
    have TF := Lib.hid ((T2.out.set 0 (.int .i64 z0.num)).set 1 (.int .i64 (z0.den : Int)))
    go_wp2
    have r0 := TF.out.cell (i := 0) rfl; have r1 := TF.out.cell (i := 1) rfl
    refine bodyPost_ret (v := .tuple #[FrV z0, .bool false]) (by simp [results, Try.results31, go_sem, r0, r1]) rfl (by have h := pv_no (v := valAt rows c0 (l.map toR) rows.length) NO.out BF.out; rw [HZ0.out] at h ⊢; exact h)
  | true =>
    have HG := Lib.hid (HRR.out.1 rfl)
    have HF := Lib.hid (show Frs l from ⟨HSM.out, HG.out.2⟩)
    have HN := Lib.hid (show n = rn by have := HG.out.1; omega)
    clear HRR
    have hcols : 0 ≤ cols ∧ cols ≤ 6 := ⟨HS.out.1, HS.out.2.1⟩
    obtain ⟨C, rfl⟩ : ∃ C : Nat, cols = (C : Int) := ⟨cols.toNat, by omega⟩
    have hC6 : C ≤ 6 := by omega
    have hC8 : C ≤ 8 := by omega
    clear hcols
    have m0 := M1.out.cell (i := 0) rfl; have m3 := M1.out.cell (i := 3) rfl
    obtain ⟨z0, hz0⟩ : ∃ z0 : Rat, z0 = (c0 : Rat) := ⟨_, rfl⟩
    have W0 := Lib.hid (fun w => whole_any c0 w)
    rw [← hz0] at W0
    have HZ0 := Lib.hid hz0
    clear hz0
    go_upto_region 3 with fail
    go_cut [6, 7] (fun s6 s7 wx => ∃ V S : Nat, s6 = .pointer (some ⟨V, 0, none⟩) ∧ s7 = .slice (some ⟨S, 0, none⟩) C C ∧ w1.heap.size ≤ V ∧ w1.heap.size ≤ S ∧ V ≠ S ∧ Blk wx V 31 (FrC z0) ∧ FBlk wx S (List.replicate C 0) [] ∧ Below w1.heap.size w1 wx)
    case first =>
      as_aux_lemma =>
        refine hd_start 7 (fun w' => w'.cell? ⟨w.heap.size, 0, none⟩ = some (.int .i64 C) ∧ w'.cell? ⟨w.heap.size, 3, none⟩ = some (.int .i64 c0)) (by kernel_rfl) ⟨by kernel_rfl, by kernel_rfl, by kernel_rfl, by decide⟩ (by refine ⟨m0, m3⟩) (fun ok => ?_)
        refine hd_take_l (i := 0) (v := ?_) ok rfl (by decide) (by kernel_rfl) (by kernel_rfl) (fun _ _ _ h => h) (Or.inl ⟨by kernel_rfl, ?_⟩) ?_
        rotate_left
        · (intro w hSw; (try dsimp only at hSw); (try go_split_ands); go_simp; (try (with_reducible rfl)))
        go_frame
        refine hd_take_l (i := 1) (v := ?_) ok rfl (by decide) (by kernel_rfl) (by kernel_rfl) (fun _ _ _ h => h) (Or.inl ⟨by kernel_rfl, ?_⟩) ?_
        rotate_left
        · (intro w hSw; (try dsimp only at hSw); (try go_split_ands); go_simp; (try (with_reducible rfl)))
        go_frame
        refine hd_take_l (i := 3) (v := ?_) ok rfl (by decide) (by kernel_rfl) (by kernel_rfl) (fun _ _ _ h => h) (Or.inl ⟨by kernel_rfl, ?_⟩) ?_
        rotate_left
        · (intro w hSw; (try dsimp only at hSw); (try go_split_ands); go_simp; (try (with_reducible rfl)))
        go_frame
        refine hd_take_l (i := 4) (v := ?_) ok rfl (by decide) (by kernel_rfl) (by kernel_rfl) (fun _ _ _ h => h) (Or.inl ⟨by kernel_rfl, ?_⟩) ?_
        rotate_left
        · (intro w hSw; (try dsimp only at hSw); (try go_split_ands); go_simp; (try (with_reducible rfl)))
        go_frame
        refine hd_inv_p [(28, 2), (31, 5), (6, 6)] (fun _ => undef) (fun b v w' => Below w1.heap.size w1 w' ∧ (b 2 = true → v 2 = FrV z0) ∧ ∃ g q : Nat, (b 5 = true → v 5 = .slice (some ⟨g, 0, none⟩) C C ∧ FBlk w' g (List.replicate C 0) [] ∧ w1.heap.size ≤ g) ∧ (b 6 = true → v 6 = .pointer (some ⟨q, 0, none⟩) ∧ Blk w' q 31 [.int .i64 0, .int .i64 0] ∧ w1.heap.size ≤ q) ∧ (b 5 = true → b 6 = true → q ≠ g)) (.inl ok) ⟨by decide, by decide, by kernel_rfl, rfl⟩ (by kernel_rfl) (by kernel_rfl) (by decide) ⟨(Below.refl _ _).drew, (fun h => by cases h), 0, 0, (fun h => by cases h), (fun h => by cases h), (fun h => by cases h)⟩ ?_ ?_
        · intro i oj hi ho bb v a w' hJ hv hr hb hdep hS K hK
          obtain ⟨hB, j2, g, q, j5, j6, jd⟩ := hJ
          have hBs := hB.size
          have hi4 : i = 2 ∨ i = 5 ∨ i = 6 := by simpa using hi
          try dsimp only at hS
          obtain ⟨s0, s1⟩ := hS
          rcases hi4 with rfl | rfl | rfl
          · obtain rfl := Option.some.inj ho
            have e27 : a.tmps[27]?.getD undef = .int .i64 c0 := (get_eval a 27).trans (hr 27 (by decide))
            go_simp
            go_at_call 58
            refine (W0.out _).mono ?_
            rintro e u ⟨rfl, hu⟩
            exact hK _ _ ⟨cell_later hu s0, cell_later hu s1⟩ ⟨hB.trans (hu.mono hBs), fun _ => rfl, g, q, fun h => ⟨(j5 h).1, (j5 h).2.1.below hu (j5 h).2.1.lt, (j5 h).2.2⟩, fun h => ⟨(j6 h).1, (j6 h).2.1.below hu (j6 h).2.1.lt, (j6 h).2.2⟩, jd⟩
          · obtain rfl := Option.some.inj ho
            have e30 : a.tmps[30]?.getD undef = .int .i64 C := (get_eval a 30).trans (hr 30 (by decide))
            go_simp
            go_at_call 36
            refine (zeros_any C hC8 _).mono ?_
            rintro e u ⟨g', rfl, hg', hz', hu⟩
            exact hK _ _ ⟨cell_later hu s0, cell_later hu s1⟩ ⟨hB.trans (hu.mono hBs), j2, g', q, fun _ => ⟨rfl, hz', by omega⟩, fun h => ⟨(j6 h).1, (j6 h).2.1.below hu (j6 h).2.1.lt, (j6 h).2.2⟩, fun _ h => by have := (j6 h).2.1.lt; omega⟩
          · obtain rfl := Option.some.inj ho
            go_simp
            have hu : Below w'.heap.size w' (w'.alloc (.cells #[.int .i64 0, .int .i64 0] 31)) := (Below.refl _ _).alloc (Nat.le_refl _) _
            exact hK _ _ ⟨cell_later hu s0, cell_later hu s1⟩ ⟨hB.trans (hu.mono hBs), j2, g, w'.heap.size, fun h => ⟨(j5 h).1, (j5 h).2.1.below hu (j5 h).2.1.lt, (j5 h).2.2⟩, fun _ => ⟨rfl, Blk.new w' [.int .i64 0, .int .i64 0] 31, hBs⟩, fun h _ => by have := (j5 h).2.1.lt; omega⟩
        · intro bb v w' hall hJ hS
          obtain ⟨hB, j2, g, q, j5, j6, jd⟩ := hJ
          have v2 := j2 (hall 2 (by decide))
          obtain ⟨v5, b5, l5⟩ := j5 (hall 5 (by decide))
          obtain ⟨v6, b6, l6⟩ := j6 (hall 6 (by decide))
          have nqg := jd (hall 5 (by decide)) (hall 6 (by decide))
          have LA := laid_setRow (vs := FrC z0) b6
          have R := Lib.hid (show ∃ V S : Nat, Value.pointer (some ⟨q, 0, none⟩) = .pointer (some ⟨V, 0, none⟩) ∧ Value.slice (some ⟨g, 0, none⟩) C C = .slice (some ⟨S, 0, none⟩) C C ∧ w1.heap.size ≤ V ∧ w1.heap.size ≤ S ∧ V ≠ S ∧ Blk (w'.setRow q (FrC z0).toArray) V 31 (FrC z0) ∧ FBlk (w'.setRow q (FrC z0).toArray) S (List.replicate C 0) [] ∧ Below w1.heap.size w1 (w'.setRow q (FrC z0).toArray) from ⟨q, g, rfl, rfl, l6, l5, nqg, LA.blk, b5.chg LA.chg (fun e => nqg e.symm), hB.trans (LA.chg.below (fun j hj e => by omega) hB.size)⟩)
          have BB := Lib.hid b6
          simp only [putP, v2, v5, v6]
          clear hB j2 j5 j6 jd v2 v5 v6 b5 b6 l5 l6 LA hS hall ok nqg
          go_frame
          refine hd_done (by kernel_rfl) ?_
          simp only [List.drop_succ_cons, List.drop_zero]
          refine wpList_store_row rfl 31 _ _ rfl q (FrC z0).toArray rfl rfl 31 #[.int .i64 0, .int .i64 0] BB.out.heap (by kernel_rfl) (by simp) (by simp [Value.oneCell']) ?_
          go_wp2_with fail
          go_meet
          exact R.out
    case rest =>
      obtain ⟨V, S, rfl, rfl, lV, lS, nVS, bV, bS, hB⟩ := hcut
      obtain ⟨w3, hw3⟩ : ∃ w3 : World, w3 = wc := ⟨_, rfl⟩
      rw [← hw3] at bV bS hB ⊢
      clear hw3
      have B3 := Lib.hid (B1.out.trans (hB.mono B1.out.size))
      have M3 := Lib.hid (M1.out.below hB M1.out.lt)
      have T3 := Lib.hid (T1.out.below hB T1.out.lt)
      have V3 := Lib.hid (show Blk w3 V 31 (FrC (valAt rows c0 (l.map toR) 0)) by rw [show valAt rows c0 (l.map toR) 0 = z0 by rw [HZ0.out]; rfl]; exact bV)
      have S3 := Lib.hid bS
      have LV := Lib.hid (show w.heap.size + 1 < V ∧ w.heap.size + 1 < S ∧ V ≠ S from ⟨by have := T1.out.lt; omega, by have := T1.out.lt; omega, nVS⟩)
      clear lV lS nVS bV bS hB m0 m3
      have m1 := M3.out.cell (i := 1) rfl
      go_wp2
      clear m1
      go_loopw [35] (fun i wr => ∃ (k : Nat) (ss : List Rat), k ≤ rn ∧ i = .int .i64 k ∧ FBlk wr S ss [] ∧ ss.length = C ∧ (∀ c : Nat, c < C → gR ss c = colAt rows (l.map toR) c k) ∧ Blk wr V 31 (FrC (valAt rows c0 (l.map toR) k)) ∧ Chg (fun x => x = V ∨ x = S) w3 wr) (fun i _ => rn - (intOf i).toNat)
      case atStart => exact ⟨0, List.replicate C 0, Nat.zero_le _, rfl, S3.out, by simp, fun c hc => by unfold gR colAt; rw [List.getD_eq_getElem?_getD, List.getElem?_replicate, if_pos hc]; rfl, V3.out, Chg.refl _⟩
      case round =>
        obtain ⟨k, ss, hk, rfl, hfb, hsl, hsv, hbv, hc⟩ := hrel
        obtain ⟨wo, rfl⟩ : ∃ wo : World, wo = wr := ⟨_, rfl⟩
        have FS := Lib.hid hfb; have SL := Lib.hid hsl; have SV := Lib.hid hsv; have VB := Lib.hid hbv; have SC := Lib.hid hc
        have BR := Lib.hid (show Below w.heap.size w wo from B3.out.trans (SC.out.below (fun x hx e => by have := LV.out; omega) B3.out.size))
        clear hfb hsl hsv hbv hc
        obtain ⟨d, hd⟩ : ∃ d, d = valAt rows c0 (l.map toR) k := ⟨_, rfl⟩
        rw [← hd] at VB
        have HD := Lib.hid hd
        clear hd
        by_cases hlt : k < rn
        · obtain ⟨⟨tm, x⟩, hx⟩ : ∃ t, rows[k]? = some t := ⟨_, List.getElem?_eq_getElem (by have := HRL.out; omega)⟩
          obtain ⟨b, o, rfl, kb, lb, ⟨ta, tn, tc, t0w, htm⟩, t1w⟩ := HR.out.row k (tm, x) hx
          dsimp only at t0w t1w
          have t0 := (BR.out.cell (p := ⟨b, o + k * 2, none⟩) lb).trans t0w
          have t1 := (BR.out.cell (p := ⟨b, o + k * 2 + 1, none⟩) lb).trans t1w
          clear t0w t1w
          obtain ⟨tok, mx0, mx1⟩ := small_rows HS.out (tm, x) (List.mem_of_getElem? hx)
          dsimp only at tok mx0 mx1
          have hkn : k < n := by have := HN.out; omega
          obtain ⟨b1, o1, y, rfl, hy, y0w, y1w, lb1⟩ := Frs.get HF.out HX.out (i := k) hkn
          have YW := Lib.hid (show w.cell? ⟨b1, o1 + k * 2, none⟩ = some (.int .i64 y.num) ∧ w.cell? ⟨b1, o1 + k * 2 + 1, none⟩ = some (.int .i64 (y.den : Int)) ∧ b1 < w.heap.size from ⟨y0w, y1w, lb1⟩)
          have y0 := (BR.out.cell (p := ⟨b1, o1 + k * 2, none⟩) lb1).trans y0w
          have y1 := (BR.out.cell (p := ⟨b1, o1 + k * 2 + 1, none⟩) lb1).trans y1w
          have lb1 : b1 < wo.heap.size := Nat.lt_of_lt_of_le lb1 BR.out.size
          clear y0w y1w
          obtain ⟨m, hm⟩ : ∃ m, m = (x : Rat) * y := ⟨_, rfl⟩
          have smy : Sm 25200 y := by rw [hy]; exact HF.out.sm k
          have SMY := Lib.hid smy
          have smm : Sm (50 * 25200) m := by rw [hm]; exact smy.mul mx0 mx1
          have smd := valAt_sm HS.out HF.out k
          have smd1 := valAt_sm HS.out HF.out (k + 1)
          obtain ⟨s, hs⟩ : ∃ s, s = d + m := ⟨_, rfl⟩
          have HNX := Lib.hid (show valAt rows c0 (l.map toR) (k + 1) = s by rw [hs, hm, HD.out, hy]; conv => lhs; unfold valAt; rw [rowD_of hx])
          have HCX := Lib.hid (show ∀ c : Nat, colAt rows (l.map toR) c (k + 1) = colAt rows (l.map toR) c k + (coefF tm c : Rat) * y from fun c => by rw [hy]; conv => lhs; unfold colAt; rw [rowD_of hx])
          have MUL := Lib.hid (smul (x : Rat) y ((Sm.int (C := 50) mx0 mx1).fit (by decide)) (smy.fit (by decide)) (by rw [← hm]; exact smm.fit (by decide)))
          rw [← hm] at MUL
          have ADD := Lib.hid (sadd d m (by rw [HD.out]; exact smd.fit (by omega)) (smm.fit (by decide)) (by rw [← hs, ← HNX.out]; exact smd1.fit (by omega)))
          rw [← hs] at ADD
          have TOK := Lib.hid tok
          have hk1 : (k : Int) < (rn : Int) := by omega
          have hk2 : (k : Int) < (n : Int) := by omega
          have htn6 : tn ≤ 6 := by have h : tm.length = tn := htm.hlen; have := terms_len tok HS.out.1; omega
          have HTL := Lib.hid (show tm.length = tn from htm.hlen)
          have HTM := Lib.hid htm
          clear hx hy hm smy smm smd smd1 tok mx0 mx1 kb hs htm
          obtain ⟨w4, hw4⟩ : ∃ w4, w4 = wo.alloc (.cells #[.slice ta tn tc, .int .i64 x] 50) := ⟨_, rfl⟩
          have B4 := Lib.hid (show Below wo.heap.size wo w4 by rw [hw4]; exact (Below.refl _ _).alloc (Nat.le_refl _) _)
          have X4 := Lib.hid (show Blk w4 wo.heap.size 50 [.slice ta tn tc, .int .i64 x] by rw [hw4]; exact Blk.new wo _ _)
          have HW4 := Lib.hid hw4
          clear hw4
          go_upto_region 7 with fail
          rw [← HW4.out]
          obtain ⟨Z, hZ⟩ : ∃ Z, Z = wo.heap.size := ⟨_, rfl⟩
          have LZ := Lib.hid (show Z ≠ V ∧ Z ≠ S from ⟨by have := VB.out.lt; omega, by have := FS.out.lt; omega⟩)
          have HZ := Lib.hid hZ
          rw [← hZ] at X4 ⊢
          clear hZ t0 t1
          have x0 := (B4.out.cell (p := ⟨b1, o1 + k * 2, none⟩) lb1).trans y0
          have x1 := (B4.out.cell (p := ⟨b1, o1 + k * 2 + 1, none⟩) lb1).trans y1
          have V4 := Lib.hid (VB.out.below B4.out VB.out.lt)
          have F4 := Lib.hid (FS.out.below B4.out FS.out.lt)
          have C4 := Lib.hid (SC.out.tr B4.out)
          have z1 := X4.out.cell (i := 1) rfl
          have s0 := V4.out.cell (i := 0) rfl; have s1 := V4.out.cell (i := 1) rfl
          clear y0 y1
          refine hr_start 10 (fun w' => w'.cell? ⟨V, 0, none⟩ = some (.int .i64 d.num) ∧ w'.cell? ⟨V, 1, none⟩ = some (.int .i64 (d.den : Int)) ∧ w'.cell? ⟨Z, 1, none⟩ = some (.int .i64 x) ∧ w'.cell? ⟨b1, o1 + k * 2, none⟩ = some (.int .i64 y.num) ∧ w'.cell? ⟨b1, o1 + k * 2 + 1, none⟩ = some (.int .i64 (y.den : Int))) (by kernel_rfl) (by kernel_rfl) (by refine ⟨s0, s1, z1, x0, x1⟩) (fun ok => ?_)
          refine hr_take (i := 0) (v := ?_) ok rfl (by rfl) (by kernel_rfl) (by kernel_rfl) (by kernel_rfl) (by kernel_rfl) (fun _ _ _ h => h) (Or.inl ⟨by kernel_rfl, ?_⟩) ?_
          rotate_left
          · (intro w hSw; (try dsimp only at hSw); (try go_split_ands); go_simp; (try (with_reducible rfl)))
          go_frame
          refine hr_take (i := 1) (v := ?_) ok rfl (by rfl) (by kernel_rfl) (by kernel_rfl) (by kernel_rfl) (by kernel_rfl) (fun _ _ _ h => h) (Or.inl ⟨by kernel_rfl, ?_⟩) ?_
          rotate_left
          · (intro w hSw; (try dsimp only at hSw); (try go_split_ands); go_simp; (try (with_reducible rfl)))
          go_frame
          refine hr_take (i := 2) (v := ?_) ok rfl (by rfl) (by kernel_rfl) (by kernel_rfl) (by kernel_rfl) (by kernel_rfl) (fun _ _ _ h => h) (Or.inl ⟨by kernel_rfl, ?_⟩) ?_
          rotate_left
          · (intro w hSw; (try dsimp only at hSw); (try go_split_ands); go_simp; (try (with_reducible rfl)))
          go_frame
          refine hr_take (i := 4) (v := ?_) ok rfl (by rfl) (by kernel_rfl) (by kernel_rfl) (by kernel_rfl) (by kernel_rfl) (fun _ _ _ h => h) (Or.inl ⟨by kernel_rfl, ?_⟩) ?_
          rotate_left
          · (intro w hSw; (try dsimp only at hSw); (try go_split_ands); go_simp; (try (with_reducible rfl)))
          go_frame
          refine hr_take (i := 5) (v := ?_) ok rfl (by rfl) (by kernel_rfl) (by kernel_rfl) (by kernel_rfl) (by kernel_rfl) (fun _ _ _ h => h) (Or.inl ⟨by kernel_rfl, ?_⟩) ?_
          rotate_left
          · (intro w hSw; (try dsimp only at hSw); (try go_split_ands); go_simp; (try (with_reducible rfl)))
          go_frame
          refine hr_take (i := 6) (v := ?_) ok rfl (by rfl) (by kernel_rfl) (by kernel_rfl) (by kernel_rfl) (by kernel_rfl) (fun _ _ _ h => h) (Or.inl ⟨by kernel_rfl, ?_⟩) ?_
          rotate_left
          · (intro w hSw; (try dsimp only at hSw); (try go_split_ands); go_simp; (try (with_reducible rfl)))
          go_frame
          refine hr_take (i := 7) (v := ?_) ok rfl (by rfl) (by kernel_rfl) (by kernel_rfl) (by kernel_rfl) (by kernel_rfl) (fun _ _ _ h => h) (Or.inl ⟨by kernel_rfl, ?_⟩) ?_
          rotate_left
          · (intro w hSw; (try dsimp only at hSw); (try go_split_ands); go_simp; (try (with_reducible rfl)))
          go_frame
          refine hr_only (c := 3) rfl (by kernel_rfl) (fun K hK => ?_)
          go_simp
          refine (whole_any x _).mono ?_
          rintro e' w' ⟨rfl, hb⟩
          have VB1 := Lib.hid (V4.out.drew.below hb V4.out.drew.lt)
          have BB1 := Lib.hid (show Below w4.heap.size w4 w' from (Below.refl _ _).drew.trans hb)
          have s0 := cell_later hb s0; have s1 := cell_later hb s1; have z1 := cell_later hb z1; have x0 := cell_later hb x0; have x1 := cell_later hb x1
          (try simp only [])
          refine hK _ _ (fun _ => by refine ⟨?_, ?_, ?_, ?_, ?_⟩ <;> (first | exact s0 | exact s1 | exact z1 | exact x0 | exact x1)) ?_
          clear hK K
          (try go_frame)

          clear hb
          refine hr_only (c := 8) rfl (by kernel_rfl) (fun K hK => ?_)
          go_simp
          refine (MUL.out _).mono ?_
          rintro e' w'' ⟨rfl, hb⟩
          have VB2 := Lib.hid (VB1.out.below hb VB1.out.lt)
          have BB2 := Lib.hid (BB1.out.trans (hb.mono BB1.out.size))
          have s0 := cell_later hb s0; have s1 := cell_later hb s1; have z1 := cell_later hb z1; have x0 := cell_later hb x0; have x1 := cell_later hb x1
          (try simp only [])
          refine hK _ _ (fun _ => by refine ⟨?_, ?_, ?_, ?_, ?_⟩ <;> (first | exact s0 | exact s1 | exact z1 | exact x0 | exact x1)) ?_
          clear hK K
          (try go_frame)

          clear hb VB1 BB1
          refine hr_only (c := 9) rfl (by kernel_rfl) (fun K hK => ?_)
          go_simp
          refine (ADD.out _).mono ?_
          rintro e' w3' ⟨rfl, hb⟩
          have VB3 := Lib.hid (VB2.out.below hb VB2.out.lt)
          have BB3 := Lib.hid (BB2.out.trans (hb.mono BB2.out.size))
          (try simp only [])
          refine hK _ _ (fun _ => by refine ⟨?_, ?_, ?_, ?_, ?_⟩ <;> (first | exact cell_later hb s0 | exact cell_later hb s1 | exact cell_later hb z1 | exact cell_later hb x0 | exact cell_later hb x1)) ?_
          clear hK K
          (try go_frame)

          clear s0 s1 z1 x0 x1 hb VB2 BB2
          have c1 := VB3.out.cell (i := 0) rfl
          have c2 := VB3.out.cell (i := 1) rfl
          have cf := VB3.out.free
          refine hr_only (c := 10) rfl (by kernel_rfl) (fun K hK => ?_)
          go_simp
          (try simp only [])
          refine hK _ _ (pend_no (by kernel_rfl)) ?_
          clear hK K
          (try go_frame)
          refine hr_end (by kernel_rfl) ?_
          obtain ⟨w5, hw5⟩ : ∃ w5, w5 = (w3'.setCell ⟨V, 0, none⟩ (.int .i64 s.num)).setCell ⟨V, 1, none⟩ (.int .i64 (s.den : Int)) := ⟨_, rfl⟩
          have V5 := Lib.hid (show Blk w5 V 31 (FrC (valAt rows c0 (l.map toR) (k + 1))) by
            rw [HNX.out, hw5]
            exact ((VB3.out.set 0 _).set 1 _).at rfl)
          have C5 := Lib.hid (show Chg (fun x => x = V) w4 w5 by rw [hw5]; exact Chg.setCell (M := fun x => x = V) (p := ⟨V, 1, none⟩) (Chg.setCell (M := fun x => x = V) (p := ⟨V, 0, none⟩) (Chg.of_below BB3.out) (fun _ => rfl) _) (fun _ => rfl) _)
          rw [← hw5]
          clear hw5 c1 c2 cf VB3 BB3 V4
          have X5 := Lib.hid (X4.out.chg C5.out LZ.out.1)
          have F5 := Lib.hid (F4.out.chg C5.out (fun e => LV.out.2.2 e.symm))
          have CW5 := Lib.hid (show Chg (fun x => x = V ∨ x = S) w3 w5 from C4.out.trans C5.out (fun x _ e => .inl e))
          have BW5 := Lib.hid (show Below wo.heap.size wo w5 ∨ True from .inr trivial)
          have z0' := X5.out.cell (i := 0) rfl
          clear BW5 C4 F4 X4
          go_wp2
          clear z0'
          go_loopw [53] (fun i wr => ∃ (j : Nat) (ss' : List Rat), j ≤ tn ∧ i = .int .i64 j ∧ FBlk wr S ss' [] ∧ SumJ C ss' (fun c => colAt rows (l.map toR) c k) tm j y ∧ Chg (fun x => x = S) w5 wr) (fun i _ => tn - (intOf i).toNat)
          case atStart => exact ⟨0, ss, Nat.zero_le _, rfl, F5.out, ⟨SL.out, fun c hc => by rw [SV.out c hc]; show _ = _ + ((0 : Int) : Rat) * y; simp only [Rat.intCast_zero]; grind⟩, Chg.refl _⟩
          case round =>
            obtain ⟨j, ss', hj, rfl, hfb, hsj, hc⟩ := hrel
            have FJ := Lib.hid hfb; have SJ := Lib.hid hsj; have CJ := Lib.hid hc
            clear hfb hsj hc
            have CWJ := Lib.hid (show Chg (fun x => x = V ∨ x = S) w3 wr from CW5.out.trans CJ.out (fun x _ e => .inr e))
            have BRJ := Lib.hid (show Below w.heap.size w wr from B3.out.trans (CWJ.out.below (fun x hx e => by have := LV.out; omega) B3.out.size))
            have XJ := Lib.hid (X5.out.chg CJ.out LZ.out.2)
            have VJ := Lib.hid (V5.out.chg CJ.out LV.out.2.2)
            by_cases hltj : j < tn
            · obtain ⟨bt, ot, ⟨of_, co⟩, rfl, ht, t0, t1, _, lbt⟩ := RTm.get (HTM.out.keeps RTm.stays (fun y _ hl => BRJ.out.block y hl) BRJ.out.size) hltj
              dsimp only at t0 t1
              obtain ⟨ho0, ho1, _, _, hc0, hc1⟩ := TOK.out j _ (List.getElem?_eq_some_iff.1 ht).1 ht
              dsimp only at ho0 ho1 hc0 hc1
              obtain ⟨i, rfl⟩ : ∃ i : Nat, of_ = (i : Int) := ⟨of_.toNat, by omega⟩
              have hiC : i < C := by omega
              obtain ⟨x, hgx⟩ : ∃ x, ss'[i]? = some x := ⟨_, List.getElem?_eq_getElem (by rw [SJ.out.len]; exact hiC)⟩
              have hgr : gR ss' i = x := gR_of hgx
              have y0 := (BRJ.out.cell (p := ⟨b1, o1 + k * 2, none⟩) YW.out.2.2).trans YW.out.1
              have y1 := (BRJ.out.cell (p := ⟨b1, o1 + k * 2 + 1, none⟩) YW.out.2.2).trans YW.out.2.1
              have smb := colAt_sm HS.out HF.out i k
              obtain ⟨cn0, cn1⟩ := coef_take_nine (m := 9) (by decide) TOK.out j i
              obtain ⟨cm0, cm1⟩ := coef_take_nine (m := 9) (by decide) TOK.out (j + 1) i
              have smx : Sm (226800 * k + 9 * 25200) x := by rw [← hgr, SJ.out.val i hiC]; exact smb.add (SMY.out.mul cn0 cn1)
              obtain ⟨m, hm⟩ : ∃ m, m = (co : Rat) * y := ⟨_, rfl⟩
              obtain ⟨s, hs⟩ : ∃ s, s = x + m := ⟨_, rfl⟩
              have SJN := Lib.hid (show SumJ C (ss'.set i s) (fun c => colAt rows (l.map toR) c k) tm (j + 1) y by rw [hs, hm, ← hgr]; exact SJ.out.step TOK.out ht hiC)
              have smm : Sm (9 * 25200) m := by rw [hm]; exact SMY.out.mul hc0 hc1
              have sms : Sm (226800 * k + 9 * 25200 + 9 * 25200) s := by rw [hs]; exact smx.add smm
              have MULJ := Lib.hid (smul (co : Rat) y ((Sm.int (C := 9) hc0 hc1).fit (by decide)) (SMY.out.fit (by decide)) (by rw [← hm]; exact smm.fit (by decide)))
              rw [← hm] at MULJ
              have ADDJ := Lib.hid (sadd x m (smx.fit (by omega)) (smm.fit (by decide)) (by rw [← hs]; exact sms.fit (by omega)))
              rw [← hs] at ADDJ
              have HGX := Lib.hid hgx; have HSL := Lib.hid SJ.out.len
              have hjt : (j : Int) < (tn : Int) := by omega
              have hi0 : 0 ≤ (i : Int) := by omega
              have hiC2 : (i : Int) < (C : Int) := by omega
              have hkn2 : (k : Int) < (n : Int) := by have := HN.out; omega
              clear ht hgr hm hs smx smm sms smb cn0 cn1 cm0 cm1 ho0 ho1 hgx
              obtain ⟨w6, hw6⟩ : ∃ w6, w6 = wr.alloc (.cells #[.int .i64 i, .int .i64 co] 56) := ⟨_, rfl⟩
              have B6 := Lib.hid (show Below wr.heap.size wr w6 by rw [hw6]; exact (Below.refl _ _).alloc (Nat.le_refl _) _)
              have X6 := Lib.hid (show Blk w6 wr.heap.size 56 [.int .i64 i, .int .i64 co] by rw [hw6]; exact Blk.new wr _ _)
              have HW6 := Lib.hid hw6
              clear hw6
              go_upto_region 11 with fail
              rw [← HW6.out]
              obtain ⟨Y, hY⟩ : ∃ Y, Y = wr.heap.size := ⟨_, rfl⟩
              rw [← hY] at X6 ⊢
              have lbw : b1 < wr.heap.size := Nat.lt_of_lt_of_le YW.out.2.2 BRJ.out.size
              have x0 := (B6.out.cell (p := ⟨b1, o1 + k * 2, none⟩) lbw).trans y0
              have x1 := (B6.out.cell (p := ⟨b1, o1 + k * 2 + 1, none⟩) lbw).trans y1
              have F6 := Lib.hid (FJ.out.below B6.out FJ.out.lt)
              have C6 := Lib.hid (CJ.out.tr B6.out)
              have e0 := X6.out.cell (i := 0) rfl; have e1 := X6.out.cell (i := 1) rfl
              obtain ⟨g0, g1⟩ := FBlk.get F6.out HGX.out
              clear hY t0 t1 y0 y1 lbw
              refine hr_start 18 (fun w' => w'.cell? ⟨S, i * 2, none⟩ = some (.int .i64 x.num) ∧ w'.cell? ⟨S, i * 2 + 1, none⟩ = some (.int .i64 (x.den : Int)) ∧ w'.cell? ⟨Y, 0, none⟩ = some (.int .i64 i) ∧ w'.cell? ⟨Y, 1, none⟩ = some (.int .i64 co) ∧ w'.cell? ⟨b1, o1 + k * 2, none⟩ = some (.int .i64 y.num) ∧ w'.cell? ⟨b1, o1 + k * 2 + 1, none⟩ = some (.int .i64 (y.den : Int))) (by kernel_rfl) (by kernel_rfl) (by refine ⟨g0, g1, e0, e1, x0, x1⟩) (fun ok => ?_)
              refine hr_take (i := 0) (v := ?_) ok rfl (by rfl) (by kernel_rfl) (by kernel_rfl) (by kernel_rfl) (by kernel_rfl) (fun _ _ _ h => h) (Or.inl ⟨by kernel_rfl, ?_⟩) ?_
              rotate_left
              · (intro w hSw; (try dsimp only at hSw); (try go_split_ands); go_simp; (try (with_reducible rfl)))
              go_frame
              refine hr_take (i := 1) (v := ?_) ok rfl (by rfl) (by kernel_rfl) (by kernel_rfl) (by kernel_rfl) (by kernel_rfl) (fun _ _ _ h => h) (Or.inl ⟨by kernel_rfl, ?_⟩) ?_
              rotate_left
              · (intro w hSw; (try dsimp only at hSw); (try go_split_ands); go_simp; (try (with_reducible rfl)))
              go_frame
              refine hr_take (i := 2) (v := ?_) ok rfl (by rfl) (by kernel_rfl) (by kernel_rfl) (by kernel_rfl) (by kernel_rfl) (fun _ _ _ h => h) (Or.inl ⟨by kernel_rfl, ?_⟩) ?_
              rotate_left
              · (intro w hSw; (try dsimp only at hSw); (try go_split_ands); go_simp; (try (with_reducible rfl)))
              go_frame
              refine hr_take (i := 3) (v := ?_) ok rfl (by rfl) (by kernel_rfl) (by kernel_rfl) (by kernel_rfl) (by kernel_rfl) (fun _ _ _ h => h) (Or.inl ⟨by kernel_rfl, ?_⟩) ?_
              rotate_left
              · (intro w hSw; (try dsimp only at hSw); (try go_split_ands); go_simp; (try (with_reducible rfl)))
              go_frame
              refine hr_take (i := 4) (v := ?_) ok rfl (by rfl) (by kernel_rfl) (by kernel_rfl) (by kernel_rfl) (by kernel_rfl) (fun _ _ _ h => h) (Or.inl ⟨by kernel_rfl, ?_⟩) ?_
              rotate_left
              · (intro w hSw; (try dsimp only at hSw); (try go_split_ands); go_simp; (try (with_reducible rfl)))
              go_frame
              refine hr_take (i := 5) (v := ?_) ok rfl (by rfl) (by kernel_rfl) (by kernel_rfl) (by kernel_rfl) (by kernel_rfl) (fun _ _ _ h => h) (Or.inl ⟨by kernel_rfl, ?_⟩) ?_
              rotate_left
              · (intro w hSw; (try dsimp only at hSw); (try go_split_ands); go_simp; (try (with_reducible rfl)))
              go_frame
              refine hr_take (i := 6) (v := ?_) ok rfl (by rfl) (by kernel_rfl) (by kernel_rfl) (by kernel_rfl) (by kernel_rfl) (fun _ _ _ h => h) (Or.inl ⟨by kernel_rfl, ?_⟩) ?_
              rotate_left
              · (intro w hSw; (try dsimp only at hSw); (try go_split_ands); go_simp; (try (with_reducible rfl)))
              go_frame
              refine hr_take (i := 7) (v := ?_) ok rfl (by rfl) (by kernel_rfl) (by kernel_rfl) (by kernel_rfl) (by kernel_rfl) (fun _ _ _ h => h) (Or.inl ⟨by kernel_rfl, ?_⟩) ?_
              rotate_left
              · (intro w hSw; (try dsimp only at hSw); (try go_split_ands); go_simp; (try (with_reducible rfl)))
              go_frame
              refine hr_take (i := 8) (v := ?_) ok rfl (by rfl) (by kernel_rfl) (by kernel_rfl) (by kernel_rfl) (by kernel_rfl) (fun _ _ _ h => h) (Or.inl ⟨by kernel_rfl, ?_⟩) ?_
              rotate_left
              · (intro w hSw; (try dsimp only at hSw); (try go_split_ands); go_simp; (try (with_reducible rfl)))
              go_frame
              refine hr_take (i := 9) (v := ?_) ok rfl (by rfl) (by kernel_rfl) (by kernel_rfl) (by kernel_rfl) (by kernel_rfl) (fun _ _ _ h => h) (Or.inl ⟨by kernel_rfl, ?_⟩) ?_
              rotate_left
              · (intro w hSw; (try dsimp only at hSw); (try go_split_ands); go_simp; (try (with_reducible rfl)))
              go_frame
              refine hr_take (i := 11) (v := ?_) ok rfl (by rfl) (by kernel_rfl) (by kernel_rfl) (by kernel_rfl) (by kernel_rfl) (fun _ _ _ h => h) (Or.inl ⟨by kernel_rfl, ?_⟩) ?_
              rotate_left
              · (intro w hSw; (try dsimp only at hSw); (try go_split_ands); go_simp; (try (with_reducible rfl)))
              go_frame
              refine hr_take (i := 12) (v := ?_) ok rfl (by rfl) (by kernel_rfl) (by kernel_rfl) (by kernel_rfl) (by kernel_rfl) (fun _ _ _ h => h) (Or.inl ⟨by kernel_rfl, ?_⟩) ?_
              rotate_left
              · (intro w hSw; (try dsimp only at hSw); (try go_split_ands); go_simp; (try (with_reducible rfl)))
              go_frame
              refine hr_take (i := 13) (v := ?_) ok rfl (by rfl) (by kernel_rfl) (by kernel_rfl) (by kernel_rfl) (by kernel_rfl) (fun _ _ _ h => h) (Or.inl ⟨by kernel_rfl, ?_⟩) ?_
              rotate_left
              · (intro w hSw; (try dsimp only at hSw); (try go_split_ands); go_simp; (try (with_reducible rfl)))
              go_frame
              refine hr_take (i := 14) (v := ?_) ok rfl (by rfl) (by kernel_rfl) (by kernel_rfl) (by kernel_rfl) (by kernel_rfl) (fun _ _ _ h => h) (Or.inl ⟨by kernel_rfl, ?_⟩) ?_
              rotate_left
              · (intro w hSw; (try dsimp only at hSw); (try go_split_ands); go_simp; (try (with_reducible rfl)))
              go_frame
              refine hr_only (c := 10) rfl (by kernel_rfl) (fun K hK => ?_)
              go_simp
              refine (whole_any co _).mono ?_
              rintro e' w' ⟨rfl, hb⟩
              have FB1 := Lib.hid (F6.out.drew.below hb F6.out.drew.lt)
              have CH1 := Lib.hid (show Chg (fun x => x = S) w5 w' from C6.out.drew.tr hb)
              have g0 := cell_later hb g0; have g1 := cell_later hb g1; have e0 := cell_later hb e0; have e1 := cell_later hb e1; have x0 := cell_later hb x0; have x1 := cell_later hb x1
              (try simp only [])
              refine hK _ _ (fun _ => by refine ⟨?_, ?_, ?_, ?_, ?_, ?_⟩ <;> (first | exact g0 | exact g1 | exact e0 | exact e1 | exact x0 | exact x1)) ?_
              clear hK K
              (try go_frame)

              clear hb
              refine hr_only (c := 15) rfl (by kernel_rfl) (fun K hK => ?_)
              go_simp
              refine (MULJ.out _).mono ?_
              rintro e' w'' ⟨rfl, hb⟩
              have FB2 := Lib.hid (FB1.out.below hb FB1.out.lt)
              have CH2 := Lib.hid (CH1.out.tr hb)
              have g0 := cell_later hb g0; have g1 := cell_later hb g1; have e0 := cell_later hb e0; have e1 := cell_later hb e1; have x0 := cell_later hb x0; have x1 := cell_later hb x1
              (try simp only [])
              refine hK _ _ (fun _ => by refine ⟨?_, ?_, ?_, ?_, ?_, ?_⟩ <;> (first | exact g0 | exact g1 | exact e0 | exact e1 | exact x0 | exact x1)) ?_
              clear hK K
              (try go_frame)

              clear hb FB1 CH1
              refine hr_only (c := 16) rfl (by kernel_rfl) (fun K hK => ?_)
              go_simp
              refine (ADDJ.out _).mono ?_
              rintro e' w3' ⟨rfl, hb⟩
              have FB3 := Lib.hid (FB2.out.below hb FB2.out.lt)
              have CH3 := Lib.hid (CH2.out.tr hb)
              (try simp only [])
              refine hK _ _ (fun _ => by refine ⟨?_, ?_, ?_, ?_, ?_, ?_⟩ <;> (first | exact cell_later hb g0 | exact cell_later hb g1 | exact cell_later hb e0 | exact cell_later hb e1 | exact cell_later hb x0 | exact cell_later hb x1)) ?_
              clear hK K
              (try go_frame)
              refine hr_take (i := 17) (v := ?_) ok rfl (by rfl) (by kernel_rfl) (by kernel_rfl) (by kernel_rfl) (by kernel_rfl) (fun _ _ _ h => h) (Or.inl ⟨by kernel_rfl, ?_⟩) ?_
              rotate_left
              · (intro w hSw; (try dsimp only at hSw); (try go_split_ands); go_simp; (try (with_reducible rfl)))
              go_frame
              clear g0 g1 e0 e1 x0 x1 hb FB2 CH2
              obtain ⟨c1, c2⟩ := FBlk.get FB3.out HGX.out
              have cf := FB3.out.free
              refine hr_only (c := 18) rfl (by kernel_rfl) (fun K hK => ?_)
              go_simp
              (try simp only [])
              refine hK _ _ (pend_no (by kernel_rfl)) ?_
              clear hK K
              (try go_frame)
              refine hr_end (by kernel_rfl) ?_
              have PS := Lib.hid (show FBlk ((w3'.setCell ⟨S, i * 2, none⟩ (.int .i64 s.num)).setCell ⟨S, i * 2 + 1, none⟩ (.int .i64 (s.den : Int))) S (ss'.set i s) [] from FBlk.put FB3.out (by rw [HSL.out]; omega) _)
              have PC := Lib.hid (chg_put (b := S) CH3.out (fun _ => rfl) i (.int .i64 s.num) (.int .i64 (s.den : Int)))
              clear c1 c2 cf FB3 CH3
              go_wp2
              go_roundw
              case rel => exact ⟨j + 1, _, by omega, by go_num, PS.out, SJN.out, PC.out⟩
              case measure => simp [intOf]; omega
            · obtain rfl : j = tn := by omega
              have NEW := Lib.hid (show ∀ c : Nat, c < C → gR ss' c = colAt rows (l.map toR) c (k + 1) from fun c hc => by
                rw [HCX.out c, SJ.out.val c hc, ← HTL.out, List.take_length])
              go_wp2
              go_roundw
              case rel => exact ⟨k + 1, ss', by omega, by go_num, FJ.out, SJ.out.len, NEW.out, VJ.out, CWJ.out⟩
              case measure => simp [intOf]; omega
        · obtain rfl : k = rn := by omega
          have HDD := Lib.hid (show d = valAt rows c0 (l.map toR) rows.length by rw [HD.out, HRL.out])
          have MO := Lib.hid (M3.out.chg SC.out (fun e => by have := LV.out; omega))
          have TO := Lib.hid (T3.out.chg SC.out (fun e => by have := LV.out; omega))
          have GOK := Lib.hid HS.out.2.2.2.1
          have HGL := Lib.hid HGO.out.hlen
          have hgn6 : gn ≤ 6 := by have h1 := HGO.out.hlen; have h2 := terms_len HS.out.2.2.2.1 HS.out.1; omega
          have hk6 : k ≤ 6 := hrn6
          have m2 := MO.out.cell (i := 2) rfl
          clear hk hlt
          go_wp2
          clear m2
          go_loopw [80] (fun i wr => ∃ (j : Nat) (ss' : List Rat), j ≤ gn ∧ i = .int .i64 j ∧ FBlk wr S ss' [] ∧ SumJ C ss' (fun c => colAt rows (l.map toR) c k) goal j (-1) ∧ Chg (fun x => x = S) wo wr) (fun i _ => gn - (intOf i).toNat)
          case atStart => exact ⟨0, ss, Nat.zero_le _, rfl, FS.out, ⟨SL.out, fun c hc => by rw [SV.out c hc]; show _ = _ + ((0 : Int) : Rat) * (-1); simp only [Rat.intCast_zero]; grind⟩, Chg.refl _⟩
          case round =>
            obtain ⟨j, ss', hj, rfl, hfb, hsj, hc⟩ := hrel
            have FJ := Lib.hid hfb; have SJ := Lib.hid hsj; have CJ := Lib.hid hc
            clear hfb hsj hc
            have BRJ := Lib.hid (show Below w.heap.size w wr from BR.out.trans (CJ.out.below (fun x hx e => by have := LV.out; omega) BR.out.size))
            by_cases hltj : j < gn
            · obtain ⟨bt, ot, ⟨of_, co⟩, rfl, ht, t0, t1, _, lbt⟩ := RTm.get (HGO.out.keeps RTm.stays (fun y _ hl => BRJ.out.block y hl) BRJ.out.size) hltj
              dsimp only at t0 t1
              obtain ⟨ho0, ho1, _, _, hc0, hc1⟩ := GOK.out j _ (List.getElem?_eq_some_iff.1 ht).1 ht
              dsimp only at ho0 ho1 hc0 hc1
              obtain ⟨i, rfl⟩ : ∃ i : Nat, of_ = (i : Int) := ⟨of_.toNat, by omega⟩
              have hiC : i < C := by omega
              obtain ⟨x, hgx⟩ : ∃ x, ss'[i]? = some x := ⟨_, List.getElem?_eq_getElem (by rw [SJ.out.len]; exact hiC)⟩
              have hgr : gR ss' i = x := gR_of hgx
              have smb := colAt_sm HS.out HF.out i k
              obtain ⟨cn0, cn1⟩ := coef_take_nine (m := 9) (by decide) GOK.out j i
              have sm1 : Sm 2520 (-1) := ⟨-2520, by rw [show ((-2520 : Int) : Rat) = -((2520 : Int) : Rat) from Rat.intCast_neg ..]; show 2520 * (-1) = -(2520 : Rat); grind, by decide, by decide⟩
              have smx : Sm (226800 * k + 9 * 2520) x := by rw [← hgr, SJ.out.val i hiC]; exact smb.add (sm1.mul cn0 cn1)
              obtain ⟨nc, hnc⟩ : ∃ nc, nc = -co := ⟨_, rfl⟩
              have wneg : IntKind.i64.wrap (-co) = nc := by rw [Go.IntWalk.i64_in _ ⟨by omega, by omega⟩, hnc]
              obtain ⟨m, hm⟩ : ∃ m, m = (nc : Rat) := ⟨_, rfl⟩
              obtain ⟨s, hs⟩ : ∃ s, s = x + m := ⟨_, rfl⟩
              have SJN := Lib.hid (show SumJ C (ss'.set i s) (fun c => colAt rows (l.map toR) c k) goal (j + 1) (-1) by
                have h := SJ.out.step GOK.out ht hiC
                rw [show gR ss' i + (co : Rat) * -1 = s by rw [hs, hm, hnc, hgr, Rat.intCast_neg]; grind] at h
                exact h)
              have smm : Sm (2520 * 9) m := by rw [hm]; exact Sm.int (by omega) (by omega)
              have sms : Sm (226800 * k + 9 * 2520 + 2520 * 9) s := by rw [hs]; exact smx.add smm
              have WN := Lib.hid (fun w => whole_any nc w)
              rw [← hm] at WN
              have ADDJ := Lib.hid (sadd x m (smx.fit (by omega)) (smm.fit (by decide)) (by rw [← hs]; exact sms.fit (by omega)))
              rw [← hs] at ADDJ
              have HGX := Lib.hid hgx; have HSL := Lib.hid SJ.out.len
              have hjt : (j : Int) < (gn : Int) := by omega
              have hi0 : 0 ≤ (i : Int) := by omega
              have hiC2 : (i : Int) < (C : Int) := by omega
              clear ht hgr hm hs smx smm sms smb cn0 cn1 ho0 ho1 hgx hnc sm1
              obtain ⟨w6, hw6⟩ : ∃ w6, w6 = wr.alloc (.cells #[.int .i64 i, .int .i64 co] 56) := ⟨_, rfl⟩
              have B6 := Lib.hid (show Below wr.heap.size wr w6 by rw [hw6]; exact (Below.refl _ _).alloc (Nat.le_refl _) _)
              have X6 := Lib.hid (show Blk w6 wr.heap.size 56 [.int .i64 i, .int .i64 co] by rw [hw6]; exact Blk.new wr _ _)
              have HW6 := Lib.hid hw6
              clear hw6
              go_upto_region 17 with fail
              rw [← HW6.out]
              obtain ⟨Y, hY⟩ : ∃ Y, Y = wr.heap.size := ⟨_, rfl⟩
              rw [← hY] at X6 ⊢
              have F6 := Lib.hid (FJ.out.below B6.out FJ.out.lt)
              have C6 := Lib.hid (CJ.out.tr B6.out)
              have e0 := X6.out.cell (i := 0) rfl; have e1 := X6.out.cell (i := 1) rfl
              obtain ⟨g0, g1⟩ := FBlk.get F6.out HGX.out
              clear hY t0 t1
              refine hr_start 14 (fun w' => w'.cell? ⟨S, i * 2, none⟩ = some (.int .i64 x.num) ∧ w'.cell? ⟨S, i * 2 + 1, none⟩ = some (.int .i64 (x.den : Int)) ∧ w'.cell? ⟨Y, 0, none⟩ = some (.int .i64 i) ∧ w'.cell? ⟨Y, 1, none⟩ = some (.int .i64 co)) (by kernel_rfl) (by kernel_rfl) (by refine ⟨g0, g1, e0, e1⟩) (fun ok => ?_)
              refine hr_take (i := 0) (v := ?_) ok rfl (by rfl) (by kernel_rfl) (by kernel_rfl) (by kernel_rfl) (by kernel_rfl) (fun _ _ _ h => h) (Or.inl ⟨by kernel_rfl, ?_⟩) ?_
              rotate_left
              · (intro w hSw; (try dsimp only at hSw); (try go_split_ands); go_simp; (try (with_reducible rfl)))
              go_frame
              refine hr_take (i := 1) (v := ?_) ok rfl (by rfl) (by kernel_rfl) (by kernel_rfl) (by kernel_rfl) (by kernel_rfl) (fun _ _ _ h => h) (Or.inl ⟨by kernel_rfl, ?_⟩) ?_
              rotate_left
              · (intro w hSw; (try dsimp only at hSw); (try go_split_ands); go_simp; (try (with_reducible rfl)))
              go_frame
              refine hr_take (i := 2) (v := ?_) ok rfl (by rfl) (by kernel_rfl) (by kernel_rfl) (by kernel_rfl) (by kernel_rfl) (fun _ _ _ h => h) (Or.inl ⟨by kernel_rfl, ?_⟩) ?_
              rotate_left
              · (intro w hSw; (try dsimp only at hSw); (try go_split_ands); go_simp; (try (with_reducible rfl)))
              go_frame
              refine hr_take (i := 3) (v := ?_) ok rfl (by rfl) (by kernel_rfl) (by kernel_rfl) (by kernel_rfl) (by kernel_rfl) (fun _ _ _ h => h) (Or.inl ⟨by kernel_rfl, ?_⟩) ?_
              rotate_left
              · (intro w hSw; (try dsimp only at hSw); (try go_split_ands); go_simp; (try (with_reducible rfl)))
              go_frame
              refine hr_take (i := 4) (v := ?_) ok rfl (by rfl) (by kernel_rfl) (by kernel_rfl) (by kernel_rfl) (by kernel_rfl) (fun _ _ _ h => h) (Or.inl ⟨by kernel_rfl, ?_⟩) ?_
              rotate_left
              · (intro w hSw; (try dsimp only at hSw); (try go_split_ands); go_simp; (try (with_reducible rfl)))
              go_frame
              refine hr_take (i := 5) (v := ?_) ok rfl (by rfl) (by kernel_rfl) (by kernel_rfl) (by kernel_rfl) (by kernel_rfl) (fun _ _ _ h => h) (Or.inl ⟨by kernel_rfl, ?_⟩) ?_
              rotate_left
              · (intro w hSw; (try dsimp only at hSw); (try go_split_ands); go_simp; (try (with_reducible rfl)))
              go_frame
              refine hr_take (i := 6) (v := ?_) ok rfl (by rfl) (by kernel_rfl) (by kernel_rfl) (by kernel_rfl) (by kernel_rfl) (fun _ _ _ h => h) (Or.inl ⟨by kernel_rfl, ?_⟩) ?_
              rotate_left
              · (intro w hSw; (try dsimp only at hSw); (try go_split_ands); go_simp; (try (with_reducible rfl)))
              go_frame
              refine hr_take (i := 7) (v := ?_) ok rfl (by rfl) (by kernel_rfl) (by kernel_rfl) (by kernel_rfl) (by kernel_rfl) (fun _ _ _ h => h) (Or.inl ⟨by kernel_rfl, ?_⟩) ?_
              rotate_left
              · (intro w hSw; (try dsimp only at hSw); (try go_split_ands); go_simp; (try (with_reducible rfl)))
              go_frame
              refine hr_take (i := 8) (v := ?_) ok rfl (by rfl) (by kernel_rfl) (by kernel_rfl) (by kernel_rfl) (by kernel_rfl) (fun _ _ _ h => h) (Or.inl ⟨by kernel_rfl, ?_⟩) ?_
              rotate_left
              · (intro w hSw; (try dsimp only at hSw); (try go_split_ands); go_simp; (try (with_reducible rfl)))
              go_frame
              refine hr_take (i := 9) (v := ?_) ok rfl (by rfl) (by kernel_rfl) (by kernel_rfl) (by kernel_rfl) (by kernel_rfl) (fun _ _ _ h => h) (Or.inl ⟨by kernel_rfl, ?_⟩) ?_
              rotate_left
              · (intro w hSw; (try dsimp only at hSw); (try go_split_ands); go_simp; (try (with_reducible rfl)))
              go_frame
              refine hr_take (i := 10) (v := ?_) ok rfl (by rfl) (by kernel_rfl) (by kernel_rfl) (by kernel_rfl) (by kernel_rfl) (fun _ _ _ h => h) (Or.inl ⟨by kernel_rfl, ?_⟩) ?_
              rotate_left
              · (intro w hSw; (try dsimp only at hSw); (try go_split_ands); go_simp; (try (with_reducible rfl)))
              go_frame
              refine hr_only (c := 11) rfl (by kernel_rfl) (fun K hK => ?_)
              go_simp
              refine (WN.out _).mono ?_
              rintro e' w' ⟨rfl, hb⟩
              have FB1 := Lib.hid (F6.out.drew.below hb F6.out.drew.lt)
              have CH1 := Lib.hid (show Chg (fun x => x = S) wo w' from C6.out.drew.tr hb)
              have g0 := cell_later hb g0; have g1 := cell_later hb g1; have e0 := cell_later hb e0; have e1 := cell_later hb e1
              (try simp only [])
              refine hK _ _ (fun _ => by refine ⟨?_, ?_, ?_, ?_⟩ <;> (first | exact g0 | exact g1 | exact e0 | exact e1)) ?_
              clear hK K
              (try go_frame)

              clear hb
              refine hr_only (c := 12) rfl (by kernel_rfl) (fun K hK => ?_)
              go_simp
              refine (ADDJ.out _).mono ?_
              rintro e' w3' ⟨rfl, hb⟩
              have FB3 := Lib.hid (FB1.out.below hb FB1.out.lt)
              have CH3 := Lib.hid (CH1.out.tr hb)
              (try simp only [])
              refine hK _ _ (fun _ => by refine ⟨?_, ?_, ?_, ?_⟩ <;> (first | exact cell_later hb g0 | exact cell_later hb g1 | exact cell_later hb e0 | exact cell_later hb e1)) ?_
              clear hK K
              (try go_frame)
              refine hr_take (i := 13) (v := ?_) ok rfl (by rfl) (by kernel_rfl) (by kernel_rfl) (by kernel_rfl) (by kernel_rfl) (fun _ _ _ h => h) (Or.inl ⟨by kernel_rfl, ?_⟩) ?_
              rotate_left
              · (intro w hSw; (try dsimp only at hSw); (try go_split_ands); go_simp; (try (with_reducible rfl)))
              go_frame
              clear g0 g1 e0 e1 hb FB1 CH1
              obtain ⟨c1, c2⟩ := FBlk.get FB3.out HGX.out
              have cf := FB3.out.free
              refine hr_only (c := 14) rfl (by kernel_rfl) (fun K hK => ?_)
              go_simp
              (try simp only [])
              refine hK _ _ (pend_no (by kernel_rfl)) ?_
              clear hK K
              (try go_frame)
              refine hr_end (by kernel_rfl) ?_
              have PS := Lib.hid (show FBlk ((w3'.setCell ⟨S, i * 2, none⟩ (.int .i64 s.num)).setCell ⟨S, i * 2 + 1, none⟩ (.int .i64 (s.den : Int))) S (ss'.set i s) [] from FBlk.put FB3.out (by rw [HSL.out]; omega) _)
              have PC := Lib.hid (chg_put (b := S) CH3.out (fun _ => rfl) i (.int .i64 s.num) (.int .i64 (s.den : Int)))
              clear c1 c2 cf FB3 CH3
              go_wp2
              go_roundw
              case rel => exact ⟨j + 1, _, by omega, by go_num, PS.out, SJN.out, PC.out⟩
              case measure => simp [intOf]; omega
            · obtain rfl : j = gn := by omega
              have SFIN := Lib.hid (show ∀ c : Nat, c < C → gR ss' c = colAt rows (l.map toR) c k - (coefF goal c : Rat) from fun c hc => by
                rw [SJ.out.val c hc, ← HGL.out, List.take_length]; grind)
              have NEG := Lib.hid (show (∃ t ∈ ss'.map (fun x => (x.num, (x.den : Int))), t.1 < 0) ↔ ¬ ProveP C rows goal (l.map toR) by
                rw [fneg_all]
                unfold ProveP
                rw [HRL.out]
                constructor
                · rintro ⟨x, hx, hn⟩ h
                  obtain ⟨c, hc⟩ := List.getElem?_of_mem hx
                  have hcC : c < C := by rw [← SJ.out.len]; exact (List.getElem?_eq_some_iff.1 hc).1
                  have h1 := SFIN.out c hcC
                  rw [gR_of hc] at h1
                  have h2 := h c (by omega) (by omega)
                  grind
                · intro h
                  refine Classical.byContradiction fun no => h fun c h0 h1 => ?_
                  obtain ⟨c', rfl⟩ : ∃ c' : Nat, c = (c' : Int) := ⟨c.toNat, by omega⟩
                  have h2 := SFIN.out c' (by omega)
                  have hx : ss'[c']? = some (gR ss' c') := by
                    unfold gR
                    rw [List.getD_eq_getElem?_getD, List.getElem?_eq_getElem (by rw [SJ.out.len]; omega)]; rfl
                  have : ¬ gR ss' c' < 0 := fun hn => no ⟨_, List.mem_of_getElem? hx, hn⟩
                  grind)
              have FR := fr_row FJ.out (by rw [SJ.out.len]; omega)
              rw [SJ.out.len] at FR
              have CP := Lib.hid (fcontP_any (fun t => t.1 < 0) (fun x => x = S) _ (fun t _ w => fneg_any t w) _ _ _ wr FR)
              have VJ := Lib.hid (VB.out.chg CJ.out (fun e => LV.out.2.2 e))
              have TJ := Lib.hid (TO.out.chg CJ.out (fun e => by have := LV.out; omega))
              clear FR
              go_wp2_with fail
              refine CP.out.mono ?_
              rintro e w7 ⟨r, rfl, hr, hb⟩
              have HRR := Lib.hid (hr.trans NEG.out)
              have B7 := Lib.hid (BRJ.out.trans (hb.mono BRJ.out.size))
              have V7 := Lib.hid (VJ.out.below hb VJ.out.lt)
              have T7 := Lib.hid (TJ.out.below hb TJ.out.lt)
              clear hr hb
              cases r with
              | true =>
                have NO := Lib.hid (show ¬ (n = k ∧ GoodP l ∧ ProveP C rows goal (l.map toR)) from fun h => HRR.out.1 rfl h.2.2)
                obtain ⟨z1, hz1⟩ : ∃ z0 : Rat, z0 = ((0 : Int) : Rat) := ⟨_, rfl⟩
                have W1 := Lib.hid (fun w => whole_any 0 w)
                rw [← hz1] at W1
                have HZ1 := Lib.hid (show z1 = 0 by rw [hz1]; simp)
                clear hz1
                go_wp2_with fail
                refine (W1.out _).mono ?_
                rintro e w8 ⟨rfl, hb⟩
                have T8 := Lib.hid (T7.out.below hb T7.out.lt)
                have B8 := Lib.hid (B7.out.trans (hb.mono B7.out.size))
                clear hb
                have t0 := T8.out.cell (i := 0) rfl; have t1 := T8.out.cell (i := 1) rfl; have tf := T8.out.free
                have BF := Lib.hid (show Below w.heap.size w ((w8.setCell ⟨w.heap.size + 1, 0, none⟩ (.int .i64 z1.num)).setCell ⟨w.heap.size + 1, 1, none⟩ (.int .i64 (z1.den : Int))) from (B8.out.setCell (Nat.le_succ _) _).setCell (Nat.le_succ _) _)
                have TF := Lib.hid ((T8.out.set 0 (.int .i64 z1.num)).set 1 (.int .i64 (z1.den : Int)))
                go_wp2
                have r0 := TF.out.cell (i := 0) rfl; have r1 := TF.out.cell (i := 1) rfl
                refine bodyPost_ret (v := .tuple #[FrV z1, .bool false]) (by simp [results, Try.results31, go_sem, r0, r1]) rfl (by have h := pv_no (v := valAt rows c0 (l.map toR) rows.length) NO.out BF.out; rw [HZ1.out] at h ⊢; exact h)
              | false =>
                have YES := Lib.hid (show (n = k ∧ GoodP l ∧ ProveP C rows goal (l.map toR)) from ⟨HN.out, HG.out.2, Classical.byContradiction fun h => by have := HRR.out.2 h; cases this⟩)
                have v0 := V7.out.cell (i := 0) rfl; have v1 := V7.out.cell (i := 1) rfl
                have t0 := T7.out.cell (i := 0) rfl; have t1 := T7.out.cell (i := 1) rfl; have tf := T7.out.free
                have BF := Lib.hid (show Below w.heap.size w ((w7.setCell ⟨w.heap.size + 1, 0, none⟩ (.int .i64 d.num)).setCell ⟨w.heap.size + 1, 1, none⟩ (.int .i64 (d.den : Int))) from (B7.out.setCell (Nat.le_succ _) _).setCell (Nat.le_succ _) _)
                have TF := Lib.hid ((T7.out.set 0 (.int .i64 d.num)).set 1 (.int .i64 (d.den : Int)))
                go_wp2
                have r0 := TF.out.cell (i := 0) rfl; have r1 := TF.out.cell (i := 1) rfl
                refine bodyPost_ret (v := .tuple #[FrV d, .bool true]) (by simp [results, Try.results31, go_sem, r0, r1]) rfl (by rw [HDD.out]; rw [HDD.out] at BF; exact pv_yes YES.out BF.out)
end Go.Proofs.Ytdegpgonphgbcaa
