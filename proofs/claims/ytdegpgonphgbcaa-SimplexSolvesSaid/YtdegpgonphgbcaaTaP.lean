/-
  SimplexSolves, walked: for every input the law's function returns true, and nothing that was there changes.
-/
import Derived.Test.YtdegpgonphgbcaaTaI
import Derived.Test.YtdegpgonphgbcaaZTaN
import Derived.Test.YtdegpgonphgbcaaZTbC
import Derived.Test.YtdegpgonphgbcaaTbG
import Derived.Test.YtdegpgonphgbcaaZSyG
namespace Go.Proofs.Ytdegpgonphgbcaa
open Go.RowKit
theorem solved_all {n : Nat} {rows : List MRow} {goal : List (Int × Int)} {c0 : Int} (hs : SmallP n rows goal c0) {B : Nat} {w' : World} {v : Value} {code : Int} (h : SolvedAt n rows goal c0 B w' v code) :
    ∃ (x y : Int) (sa : Option Addr) (sn sc : Nat) (ta : Option Addr) (tn tc : Nat), v = .agg #[.int .i64 x, .int .i64 y, .slice sa sn sc, .slice ta tn tc] ∧ PartsOk n rows goal c0 code x y ∧
      ((code ≠ 0 ∧ sn = 0 ∧ tn = 0 ∧ x = 0 ∧ y = 0) ∨ (code = 0 ∧ ∃ d g5 g9, End2 n rows goal c0 d ∧ x = ((dg d).a rows.length 0).num ∧ y = (((dg d).a rows.length 0).den : Int) ∧ sa = some ⟨g5, 0, none⟩ ∧ sn = (colsAt d n rows.length).length ∧ sc = sn ∧ ta = some ⟨g9, 0, none⟩ ∧ tn = (rowsAt d n rows.length d.outs.length).length ∧ tc = tn ∧ FBlk w' g5 (colsAt d n rows.length) [] ∧ FBlk w' g9 (rowsAt d n rows.length d.outs.length) [])) := by
  rcases h with ⟨hc, rfl, h⟩ | ⟨hc, rfl, h⟩ | ⟨hc, d, hd, g5, g9, rfl, h5, h9, _, _⟩
  · exact ⟨0, 0, _, _, _, _, _, _, rfl, .inl ⟨hc, rfl, rfl, h⟩, .inl ⟨by omega, rfl, rfl, rfl, rfl⟩⟩
  · exact ⟨0, 0, _, _, _, _, _, _, rfl, .inr (.inl ⟨hc, rfl, rfl, h⟩), .inl ⟨by omega, rfl, rfl, rfl, rfl⟩⟩
  · rw [hd.m] at h5
    exact ⟨_, _, _, _, _, _, _, _, rfl, .inr (.inr ⟨hc, _, rfl, rfl, hd.value hs, hd.best hs⟩), .inr ⟨hc, d, g5, g9, hd, rfl, rfl, rfl, by rw [hd.m], by rfl, rfl, rfl, rfl, h5, h9⟩⟩
set_option maxRecDepth 100000 in
set_option maxHeartbeats 64000000 in
theorem sxSolves_top (la : Option Addr) (ln lc : Nat) (zs : List Int) (w : World) (L : IsRow .i64 w la ln lc zs) :
    Calls Try.prog 3 #[.slice la ln lc] w (AwRet w) := by
  have HL := Lib.hid L
  clear L
  go_enter Try.func3, Try.ntmps3
  go_wp2_with fail
  refine (new_any la ln lc zs w HL.out).mono ?_
  rintro e w2 ⟨rfl, hdk, hb⟩
  have B2 := Lib.hid hb
  have DK := Lib.hid hdk
  obtain ⟨D, hD⟩ : ∃ D, D = w.heap.size := ⟨_, rfl⟩
  rw [← hD] at DK ⊢
  have HD := Lib.hid hD
  clear hdk hb hD
  go_wp2_with fail
  refine (mmodel_any D 6 (by omega) w2 DK.out).mono ?_
  rintro e w3 ⟨n, ra, rn, rc, ga, gn, gc, c0, rows, goal, rfl, hR, hG, hs, hn4, hd3, hb3⟩
  obtain ⟨w4, hw4⟩ : ∃ w4, w4 = w3.alloc (.cells (MdC n (.slice ra rn rc) ga gn gc c0).toArray 28) := ⟨_, rfl⟩
  have A4 := Lib.hid (show Below w3.heap.size w3 w4 by rw [hw4]; exact (Below.refl _ _).alloc (Nat.le_refl _) _)
  have lD2 := DK.out.lt
  have M4 := Lib.hid (show MdlAt D w3.heap.size n ra rn rc ga gn gc c0 rows goal w4 from ⟨by rw [hw4]; exact Blk.new w3 _ _, (rw_wide hR (fun k hk => by omega)).keeps RRw.stays (fun y _ hl => A4.out.block y hl) A4.out.size, (tm_wide hG (fun k hk => by omega)).keeps RTm.stays (fun y _ hl => A4.out.block y hl) A4.out.size⟩)
  have SR := Lib.hid (hR.keeps RRw.stays (fun y _ hl => A4.out.block y hl) A4.out.size)
  have SG := Lib.hid (hG.keeps RTm.stays (fun y _ hl => A4.out.block y hl) A4.out.size)
  have SV := Lib.hid (solved_any (fun k => w2.heap.size ≤ k ∧ k < w3.heap.size) n rows goal c0 hs ra rn rc ga gn gc w4 SR.out SG.out (fun x hx => by have := A4.out.size; omega))
  have B4 := Lib.hid (show But D w2 w4 from hb3.trans (But.of_below A4.out))
  have B4w := Lib.hid (show Below w.heap.size w w4 by
    refine B2.out.trans ?_
    rw [← HD.out]
    exact B4.out.below (by omega))
  have HS := Lib.hid hs
  have HW4 := Lib.hid hw4
  obtain ⟨P, hP⟩ : ∃ P, P = w3.heap.size := ⟨_, rfl⟩
  rw [← hP] at M4
  have LP := Lib.hid (show D < P ∧ P < w4.heap.size from ⟨by rw [hP]; have := hb3.size; omega, M4.out.blk.lt⟩)
  have HP := Lib.hid hP
  clear hw4 hP hR hG hs hd3 hb3 lD2 SR SG
  go_upto_region 3 with fail
  rw [← HW4.out, ← HP.out]
  have m0 := M4.out.blk.cell (i := 0) rfl; have m1 := M4.out.blk.cell (i := 1) rfl; have m2 := M4.out.blk.cell (i := 2) rfl; have m3 := M4.out.blk.cell (i := 3) rfl
  go_wp2_with fail
  refine SV.out.mono ?_
  rintro e w5 ⟨ov, code, rfl, hb5, hsol⟩
  obtain ⟨ox, oy, sa, sn, sc, ta, tn, tc, rfl, hcase, hmore⟩ := solved_all HS.out hsol
  have CASE := Lib.hid hcase; have MORE := Lib.hid hmore
  obtain ⟨w6, hw6⟩ : ∃ w6, w6 = w5.alloc (.cells #[.int .i64 ox, .int .i64 oy, .slice sa sn sc, .slice ta tn tc] 34) := ⟨_, rfl⟩
  have A6 := Lib.hid (show Below w5.heap.size w5 w6 by rw [hw6]; exact (Below.refl _ _).alloc (Nat.le_refl _) _)
  have B6 := Lib.hid (show Below w4.heap.size w4 w6 by rw [hw6]; exact hb5.alloc hb5.size _)
  have O6 := Lib.hid (show Blk w6 w5.heap.size 34 [.int .i64 ox, .int .i64 oy, .slice sa sn sc, .slice ta tn tc] by rw [hw6]; exact Blk.new w5 _ _)
  have HW6 := Lib.hid hw6
  obtain ⟨O, hO⟩ : ∃ O, O = w5.heap.size := ⟨_, rfl⟩
  rw [← hO] at O6
  have HO := Lib.hid hO
  have M6 := Lib.hid (M4.out.chg LP.out.1 (Chg.of_below B6.out))
  have B6w := Lib.hid (B4w.out.trans (B6.out.mono B4w.out.size))
  clear hw6 hO hcase hsol hb5 hmore m0 m1 m2 m3 SV B4w B6 M4
  go_upto_region 4 with fail
  rw [← HW6.out, ← HO.out]
  obtain ⟨code2, x2, y2, hbp, hparts⟩ := best_ex HS.out
  obtain ⟨e1, e2, e3⟩ := parts_same (rows' := rows) (fun _ => Iff.rfl) CASE.out hparts
  subst e1; subst e2; subst e3
  have BV := Lib.hid (best_any (fun k => D < k) n rows goal c0 HS.out (build_fit HS.out) code2 x2 y2 hbp ra rn rc ga gn gc w6 M6.out.rows M6.out.goal)
  have m0 := M6.out.blk.cell (i := 0) rfl; have m1 := M6.out.blk.cell (i := 1) rfl; have m2 := M6.out.blk.cell (i := 2) rfl; have m3 := M6.out.blk.cell (i := 3) rfl
  clear hbp hparts
  go_wp2_with fail
  refine BV.out.mono ?_
  rintro e w7 ⟨rfl, hb7⟩
  obtain ⟨w8, hw8⟩ : ∃ w8, w8 = w7.alloc (.cells #[.int .i64 x2, .int .i64 y2] 31) := ⟨_, rfl⟩
  have A8 := Lib.hid (show Below w6.heap.size w6 w8 by rw [hw8]; exact hb7.alloc hb7.size _)
  have Z8 := Lib.hid (show Blk w8 w7.heap.size 31 [.int .i64 x2, .int .i64 y2] by rw [hw8]; exact Blk.new w7 _ _)
  have HW8 := Lib.hid hw8
  obtain ⟨Z, hZ⟩ : ∃ Z, Z = w7.heap.size := ⟨_, rfl⟩
  rw [← hZ] at Z8
  have HZ := Lib.hid hZ
  have M8 := Lib.hid (M6.out.chg LP.out.1 (Chg.of_below A8.out))
  have O8 := Lib.hid (O6.out.below A8.out O6.out.lt)
  have B8 := Lib.hid (B6w.out.trans (A8.out.mono B6w.out.size))
  clear hw8 hZ hb7 m0 m1 m2 m3 BV B6w M6
  go_upto_region 5 with fail
  rw [← HW8.out, ← HZ.out]
  have hcc : (code2 != code2) = false := by simp
  rcases MORE.out with ⟨hc, rfl, rfl, rfl, rfl⟩ | ⟨hc, d, g5, g9, hd, hx, hy, rfl, hsn, hsc, rfl, htn, htc, h5, h9⟩
  · have hcn : (code2 != 0) = true := by simpa using hc
    have o0 := O8.out.cell (i := 0) rfl; have o1 := O8.out.cell (i := 1) rfl; have o2 := O8.out.cell (i := 2) rfl; have o3 := O8.out.cell (i := 3) rfl
    clear hc MORE CASE
    go_wp2_with fail
    refine (awake_any _).mono ?_
    rintro e w9 ⟨rfl, hb⟩
    have BF := Lib.hid (B8.out.trans (hb.mono B8.out.size))
    clear hb o0 o1 o2 o3
    go_wp2
    go_ret
    exact ⟨rfl, BF.out⟩
  · subst hc
    have hsn2 : n = sn := by rw [hsn, colsAt_length]
    have htn2 : rn = tn := by rw [htn, rowsAt_length]; exact M8.out.rows.hlen.symm
    have hsc2 : n = sc := by rw [hsc, ← hsn2]
    have htc2 : rn = tc := by rw [htc, ← htn2]
    clear hsn htn hsc htc
    subst hsn2; subst htn2; subst hsc2; subst htc2
    have HE := Lib.hid hd
    have H5 := Lib.hid (h5.below (A6.out.trans (A8.out.mono A6.out.size)) h5.lt)
    have H9 := Lib.hid (h9.below (A6.out.trans (A8.out.mono A6.out.size)) h9.lt)
    obtain ⟨⟨q1, hq1⟩, ⟨q2, hq2⟩⟩ := end_frq HS.out hd
    have FQ1 := Lib.hid hq1; have FQ2 := Lib.hid hq2
    have COB := Lib.hid (cols_obey HS.out hd)
    have RPR := Lib.hid (rows_prove HS.out hd)
    obtain ⟨V, hV⟩ : ∃ V, V = (dg d).a rows.length 0 := ⟨_, rfl⟩
    rw [← hV] at hx hy COB RPR
    have HV := Lib.hid hV
    have FV := Lib.hid (show Fit V by rw [hV]; exact hd.value HS.out)
    have n6 : n ≤ 6 := by have := HS.out.2.1; omega
    have r6 : rn ≤ 6 := by have h1 := HS.out.2.2.1; have := M8.out.rows.hlen; omega
    have XR := Lib.hid (show Row RTm 2 (fun k => k = g5) w8 (some ⟨g5, 0, none⟩) n n (prs (colsAt d n rows.length)) by
      have h := prs_row H5.out (by rw [colsAt_length]; omega)
      rwa [colsAt_length] at h)
    have YR := Lib.hid (show Row RTm 2 (fun k => k = g9) w8 (some ⟨g9, 0, none⟩) rn rn (prs (rowsAt d n rows.length d.outs.length)) by
      have h := prs_row H9.out (by rw [rowsAt_length]; have := M8.out.rows.hlen; omega)
      rw [rowsAt_length] at h
      rwa [show rows.length = rn from M8.out.rows.hlen] at h ⊢)
    clear h5 h9 hq1 hq2 hV hd MORE CASE
    subst hx; subst hy
    have o0 := O8.out.cell (i := 0) rfl; have o1 := O8.out.cell (i := 1) rfl; have o2 := O8.out.cell (i := 2) rfl; have o3 := O8.out.cell (i := 3) rfl
    have z0 := Z8.out.cell (i := 0) rfl; have z1 := Z8.out.cell (i := 1) rfl
    have m0 := M8.out.blk.cell (i := 0) rfl; have m1 := M8.out.blk.cell (i := 1) rfl; have m2 := M8.out.blk.cell (i := 2) rfl; have m3 := M8.out.blk.cell (i := 3) rfl
    have OBE := Lib.hid (robeysq_any (fun k => D < k ∨ k = g5) n rows goal c0 HS.out (prs (colsAt d n rows.length)) q1 FQ1.out ra rn rc ga gn gc (some ⟨g5, 0, none⟩) n n w8 (rw_wide M8.out.rows (fun k hk => .inl hk)) (tm_wide XR.out (fun k hk => .inr hk)))
    go_wp2_with fail
    refine OBE.out.mono ?_
    rintro e w9 ⟨r, rfl, hr, hb9⟩
    obtain rfl : r = true := hr.2 ⟨by first | rfl | trivial, FQ1.out.good, fun r hr => by rw [prs_toR]; exact COB.out.1.2 r hr⟩
    have M9 := Lib.hid (M8.out.chg LP.out.1 (Chg.of_below hb9))
    have O9 := Lib.hid (O8.out.below hb9 O8.out.lt)
    have Z9 := Lib.hid (Z8.out.below hb9 Z8.out.lt)
    have X9 := Lib.hid (XR.out.keeps RTm.stays (fun y _ hl => hb9.block y hl) hb9.size)
    have Y9 := Lib.hid (YR.out.keeps RTm.stays (fun y _ hl => hb9.block y hl) hb9.size)
    have B9 := Lib.hid (B8.out.trans (hb9.mono B8.out.size))
    clear hr hb9 OBE o0 o1 o2 o3 z0 z1 m0 m1 m2 m3 M8 O8 Z8 XR YR B8
    have o2 := O9.out.cell (i := 2) rfl; have o3 := O9.out.cell (i := 3) rfl
    have m0 := M9.out.blk.cell (i := 0) rfl; have m1 := M9.out.blk.cell (i := 1) rfl; have m2 := M9.out.blk.cell (i := 2) rfl; have m3 := M9.out.blk.cell (i := 3) rfl
    have PRV := Lib.hid (rprovesq_any (fun k => D < k ∨ k = g9) n rows goal c0 HS.out (prs (rowsAt d n rows.length d.outs.length)) q2 FQ2.out ra rn rc ga gn gc (some ⟨g9, 0, none⟩) rn rn w9 (rw_wide M9.out.rows (fun k hk => .inl hk)) (tm_wide M9.out.goal (fun k hk => .inl hk)) (tm_wide Y9.out (fun k hk => .inr hk)))
    go_wp2_with fail
    refine PRV.out.mono ?_
    rintro e w10 ⟨xv, b, rfl, hb1, hb2, hb3, hbl⟩
    obtain rfl : b = true := hb1.2 ⟨by first | rfl | trivial, FQ2.out.good, by rw [prs_toR]; exact RPR.out.1⟩
    obtain rfl : V = xv := by rw [hb2 rfl, prs_toR]; exact RPR.out.2.symm
    obtain ⟨w11, hw11⟩ : ∃ w11, w11 = w10.alloc (.cells #[.int .i64 V.num, .int .i64 (V.den : Int)] 31) := ⟨_, rfl⟩
    have A11 := Lib.hid (show Below w9.heap.size w9 w11 by rw [hw11]; exact hbl.alloc hbl.size _)
    have W11 := Lib.hid (show Blk w11 w10.heap.size 31 (FrC V) by rw [hw11]; exact Blk.new w10 _ _)
    have HW11 := Lib.hid hw11
    obtain ⟨W, hW⟩ : ∃ W, W = w10.heap.size := ⟨_, rfl⟩
    rw [← hW] at W11
    have HWW := Lib.hid hW
    have M11 := Lib.hid (M9.out.chg LP.out.1 (Chg.of_below A11.out))
    have O11 := Lib.hid (O9.out.below A11.out O9.out.lt)
    have Z11 := Lib.hid (Z9.out.below A11.out Z9.out.lt)
    have X11 := Lib.hid (X9.out.keeps RTm.stays (fun y _ hl => A11.out.block y hl) A11.out.size)
    have B11 := Lib.hid (B9.out.trans (A11.out.mono B9.out.size))
    clear hb1 hb2 hb3 hbl hw11 hW PRV o2 o3 m0 m1 m2 m3 M9 O9 Z9 X9 Y9 B9
    have GOK := HS.out.2.2.2.1
    have gl := terms_len GOK HS.out.1
    have hcl : (n : Int) = ((prs (colsAt d n rows.length)).length : Int) := by unfold prs; rw [List.length_map, colsAt_length]
    have sqd := dotAt_sq (tm := goal) FQ1.out (fun t ht => by obtain ⟨i, hi⟩ := List.getElem?_of_mem ht; exact (GOK i t (List.getElem?_eq_some_iff.1 hi).1 hi).2.2.2.2) _ (Nat.le_refl _)
    obtain ⟨dt, hdt⟩ : ∃ d', d' = dotAt goal ((prs (colsAt d n rows.length)).map toR) goal.length := ⟨_, rfl⟩
    rw [← hdt] at sqd
    have hvs : V = dt + (c0 : Rat) := by
      rw [← COB.out.2, hdt, prs_toR]
      unfold objX
      rw [show dotAt goal (colsAt d n rows.length) goal.length = dotY goal (gR (colsAt d n rows.length)) goal.length from rfl]
      grind
    have hk := HS.out.2.2.2.2
    have ADD := Lib.hid (radd dt (c0 : Rat) (sqd.fit (by omega)) ((Sm.int (C := 9) hk.1 hk.2.1).fit (by decide)) (by rw [← hvs]; exact FV.out))
    rw [← hvs] at ADD
    have ADD : Hid (∀ u : World, Calls Try.prog 16 #[FrV dt, .agg #[.int .i64 c0, .int .i64 1]] u (FrTup V u)) := Lib.hid (fun u => ADD.out u)
    have DOT := Lib.hid (show ∀ u, Below w11.heap.size w11 u → Calls Try.prog 17 #[.slice ga gn gc, .slice (some ⟨g5, 0, none⟩) n n] u (FrRet dt u) from fun u hu => by
      rw [hdt]
      exact dotq_any (fun k => D < k ∨ k = g5) goal (prs (colsAt d n rows.length)) n q1 FQ1.out GOK hcl (by omega) ga gn gc (some ⟨g5, 0, none⟩) n n u ((tm_wide M11.out.goal (fun k hk => .inl hk)).keeps RTm.stays (fun y _ hl => hu.block y hl) hu.size) ((tm_wide X11.out (fun k hk => .inr hk)).keeps RTm.stays (fun y _ hl => hu.block y hl) hu.size))
    have o1 := O11.out.cell (i := 2) rfl
    have m2 := M11.out.blk.cell (i := 2) rfl; have m3 := M11.out.blk.cell (i := 3) rfl
    clear hdt hvs sqd hk hcl gl GOK
    go_upto_region 12 with fail
    rw [← HW11.out, ← HWW.out]
    have lb0 := World.block_lt_of_cell? _ _ m2
    have lb1 := World.block_lt_of_cell? _ _ m3
    have lb2 := World.block_lt_of_cell? _ _ o1
    dsimp only at lb0 lb1 lb2
    go_cut [11, 12] (fun s x12 wx => x12 = .int .i64 0 ∧ ∃ B10 : Nat, s = .pointer (some ⟨B10, 0, none⟩) ∧ w11.heap.size ≤ B10 ∧ Blk wx B10 31 (FrC (V)) ∧ Below w11.heap.size w11 wx)
    case first =>
      as_aux_lemma =>
        refine hd_start_e 15 (fun w' => w'.cell? ⟨P, 2, none⟩ = some (.slice ga gn gc) ∧ w'.cell? ⟨P, 3, none⟩ = some (.int .i64 c0) ∧ w'.cell? ⟨O, 2, none⟩ = some (.slice (some ⟨g5, 0, none⟩) n n)) (by kernel_rfl) ⟨by kernel_rfl, by rfl⟩ (by refine ⟨m2, m3, o1⟩) (fun ok => ?_)
        refine he_t 0 ok rfl ?_
        go_frame
        refine he_t 1 ok rfl ?_
        go_frame
        refine he_t 2 ok rfl ?_
        go_frame
        refine he_t 3 ok rfl ?_
        go_frame
        refine he_t 5 ok rfl ?_
        go_frame
        refine he_t 6 ok rfl ?_
        go_frame
        refine he_t 7 ok rfl ?_
        go_frame
        refine hd_inv_s [(72, 4), (76, 8), (67, 9), (77, 10), (78, 11), (12, 14), (11, 12)] [13] (fun _ => undef) (fun b v w' => Below w11.heap.size w11 w' ∧ (b 4 = true → v 4 = FrV dt) ∧ (b 8 = true → v 8 = .tuple #[FrV V, .int .i64 0]) ∧ (b 9 = true → v 9 = .tuple #[FrV V, .int .i64 0]) ∧ (b 10 = true → v 10 = FrV V) ∧ (b 11 = true → v 11 = .int .i64 0) ∧ (b 14 = true → v 14 = .int .i64 0) ∧ ∃ q7, (b 12 = true → v 12 = .pointer (some ⟨q7, 0, none⟩) ∧ w11.heap.size ≤ q7) ∧ (b 12 = true → b 13 = false → Blk w' q7 31 [.int .i64 0, .int .i64 0]) ∧ (b 13 = true → b 12 = true ∧ Blk w' q7 31 (FrC (V)))) (.inr ok) ⟨by decide, by decide, by kernel_rfl, rfl⟩ (by kernel_rfl) (by kernel_rfl) (by kernel_rfl) (by decide) ⟨(Below.refl _ _).drew, (fun h => by cases h), (fun h => by cases h), (fun h => by cases h), (fun h => by cases h), (fun h => by cases h), (fun h => by cases h), 0, (fun h => by cases h), (fun h => by cases h), (fun h => by cases h)⟩ ?_ ?_
        · intro iA oj hi ho bb vA aA w' hJ hv hr hb hdep hS K hK
          obtain ⟨hB, j4, j8, j9, j10, j11, j14, q7, jal, jz, jst⟩ := hJ
          have hBs := hB.size
          have hi4 : iA = 4 ∨ iA = 8 ∨ iA = 9 ∨ iA = 10 ∨ iA = 11 ∨ iA = 14 ∨ iA = 12 ∨ iA = 13 := by simpa using hi
          try dsimp only at hS
          obtain ⟨s0, s1, s2⟩ := hS
          rcases hi4 with rfl | rfl | rfl | rfl | rfl | rfl | rfl | rfl
          · obtain rfl := Option.some.inj ho
            have e69 : aA.tmps[69]?.getD undef = .slice ga gn gc := (get_eval aA 69).trans (hr 69 (by decide))
            have e71 : aA.tmps[71]?.getD undef = .slice (some ⟨g5, 0, none⟩) n n := (get_eval aA 71).trans (hr 71 (by decide))
            go_simp
            go_at_call 17
            refine (DOT.out _ hB).mono ?_
            rintro e u ⟨rfl, hu⟩
            exact hK _ _ ⟨cell_later hu s0, cell_later hu s1, cell_later hu s2⟩ ⟨hB.trans (hu.mono hBs), fun _ => rfl, j8, j9, j10, j11, j14, q7, jal, fun h1 h2 => (jz h1 h2).below hu (jz h1 h2).lt, fun h => ⟨(jst h).1, (jst h).2.below hu (jst h).2.lt⟩⟩
          · obtain rfl := Option.some.inj ho
            have d4 := hdep 4 (by kernel_rfl)
            have e72 : aA.tmps[72]?.getD undef = FrV dt := (get_eval aA 72).trans ((hv 72 4 (by decide) d4).trans (j4 d4))
            have e75 : aA.tmps[75]?.getD undef = .agg #[.int .i64 c0, .int .i64 1] := (get_eval aA 75).trans (hr 75 (by decide))
            go_simp
            go_at_call 16
            refine (ADD.out _).mono ?_
            rintro e u ⟨rfl, hu⟩
            exact hK _ _ ⟨cell_later hu s0, cell_later hu s1, cell_later hu s2⟩ ⟨hB.trans (hu.mono hBs), j4, fun _ => rfl, j9, j10, j11, j14, q7, jal, fun h1 h2 => (jz h1 h2).below hu (jz h1 h2).lt, fun h => ⟨(jst h).1, (jst h).2.below hu (jst h).2.lt⟩⟩
          · obtain rfl := Option.some.inj ho
            have d8 := hdep 8 (by kernel_rfl)
            have e76 : aA.tmps[76]?.getD undef = .tuple #[FrV V, .int .i64 0] := (get_eval aA 76).trans ((hv 76 8 (by decide) d8).trans (j8 d8))
            go_simp
            exact hK _ _ ⟨s0, s1, s2⟩ ⟨hB, j4, j8, fun _ => rfl, j10, j11, j14, q7, jal, jz, jst⟩
          · obtain rfl := Option.some.inj ho
            have d9 := hdep 9 (by kernel_rfl)
            have e67 : aA.tmps[67]?.getD undef = .tuple #[FrV V, .int .i64 0] := (get_eval aA 67).trans ((hv 67 9 (by decide) d9).trans (j9 d9))
            go_simp
            exact hK _ _ ⟨s0, s1, s2⟩ ⟨hB, j4, j8, j9, fun _ => rfl, j11, j14, q7, jal, jz, jst⟩
          · obtain rfl := Option.some.inj ho
            have d9 := hdep 9 (by kernel_rfl)
            have e67 : aA.tmps[67]?.getD undef = .tuple #[FrV V, .int .i64 0] := (get_eval aA 67).trans ((hv 67 9 (by decide) d9).trans (j9 d9))
            go_simp
            exact hK _ _ ⟨s0, s1, s2⟩ ⟨hB, j4, j8, j9, j10, fun _ => rfl, j14, q7, jal, jz, jst⟩
          · obtain rfl := Option.some.inj ho
            have d11 := hdep 11 (by kernel_rfl)
            have e78 : aA.tmps[78]?.getD undef = .int .i64 0 := (get_eval aA 78).trans ((hv 78 11 (by decide) d11).trans (j11 d11))
            go_simp
            exact hK _ _ ⟨s0, s1, s2⟩ ⟨hB, j4, j8, j9, j10, j11, fun _ => rfl, q7, jal, jz, jst⟩
          · obtain rfl := Option.some.inj ho
            go_simp
            have hu : Below w'.heap.size w' (w'.alloc (.cells #[.int .i64 0, .int .i64 0] 31)) := (Below.refl _ _).alloc (Nat.le_refl _) _
            exact hK _ _ ⟨cell_later hu s0, cell_later hu s1, cell_later hu s2⟩ ⟨hB.trans (hu.mono hBs), j4, j8, j9, j10, j11, j14, w'.heap.size, fun _ => ⟨rfl, hBs⟩, fun _ _ => Blk.new w' [.int .i64 0, .int .i64 0] 31, fun h => by have := (jst h).1; rw [hb] at this; cases this⟩
          · obtain rfl := Option.some.inj ho
            have dal := hdep 12 (by kernel_rfl)
            obtain ⟨val, lal⟩ := jal dal
            have bz := jz dal hb
            have e11 : aA.tmps[11]?.getD undef = .pointer (some ⟨q7, 0, none⟩) := (get_eval aA 11).trans ((hv 11 12 (by decide) dal).trans val)
            have d10 := hdep 10 (by kernel_rfl)
            have e77 : aA.tmps[77]?.getD undef = FrV V := (get_eval aA 77).trans ((hv 77 10 (by decide) d10).trans (j10 d10))
            have z0 := bz.cell (i := 0) rfl; have z1 := bz.cell (i := 1) rfl; have zf := bz.free
            go_simp
            have hc2 : Below w11.heap.size w11 ((w'.setCell ⟨q7, 0, none⟩ (.int .i64 (V).num)).setCell ⟨q7, 1, none⟩ (.int .i64 ((V).den : Int))) := (hB.setCell lal _).setCell lal _
            exact hK (.int .i64 0) _ ⟨cell_set (by omega) (cell_set (by omega) s0), cell_set (by omega) (cell_set (by omega) s1), cell_set (by omega) (cell_set (by omega) s2)⟩ ⟨hc2, j4, j8, j9, j10, j11, j14, q7, jal, (fun _ h => by cases h), fun _ => ⟨dal, ((bz.set 0 _).set 1 _).at rfl⟩⟩
        · intro bb vA w' hall hJ hS
          obtain ⟨hB, j4, j8, j9, j10, j11, j14, q7, jal, jz, jst⟩ := hJ
          have v4 := j4 (hall 4 (by decide))
          have v8 := j8 (hall 8 (by decide))
          have v9 := j9 (hall 9 (by decide))
          have v10 := j10 (hall 10 (by decide))
          have v11 := j11 (hall 11 (by decide))
          have v14 := j14 (hall 14 (by decide))
          obtain ⟨val, lal⟩ := jal (hall 12 (by decide))
          have R := Lib.hid (show ∃ B10 : Nat, Value.pointer (some ⟨q7, 0, none⟩) = .pointer (some ⟨B10, 0, none⟩) ∧ w11.heap.size ≤ B10 ∧ Blk w' B10 31 (FrC (V)) ∧ Below w11.heap.size w11 w' from ⟨q7, rfl, lal, (jst (hall 13 (by decide))).2, hB⟩)
          simp only [putP, v4, v8, v9, v10, v11, v14, val]
          clear hB j4 j8 j9 j10 j11 j14 jal jz jst v4 v8 v9 v10 v11 v14 val lal hS hall ok
          go_frame
          refine hd_end (by kernel_rfl) rfl ?_
          go_wp2_with fail
          go_meet
          exact ⟨rfl, R.out⟩
    case rest =>
      obtain ⟨rfl, B13, rfl, lB13, b13, hB⟩ := hcut
      obtain ⟨w12, hw12⟩ : ∃ w5 : World, w5 = wc := ⟨_, rfl⟩
      rw [← hw12] at b13 hB ⊢
      clear hw12 o1 m2 m3
      have W12 := Lib.hid (W11.out.below hB W11.out.lt)
      have Z12 := Lib.hid (Z11.out.below hB Z11.out.lt)
      have B12 := Lib.hid (B11.out.trans (hB.mono B11.out.size))
      have v0 := b13.cell (i := 0) rfl; have v1 := b13.cell (i := 1) rfl
      have z0 := Z12.out.cell (i := 0) rfl; have z1 := Z12.out.cell (i := 1) rfl
      have y0 := W12.out.cell (i := 0) rfl; have y1 := W12.out.cell (i := 1) rfl
      clear hB b13 lB13
      go_wp2_with fail
      refine (awake_any _).mono ?_
      rintro e w13 ⟨rfl, hb⟩
      have BF := Lib.hid (B12.out.trans (hb.mono B12.out.size))
      clear hb v0 v1 z0 z1 y0 y1
      go_wp2
      go_ret
      exact ⟨rfl, BF.out⟩
end Go.Proofs.Ytdegpgonphgbcaa
