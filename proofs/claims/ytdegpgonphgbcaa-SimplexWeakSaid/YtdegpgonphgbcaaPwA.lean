/-
  SimplexWeak, walked: for every input the law's function returns true, and nothing that was there changes.
-/
import Derived.Test.YtdegpgonphgbcaaPrJ
import Derived.Test.YtdegpgonphgbcaaZSoA
namespace Go.Proofs.Ytdegpgonphgbcaa
open Go.RowKit

theorem dotAt_dotY (tm : List (Int × Int)) (xs : List Rat) (k : Nat) : dotAt tm xs k = dotY tm (gR xs) k := rfl
theorem fit_valid {x : Rat} (h : Fit x) (w : World) : Calls Try.prog 20 #[FrV x] w (BoolB true w) :=
  rvalid_yes x.num x.den h.1 h.2.1 (den_one x) h.d (by have := x.reduced; show Nat.gcd _ _ = 1; simpa using this) w
set_option maxRecDepth 100000 in
set_option maxHeartbeats 64000000 in
theorem sxWeak_top (la : Option Addr) (ln lc : Nat) (zs : List Int) (w : World) (L : IsRow .i64 w la ln lc zs) :
    Calls Try.prog 7 #[.slice la ln lc] w (AwRet w) := by
  have HL := Lib.hid L
  clear L
  go_enter Try.func7, Try.ntmps7
  go_wp2_with fail
  refine (new_any la ln lc zs w HL.out).mono ?_
  rintro e w2 ⟨rfl, hdk, hb⟩
  have B2 := Lib.hid hb
  have DK := Lib.hid hdk
  obtain ⟨D, hD⟩ : ∃ D, D = w.heap.size := ⟨_, rfl⟩
  rw [← hD] at DK ⊢
  have HD := Lib.hid hD
  clear hdk hb hD
  go_wp2_with fail
  refine (mmodel_any D 4 (by omega) w2 DK.out).mono ?_
  rintro e w3 ⟨n, ra, rn, rc, ga, gn, gc, c0, rows, goal, rfl, hR, hG, hs, hn4, hd3, hb3⟩
  obtain ⟨w4, hw4⟩ : ∃ w4, w4 = w3.alloc (.cells (MdC n (.slice ra rn rc) ga gn gc c0).toArray 28) := ⟨_, rfl⟩
  have A4 := Lib.hid (show Below w3.heap.size w3 w4 by rw [hw4]; exact (Below.refl _ _).alloc (Nat.le_refl _) _)
  have lD2 := DK.out.lt
  have M4 := Lib.hid (show MdlAt D w3.heap.size n ra rn rc ga gn gc c0 rows goal w4 from ⟨by rw [hw4]; exact Blk.new w3 _ _, (rw_wide hR (fun k hk => by omega)).keeps RRw.stays (fun y _ hl => A4.out.block y hl) A4.out.size, (tm_wide hG (fun k hk => by omega)).keeps RTm.stays (fun y _ hl => A4.out.block y hl) A4.out.size⟩)
  have SR := Lib.hid (hR.keeps RRw.stays (fun y _ hl => A4.out.block y hl) A4.out.size)
  have SG := Lib.hid (hG.keeps RTm.stays (fun y _ hl => A4.out.block y hl) A4.out.size)
  have SV := Lib.hid (solved_any (fun k => w2.heap.size ≤ k ∧ k < w3.heap.size) n rows goal c0 hs ra rn rc ga gn gc w4 SR.out SG.out (fun x hx => by have := A4.out.size; omega))
  have D4 := Lib.hid (hd3.below A4.out (Nat.le_refl _))
  have B4 := Lib.hid (show But D w2 w4 from hb3.trans (But.of_below A4.out))
  have B4w := Lib.hid (show Below w.heap.size w w4 by
    refine B2.out.trans ?_
    rw [← HD.out]
    exact B4.out.below (by omega))
  have HS := Lib.hid hs
  have HW4 := Lib.hid hw4
  obtain ⟨P, hP⟩ : ∃ P, P = w3.heap.size := ⟨_, rfl⟩
  rw [← hP] at M4
  have LP := Lib.hid (show D < P ∧ P < w4.heap.size from ⟨by rw [hP]; have := hb3.size; omega, M4.out.blk.lt⟩)
  have HP := Lib.hid hP
  clear hw4 hP hR hG hs hd3 hb3 lD2 SR SG
  go_upto_region 3 with fail
  rw [← HW4.out, ← HP.out]
  have m0 := M4.out.blk.cell (i := 0) rfl; have m1 := M4.out.blk.cell (i := 1) rfl; have m2 := M4.out.blk.cell (i := 2) rfl; have m3 := M4.out.blk.cell (i := 3) rfl
  go_wp2_with fail
  refine SV.out.mono ?_
  rintro e w5 ⟨ov, code, rfl, hb5, hsol⟩
  obtain ⟨ox, oy, sa, sn, sc, ta, tn, tc, rfl, hcase⟩ := solved_parts HS.out hsol
  have CASE := Lib.hid hcase
  obtain ⟨w6, hw6⟩ : ∃ w6, w6 = w5.alloc (.cells #[.int .i64 ox, .int .i64 oy, .slice sa sn sc, .slice ta tn tc] 34) := ⟨_, rfl⟩
  have B6 := Lib.hid (show Below w4.heap.size w4 w6 by rw [hw6]; exact hb5.alloc hb5.size _)
  have O6 := Lib.hid (show Blk w6 w5.heap.size 34 [.int .i64 ox, .int .i64 oy, .slice sa sn sc, .slice ta tn tc] by rw [hw6]; exact Blk.new w5 _ _)
  have HW6 := Lib.hid hw6
  obtain ⟨O, hO⟩ : ∃ O, O = w5.heap.size := ⟨_, rfl⟩
  rw [← hO] at O6
  have LO := Lib.hid (show P < O from by rw [hO]; have := hb5.size; have := LP.out; omega)
  have HO := Lib.hid hO
  have M6 := Lib.hid (M4.out.chg LP.out.1 (Chg.of_below B6.out))
  have D6 := Lib.hid (D4.out.below B6.out (Nat.le_refl _))
  clear hw6 hO hcase hsol hb5 m0 m1 m2 m3 SV
  go_upto_region 4 with fail
  rw [← HW6.out, ← HO.out]
  go_wp2
  go_loopw [20] (fun s wr => ∃ j : Nat, j ≤ 6 ∧ s = .int .i64 j ∧ Deck wr D ∧ Chg (fun x => x = D) w6 wr) (fun s _ => 6 - (intOf s).toNat)
  case atStart => exact ⟨0, Nat.zero_le _, rfl, D6.out, Chg.refl _⟩
  case round =>
    obtain ⟨j, hj, rfl, hdr, hcr⟩ := hrel
    have DR := Lib.hid hdr; have CR := Lib.hid hcr
    clear hdr hcr
    obtain ⟨wz, rfl⟩ : ∃ wz : World, wz = wr := ⟨_, rfl⟩
    by_cases hlt6 : j < 6
    · have MR := Lib.hid (M6.out.chg LP.out.1 CR.out)
      have LDZ := Lib.hid (show D < wz.heap.size from DR.out.lt)
      have JZ := Lib.hid (show FrJ D wz wz (.slice none 0 0) [] from ⟨World.ownsRow_nil _ _ _ _, Sml.nil, DR.out, Chg.refl _⟩)
      have m0 := MR.out.blk.cell (i := 0) rfl
      have hj6 : (j : Int) < 6 := by omega
      go_wp2
      clear m0
      go_loopw [24, 7] (fun s v wr => ∃ (j : Nat) (l : List (Int × Int)), s = .int .i64 j ∧ j ≤ n ∧ l.length = j ∧ FrJ D wz wr v l) (fun s _ _ => n - (intOf s).toNat)
      case atStart => exact ⟨0, [], rfl, Nat.zero_le _, rfl, JZ.out⟩
      case round =>
        obtain ⟨m, l, rfl, hj, hlj, hjj⟩ := hrel
        obtain ⟨a, c, rfl⟩ := flat_form hjj.own
        have JR := Lib.hid hjj
        rw [hlj] at JR ⊢
        have HM := Lib.hid hlj.symm
        clear hjj hlj
        by_cases hlt : m < n
        · have hm5 : m ≤ 5 := by omega
          have hmr : (m : Int) < (n : Int) := by omega
          go_wp2_with fail
          refine (frac_any D wr JR.out.deck).mono ?_
          rintro e w5 ⟨p, q, rfl, p0, p1, q0, q1, hg, hd5, hb5⟩
          have J5 := Lib.hid (JR.out.but LDZ.out hb5 hd5)
          have S5 := Lib.hid hb5.size
          clear hd5 hb5 hg
          obtain ⟨w7, hw7⟩ : ∃ w6, w6 = w5.alloc (.cells #[.int .i64 p, .int .i64 q] 31) := ⟨_, rfl⟩
          have A7 := Lib.hid (show Below w5.heap.size w5 w7 by rw [hw7]; exact (Below.refl _ _).alloc (Nat.le_refl _) _)
          have X7 := Lib.hid (show Blk w7 w5.heap.size 31 [.int .i64 p, .int .i64 q] by rw [hw7]; exact Blk.new w5 _ _)
          have J7 := Lib.hid (J5.out.call A7.out)
          have HW7 := Lib.hid hw7
          obtain ⟨X, hX⟩ : ∃ X, X = w5.heap.size := ⟨_, rfl⟩
          have LX := Lib.hid (show wz.heap.size ≤ X ∧ D < X ∧ wr.heap.size ≤ X from ⟨by rw [hX]; exact J5.out.chg.size, by rw [hX]; have := J5.out.chg.size; have := LDZ.out; omega, by rw [hX]; exact S5.out⟩)
          have AX := Lib.hid (show ¬ (Value.slice a m c).ownBlock = some X from JR.out.apart LX.out.2.2)
          rw [← hX] at X7
          have HX := Lib.hid hX
          clear hw7 hX
          go_upto_region 10 with fail
          rw [← HW7.out, ← HX.out]
          go_cut [] (fun wx => ∃ p' : Int, -10 ≤ p' ∧ p' ≤ 10 ∧ Blk wx X 31 [.int .i64 p', .int .i64 q] ∧ FrJ D wz wx (.slice a m c) l)
          case first =>
            as_aux_lemma =>
              have x0 := X7.out.cell (i := 0) rfl
              have xf := X7.out.free
              have wneg : IntKind.i64.wrap (-p) = -p := Go.IntWalk.i64_in _ ⟨by omega, by omega⟩
              have RR := Lib.hid (show ∀ z, z = max p (-p) → ∃ p' : Int, -10 ≤ p' ∧ p' ≤ 10 ∧ Blk (w7.setCell ⟨X, 0, none⟩ (.int .i64 z)) X 31 [.int .i64 p', .int .i64 q] ∧ FrJ D wz (w7.setCell ⟨X, 0, none⟩ (.int .i64 z)) (.slice a m c) l from fun z hz =>
                ⟨z, by omega, by omega, (X7.out.set 0 _).at rfl, J7.out.set LX.out.1 AX.out LDZ.out _⟩)
              go_wp2
              all_goals
                go_meet
                exact RR.out _ (by omega)
          case rest =>
            obtain ⟨p', pp0, pp1, hx8, hj8⟩ := hcut
            obtain ⟨w8, hw8⟩ : ∃ w8 : World, w8 = wc := ⟨_, rfl⟩
            rw [← hw8] at hx8 hj8 ⊢
            clear hw8
            have x0 := hx8.cell (i := 0) rfl; have x1 := hx8.cell (i := 1) rfl
            obtain ⟨w9, hw9⟩ : ∃ w9, w9 = w8.alloc (.cells #[.int .i64 p', .int .i64 q] 31) := ⟨_, rfl⟩
            have A9 := Lib.hid (show Below w8.heap.size w8 w9 by rw [hw9]; exact (Below.refl _ _).alloc (Nat.le_refl _) _)
            have N9 := Lib.hid (show Blk w9 w8.heap.size 31 (tcs [(p', q)]) by rw [hw9]; exact Blk.new w8 _ _)
            have J9 := Lib.hid (hj8.call A9.out)
            have HW9 := Lib.hid hw9
            clear hw9 hx8 hj8 J7 X7 J5
            go_wp2_with (at_builtin; rw [← HW9.out]; refine wpList_append_flat rfl (.tmp 35) (.tmp 37) 32 rfl 31 Try.underlying32 info_fr rfl (by decide) (n := m) (by have h := J9.out.own; rw [← HM.out] at h; exact h) rfl J9.out.chg.size ⟨w8.heap.size, 0, none⟩ 1 1 (tcs [(p', q)]) rfl rfl (fun j u hu => by rw [Addr.add_lit, Nat.zero_add]; exact N9.out.cell hu) (by simp [tcs, Value.oneCell']) (by decide) (by omega) (by decide) ?_; intro g cap wA hap; have JA := Lib.hid (J9.out.push HM.out LDZ.out pp0 pp1 q0 q1 hap.out))
            clear x0 x1
            go_roundw
            case rel => exact ⟨m + 1, _, by go_num, by omega, by rw [List.length_append, ← HM.out]; rfl, JA.out⟩
            case measure => simp [intOf]; omega
        · obtain rfl : m = n := by omega
          have MF := Lib.hid (MR.out.chg LP.out.1 JR.out.chg)
          have HFL := Lib.hid JR.out.sml
          have XF := Lib.hid (show Row RTm 2 (fun k => D < k) wr a m c l from by
            have h := JR.out.own
            rw [← HM.out] at h
            exact tm_wide (fr_read h HM.out.symm (by omega)) (fun k hk => by have := LDZ.out; omega))
          have OB := Lib.hid (sobeys_any (fun k => D < k) m rows goal c0 HS.out l JR.out.sml ra rn rc ga gn gc a m c wr MF.out.rows MF.out.goal XF.out)
          have m0 := MF.out.blk.cell (i := 0) rfl; have m1 := MF.out.blk.cell (i := 1) rfl; have m2 := MF.out.blk.cell (i := 2) rfl; have m3 := MF.out.blk.cell (i := 3) rfl
          clear hlt
          go_wp2_with fail
          refine OB.out.mono ?_
          rintro e w7 ⟨r, rfl, hr, hb7⟩
          have HRR := Lib.hid hr
          have C7 := Lib.hid (show Chg (fun x => x = D) w6 w7 from (CR.out.trans JR.out.chg (fun _ _ h => h)).tr hb7)
          have B7 := Lib.hid hb7
          have D7 := Lib.hid (JR.out.deck.below hb7 (Nat.le_refl _))
          clear hr hb7 m0 m1 m2 m3
          cases r with
          | false =>
            go_wp2
            go_roundw
            case rel => exact ⟨j + 1, by omega, by go_num, D7.out, C7.out⟩
            case measure => simp [intOf]; omega
          | true =>
            obtain ⟨_, hgood, hob⟩ := HRR.out.1 rfl
            have FE := Lib.hid (obey_feas (n := m) hgood hob)
            have HF := Lib.hid (show Frs l from ⟨HFL.out, hgood⟩)
            have h34 : (code == 34) = false := by
              rcases CASE.out with ⟨_, _, _, h⟩ | ⟨h, _⟩ | ⟨h, _⟩
              · exact absurd ⟨_, FE.out⟩ h
              · rw [h]; rfl
              · rw [h]; rfl
            have GOK := HS.out.2.2.2.1
            have gl := terms_len GOK HS.out.1
            have hcl : (m : Int) = (l.length : Int) := by rw [← HM.out]
            have smg := dotAt_sm (tm := goal) HF.out (fun t ht => by obtain ⟨i, hi⟩ := List.getElem?_of_mem ht; exact (GOK i t (List.getElem?_eq_some_iff.1 hi).1 hi).2.2.2.2) _ (Nat.le_refl _)
            obtain ⟨dt, hdt⟩ : ∃ d, d = dotAt goal (l.map toR) goal.length := ⟨_, rfl⟩
            rw [← hdt] at smg
            obtain ⟨vs, hvs⟩ : ∃ v, v = dt + (c0 : Rat) := ⟨_, rfl⟩
            have hk := HS.out.2.2.2.2
            have smc : Sm (2520 * 9) (c0 : Rat) := Sm.int hk.1 hk.2.1
            have smv := smg.add smc
            rw [← hvs] at smv
            have OBJ := Lib.hid (show vs = objX goal c0 (gR (l.map toR)) by rw [hvs, hdt]; unfold objX; rw [dotAt_dotY]; grind)
            have MW7 := Lib.hid (MF.out.chg LP.out.1 (Chg.of_below B7.out))
            have XW7 := Lib.hid (XF.out.keeps RTm.stays (fun y _ hl => B7.out.block y hl) B7.out.size)
            have DOT := Lib.hid (show ∀ u, Below w7.heap.size w7 u → Calls Try.prog 17 #[.slice ga gn gc, .slice a m c] u (FrRet dt u) from fun u hu => by
              rw [hdt]
              exact dot_any (fun k => D < k) goal l m HF.out GOK hcl (by omega) ga gn gc a m c u (MW7.out.goal.keeps RTm.stays (fun y _ hl => hu.block y hl) hu.size) (XW7.out.keeps RTm.stays (fun y _ hl => hu.block y hl) hu.size))
            have ADD := Lib.hid (radd dt (c0 : Rat) (smg.fit (by omega)) (smc.fit (by decide)) (by rw [← hvs]; exact smv.fit (by omega)))
            rw [← hvs] at ADD
            have ADD : Hid (∀ u : World, Calls Try.prog 16 #[FrV dt, .agg #[.int .i64 c0, .int .i64 1]] u (FrTup vs u)) := Lib.hid (fun u => ADD.out u)
            have FV := Lib.hid (show Fit vs from smv.fit (by omega))
            have m2 := MW7.out.blk.cell (i := 2) rfl; have m3 := MW7.out.blk.cell (i := 3) rfl
            have OW7 := Lib.hid (O6.out.chg C7.out (fun e => by have := LO.out; have := LP.out; omega))
            clear hgood hob hdt hvs smg smc smv hk hcl gl GOK
            go_upto_region 16 with fail
            have lb0 := World.block_lt_of_cell? _ _ m2
            have lb1 := World.block_lt_of_cell? _ _ m3
            dsimp only at lb0 lb1
            go_cut [9, 10] (fun s x10 wx => x10 = .int .i64 0 ∧ ∃ B10 : Nat, s = .pointer (some ⟨B10, 0, none⟩) ∧ w7.heap.size ≤ B10 ∧ Blk wx B10 31 (FrC (vs)) ∧ Below w7.heap.size w7 wx)
            case first =>
              as_aux_lemma =>
                refine hd_start_e 14 (fun w' => w'.cell? ⟨P, 2, none⟩ = some (.slice ga gn gc) ∧ w'.cell? ⟨P, 3, none⟩ = some (.int .i64 c0)) (by kernel_rfl) ⟨by kernel_rfl, by rfl⟩ (by refine ⟨m2, m3⟩) (fun ok => ?_)
                refine hd_take_e (i := 0) (v := ?_) ok rfl (by decide) (by kernel_rfl) (by kernel_rfl) (fun _ _ _ h => h) (Or.inl ⟨by kernel_rfl, ?_⟩) ?_
                rotate_left
                · (intro w hSw; (try dsimp only at hSw); (try go_split_ands); go_simp; (try (with_reducible rfl)))
                go_frame
                refine hd_take_e (i := 1) (v := ?_) ok rfl (by decide) (by kernel_rfl) (by kernel_rfl) (fun _ _ _ h => h) (Or.inl ⟨by kernel_rfl, ?_⟩) ?_
                rotate_left
                · (intro w hSw; (try dsimp only at hSw); (try go_split_ands); go_simp; (try (with_reducible rfl)))
                go_frame
                refine hd_take_e (i := 2) (v := ?_) ok rfl (by decide) (by kernel_rfl) (by kernel_rfl) (fun _ _ _ h => h) (Or.inl ⟨by kernel_rfl, ?_⟩) ?_
                rotate_left
                · (intro w hSw; (try dsimp only at hSw); (try go_split_ands); go_simp; (try (with_reducible rfl)))
                go_frame
                refine hd_take_e (i := 4) (v := ?_) ok rfl (by decide) (by kernel_rfl) (by kernel_rfl) (fun _ _ _ h => h) (Or.inl ⟨by kernel_rfl, ?_⟩) ?_
                rotate_left
                · (intro w hSw; (try dsimp only at hSw); (try go_split_ands); go_simp; (try (with_reducible rfl)))
                go_frame
                refine hd_take_e (i := 5) (v := ?_) ok rfl (by decide) (by kernel_rfl) (by kernel_rfl) (fun _ _ _ h => h) (Or.inl ⟨by kernel_rfl, ?_⟩) ?_
                rotate_left
                · (intro w hSw; (try dsimp only at hSw); (try go_split_ands); go_simp; (try (with_reducible rfl)))
                go_frame
                refine hd_take_e (i := 6) (v := ?_) ok rfl (by decide) (by kernel_rfl) (by kernel_rfl) (fun _ _ _ h => h) (Or.inl ⟨by kernel_rfl, ?_⟩) ?_
                rotate_left
                · (intro w hSw; (try dsimp only at hSw); (try go_split_ands); go_simp; (try (with_reducible rfl)))
                go_frame
                refine hd_inv_s [(50, 3), (54, 7), (46, 8), (55, 9), (56, 10), (10, 13), (9, 11)] [12] (fun _ => undef) (fun b v w' => Below w7.heap.size w7 w' ∧ (b 3 = true → v 3 = FrV dt) ∧ (b 7 = true → v 7 = .tuple #[FrV vs, .int .i64 0]) ∧ (b 8 = true → v 8 = .tuple #[FrV vs, .int .i64 0]) ∧ (b 9 = true → v 9 = FrV vs) ∧ (b 10 = true → v 10 = .int .i64 0) ∧ (b 13 = true → v 13 = .int .i64 0) ∧ ∃ q7, (b 11 = true → v 11 = .pointer (some ⟨q7, 0, none⟩) ∧ w7.heap.size ≤ q7) ∧ (b 11 = true → b 12 = false → Blk w' q7 31 [.int .i64 0, .int .i64 0]) ∧ (b 12 = true → b 11 = true ∧ Blk w' q7 31 (FrC (vs)))) (.inr ok) ⟨by decide, by decide, by kernel_rfl, rfl⟩ (by kernel_rfl) (by kernel_rfl) (by kernel_rfl) (by decide) ⟨(Below.refl _ _).drew, (fun h => by cases h), (fun h => by cases h), (fun h => by cases h), (fun h => by cases h), (fun h => by cases h), (fun h => by cases h), 0, (fun h => by cases h), (fun h => by cases h), (fun h => by cases h)⟩ ?_ ?_
                · intro iA oj hi ho bb vA aA w' hJ hv hr hb hdep hS K hK
                  obtain ⟨hB, j3, j7, j8, j9, j10, j13, q7, jal, jz, jst⟩ := hJ
                  have hBs := hB.size
                  have hi4 : iA = 3 ∨ iA = 7 ∨ iA = 8 ∨ iA = 9 ∨ iA = 10 ∨ iA = 13 ∨ iA = 11 ∨ iA = 12 := by simpa using hi
                  try dsimp only at hS
                  obtain ⟨s0, s1⟩ := hS
                  rcases hi4 with rfl | rfl | rfl | rfl | rfl | rfl | rfl | rfl
                  · obtain rfl := Option.some.inj ho
                    have e48 : aA.tmps[48]?.getD undef = .slice ga gn gc := (get_eval aA 48).trans (hr 48 (by decide))
                    have e49 : aA.tmps[49]?.getD undef = .slice a m c := (get_eval aA 49).trans (hr 49 (by decide))
                    go_simp
                    go_at_call 17
                    refine (DOT.out _ hB).mono ?_
                    rintro e u ⟨rfl, hu⟩
                    exact hK _ _ ⟨cell_later hu s0, cell_later hu s1⟩ ⟨hB.trans (hu.mono hBs), fun _ => rfl, j7, j8, j9, j10, j13, q7, jal, fun h1 h2 => (jz h1 h2).below hu (jz h1 h2).lt, fun h => ⟨(jst h).1, (jst h).2.below hu (jst h).2.lt⟩⟩
                  · obtain rfl := Option.some.inj ho
                    have d3 := hdep 3 (by kernel_rfl)
                    have e50 : aA.tmps[50]?.getD undef = FrV dt := (get_eval aA 50).trans ((hv 50 3 (by decide) d3).trans (j3 d3))
                    have e53 : aA.tmps[53]?.getD undef = .agg #[.int .i64 c0, .int .i64 1] := (get_eval aA 53).trans (hr 53 (by decide))
                    go_simp
                    go_at_call 16
                    refine (ADD.out _).mono ?_
                    rintro e u ⟨rfl, hu⟩
                    exact hK _ _ ⟨cell_later hu s0, cell_later hu s1⟩ ⟨hB.trans (hu.mono hBs), j3, fun _ => rfl, j8, j9, j10, j13, q7, jal, fun h1 h2 => (jz h1 h2).below hu (jz h1 h2).lt, fun h => ⟨(jst h).1, (jst h).2.below hu (jst h).2.lt⟩⟩
                  · obtain rfl := Option.some.inj ho
                    have d7 := hdep 7 (by kernel_rfl)
                    have e54 : aA.tmps[54]?.getD undef = .tuple #[FrV vs, .int .i64 0] := (get_eval aA 54).trans ((hv 54 7 (by decide) d7).trans (j7 d7))
                    go_simp
                    exact hK _ _ ⟨s0, s1⟩ ⟨hB, j3, j7, fun _ => rfl, j9, j10, j13, q7, jal, jz, jst⟩
                  · obtain rfl := Option.some.inj ho
                    have d8 := hdep 8 (by kernel_rfl)
                    have e46 : aA.tmps[46]?.getD undef = .tuple #[FrV vs, .int .i64 0] := (get_eval aA 46).trans ((hv 46 8 (by decide) d8).trans (j8 d8))
                    go_simp
                    exact hK _ _ ⟨s0, s1⟩ ⟨hB, j3, j7, j8, fun _ => rfl, j10, j13, q7, jal, jz, jst⟩
                  · obtain rfl := Option.some.inj ho
                    have d8 := hdep 8 (by kernel_rfl)
                    have e46 : aA.tmps[46]?.getD undef = .tuple #[FrV vs, .int .i64 0] := (get_eval aA 46).trans ((hv 46 8 (by decide) d8).trans (j8 d8))
                    go_simp
                    exact hK _ _ ⟨s0, s1⟩ ⟨hB, j3, j7, j8, j9, fun _ => rfl, j13, q7, jal, jz, jst⟩
                  · obtain rfl := Option.some.inj ho
                    have d10 := hdep 10 (by kernel_rfl)
                    have e56 : aA.tmps[56]?.getD undef = .int .i64 0 := (get_eval aA 56).trans ((hv 56 10 (by decide) d10).trans (j10 d10))
                    go_simp
                    exact hK _ _ ⟨s0, s1⟩ ⟨hB, j3, j7, j8, j9, j10, fun _ => rfl, q7, jal, jz, jst⟩
                  · obtain rfl := Option.some.inj ho
                    go_simp
                    have hu : Below w'.heap.size w' (w'.alloc (.cells #[.int .i64 0, .int .i64 0] 31)) := (Below.refl _ _).alloc (Nat.le_refl _) _
                    exact hK _ _ ⟨cell_later hu s0, cell_later hu s1⟩ ⟨hB.trans (hu.mono hBs), j3, j7, j8, j9, j10, j13, w'.heap.size, fun _ => ⟨rfl, hBs⟩, fun _ _ => Blk.new w' [.int .i64 0, .int .i64 0] 31, fun h => by have := (jst h).1; rw [hb] at this; cases this⟩
                  · obtain rfl := Option.some.inj ho
                    have dal := hdep 11 (by kernel_rfl)
                    obtain ⟨val, lal⟩ := jal dal
                    have bz := jz dal hb
                    have e9 : aA.tmps[9]?.getD undef = .pointer (some ⟨q7, 0, none⟩) := (get_eval aA 9).trans ((hv 9 11 (by decide) dal).trans val)
                    have d9 := hdep 9 (by kernel_rfl)
                    have e55 : aA.tmps[55]?.getD undef = FrV vs := (get_eval aA 55).trans ((hv 55 9 (by decide) d9).trans (j9 d9))
                    have z0 := bz.cell (i := 0) rfl; have z1 := bz.cell (i := 1) rfl; have zf := bz.free
                    go_simp
                    have hc2 : Below w7.heap.size w7 ((w'.setCell ⟨q7, 0, none⟩ (.int .i64 (vs).num)).setCell ⟨q7, 1, none⟩ (.int .i64 ((vs).den : Int))) := (hB.setCell lal _).setCell lal _
                    exact hK (.int .i64 0) _ ⟨cell_set (by omega) (cell_set (by omega) s0), cell_set (by omega) (cell_set (by omega) s1)⟩ ⟨hc2, j3, j7, j8, j9, j10, j13, q7, jal, (fun _ h => by cases h), fun _ => ⟨dal, ((bz.set 0 _).set 1 _).at rfl⟩⟩
                · intro bb vA w' hall hJ hS
                  obtain ⟨hB, j3, j7, j8, j9, j10, j13, q7, jal, jz, jst⟩ := hJ
                  have v3 := j3 (hall 3 (by decide))
                  have v7 := j7 (hall 7 (by decide))
                  have v8 := j8 (hall 8 (by decide))
                  have v9 := j9 (hall 9 (by decide))
                  have v10 := j10 (hall 10 (by decide))
                  have v13 := j13 (hall 13 (by decide))
                  obtain ⟨val, lal⟩ := jal (hall 11 (by decide))
                  have R := Lib.hid (show ∃ B10 : Nat, Value.pointer (some ⟨q7, 0, none⟩) = .pointer (some ⟨B10, 0, none⟩) ∧ w7.heap.size ≤ B10 ∧ Blk w' B10 31 (FrC (vs)) ∧ Below w7.heap.size w7 w' from ⟨q7, rfl, lal, (jst (hall 12 (by decide))).2, hB⟩)
                  simp only [putP, v3, v7, v8, v9, v10, v13, val]
                  clear hB j3 j7 j8 j9 j10 j13 jal jz jst v3 v7 v8 v9 v10 v13 val lal hS hall ok
                  go_frame
                  refine hd_end (by kernel_rfl) rfl ?_
                  go_wp2_with fail
                  go_meet
                  exact ⟨rfl, R.out⟩
            case rest =>
              obtain ⟨rfl, B9, rfl, lB9, b9, hB⟩ := hcut
              obtain ⟨w8, hw8⟩ : ∃ w5 : World, w5 = wc := ⟨_, rfl⟩
              rw [← hw8] at b9 hB ⊢
              clear hw8 m2 m3
              have C8 := Lib.hid (C7.out.tr hB)
              have D8 := Lib.hid (D7.out.below hB (Nat.le_refl _))
              have O8 := Lib.hid (OW7.out.below hB OW7.out.lt)
              have V8 := Lib.hid b9
              clear hB b9 lB9
              rcases CASE.out with ⟨hc, _, _, h⟩ | ⟨hc, _⟩ | ⟨hc, V, hx, hy, hF, _, hbest⟩
              · exact absurd ⟨_, FE.out⟩ h
              · subst hc
                go_wp2
                go_roundw
                case rel => exact ⟨j + 1, by omega, by go_num, D8.out, C8.out⟩
                case measure => simp [intOf]; omega
              · subst hc hx hy
                have HFV := Lib.hid hF
                have VL := Lib.hid (fit_valid hF)
                have CM := Lib.hid (rcmp vs V FV.out hF)
                have CN := Lib.hid (show ¬ 0 < cmpR vs V by
                  rw [cmpR_gt, OBJ.out]
                  exact fun h => h (hbest _ FE.out))
                generalize cmpR vs V = cv at CM CN
                have hcd : decide (cv > 0) = false := decide_eq_false CN.out
                have o0 := O8.out.cell (i := 0) rfl; have o1 := O8.out.cell (i := 1) rfl
                have v0 := V8.out.cell (i := 0) rfl; have v1 := V8.out.cell (i := 1) rfl
                clear hF hbest
                go_wp2_with fail
                refine (VL.out _).mono ?_
                rintro e w9 ⟨rfl, hb⟩
                have o0 := cell_later hb o0; have o1 := cell_later hb o1; have v0 := cell_later hb v0; have v1 := cell_later hb v1
                have C9 := Lib.hid (C8.out.tr hb)
                have D9 := Lib.hid (D8.out.below hb (Nat.le_refl _))
                clear hb
                go_wp2_with fail
                refine (CM.out _).mono ?_
                rintro e wA ⟨rfl, hb⟩
                have CA := Lib.hid (C9.out.tr hb)
                have DA := Lib.hid (D9.out.below hb (Nat.le_refl _))
                clear hb o0 o1 v0 v1
                go_wp2
                go_roundw
                case rel => exact ⟨j + 1, by omega, by go_num, DA.out, CA.out⟩
                case measure => simp [intOf]; omega
    · obtain rfl : j = 6 := by omega
      have BZ := Lib.hid (show Below w.heap.size w wz from (B4w.out.trans (B6.out.mono B4w.out.size)).trans (CR.out.below (fun k hk e => by have := HD.out; omega) (Nat.le_trans B4w.out.size B6.out.size)))
      clear hlt6
      go_wp2_with fail
      refine (awake_any _).mono ?_
      rintro e w7 ⟨rfl, hb⟩
      have BF := Lib.hid (BZ.out.trans (hb.mono BZ.out.size))
      clear hb
      go_wp2
      go_ret
      exact ⟨rfl, BF.out⟩
end Go.Proofs.Ytdegpgonphgbcaa
