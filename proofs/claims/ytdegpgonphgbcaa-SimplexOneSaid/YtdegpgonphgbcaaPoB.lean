/-
  SimplexOne, walked: for every input the law's function returns true, and nothing that was there changes.
-/
import Derived.Test.YtdegpgonphgbcaaPoA
namespace Go.Proofs.Ytdegpgonphgbcaa
open Go.RowKit

theorem IsRow.get1 {k : IntKind} {w : World} {a : Option Addr} {len cap : Nat} {zs : List Int} (h : IsRow k w a len cap zs) {i : Nat} (hi : i < len) :
    ∃ b o, a = some ⟨b, o, none⟩ ∧ w.cell? ⟨b, o + i, none⟩ = some (.int k (zs.getD i 0)) ∧ b < w.heap.size ∧ (Lit.int k (zs.getD i 0)).wf = true := by
  have hh := h
  rcases h with ⟨rfl, rfl, rfl, rfl⟩ | ⟨x, rfl, h1, h2, h3, h4, h5⟩
  · omega
  · obtain ⟨b, o, rfl⟩ := hh.place (by omega)
    have hc := add_at _ _ _ _ (h4 i (by omega)) b o rfl
    refine ⟨b, o, rfl, hc, World.block_lt_of_cell? w _ hc, h5 _ ?_⟩
    rw [List.getD_eq_getElem?_getD, List.getElem?_eq_getElem (show i < zs.length by omega)]
    exact List.getElem_mem _
theorem wf_byte {z : Int} (h : (Lit.int .u8 z).wf = true) : 0 ≤ z ∧ z ≤ 255 := by simpa [Lit.wf, IntKind.min, IntKind.max, IntKind.signed, IntKind.bits] using h
theorem wf_i8 {z : Int} (h : (Lit.int .i8 z).wf = true) : -128 ≤ z ∧ z ≤ 127 := by simpa [Lit.wf, IntKind.min, IntKind.max, IntKind.signed, IntKind.bits] using h
set_option maxRecDepth 100000 in
set_option maxHeartbeats 64000000 in
theorem sxOne_top (gz : Int) (a1 : Option Addr) (n1 c1 : Nat) (z1 : List Int) (a2 : Option Addr) (n2 c2 : Nat) (z2 : List Int) (hw : (Lit.int .i8 gz).wf = true) (w : World) (R1 : IsRow .u8 w a1 n1 c1 z1) (R2 : IsRow .u8 w a2 n2 c2 z2) :
    Calls Try.prog 5 #[.int .i8 gz, .slice a1 n1 c1, .slice a2 n2 c2] w (AwRet w) := by
  have hz := wf_i8 hw
  have L1 := Lib.hid R1.lens; have L2 := Lib.hid R2.lens
  have HR1 := Lib.hid R1; have HR2 := Lib.hid R2
  clear R1 R2 hw
  obtain ⟨w1, hw1⟩ : ∃ w1, w1 = w.alloc (.cells #[.int .i64 1, .slice none 0 0, .slice none 0 0, .int .i64 0] 28) := ⟨_, rfl⟩
  have B1 := Lib.hid (show Below w.heap.size w w1 by rw [hw1]; exact (Below.refl _ _).alloc (Nat.le_refl _) _)
  obtain ⟨P, hP⟩ : ∃ P, P = w.heap.size := ⟨_, rfl⟩
  have P1 := Lib.hid (show Blk w1 P 28 [.int .i64 1, .slice none 0 0, .slice none 0 0, .int .i64 0] by rw [hw1, hP]; exact Blk.new w _ _)
  have HW1 := Lib.hid hw1; have HP := Lib.hid hP
  clear hw1 hP
  obtain ⟨g, hg⟩ : ∃ g, g = gz.tmod 10 := ⟨_, rfl⟩
  have g9 : -9 ≤ g ∧ g ≤ 9 := by
    have h1 := Int.lt_tmod_of_pos gz (show (0 : Int) < 10 by decide)
    have h2 := Int.tmod_lt_of_pos gz (show (0 : Int) < 10 by decide)
    omega
  have wz : IntKind.i64.wrap gz = gz := Go.IntWalk.i64_in _ ⟨by omega, by omega⟩
  have HG9 := Lib.hid g9
  have HG := Lib.hid hg
  clear hg
  go_enter Try.func5, Try.ntmps5
  go_upto_region 2 with fail
  rw [← HW1.out, ← HP.out]
  go_upto_if 24 with fail
  rw [← HG.out]
  clear hz wz HG
  go_cut [] (fun wx => ∃ (ga : Option Addr) (gn gc : Nat), Blk wx P 28 [.int .i64 1, .slice none 0 0, .slice ga gn gc, .int .i64 0] ∧ GoalM wx g ga gn gc ∧ Below w.heap.size w wx)
  case first =>
    as_aux_lemma =>
      by_cases h0 : g = 0
      · have hb0 : (g != 0) = false := by simpa using h0
        have RR := Lib.hid (show ∃ (ga : Option Addr) (gn gc : Nat), Blk w1 P 28 [.int .i64 1, .slice none 0 0, .slice ga gn gc, .int .i64 0] ∧ GoalM w1 g ga gn gc ∧ Below w.heap.size w w1 from ⟨none, 0, 0, P1.out, .inl ⟨h0, rfl, rfl, rfl⟩, B1.out⟩)
        clear h0
        go_wp2
        go_meet
        exact RR.out
      · have hb0 : (g != 0) = true := by simpa using h0
        have H0 := Lib.hid (show ¬ g = 0 from h0)
        clear h0
        obtain ⟨wS, hwS⟩ : ∃ wS, wS = w1.setCell ⟨P, 2, none⟩ (.slice (some ⟨w1.heap.size, 0, none⟩) 1 1) := ⟨_, rfl⟩
        have S1 := Lib.hid (show Blk wS P 28 [.int .i64 1, .slice none 0 0, .slice (some ⟨w1.heap.size, 0, none⟩) 1 1, .int .i64 0] by rw [hwS]; exact (P1.out.set 2 _).at rfl)
        have SB := Lib.hid (show Below w.heap.size w wS by rw [hwS]; exact B1.out.setCell (by rw [HP.out]; exact Nat.le_refl _) _)
        have SZ := Lib.hid (show wS.heap.size = w1.heap.size by rw [hwS]; simp)
        have RR := Lib.hid (show ∃ (ga : Option Addr) (gn gc : Nat), Blk (wS.alloc (.cells #[.int .i64 0, .int .i64 g] 56)) P 28 [.int .i64 1, .slice none 0 0, .slice ga gn gc, .int .i64 0] ∧ GoalM (wS.alloc (.cells #[.int .i64 0, .int .i64 g] 56)) g ga gn gc ∧ Below w.heap.size w (wS.alloc (.cells #[.int .i64 0, .int .i64 g] 56)) from
          ⟨some ⟨w1.heap.size, 0, none⟩, 1, 1, S1.out.old _, .inr ⟨H0.out, w1.heap.size, rfl, rfl, rfl, (Blk.new wS (tcs [((0 : Int), g)]) 56).at' SZ.out⟩, SB.out.alloc SB.out.size _⟩)
        have HWS := Lib.hid hwS
        have p2 := P1.out.cell (i := 2) rfl
        have pf := P1.out.free
        have lP := P1.out.lt
        clear hwS
        go_wp2
        rw [← HWS.out]
        go_meet
        exact RR.out
  case rest =>
    obtain ⟨ga, gn, gc, hpb, hgm, hbw⟩ := hcut
    obtain ⟨w2, hw2⟩ : ∃ w5 : World, w5 = wc := ⟨_, rfl⟩
    rw [← hw2] at hpb hgm hbw ⊢
    clear hw2
    obtain ⟨w3, hw3⟩ : ∃ w3, w3 = w2.alloc (.cells #[.int .i64 0, .int .i64 0] 31) := ⟨_, rfl⟩
    have A3 := Lib.hid (show Below w2.heap.size w2 w3 by rw [hw3]; exact (Below.refl _ _).alloc (Nat.le_refl _) _)
    have LP3 := Lib.hid (show P < w3.heap.size from Nat.lt_of_lt_of_le hpb.lt A3.out.size)
    obtain ⟨Q, hQ⟩ : ∃ Q, Q = w2.heap.size := ⟨_, rfl⟩
    have J3 := Lib.hid (show OneJ w3.heap.size P Q w w3 g ga gn gc [] (.slice none 0 0) [] [.int .i64 0, .int .i64 0] from
      ⟨hpb.below A3.out hpb.lt, by rw [hw3, hQ]; exact Blk.new w2 _ _, ⟨_, _, rfl⟩, hgm.chg (M := Non) (Chg.of_below A3.out) (fun _ _ _ h => h), World.ownsRow_nil _ _ _ _, rfl, (fun i u p h => by simp at h), (fun p h => by cases h), hbw.trans (A3.out.mono hbw.size)⟩)
    have LQ := Lib.hid (show w.heap.size ≤ Q ∧ w.heap.size ≤ P ∧ w.heap.size ≤ w3.heap.size from ⟨by rw [hQ]; exact hbw.size, by rw [HP.out]; exact Nat.le_refl _, Nat.le_trans hbw.size A3.out.size⟩)
    have HW3 := Lib.hid hw3; have HQ := Lib.hid hQ
    clear hw3 hQ hpb hgm hbw P1
    go_upto_region 6 with fail
    rw [← HW3.out, ← HQ.out]
    go_wp2
    go_loopw [11, 10] (fun s11 s10 wr => ∃ (l : List (Int × Int)) (vR : Value) (us cs : List Value), s11 = .int .i64 l.length ∧ s10 = .bool (decide (0 < l.length)) ∧ l.length ≤ 6 ∧ BestM l cs ∧ w3.heap.size ≤ wr.heap.size ∧ OneJ w3.heap.size P Q w wr g ga gn gc l vR us cs) (fun s11 _ _ => 6 - (intOf s11).toNat)
    case atStart => exact ⟨[], _, _, _, rfl, rfl, by decide, .inl ⟨rfl, rfl⟩, Nat.le_refl _, J3.out⟩
    case round =>
      obtain ⟨l, vR, us, cs, rfl, rfl, hl6, hbm, hsz, hj⟩ := hrel
      have SZ := Lib.hid hsz
      clear hsz
      have JR := Lib.hid hj; have BM := Lib.hid hbm
      clear hj hbm
      obtain ⟨k, hk⟩ : ∃ k, k = l.length := ⟨_, rfl⟩
      rw [← hk] at hl6 ⊢
      have HK := Lib.hid hk
      clear hk
      obtain ⟨go, hgo⟩ : ∃ go, go = (decide (k < n1) && decide (k < n2) && decide (k < 6)) := ⟨_, rfl⟩
      have HGO := Lib.hid hgo
      clear hgo
      obtain ⟨wo, rfl⟩ : ∃ wo : World, wo = wr := ⟨_, rfl⟩
      have l1 := L1.out; have l2 := L2.out
      go_upto_region 7 with fail
      go_cut [43] (fun s wx => s = .bool go ∧ wo = wx)
      case first =>
        by_cases b0 : k < n1
        · by_cases b1 : k < n2
          · by_cases b2 : k < 6
            · go_wp2
              go_meet
              exact ⟨by rw [HGO.out]; simp [b0, b1, b2]; omega, rfl⟩
            · go_wp2
              go_meet
              exact ⟨by rw [HGO.out]; simp [b2]; omega, rfl⟩
          · go_wp2
            go_meet
            exact ⟨by rw [HGO.out]; simp [b1], rfl⟩
        · go_wp2
          go_meet
          exact ⟨by rw [HGO.out]; simp [b0], rfl⟩
      case rest =>
        obtain ⟨rfl, hwx⟩ := hcut
        subst hwx
        cases go with
        | true =>
          have hb := HGO.out.symm
          simp only [Bool.and_eq_true, decide_eq_true_eq] at hb
          obtain ⟨⟨b0, b1⟩, b2⟩ := hb
          obtain ⟨p1, o1, rfl, x1, t1, y1⟩ := IsRow.get1 HR1.out b0
          obtain ⟨p2, o2, rfl, x2, t2, y2⟩ := IsRow.get1 HR2.out b1
          obtain ⟨q1, e1⟩ : ∃ q, q = z1.getD k 0 := ⟨_, rfl⟩
          obtain ⟨q2, e2⟩ : ∃ q, q = z2.getD k 0 := ⟨_, rfl⟩
          rw [← e1] at x1 y1; rw [← e2] at x2 y2
          have y1 := wf_byte y1; have y2 := wf_byte y2
          have x1 := (JR.out.below.cell (p := ⟨p1, o1 + k, none⟩) t1).trans x1
          have x2 := (JR.out.below.cell (p := ⟨p2, o2 + k, none⟩) t2).trans x2
          clear e1 e2 t1 t2
          obtain ⟨a, ha⟩ : ∃ a, a = 1 + q1 % 9 := ⟨_, rfl⟩
          obtain ⟨b, hb⟩ : ∃ b, b = q2 % 51 := ⟨_, rfl⟩
          have ha9 : 1 ≤ a ∧ a ≤ 9 := by rw [ha]; omega
          have hb50 : 0 ≤ b ∧ b ≤ 50 := by rw [hb]; omega
          have wq1 : IntKind.i64.wrap q1 = q1 := Go.IntWalk.i64_in _ ⟨by omega, by omega⟩
          have wq2 : IntKind.i64.wrap q2 = q2 := Go.IntWalk.i64_in _ ⟨by omega, by omega⟩
          have HA := Lib.hid ha; have HB := Lib.hid hb
          have HA9 := Lib.hid ha9; have HB50 := Lib.hid hb50
          clear ha hb
          go_upto_region 9 with fail
          go_cut [12, 13] (fun s12 s13 wx => s12 = .int .i64 a ∧ s13 = .int .i64 b ∧ Below wo.heap.size wo wx)
          case first =>
            as_aux_lemma =>
              go_quiet (fail)
              go_wp2
              go_meet
              exact ⟨by first | rfl | rw [HA.out], by first | rfl | rw [HB.out], below_drewN (Below.refl _ _) nq⟩
          case rest =>
            obtain ⟨rfl, rfl, hB4⟩ := hcut
            obtain ⟨w4, hw4⟩ : ∃ w5 : World, w5 = wc := ⟨_, rfl⟩
            rw [← hw4] at hB4 ⊢
            have J4 := Lib.hid (JR.out.call hB4)
            have SZ4 := Lib.hid (Nat.le_trans SZ.out hB4.size)
            clear hw4 hB4 x1 x2 y1 y2 wq1 wq2 JR
            obtain ⟨va, vc, rfl⟩ := flat_form J4.out.hR
            rw [← HK.out] at J4
            obtain ⟨w5, hw5⟩ : ∃ w5, w5 = w4.alloc (.cells #[.int .i64 0, .int .i64 a] 56) := ⟨_, rfl⟩
            have A5 := Lib.hid (show Below w4.heap.size w4 w5 by rw [hw5]; exact (Below.refl _ _).alloc (Nat.le_refl _) _)
            have T5 := Lib.hid (show Blk w5 w4.heap.size 56 (tcs [((0 : Int), a)]) by rw [hw5]; exact Blk.new w4 _ _)
            obtain ⟨w6, hw6⟩ : ∃ w6, w6 = w5.alloc (.cells #[.slice (some ⟨w4.heap.size, 0, none⟩) 1 1, .int .i64 b] 50) := ⟨_, rfl⟩
            have A6 := Lib.hid (show Below w5.heap.size w5 w6 by rw [hw6]; exact (Below.refl _ _).alloc (Nat.le_refl _) _)
            have T6 := Lib.hid (show Blk w6 w4.heap.size 56 (tcs [((0 : Int), a)]) by rw [hw6]; exact T5.out.old _)
            have N6 := Lib.hid (show Blk w6 (w4.heap.size + 1) 50 [.slice (some ⟨w4.heap.size, 0, none⟩) 1 1, .int .i64 b] by rw [hw6]; exact (Blk.new w5 [.slice (some ⟨w4.heap.size, 0, none⟩) 1 1, .int .i64 b] 50).at' (by rw [hw5]; simp))
            have J6 := Lib.hid ((J4.out.call A5.out).call A6.out)
            have HW5 := Lib.hid hw5; have HW6 := Lib.hid hw6
            have p1 := J4.out.pb.cell (i := 1) rfl
            clear hw5 hw6
            have hk6 : k ≤ 6 := hl6
            have LB := Lib.hid (show w3.heap.size ≤ w6.heap.size from Nat.le_trans SZ4.out (Nat.le_trans A5.out.size A6.out.size))
            go_wp2_with (at_builtin; rw [← HW5.out, ← HW6.out]; refine wpList_append_flat rfl (.tmp 60) (.tmp 66) 25 rfl 50 Try.underlying25 info_rw rfl (by decide) (n := k) (by have h := J6.out.hR; rw [← HK.out] at h; exact h) rfl LB.out ⟨w4.heap.size + 1, 0, none⟩ 1 1 [.slice (some ⟨w4.heap.size, 0, none⟩) 1 1, .int .i64 b] rfl rfl (fun j u hu => by rw [Addr.add_lit, Nat.zero_add]; exact N6.out.cell hu) (by simp [Value.oneCell']) (by decide) (by omega) (by decide) ?_; intro G cap w7 hap; have PU := Lib.hid (J6.out.push HK.out LQ.out.2.1 LQ.out.2.2 HA9.out HB50.out T6.out hap.out); have Pq := Lib.hid (J6.out.pb.chg hap.out.chg (fun e => by obtain ⟨_, hx, _⟩ := owns_tag J6.out.hR e; exact blk_tag hx J6.out.pb (by decide) rfl)); have q1 := Pq.out.cell (i := 1) rfl; have qf := Pq.out.free)
            clear p1 q1 qf
            obtain ⟨w8, hw8⟩ : ∃ w8, w8 = w7.setCell ⟨P, 1, none⟩ (.slice (some ⟨G, 0, none⟩) (k + 1) cap) := ⟨_, rfl⟩
            have J8 := Lib.hid (show OneJ w3.heap.size P Q w w8 g ga gn gc (l ++ [(a, b)]) (.slice (some ⟨G, 0, none⟩) (k + 1) cap) (us ++ [.slice (some ⟨w4.heap.size, 0, none⟩) 1 1]) cs by rw [hw8]; exact PU.out)
            have SZ8 := Lib.hid (show w3.heap.size ≤ w8.heap.size by rw [hw8]; simp; exact Nat.le_trans LB.out hap.out.chg.size)
            rw [← hw8]
            clear hw8 hap PU Pq J6 J4
            have ha := HA9.out; have hbb := HB50.out
            obtain ⟨x, hx⟩ : ∃ x : Rat, x = (b : Rat) / (a : Rat) := ⟨_, rfl⟩
            have HX := Lib.hid hx
            have fx : Fit x := by
              have ha0 : (a : Rat) ≠ 0 := fun e => by
                have := Rat.intCast_inj.1 (e.trans (by simp : (0 : Rat) = ((0 : Int) : Rat)))
                omega
              have e : x * (a : Rat) = (b : Rat) := by rw [hx]; grind
              exact quo_fit' (whole_int a) ha0 (ab9 (by omega) (by omega)) (C := 50) ⟨by rw [e]; exact whole_int b, by rw [e]; exact ab50 (by omega) (by omega)⟩ (by grind) (by grind)
            have MK := Lib.hid (show ∀ u : World, Calls Try.prog 22 #[.int .i64 b, .int .i64 a] u (FrTup x u) from fun u => by
              have h := rmake_any b a (by omega) (by omega) (by omega) (by omega) (by omega) u
              obtain ⟨h1, h2, h3⟩ := fit_named (a := b) (b := a) (x := x) (by omega) (by rw [hx, Rat.divInt_eq_div]) fx
              unfold Red at h
              rw [h1, h2, h3] at h
              exact h)
            have FX := Lib.hid fx
            clear hx fx ha hbb
            refine (MK.out _).mono ?_
            rintro e w9 ⟨rfl, hb9⟩
            obtain ⟨wA, hwA⟩ : ∃ wA, wA = w9.alloc (.cells #[.int .i64 x.num, .int .i64 (x.den : Int)] 31) := ⟨_, rfl⟩
            have BA := Lib.hid (show Below w8.heap.size w8 wA by rw [hwA]; exact hb9.alloc hb9.size _)
            have XA := Lib.hid (show Blk wA w9.heap.size 31 (FrC x) by rw [hwA]; exact Blk.new w9 _ _)
            have JA := Lib.hid (J8.out.call BA.out)
            have SZA := Lib.hid (Nat.le_trans SZ8.out BA.out.size)
            have HWA := Lib.hid hwA
            obtain ⟨Z, hZ⟩ : ∃ Z, Z = w9.heap.size := ⟨_, rfl⟩
            rw [← hZ] at XA
            have HZ := Lib.hid hZ
            have ZQ := Lib.hid (show Q ≠ Z by rw [hZ]; have := (J8.out.qb).lt; have := hb9.size; omega)
            clear hwA hZ hb9 J8
            go_upto_region 12 with fail
            rw [← HWA.out, ← HZ.out]
            have LN := Lib.hid (show (l ++ [(a, b)]).length = k + 1 by rw [List.length_append, ← HK.out]; rfl)
            have x0 := XA.out.cell (i := 0) rfl; have x1 := XA.out.cell (i := 1) rfl
            rcases BM.out with ⟨hl0, hcs⟩ | ⟨best, hbl, hcs⟩
            · have hk0 : k = 0 := by rw [HK.out, hl0]; rfl
              subst hk0
              subst hcs
              have NB := Lib.hid (show BestM (l ++ [(a, b)]) (FrC x) from .inr ⟨x, by rw [hl0, HX.out]; exact least_first, rfl⟩)
              have q0 := JA.out.qb.cell (i := 0) rfl; have q1 := JA.out.qb.cell (i := 1) rfl; have qf := JA.out.qb.free
              have PS := Lib.hid (JA.out.setQ LQ.out.1 x)
              clear hl0
              go_wp2
              go_roundw
              case rel => exact ⟨_, _, _, _, by rw [LN.out]; go_num, by rw [LN.out]; rfl, by rw [LN.out]; omega, NB.out, by simp; exact SZA.out, PS.out⟩
              case measure => simp [intOf]
            · subst hcs
              have hkp : 0 < k := by
                obtain ⟨p, hp, _⟩ := hbl.1
                have := List.length_pos_of_mem hp
                rw [HK.out]; exact this
              have hkd : decide (0 < k) = true := decide_eq_true hkp
              have fb : Fit best := by
                obtain ⟨p, hp, e⟩ := hbl.1
                obtain ⟨h1, h2, h3, h4⟩ := JA.out.ok p (List.mem_append_left _ hp)
                have ha0 : (p.1 : Rat) ≠ 0 := fun e => by
                  have := Rat.intCast_inj.1 (e.trans (by simp : (0 : Rat) = ((0 : Int) : Rat)))
                  omega
                have e2 : best * (p.1 : Rat) = (p.2 : Rat) := by rw [e]; grind
                exact quo_fit' (whole_int p.1) ha0 (ab9 (by omega) (by omega)) (C := 50) ⟨by rw [e2]; exact whole_int _, by rw [e2]; exact ab50 (by omega) (by omega)⟩ (by grind) (by grind)
              have CM := Lib.hid (rcmp x best FX.out fb)
              have NB := Lib.hid (show (cmpR x best < 0 → BestM (l ++ [(a, b)]) (FrC x)) ∧ (¬ cmpR x best < 0 → BestM (l ++ [(a, b)]) (FrC best)) from by
                have h := least_snoc hbl a b
                rw [← HX.out] at h
                rw [cmpR_lt]
                constructor
                · intro hlt; rw [if_pos (by grind)] at h; exact .inr ⟨x, h, rfl⟩
                · intro hlt; rw [if_neg (by grind)] at h; exact .inr ⟨best, h, rfl⟩)
              generalize cmpR x best = cv at CM NB
              have q0 := JA.out.qb.cell (i := 0) rfl; have q1 := JA.out.qb.cell (i := 1) rfl
              clear hbl fb
              go_wp2_with fail
              refine (CM.out _).mono ?_
              rintro e wB ⟨rfl, hbB⟩
              have JB := Lib.hid (JA.out.call hbB)
              have XB := Lib.hid (XA.out.below hbB XA.out.lt)
              have SZB := Lib.hid (Nat.le_trans SZA.out hbB.size)
              clear hbB x0 x1 q0 q1
              have x0 := XB.out.cell (i := 0) rfl; have x1 := XB.out.cell (i := 1) rfl
              have q0 := JB.out.qb.cell (i := 0) rfl; have q1 := JB.out.qb.cell (i := 1) rfl; have qf := JB.out.qb.free
              by_cases hcv : cv < 0
              · have PS := Lib.hid (JB.out.setQ LQ.out.1 x)
                have NB2 := Lib.hid (NB.out.1 hcv)
                go_wp2
                go_roundw
                case rel => exact ⟨_, _, _, _, by rw [LN.out]; go_num, by rw [LN.out]; simp, by rw [LN.out]; omega, NB2.out, by simp; exact SZB.out, PS.out⟩
                case measure => simp [intOf]; omega
              · have NB2 := Lib.hid (NB.out.2 (by omega))
                go_wp2
                go_roundw
                case rel => exact ⟨_, _, _, _, by rw [LN.out]; go_num, by rw [LN.out]; simp, by rw [LN.out]; omega, NB2.out, SZB.out, JB.out⟩
                case measure => simp [intOf]; omega
        | false =>
          obtain ⟨va, vc, hvR, hRR⟩ := JR.out.read (by rw [← HK.out]; exact hl6)
          subst hvR
          have SM := one_small (g := g) (by rw [← HK.out]; exact hl6) JR.out.ok HG9.out
          have SV := Lib.hid (solved_any (fun x => x < wo.heap.size) 1 (oneRows l) (oneGoal g) 0 SM va l.length vc ga gn gc wo hRR JR.out.hG.read (fun x hx => hx))
          rw [← HK.out] at SV
          have SMH := Lib.hid SM
          have m0 := JR.out.pb.cell (i := 0) rfl; have m1 := JR.out.pb.cell (i := 1) rfl; have m2 := JR.out.pb.cell (i := 2) rfl; have m3 := JR.out.pb.cell (i := 3) rfl
          rw [← HK.out] at m1
          clear hRR SM
          go_wp2_with fail
          refine SV.out.mono ?_
          rintro e w5 ⟨ov, code, rfl, hb5, hsol⟩
          obtain ⟨ox, oy, sa, sn, sc, ta, tn, tc, rfl, hcase⟩ := solved_parts SMH.out hsol
          have ONE := Lib.hid (one_parts JR.out.ok hcase)
          obtain ⟨w6, hw6⟩ : ∃ w6, w6 = w5.alloc (.cells #[.int .i64 ox, .int .i64 oy, .slice sa sn sc, .slice ta tn tc] 34) := ⟨_, rfl⟩
          have B6 := Lib.hid (show Below wo.heap.size wo w6 by rw [hw6]; exact hb5.alloc hb5.size _)
          have O6 := Lib.hid (show Blk w6 w5.heap.size 34 [.int .i64 ox, .int .i64 oy, .slice sa sn sc, .slice ta tn tc] by rw [hw6]; exact Blk.new w5 _ _)
          have HW6 := Lib.hid hw6
          obtain ⟨O, hO⟩ : ∃ O, O = w5.heap.size := ⟨_, rfl⟩
          rw [← hO] at O6
          have HO := Lib.hid hO
          have J6 := Lib.hid (JR.out.call B6.out)
          clear hw6 hO hcase hsol hb5 m0 m1 m2 m3 SV JR
          go_upto_region 15 with fail
          rw [← HW6.out, ← HO.out]
          have AW := Lib.hid (fun u : World => awake_any u)
          by_cases hgp : 0 < g
          · by_cases hk0 : k = 0
            · subst hk0
              have hcode : code = 35 := ONE.out.1 hgp (List.eq_nil_of_length_eq_zero HK.out.symm)
              subst hcode
              have BW := Lib.hid J6.out.below
              clear ONE
              go_wp2_with fail
              refine (AW.out _).mono ?_
              rintro e w7 ⟨rfl, hb⟩
              have BF := Lib.hid (BW.out.trans (hb.mono BW.out.size))
              clear hb
              go_wp2
              go_ret
              exact ⟨rfl, BF.out⟩
            · have hkd : decide (0 < k) = true := decide_eq_true (by omega)
              rcases BM.out with ⟨hl0, _⟩ | ⟨best, hbl, hcs⟩
              · exact absurd (by rw [HK.out, hl0]; rfl) hk0
              · subst hcs
                obtain ⟨hcode, hox, hoy⟩ := ONE.out.2.1 best hgp hbl
                subst hcode hox hoy
                have fb : Fit best := by
                  obtain ⟨p, hp, e⟩ := hbl.1
                  obtain ⟨h1, h2, h3, h4⟩ := J6.out.ok p hp
                  have ha0 : (p.1 : Rat) ≠ 0 := fun e => by
                    have := Rat.intCast_inj.1 (e.trans (by simp : (0 : Rat) = ((0 : Int) : Rat)))
                    omega
                  have e2 : best * (p.1 : Rat) = (p.2 : Rat) := by rw [e]; grind
                  exact quo_fit' (whole_int p.1) ha0 (ab9 (by omega) (by omega)) (C := 50) ⟨by rw [e2]; exact whole_int _, by rw [e2]; exact ab50 (by omega) (by omega)⟩ (by grind) (by grind)
                have fgb : Fit ((g : Rat) * best) := by
                  obtain ⟨p, hp, e⟩ := hbl.1
                  obtain ⟨h1, h2, h3, h4⟩ := J6.out.ok p hp
                  have ha0 : (p.1 : Rat) ≠ 0 := fun e => by
                    have := Rat.intCast_inj.1 (e.trans (by simp : (0 : Rat) = ((0 : Int) : Rat)))
                    omega
                  have e2 : (g : Rat) * best * (p.1 : Rat) = (g : Rat) * (p.2 : Rat) := by rw [e]; grind
                  exact quo_fit' (whole_int p.1) ha0 (ab9 (by omega) (by omega)) (C := 9 * 50) ⟨by rw [e2]; exact (whole_int _).mul (whole_int _), by rw [e2]; exact (ab9 HG9.out.1 HG9.out.2).mul (ab50 (by omega) (by omega))⟩ (by grind) (by grind)
                have MUL := rmul (g : Rat) best (fit_int (by have := HG9.out; omega) (by have := HG9.out; omega)) fb fgb
                obtain ⟨V, hV⟩ : ∃ V, V = (g : Rat) * best := ⟨_, rfl⟩
                rw [← hV] at MUL O6 HW6
                have MUL : Hid (∀ u : World, Calls Try.prog 23 #[.agg #[.int .i64 g, .int .i64 1], FrV best] u (FrTup V u)) := Lib.hid (fun u => MUL u)
                have HV := Lib.hid hV
                have q0 := J6.out.qb.cell (i := 0) rfl; have q1 := J6.out.qb.cell (i := 1) rfl
                clear hV hbl ONE fb fgb
                obtain ⟨w7, hw7⟩ : ∃ w7, w7 = w6.alloc (.cells #[.int .i64 0, .int .i64 1] 31) := ⟨_, rfl⟩
                have B7 := Lib.hid (show Below w6.heap.size w6 w7 by rw [hw7]; exact (Below.refl _ _).alloc (Nat.le_refl _) _)
                have W7 := Lib.hid (show Blk w7 w6.heap.size 31 [.int .i64 0, .int .i64 1] by rw [hw7]; exact Blk.new w6 _ _)
                have J7 := Lib.hid (J6.out.call B7.out)
                have O7 := Lib.hid (O6.out.below B7.out O6.out.lt)
                have HW7 := Lib.hid hw7
                obtain ⟨Y, hY⟩ : ∃ Y, Y = w6.heap.size := ⟨_, rfl⟩
                rw [← hY] at W7
                have HY := Lib.hid hY
                clear hw7 hY q0 q1
                go_upto_region 18 with fail
                rw [← HW7.out, ← HY.out]
                have q0 := J7.out.qb.cell (i := 0) rfl; have q1 := J7.out.qb.cell (i := 1) rfl
                go_wp2_with fail
                refine (MUL.out _).mono ?_
                rintro e w8 ⟨rfl, hb⟩
                have W8 := Lib.hid (W7.out.below hb W7.out.lt)
                have O8 := Lib.hid (O7.out.below hb O7.out.lt)
                have J8 := Lib.hid (J7.out.call hb)
                have YO := Lib.hid (show Y ≠ O from blk_tag W7.out O7.out (by decide))
                clear hb q0 q1
                have y0 := W8.out.cell (i := 0) rfl; have y1 := W8.out.cell (i := 1) rfl; have yf := W8.out.free
                have lY := W8.out.lt
                obtain ⟨w9, hw9⟩ : ∃ w9, w9 = (w8.setCell ⟨Y, 0, none⟩ (.int .i64 V.num)).setCell ⟨Y, 1, none⟩ (.int .i64 (V.den : Int)) := ⟨_, rfl⟩
                have W9 := Lib.hid (show Blk w9 Y 31 (FrC V) by rw [hw9]; exact ((W8.out.set 0 _).set 1 _).at rfl)
                have O9 := Lib.hid (show Blk w9 O 34 [.int .i64 V.num, .int .i64 (V.den : Int), .slice sa sn sc, .slice ta tn tc] by rw [hw9]; exact (O8.out.other (p := ⟨Y, 0, none⟩) (fun e => YO.out e.symm) _).other (p := ⟨Y, 1, none⟩) (fun e => YO.out e.symm) _)
                have B9 := Lib.hid (show Below w.heap.size w w9 by
                  rw [hw9]
                  have hy : w.heap.size ≤ Y := by rw [HY.out]; exact J6.out.below.size
                  exact (J8.out.below.setCell hy _).setCell hy _)
                have HW9 := Lib.hid hw9
                clear hw9
                go_upto_region 20 with fail
                rw [← HW9.out]
                clear y0 y1 yf
                have y0 := W9.out.cell (i := 0) rfl; have y1 := W9.out.cell (i := 1) rfl
                have o0 := O9.out.cell (i := 0) rfl; have o1 := O9.out.cell (i := 1) rfl
                go_wp2_with fail
                refine (AW.out _).mono ?_
                rintro e wF ⟨rfl, hb⟩
                have BF := Lib.hid (B9.out.trans (hb.mono B9.out.size))
                clear hb
                go_wp2
                go_ret
                exact ⟨rfl, BF.out⟩
          · obtain ⟨hcode, hox, hoy⟩ := ONE.out.2.2 (by omega)
            subst hcode hox hoy
            clear ONE
            obtain ⟨w7, hw7⟩ : ∃ w7, w7 = w6.alloc (.cells #[.int .i64 0, .int .i64 1] 31) := ⟨_, rfl⟩
            have B7 := Lib.hid (show Below w6.heap.size w6 w7 by rw [hw7]; exact (Below.refl _ _).alloc (Nat.le_refl _) _)
            have W7 := Lib.hid (show Blk w7 w6.heap.size 31 [.int .i64 0, .int .i64 1] by rw [hw7]; exact Blk.new w6 _ _)
            have O7 := Lib.hid (O6.out.below B7.out O6.out.lt)
            have HW7 := Lib.hid hw7
            have B7w := Lib.hid (J6.out.below.trans (B7.out.mono J6.out.below.size))
            clear hw7
            go_upto_region 18 with fail
            rw [← HW7.out]
            have y0 := W7.out.cell (i := 0) rfl; have y1 := W7.out.cell (i := 1) rfl
            have o0 := O7.out.cell (i := 0) rfl; have o1 := O7.out.cell (i := 1) rfl
            go_wp2_with fail
            refine (AW.out _).mono ?_
            rintro e wF ⟨rfl, hb⟩
            have BF := Lib.hid (B7w.out.trans (hb.mono B7w.out.size))
            clear hb
            go_wp2
            go_ret
            exact ⟨rfl, BF.out⟩
end Go.Proofs.Ytdegpgonphgbcaa
