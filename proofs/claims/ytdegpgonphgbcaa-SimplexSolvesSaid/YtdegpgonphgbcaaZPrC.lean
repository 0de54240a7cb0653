/-
  timeboundref32.
  timeboundref32.
  The document's simplex table in memory.
-/
import Derived.Test.YtdegpgonphgbcaaZFyDd
import Derived.Test.YtdegpgonphgbcaaHeadv
import Derived.Test.YtdegpgonphgbcaaZHeadq
import Derived.Test.YtdegpgonphgbcaaZOwn
import Derived.Test.YtdegpgonphgbcaaZSoA
import Derived.Test.YtdegpgonphgbcaaZSxM
namespace Go.Proofs.Ytdegpgonphgbcaa
open Go.RowKit
set_option maxHeartbeats 4000000 in
theorem rwhole_any (n : Int) (w : World) : Calls Try.prog 39 #[.int .i64 n] w (FrRet (n : Rat) w) := by
  go_enter Try.func39, Try.ntmps39
  go_wp2
  refine bodyPost_ret (v := .agg #[.int .i64 n, .int .i64 1]) (by simp [results, Try.results39, go_sem]) rfl ⟨rfl, ?_⟩
  exact (Below.refl _ _).alloc (Nat.le_refl _) _
def IntB (z : Int) (w : World) (e : Ending) (w' : World) : Prop := e = .returned (.int .i64 z) ∧ Below w.heap.size w w'
set_option maxRecDepth 100000 in
set_option maxHeartbeats 4000000 in
theorem coef_any (K : Nat → Prop) (l : List (Int × Int)) (col : Int) (a : Option Addr) (n c : Nat) (w : World) (R : Row RTm 2 K w a n c l) :
    Calls Try.prog 46 #[.slice a n c, .int .i64 col] w (IntB (coefF l col) w) := by
  have HR := Lib.hid R; have HL := Lib.hid R.hlen; have h6 := R.hsz
  clear R
  go_enter Try.func46, Try.ntmps46
  go_wp2
  go_loopw [9] (fun i wr => ∃ k : Nat, k ≤ n ∧ i = .int .i64 k ∧ coefF l col = coefF (l.drop k) col ∧ Below w.heap.size w wr) (fun i _ => n - (intOf i).toNat)
  case atStart => exact ⟨0, Nat.zero_le _, rfl, rfl, Below.refl _ _⟩
  case round =>
    obtain ⟨k, hk, rfl, hT, hb⟩ := hrel
    have HT := Lib.hid hT; have HB := Lib.hid hb
    clear hT hb
    by_cases hlt : k < n
    · obtain ⟨b, o, ⟨x, y⟩, rfl, hx, t0, t1, kb, lb⟩ := RTm.get (HR.out.keeps RTm.stays (fun y _ hl => HB.out.block y hl) HB.out.size) hlt
      dsimp only at t0 t1
      have HC := Lib.hid (HT.out.trans (coefF_drop hx col))
      have hk1 : (k : Int) < (n : Int) := by omega
      clear hx
      obtain ⟨wx, hwx⟩ : ∃ wx, wx = wr.alloc (.cells #[.int .i64 x, .int .i64 y] 56) := ⟨_, rfl⟩
      have BX := Lib.hid (HB.out.trans (show Below w.heap.size wr wx by rw [hwx]; exact (Below.refl _ _).alloc HB.out.size _))
      have YX := Lib.hid (show Blk wx wr.heap.size 56 [.int .i64 x, .int .i64 y] by rw [hwx]; exact Blk.new wr _ _)
      have HWX := Lib.hid hwx
      clear hwx
      go_upto_region 4 with fail
      rw [← HWX.out]
      have y0 := YX.out.cell (i := 0) rfl; have y1 := YX.out.cell (i := 1) rfl
      by_cases hc : x = col
      · have HV := Lib.hid (show coefF l col = y by rw [HC.out, if_pos hc])
        have hcb : (x == col) = true := by simpa using hc
        clear hc
        go_wp2
        go_ret
        exact ⟨by rw [HV.out]; rfl, BX.out⟩
      · have HV := Lib.hid (show coefF l col = coefF (l.drop (k + 1)) col by rw [HC.out, if_neg hc])
        have hcb : (x == col) = false := by simpa using hc
        clear hc
        go_wp2
        go_roundw
        case rel => exact ⟨k + 1, by omega, by go_num, HV.out, BX.out⟩
        case measure => simp [intOf]; omega
    · obtain rfl : k = n := by omega
      have NO := Lib.hid (show coefF l col = 0 by rw [HT.out, List.drop_of_length_le (by rw [HL.out]; exact Nat.le_refl _)]; rfl)
      go_wp2
      go_ret
      exact ⟨by rw [NO.out]; rfl, HB.out⟩
set_option maxHeartbeats 8000000 in
theorem rzeros_any (n : Nat) (h0 : 0 < n) (hn : n ≤ 1000) (w : World) : Calls Try.prog 38 #[.int .i64 n] w fun e w' => ∃ v, e = .returned v ∧ RowNew w w' (List.replicate n 0) v := by
  obtain ⟨z0, hz0⟩ : ∃ z0 : Rat, z0 = 0 := ⟨_, rfl⟩
  have W0 := Lib.hid (show ∀ w, Calls Try.prog 39 #[.int .i64 0] w (FrRet z0 w) from fun w => by rw [hz0]; exact rwhole_any 0 w)
  rw [← hz0]
  clear hz0
  go_enter Try.func38, Try.ntmps38
  go_wp2
  go_loopw [5, 3] (fun s5 s3 wr => ∃ k : Nat, k ≤ n ∧ s5 = .int .i64 k ∧ wr.ownsRow w.heap.size 31 2 s3 k (frs (List.replicate k z0)) ∧ Below w.heap.size w wr) (fun s5 _ _ => n - (intOf s5).toNat)
  case atStart => exact ⟨0, Nat.zero_le _, rfl, World.ownsRow_nil _ _ _ _, Below.refl _ _⟩
  case round =>
    obtain ⟨k, hk, rfl, hown, hb⟩ := hrel
    obtain ⟨a, c, rfl⟩ := flat_form hown
    have OW := Lib.hid hown; have BR := Lib.hid hb
    clear hown hb
    by_cases hlt : k < n
    · have hi1 : (k : Int) < (n : Int) := by omega
      go_wp2_with fail
      refine (W0.out _).mono ?_
      rintro e w1 ⟨rfl, hb⟩
      have B1 := Lib.hid (BR.out.trans (hb.mono BR.out.size))
      have O1 := Lib.hid (flat_below OW.out hb)
      obtain ⟨w2, hw2⟩ : ∃ w2, w2 = w1.alloc (.cells #[.int .i64 z0.num, .int .i64 (z0.den : Int)] 31) := ⟨_, rfl⟩
      have A2 := Lib.hid (show Below w1.heap.size w1 w2 by rw [hw2]; exact (Below.refl _ _).alloc (Nat.le_refl _) _)
      have N2 := Lib.hid (show Blk w2 w1.heap.size 31 (frs [z0]) by rw [hw2]; exact (Blk.new w1 _ _).at (by simp [frs]))
      have O2 := Lib.hid (flat_below O1.out A2.out)
      have B2 := Lib.hid (B1.out.trans (A2.out.mono B1.out.size))
      have HW2 := Lib.hid hw2
      clear hw2 hb O1 OW BR
      go_wp2_with (at_builtin; rw [← HW2.out]; refine wpList_append_flat rfl (.tmp 7) (.tmp 9) 32 rfl 31 Try.underlying32 info_fr rfl (by decide) O2.out rfl B2.out.size ⟨w1.heap.size, 0, none⟩ 1 1 (frs [z0]) rfl rfl (fun j u hu => by rw [Addr.add_lit, Nat.zero_add]; exact N2.out.cell hu) frs_one (by decide) (by omega) (by decide) ?_; intro g cap w3 hap; have O3 := Lib.hid (show w3.ownsRow w.heap.size 31 2 (.slice (some ⟨g, 0, none⟩) (k + 1) cap) (k + 1) (frs (List.replicate (k + 1) z0)) from by have h := hap.out.owns; rw [← frs_append, show List.replicate k z0 ++ [z0] = List.replicate (k + 1) z0 from (List.replicate_succ' ..).symm] at h; exact h); have B3 := Lib.hid (B2.out.trans (hap.out.chg.below (B := w.heap.size) (fun j hj e => by have := (O2.out.lt j e).1; omega) B2.out.size)))
      go_roundw
      case rel => exact ⟨k + 1, by omega, by go_num, O3.out, B3.out⟩
      case measure => simp [intOf]; omega
    · obtain rfl : k = n := by omega
      have R := Lib.hid (show RowNew w wr (List.replicate k z0) (.slice a k c) from by
        obtain ⟨g, rfl, hB, _⟩ := flat_cells OW.out h0
        obtain ⟨sp, h1, h2, h3, h4⟩ := fblk_of_owns OW.out (by simp)
        exact ⟨g, c, sp, by simp, h1, h2, h3, h4, BR.out⟩)
      go_wp2
      go_ret
      exact ⟨_, rfl, R.out⟩
theorem fitl_gR {l : List Rat} (h : FitL l) (j : Nat) : Fit (gR l j) := by
  unfold gR
  rw [List.getD_eq_getElem?_getD]
  cases hq : l[j]? with
  | none => exact ⟨by decide, by decide, by decide⟩
  | some y => exact h.get hq
set_option maxRecDepth 100000 in
set_option maxHeartbeats 16000000 in
theorem clear_any (w : World) (g h cl cb n : Nat) (l b : List Rat) (sl sb : List Value) (hg : FBlk w g l sl) (hh : FBlk w h b sb) (hl : l.length = n) (hb : b.length = n) (hn : n ≤ 1000) (c : Nat) (hc : c < n) (fl : FitL l) (fb : FitL b) (fm : ∀ j, j < n → Fit (gR l c * gR b j)) (fo : FitL (clr l b c)) :
    Calls Try.prog 43 #[.slice (some ⟨g, 0, none⟩) n cl, .slice (some ⟨h, 0, none⟩) n cb, .int .i64 c] w fun e w' => ∃ v, e = .returned v ∧ RowNew w w' (clr l b c) v := by
  obtain ⟨f, hf⟩ : ∃ f, l[c]? = some f := ⟨_, List.getElem?_eq_getElem (by omega)⟩
  have hfg : gR l c = f := gR_of hf
  obtain ⟨c0, c1⟩ := FBlk.get hg hf
  obtain ⟨w1, hw1⟩ : ∃ w1, w1 = w.alloc (.cells #[.int .i64 f.num, .int .i64 (f.den : Int)] 31) := ⟨_, rfl⟩
  have A1 := Lib.hid (show Below w.heap.size w w1 by rw [hw1]; exact (Below.refl _ _).alloc (Nat.le_refl _) _)
  have F1 := Lib.hid (show Blk w1 w.heap.size 31 (FrC f) by rw [hw1]; exact Blk.new w _ _)
  have HW1 := Lib.hid hw1
  obtain ⟨X, hX⟩ : ∃ X, X = w.heap.size := ⟨_, rfl⟩
  have HX := Lib.hid hX
  have FL := Lib.hid fl; have FB := Lib.hid fb; have FM := Lib.hid fm; have FO := Lib.hid fo; have HL := Lib.hid hl; have HB := Lib.hid hb; have HFG := Lib.hid hfg
  have G1 := Lib.hid (hg.below A1.out hg.lt)
  have H1 := Lib.hid (hh.below A1.out hh.lt)
  have LG := Lib.hid (show g < w.heap.size ∧ h < w.heap.size from ⟨hg.lt, hh.lt⟩)
  have hn0 : 0 < n := by omega
  have hc1 : (c : Int) < (n : Int) := by omega
  have hc2 : 0 ≤ (c : Int) := by omega
  clear hw1 hX hg hh fl fb fm fo hl hb hf hfg
  go_enter Try.func43, Try.ntmps43
  go_upto_region 2 with fail
  rw [← HW1.out, ← HX.out]
  clear c0 c1
  go_wp2_with (at_builtin; refine wpList_append_flat rfl (.const (.slice none 0 0)) (.tmp 16) 32 rfl 31 Try.underlying32 info_fr rfl (by decide) (World.ownsRow_nil w1 w1.heap.size 31 2) rfl (Nat.le_refl _) ⟨g, 0, none⟩ n cl (frs l) rfl (by rw [frs_length, HL.out]) (fun j u hu => by rw [Addr.add_lit, Nat.zero_add]; exact G1.out.cell (by rw [List.getElem?_append_left (List.getElem?_eq_some_iff.1 hu).1]; exact hu)) frs_one hn0 (by omega) (by decide) ?_; intro gO capO w2 hap; rw [Nat.zero_add] at hap ⊢; have AP := Lib.hid hap.out)
  obtain ⟨wz, hwz⟩ : ∃ wz : World, wz = w2 := ⟨_, rfl⟩
  have O2 := Lib.hid (show ∃ sp, FBlk w2 gO l sp ∧ capO * 2 = l.length * 2 + sp.length ∧ capO ≤ 9223372036854775807 ∧ w1.heap.size ≤ gO from fblk_of_owns (by have h := AP.out.owns; rw [Nat.zero_add, List.nil_append] at h; exact h) HL.out)
  have C2 := Lib.hid (show Below w1.heap.size w1 w2 from (AP.out.chg).below (B := w1.heap.size) (fun k hk e => by cases e) (Nat.le_refl _))
  obtain ⟨sp, o1, o2, o3, o4⟩ := O2.out
  have O3 := Lib.hid o1; have O4 := Lib.hid o2; have O5 := Lib.hid o3; have O6 := Lib.hid o4
  have F2 := Lib.hid (F1.out.below C2.out F1.out.lt)
  have H2 := Lib.hid (H1.out.below C2.out H1.out.lt)
  have B2 := Lib.hid (A1.out.trans (C2.out.mono A1.out.size))
  have LX := Lib.hid (show X < gO ∧ h < gO by have := F1.out.lt; have := HX.out; have := LG.out; omega)
  clear hwz wz o1 o2 o3 o4 O2 AP
  rw [← HX.out] at F2
  go_wp2
  go_loopw [20] (fun s wr => ∃ j : Nat, j ≤ n ∧ s = .int .i64 j ∧ FBlk wr gO (part (clr l b c) l j) sp ∧ Chg (fun x => x = gO) w2 wr) (fun s _ => n - (intOf s).toNat)
  case atStart => exact ⟨0, Nat.zero_le _, rfl, by rw [part_zero]; exact O3.out, Chg.refl _⟩
  case round =>
    obtain ⟨j, hj, rfl, hfb, hch⟩ := hrel
    have FBR := Lib.hid hfb; have CHR := Lib.hid hch
    clear hfb hch
    obtain ⟨wo, rfl⟩ : ∃ wo : World, wo = wr := ⟨_, rfl⟩
    have FR := Lib.hid (F2.out.chg CHR.out (by have := LX.out; omega))
    have HR := Lib.hid (H2.out.chg CHR.out (by have := LX.out; omega))
    by_cases hlt : j < n
    · obtain ⟨x, hx⟩ : ∃ x, l[j]? = some x := ⟨_, List.getElem?_eq_getElem (by have := HL.out; omega)⟩
      obtain ⟨y, hy⟩ : ∃ y, b[j]? = some y := ⟨_, List.getElem?_eq_getElem (by have := HB.out; omega)⟩
      obtain ⟨m, hm⟩ : ∃ m, m = f * y := ⟨_, rfl⟩
      obtain ⟨z, hz⟩ : ∃ z, z = x - m := ⟨_, rfl⟩
      have fm1 : Fit m := by have := FM.out j hlt; rw [HFG.out, gR_of hy, ← hm] at this; exact this
      have hnew : (clr l b c)[j]? = some z := by rw [clr_get hx, HFG.out, gR_of hy, hz, hm]
      have fz : Fit z := FO.out.get hnew
      have MUL := Lib.hid (rmul f y (by have := fitl_gR FL.out c; rw [HFG.out] at this; exact this) (FB.out.get hy) (by rw [← hm]; exact fm1))
      rw [← hm] at MUL
      have SUB := Lib.hid (rsub x m (FL.out.get hx) fm1 (by rw [← hz]; exact fz))
      rw [← hz] at SUB
      obtain ⟨y0, y1⟩ := FBlk.get HR.out hy
      have f0 := FR.out.cell (i := 0) rfl; have f1 := FR.out.cell (i := 1) rfl
      have hjn : (j : Int) < (n : Int) := by omega
      have hj0 : 0 ≤ (j : Int) := by omega
      have HXX := Lib.hid hx; have HNEW := Lib.hid hnew
      clear hx hy hm hz fm1 fz hnew
      go_upto_region 6 with fail
      have lb0 := World.block_lt_of_cell? _ _ f0
      have lb1 := World.block_lt_of_cell? _ _ f1
      have lb2 := World.block_lt_of_cell? _ _ y0
      have lb3 := World.block_lt_of_cell? _ _ y1
      dsimp only at lb0 lb1 lb2 lb3
      go_cut [10] (fun s wx => ∃ B10 : Nat, s = .pointer (some ⟨B10, 0, none⟩) ∧ wo.heap.size ≤ B10 ∧ Blk wx B10 31 (FrC (m)) ∧ Below wo.heap.size wo wx)
      case first =>
        as_aux_lemma =>
          refine hd_start_e 12 (fun w' => w'.cell? ⟨X, 0, none⟩ = some (.int .i64 f.num) ∧ w'.cell? ⟨X, 1, none⟩ = some (.int .i64 (f.den : Int)) ∧ w'.cell? ⟨h, j * 2, none⟩ = some (.int .i64 y.num) ∧ w'.cell? ⟨h, j * 2 + 1, none⟩ = some (.int .i64 (y.den : Int))) (by kernel_rfl) ⟨by kernel_rfl, by rfl⟩ (by refine ⟨f0, f1, y0, y1⟩) (fun ok => ?_)
          refine he_t 0 ok rfl ?_
          go_frame
          refine he_t 1 ok rfl ?_
          go_frame
          refine he_t 2 ok rfl ?_
          go_frame
          refine he_t 3 ok rfl ?_
          go_frame
          refine he_t 4 ok rfl ?_
          go_frame
          refine hd_inv_s [(29, 5), (23, 6), (30, 7), (31, 8), (11, 11), (10, 9)] [10] (fun _ => undef) (fun b v w' => Below wo.heap.size wo w' ∧ (b 5 = true → v 5 = .tuple #[FrV m, .int .i64 0]) ∧ (b 6 = true → v 6 = .tuple #[FrV m, .int .i64 0]) ∧ (b 7 = true → v 7 = FrV m) ∧ (b 8 = true → v 8 = .int .i64 0) ∧ (b 11 = true → v 11 = .int .i64 0) ∧ ∃ q7, (b 9 = true → v 9 = .pointer (some ⟨q7, 0, none⟩) ∧ wo.heap.size ≤ q7) ∧ (b 9 = true → b 10 = false → Blk w' q7 31 [.int .i64 0, .int .i64 0]) ∧ (b 10 = true → b 9 = true ∧ Blk w' q7 31 (FrC (m)))) (.inr ok) ⟨by decide, by decide, by kernel_rfl, rfl⟩ (by kernel_rfl) (by kernel_rfl) (by kernel_rfl) (by decide) ⟨(Below.refl _ _).drew, (fun h => by cases h), (fun h => by cases h), (fun h => by cases h), (fun h => by cases h), (fun h => by cases h), 0, (fun h => by cases h), (fun h => by cases h), (fun h => by cases h)⟩ ?_ ?_
          · intro iA oj hi ho bb vA aA w' hJ hv hr hb hdep hS K hK
            obtain ⟨hB, j5, j6, j7, j8, j11, q7, jal, jz, jst⟩ := hJ
            have hBs := hB.size
            have hi4 : iA = 5 ∨ iA = 6 ∨ iA = 7 ∨ iA = 8 ∨ iA = 11 ∨ iA = 9 ∨ iA = 10 := by simpa using hi
            try dsimp only at hS
            obtain ⟨s0, s1, s2, s3⟩ := hS
            rcases hi4 with rfl | rfl | rfl | rfl | rfl | rfl | rfl
            · obtain rfl := Option.some.inj ho
              have e24 : aA.tmps[24]?.getD undef = FrV f := (get_eval aA 24).trans (hr 24 (by decide))
              have e28 : aA.tmps[28]?.getD undef = FrV y := (get_eval aA 28).trans (hr 28 (by decide))
              go_simp
              go_at_call 23
              refine (MUL.out _).mono ?_
              rintro e u ⟨rfl, hu⟩
              exact hK _ _ ⟨cell_later hu s0, cell_later hu s1, cell_later hu s2, cell_later hu s3⟩ ⟨hB.trans (hu.mono hBs), fun _ => rfl, j6, j7, j8, j11, q7, jal, fun h1 h2 => (jz h1 h2).below hu (jz h1 h2).lt, fun h => ⟨(jst h).1, (jst h).2.below hu (jst h).2.lt⟩⟩
            · obtain rfl := Option.some.inj ho
              have d5 := hdep 5 (by kernel_rfl)
              have e29 : aA.tmps[29]?.getD undef = .tuple #[FrV m, .int .i64 0] := (get_eval aA 29).trans ((hv 29 5 (by decide) d5).trans (j5 d5))
              go_simp
              exact hK _ _ ⟨s0, s1, s2, s3⟩ ⟨hB, j5, fun _ => rfl, j7, j8, j11, q7, jal, jz, jst⟩
            · obtain rfl := Option.some.inj ho
              have d6 := hdep 6 (by kernel_rfl)
              have e23 : aA.tmps[23]?.getD undef = .tuple #[FrV m, .int .i64 0] := (get_eval aA 23).trans ((hv 23 6 (by decide) d6).trans (j6 d6))
              go_simp
              exact hK _ _ ⟨s0, s1, s2, s3⟩ ⟨hB, j5, j6, fun _ => rfl, j8, j11, q7, jal, jz, jst⟩
            · obtain rfl := Option.some.inj ho
              have d6 := hdep 6 (by kernel_rfl)
              have e23 : aA.tmps[23]?.getD undef = .tuple #[FrV m, .int .i64 0] := (get_eval aA 23).trans ((hv 23 6 (by decide) d6).trans (j6 d6))
              go_simp
              exact hK _ _ ⟨s0, s1, s2, s3⟩ ⟨hB, j5, j6, j7, fun _ => rfl, j11, q7, jal, jz, jst⟩
            · obtain rfl := Option.some.inj ho
              have d8 := hdep 8 (by kernel_rfl)
              have e31 : aA.tmps[31]?.getD undef = .int .i64 0 := (get_eval aA 31).trans ((hv 31 8 (by decide) d8).trans (j8 d8))
              go_simp
              exact hK _ _ ⟨s0, s1, s2, s3⟩ ⟨hB, j5, j6, j7, j8, fun _ => rfl, q7, jal, jz, jst⟩
            · obtain rfl := Option.some.inj ho
              go_simp
              have hu : Below w'.heap.size w' (w'.alloc (.cells #[.int .i64 0, .int .i64 0] 31)) := (Below.refl _ _).alloc (Nat.le_refl _) _
              exact hK _ _ ⟨cell_later hu s0, cell_later hu s1, cell_later hu s2, cell_later hu s3⟩ ⟨hB.trans (hu.mono hBs), j5, j6, j7, j8, j11, w'.heap.size, fun _ => ⟨rfl, hBs⟩, fun _ _ => Blk.new w' [.int .i64 0, .int .i64 0] 31, fun h => by have := (jst h).1; rw [hb] at this; cases this⟩
            · obtain rfl := Option.some.inj ho
              have dal := hdep 9 (by kernel_rfl)
              obtain ⟨val, lal⟩ := jal dal
              have bz := jz dal hb
              have e10 : aA.tmps[10]?.getD undef = .pointer (some ⟨q7, 0, none⟩) := (get_eval aA 10).trans ((hv 10 9 (by decide) dal).trans val)
              have d7 := hdep 7 (by kernel_rfl)
              have e30 : aA.tmps[30]?.getD undef = FrV m := (get_eval aA 30).trans ((hv 30 7 (by decide) d7).trans (j7 d7))
              have z0 := bz.cell (i := 0) rfl; have z1 := bz.cell (i := 1) rfl; have zf := bz.free
              go_simp
              have hc2 : Below wo.heap.size wo ((w'.setCell ⟨q7, 0, none⟩ (.int .i64 (m).num)).setCell ⟨q7, 1, none⟩ (.int .i64 ((m).den : Int))) := (hB.setCell lal _).setCell lal _
              exact hK (.int .i64 0) _ ⟨cell_set (by omega) (cell_set (by omega) s0), cell_set (by omega) (cell_set (by omega) s1), cell_set (by omega) (cell_set (by omega) s2), cell_set (by omega) (cell_set (by omega) s3)⟩ ⟨hc2, j5, j6, j7, j8, j11, q7, jal, (fun _ h => by cases h), fun _ => ⟨dal, ((bz.set 0 _).set 1 _).at rfl⟩⟩
          · intro bb vA w' hall hJ hS
            obtain ⟨hB, j5, j6, j7, j8, j11, q7, jal, jz, jst⟩ := hJ
            have v5 := j5 (hall 5 (by decide))
            have v6 := j6 (hall 6 (by decide))
            have v7 := j7 (hall 7 (by decide))
            have v8 := j8 (hall 8 (by decide))
            have v11 := j11 (hall 11 (by decide))
            obtain ⟨val, lal⟩ := jal (hall 9 (by decide))
            have R := Lib.hid (show ∃ B10 : Nat, Value.pointer (some ⟨q7, 0, none⟩) = .pointer (some ⟨B10, 0, none⟩) ∧ wo.heap.size ≤ B10 ∧ Blk w' B10 31 (FrC (m)) ∧ Below wo.heap.size wo w' from ⟨q7, rfl, lal, (jst (hall 10 (by decide))).2, hB⟩)
            simp only [putP, v5, v6, v7, v8, v11, val]
            clear hB j5 j6 j7 j8 j11 jal jz jst v5 v6 v7 v8 v11 val lal hS hall ok
            go_frame
            refine hd_end (by kernel_rfl) rfl ?_
            go_wp2_with fail
            go_meet
            exact R.out
      case rest =>
        obtain ⟨B8, rfl, lB8, b8, hB⟩ := hcut
        obtain ⟨w5, hw5⟩ : ∃ w5 : World, w5 = wc := ⟨_, rfl⟩
        rw [← hw5] at b8 hB ⊢
        clear hw5
        have FB5 := Lib.hid (FBR.out.below hB FBR.out.lt)
        have CH5 := Lib.hid (CHR.out.tr hB)
        have NB := Lib.hid (show gO ≠ B8 by have := FBR.out.lt; omega)
        obtain ⟨c0, c1⟩ := FBlk.get FB5.out (show (part (clr l b c) l j)[j]? = some x by rw [part_get (clr_length _ _ _) (by have := HL.out; omega)]; exact HXX.out)
        have q0 := b8.cell (i := 0) rfl; have q1 := b8.cell (i := 1) rfl
        clear f0 f1 y0 y1 hB lB8 b8 FR HR FBR CHR
        go_upto_region 7 with fail
        refine hr_start 12 (fun w' => w'.cell? ⟨gO, j * 2, none⟩ = some (.int .i64 x.num) ∧ w'.cell? ⟨gO, j * 2 + 1, none⟩ = some (.int .i64 (x.den : Int)) ∧ w'.cell? ⟨B8, 0, none⟩ = some (.int .i64 m.num) ∧ w'.cell? ⟨B8, 1, none⟩ = some (.int .i64 (m.den : Int))) (by kernel_rfl) (by kernel_rfl) (by refine ⟨c0, c1, q0, q1⟩) (fun ok => ?_)
        refine hr_t 0 ok rfl ?_
        go_frame
        refine hr_t 1 ok rfl ?_
        go_frame
        refine hr_t 2 ok rfl ?_
        go_frame
        refine hr_t 3 ok rfl ?_
        go_frame
        refine hr_t 4 ok rfl ?_
        go_frame
        refine hr_t 5 ok rfl ?_
        go_frame
        refine hr_t 6 ok rfl ?_
        go_frame
        refine hr_only (c := 7) rfl (by kernel_rfl) (fun K hK => ?_)
        go_simp
        refine (SUB.out _).mono ?_
        rintro e w' ⟨rfl, hb⟩
        have FB' := Lib.hid (FB5.out.drew.below hb FB5.out.lt)
        have CH' := Lib.hid (CH5.out.drew.tr hb)
        (try simp only [])
        refine hK _ _ (fun _ => by refine ⟨?_, ?_, ?_, ?_⟩ <;> (first | exact cell_later hb c0 | exact cell_later hb c1 | exact cell_later hb q0 | exact cell_later hb q1)) ?_
        clear hK K
        (try go_frame)
        refine hr_t 8 ok rfl ?_
        go_frame
        refine hr_t 9 ok rfl ?_
        go_frame
        refine hp_t 10 ok rfl ?_
        go_frame
        refine hr_t 11 ok rfl ?_
        go_frame
        clear c0 c1 q0 q1 hb
        obtain ⟨c0, c1⟩ := FBlk.get FB'.out (show (part (clr l b c) l j)[j]? = some x by rw [part_get (clr_length _ _ _) (by have := HL.out; omega)]; exact HXX.out)
        have cf := FB'.out.free
        refine hr_only (c := 12) rfl (by kernel_rfl) (fun K hK => ?_)
        go_simp
        (try simp only [])
        refine hK _ _ (pend_no (by kernel_rfl)) ?_
        clear hK K
        (try go_frame)
        refine hr_end (by kernel_rfl) ?_
        have PS := Lib.hid (show FBlk ((w'.setCell ⟨gO, j * 2, none⟩ (.int .i64 z.num)).setCell ⟨gO, j * 2 + 1, none⟩ (.int .i64 (z.den : Int))) gO (part (clr l b c) l (j + 1)) sp by
          rw [← part_succ (clr_length _ _ _) HNEW.out]
          exact FBlk.put FB'.out (by rw [part_length (clr_length _ _ _) (by have := HL.out; omega)]; have := HL.out; omega) _)
        have PC := Lib.hid (chg_put (b := gO) CH'.out (fun _ => rfl) j (.int .i64 z.num) (.int .i64 (z.den : Int)))
        clear c0 c1 cf FB' CH'
        go_wp2
        go_roundw
        case rel => exact ⟨j + 1, by omega, by go_num, PS.out, PC.out⟩
        case measure => simp [intOf]; omega
    · obtain rfl : j = n := by omega
      have R := Lib.hid (show RowNew w wo (clr l b c) (.slice (some ⟨gO, 0, none⟩) j capO) from by
        have hlo : (clr l b c).length = j := by rw [clr_length]; exact HL.out
        have h1 := FBR.out
        have e : part (clr l b c) l j = clr l b c := by
          have := part_all (new := clr l b c) (old := l) (clr_length _ _ _)
          rwa [HL.out] at this
        rw [e] at h1
        exact ⟨gO, capO, sp, by rw [hlo], h1, by rw [hlo]; have := O4.out; rw [HL.out] at this; exact this, O5.out, by have := O6.out; have := A1.out.size; omega, B2.out.trans (CHR.out.below (fun k hk e => by have := O6.out; have := A1.out.size; omega) B2.out.size)⟩)
      go_wp2
      go_ret
      exact ⟨_, rfl, R.out⟩
def bvs (l : List Nat) : List Value := l.map fun z : Nat => Value.int .i64 (z : Int)
theorem bvs_length (l : List Nat) : (bvs l).length = l.length := by simp [bvs]
theorem bvs_set (l : List Nat) (i z : Nat) : (bvs l).set i (.int .i64 (z : Int)) = bvs (l.set i z) := by unfold bvs; rw [List.map_set]
theorem bvs_get {l : List Nat} {i : Nat} (h : i < l.length) : (bvs l)[i]? = some (.int .i64 (l.getD i 0 : Nat)) := by
  unfold bvs
  rw [List.getElem?_map, List.getD_eq_getElem?_getD, List.getElem?_eq_getElem h]; rfl
def SlB (w : World) (B : Nat) (v : Value) (t : TypeId) (xs : List Value) : Prop := (v = .slice none 0 0 ∧ xs = []) ∨ ∃ b cap sp, v = .slice (some ⟨b, 0, none⟩) xs.length cap ∧ Blk w b t (xs ++ sp) ∧ cap = xs.length + sp.length ∧ B ≤ b
theorem SlB.form {w : World} {B : Nat} {v : Value} {t : TypeId} {xs : List Value} (h : SlB w B v t xs) : ∃ a cap, v = .slice a xs.length cap := by
  rcases h with ⟨rfl, rfl⟩ | ⟨b, cap, sp, rfl, _⟩
  · exact ⟨_, _, rfl⟩
  · exact ⟨_, _, rfl⟩
theorem SlB.at {w : World} {B : Nat} {v : Value} {t : TypeId} {xs : List Value} (h : SlB w B v t xs) (h0 : 0 < xs.length) : ∃ b cap sp, v = .slice (some ⟨b, 0, none⟩) xs.length cap ∧ Blk w b t (xs ++ sp) ∧ cap = xs.length + sp.length ∧ B ≤ b := by
  rcases h with ⟨rfl, rfl⟩ | h
  · simp at h0
  · exact h
theorem SlB.chg {w w' : World} {B : Nat} {v : Value} {t : TypeId} {xs : List Value} (h : SlB w B v t xs) {M : Nat → Prop} (c : Chg M w w') (hM : ∀ b ys, Blk w b t ys → B ≤ b → ¬ M b) : SlB w' B v t xs := by
  rcases h with h | ⟨b, cap, sp, h1, h2, h3, h4⟩
  · exact .inl h
  · exact .inr ⟨b, cap, sp, h1, h2.chg c (hM b _ h2 h4), h3, h4⟩
theorem SlB.put {w : World} {B b cap : Nat} {t : TypeId} {xs sp : List Value} (h2 : Blk w b t (xs ++ sp)) (h3 : cap = xs.length + sp.length) (h4 : B ≤ b) {i : Nat} (hi : i < xs.length) (u : Value) : SlB (w.setCell ⟨b, i, none⟩ u) B (.slice (some ⟨b, 0, none⟩) xs.length cap) t (xs.set i u) :=
  .inr ⟨b, cap, sp, by rw [List.length_set], (h2.set i u).at (by rw [List.set_append_left _ _ hi]), by rw [List.length_set]; exact h3, h4⟩
theorem slB_of_owns {w : World} {B n : Nat} {v : Value} {t : TypeId} {xs : List Value} (h : w.ownsRow B t 1 v n xs) (hl : xs.length = n) : SlB w B v t xs := by
  rcases h.2 with ⟨h1, h2⟩ | ⟨g, cap, cur, h1, h2, h3, h4, h5, h6, h7⟩
  · refine .inl ⟨h1, ?_⟩
    cases xs with
    | nil => rfl
    | cons a l => simp at hl; omega
  · refine .inr ⟨g, cap, cur.toList.drop n, by rw [h1, hl], ?_, ?_, h2⟩
    · unfold Blk
      rw [Nat.mul_one] at h7
      rw [← h7, List.take_append_drop, Array.toArray_toList]
      exact h3
    · have e : cur.toList.length = cap * 1 := by simpa using h6
      rw [List.length_drop, e, hl]; omega
structure TbAt (w : World) (B q : Nat) (T : Tab) (vR vB vG : Value) (us : List Value) (gs : List Nat) (g : Nat) : Prop where
  hq : Blk w q 75 [vR, vB, vG]
  qB : B ≤ q
  hR : SlB w B vR 32 us
  hB : SlB w B vB 3 (bvs T.basis)
  rows : BegRows w B us gs T.rows
  goal : RowAt w B vG T.goal g
  ng : g ∉ gs
def Tbl (w : World) (B q : Nat) (T : Tab) : Prop := ∃ vR vB vG us gs g, TbAt w B q T vR vB vG us gs g
theorem RowAt.chg {w w' : World} {B g : Nat} {v : Value} {r : List Rat} (h : RowAt w B v r g) {M : Nat → Prop} (c : Chg M w w') (hM : ¬ M g) : RowAt w' B v r g := by
  obtain ⟨cap, sp, h1, h2, h3, h4, h5⟩ := h
  exact ⟨cap, sp, h1, h2.chg c hM, h3, h4, h5⟩
theorem RowAt.blk {w : World} {B g : Nat} {v : Value} {r : List Rat} (h : RowAt w B v r g) : ∃ sp, FBlk w g r sp ∧ B ≤ g := by
  obtain ⟨cap, sp, h1, h2, h3, h4, h5⟩ := h
  exact ⟨sp, h2, h5⟩
section
variable {w w' : World} {B q : Nat} {T : Tab} {vR vB vG : Value} {us : List Value} {gs : List Nat} {g : Nat}
theorem TbAt.chg (h : TbAt w B q T vR vB vG us gs g) {M : Nat → Prop} (c : Chg M w w') (hM : ∀ k, B ≤ k → k < w.heap.size → ¬ M k) : TbAt w' B q T vR vB vG us gs g :=
  ⟨h.hq.chg c (hM q h.qB h.hq.lt), h.qB, h.hR.chg c (fun b _ hb hB => hM b hB hb.lt), h.hB.chg c (fun b _ hb hB => hM b hB hb.lt), h.rows.chg c (fun k hk => by obtain ⟨_, hb, hB⟩ := h.rows.tag hk; exact hM k hB hb.lt), h.goal.chg c (by obtain ⟨_, hb, hB⟩ := h.goal.blk; exact hM g hB hb.lt), h.ng⟩
theorem TbAt.below (h : TbAt w B q T vR vB vG us gs g) (c : Below w.heap.size w w') : TbAt w' B q T vR vB vG us gs g := h.chg (M := Non) (Chg.of_below c) (fun _ _ _ h => h)
theorem TbAt.drew (h : TbAt w B q T vR vB vG us gs g) : TbAt w.drew B q T vR vB vG us gs g := h.chg (M := Non) (Chg.refl w).drew (fun _ _ _ h => h)
theorem Tbl.chg (h : Tbl w B q T) {M : Nat → Prop} (c : Chg M w w') (hM : ∀ k, B ≤ k → k < w.heap.size → ¬ M k) : Tbl w' B q T := by
  obtain ⟨vR, vB, vG, us, gs, g, h⟩ := h
  exact ⟨vR, vB, vG, us, gs, g, h.chg c hM⟩
theorem Tbl.below (h : Tbl w B q T) (c : Below w.heap.size w w') : Tbl w' B q T := h.chg (M := Non) (Chg.of_below c) (fun _ _ _ h => h)
theorem Tbl.drew (h : Tbl w B q T) : Tbl w.drew B q T := h.chg (M := Non) (Chg.refl w).drew (fun _ _ _ h => h)
theorem TbAt.at (h : TbAt w B q T vR vB vG us gs g) {i : Nat} (hi : i < T.rows.length) : ∃ bR cR sR gi ci si, vR = .slice (some ⟨bR, 0, none⟩) T.rows.length cR ∧ Blk w bR 32 (us ++ sR) ∧ cR = us.length + sR.length ∧ B ≤ bR ∧ us.length = T.rows.length ∧ gs[i]? = some gi ∧
    us[i]? = some (.slice (some ⟨gi, 0, none⟩) (T.row i).length ci) ∧ FBlk w gi (T.row i) si ∧ ci * 2 = (T.row i).length * 2 + si.length ∧ B ≤ gi ∧ w.cell? ⟨bR, i, none⟩ = some (.slice (some ⟨gi, 0, none⟩) (T.row i).length ci) ∧ w.cell? ⟨q, 0, none⟩ = some (.slice (some ⟨bR, 0, none⟩) T.rows.length cR) := by
  have hul := h.rows.hu
  obtain ⟨bR, cR, sR, h1, h2, h3, h4⟩ := h.hR.at (by rw [hul]; omega)
  obtain ⟨u, hu⟩ : ∃ u, us[i]? = some u := ⟨_, List.getElem?_eq_getElem (by omega)⟩
  obtain ⟨gi, hgi⟩ : ∃ u, gs[i]? = some u := ⟨_, List.getElem?_eq_getElem (by rw [h.rows.hg]; exact hi)⟩
  obtain ⟨ci, si, k1, k2, k3, k4, k5⟩ := h.rows.row i u gi _ hu hgi (T.row_some hi)
  rw [hul] at h1
  have hq := h.hq.cell (i := 0) (v := vR) rfl
  rw [h1] at hq
  exact ⟨bR, cR, sR, gi, ci, si, h1, h2, h3, h4, hul, hgi, by rw [hu, k1], k2, k3, k5, h2.cell (by rw [List.getElem?_append_left (by omega), hu, k1]), hq⟩
theorem TbAt.inRow (h : TbAt w B q T vR vB vG us gs g) {i gi : Nat} (hi : i < T.rows.length) (hgi : gs[i]? = some gi) (c : Chg (fun x => x = gi) w w') {r : List Rat} {si : List Value} {ci : Nat} (hu : us[i]? = some (.slice (some ⟨gi, 0, none⟩) (T.row i).length ci)) (hb : FBlk w' gi r si) (hl : r.length = (T.row i).length) (hc : ci * 2 = (T.row i).length * 2 + si.length) :
    TbAt w' B q ⟨T.rows.set i r, T.basis, T.goal⟩ vR vB vG us gs g := by
  obtain ⟨ti, tb, tB⟩ := h.rows.tag (List.mem_of_getElem? hgi)
  obtain ⟨sg, gb, gB⟩ := h.goal.blk
  refine ⟨h.hq.chg c (fun e => blk_tag h.hq tb (by decide) e), h.qB, h.hR.chg c (fun b _ hb _ e => blk_tag hb tb (by decide) e), h.hB.chg c (fun b _ hb _ e => blk_tag hb tb (by decide) e), ?_, h.goal.chg c (fun e => h.ng (e ▸ List.mem_of_getElem? hgi)), h.ng⟩
  refine ⟨by rw [h.rows.hu, List.length_set], by rw [h.rows.hg, List.length_set], fun j u k r' e1 e2 e3 => ?_, h.rows.nodup⟩
  rw [List.getElem?_set] at e3
  by_cases e : i = j
  · subst e
    rw [if_pos rfl, if_pos hi] at e3
    cases e3
    rw [hgi] at e2; cases e2
    rw [hu] at e1; cases e1
    obtain ⟨ci', si', k1, k2, k3, k4, k5⟩ := h.rows.row i _ gi _ hu hgi (T.row_some hi)
    cases k1
    exact ⟨ci, si, by rw [hl], hb, by rw [hl]; exact hc, k4, k5⟩
  · rw [if_neg e] at e3
    refine (h.rows.row j u k r' e1 e2 e3).chg c (fun e' => e ?_)
    have hl1 := (List.getElem?_eq_some_iff.1 e2).1
    have := (List.getElem?_inj hl1 h.rows.nodup).1 (e2.trans (by rw [e']; exact hgi.symm))
    exact this.symm
theorem TbAt.putRow (h : TbAt w B q T vR vB vG us gs g) {i bR cR : Nat} {sR : List Value} (hi : i < T.rows.length) (hv : vR = .slice (some ⟨bR, 0, none⟩) T.rows.length cR) (hb : Blk w bR 32 (us ++ sR)) (hc : cR = us.length + sR.length) (hB : B ≤ bR) {u : Value} {r : List Rat} {k : Nat} (hr : RowAt w B u r k) (hk : k ∉ gs) (hkg : k ≠ g) :
    TbAt (w.setCell ⟨bR, i, none⟩ u) B q ⟨T.rows.set i r, T.basis, T.goal⟩ vR vB vG (us.set i u) (gs.set i k) g := by
  have c : Chg (fun x => x = bR) w (w.setCell ⟨bR, i, none⟩ u) := Chg.setCell (M := fun x => x = bR) (p := ⟨bR, i, none⟩) (Chg.refl w) (fun _ => rfl) _
  have hul := h.rows.hu
  refine ⟨h.hq.chg c (fun e => blk_tag h.hq hb (by decide) e), h.qB, ?_, h.hB.chg c (fun b _ hb' _ e => blk_tag hb' hb (by decide) e), ?_, h.goal.chg c (fun e => by obtain ⟨_, gb, _⟩ := h.goal.blk; exact blk_tag gb hb (by decide) e), ?_⟩
  · have := SlB.put hb hc hB (i := i) (by omega) u
    rw [hul] at this
    rw [hv]; exact this
  · refine ⟨by rw [List.length_set, hul, List.length_set], by rw [List.length_set, h.rows.hg, List.length_set], fun j u' k' r' e1 e2 e3 => ?_, ?_⟩
    · rw [List.getElem?_set] at e1 e2 e3
      by_cases e : i = j
      · subst e
        rw [if_pos rfl, if_pos (by omega)] at e1
        rw [if_pos rfl, if_pos (by rw [h.rows.hg]; exact hi)] at e2
        rw [if_pos rfl, if_pos hi] at e3
        cases e1; cases e2; cases e3
        exact hr.chg c (fun e => by obtain ⟨_, kb, _⟩ := hr.blk; exact blk_tag kb hb (by decide) e)
      · rw [if_neg e] at e1 e2 e3
        have h1 := h.rows.row j u' k' r' e1 e2 e3
        exact h1.chg c (fun e => by obtain ⟨_, kb, _⟩ := h1.blk; exact blk_tag kb hb (by decide) e)
    · rw [List.nodup_iff_pairwise_ne]
      refine List.pairwise_iff_getElem.2 fun a b ha hb' hab => ?_
      rw [List.length_set] at ha hb'
      rw [List.getElem_set, List.getElem_set]
      have hn := List.pairwise_iff_getElem.1 (List.nodup_iff_pairwise_ne.1 h.rows.nodup) a b ha hb' hab
      split
      · rw [if_neg (by omega)]
        intro e; exact hk (e ▸ List.getElem_mem hb')
      · split
        · intro e; exact hk (e ▸ List.getElem_mem ha)
        · exact hn
  · intro hm
    rcases List.mem_or_eq_of_mem_set hm with h' | h'
    · exact h.ng h'
    · exact hkg h'.symm
theorem TbAt.putGoal (h : TbAt w B q T vR vB vG us gs g) {u : Value} {r : List Rat} {k : Nat} (hr : RowAt w B u r k) (hk : k ∉ gs) : TbAt (w.setCell ⟨q, 2, none⟩ u) B q ⟨T.rows, T.basis, r⟩ vR vB u us gs k := by
  have c : Chg (fun x => x = q) w (w.setCell ⟨q, 2, none⟩ u) := Chg.setCell (M := fun x => x = q) (p := ⟨q, 2, none⟩) (Chg.refl w) (fun _ => rfl) _
  refine ⟨(h.hq.set 2 u).at rfl, h.qB, h.hR.chg c (fun b _ hb' _ e => blk_tag hb' h.hq (by decide) e), h.hB.chg c (fun b _ hb' _ e => blk_tag hb' h.hq (by decide) e), h.rows.chg c (fun k hk e => by obtain ⟨_, kb, _⟩ := h.rows.tag hk; exact blk_tag kb h.hq (by decide) e), hr.chg c (fun e => by obtain ⟨_, kb, _⟩ := hr.blk; exact blk_tag kb h.hq (by decide) e), hk⟩
theorem TbAt.putBasis (h : TbAt w B q T vR vB vG us gs g) {i z bB cB : Nat} {sB : List Value} (hi : i < T.basis.length) (hv : vB = .slice (some ⟨bB, 0, none⟩) T.basis.length cB) (hb : Blk w bB 3 (bvs T.basis ++ sB)) (hc : cB = T.basis.length + sB.length) (hB : B ≤ bB) :
    TbAt (w.setCell ⟨bB, i, none⟩ (.int .i64 (z : Int))) B q ⟨T.rows, T.basis.set i z, T.goal⟩ vR vB vG us gs g := by
  have c : Chg (fun x => x = bB) w (w.setCell ⟨bB, i, none⟩ (.int .i64 (z : Int))) := Chg.setCell (M := fun x => x = bB) (p := ⟨bB, i, none⟩) (Chg.refl w) (fun _ => rfl) _
  refine ⟨h.hq.chg c (fun e => blk_tag h.hq hb (by decide) e), h.qB, h.hR.chg c (fun b _ hb' _ e => blk_tag hb' hb (by decide) e), ?_, h.rows.chg c (fun k hk e => by obtain ⟨_, kb, _⟩ := h.rows.tag hk; exact blk_tag kb hb (by decide) e), h.goal.chg c (fun e => by obtain ⟨_, kb, _⟩ := h.goal.blk; exact blk_tag kb hb (by decide) e), h.ng⟩
  have := SlB.put (cap := cB) hb (by rw [bvs_length]; exact hc) hB (i := i) (by rw [bvs_length]; exact hi) (.int .i64 (z : Int))
  rw [bvs_set, bvs_length] at this
  rw [hv]; exact this
theorem TbAt.fresh (h : TbAt w B q T vR vB vG us gs g) {k : Nat} (hk : w.heap.size ≤ k) : k ∉ gs ∧ k ≠ g := by
  refine ⟨fun e => ?_, fun e => ?_⟩
  · obtain ⟨_, kb, _⟩ := h.rows.tag e; have := kb.lt; omega
  · obtain ⟨_, kb, _⟩ := h.goal.blk; have := kb.lt; omega
end
theorem RowNew.at {w0 w' : World} {row : List Rat} {v : Value} (h : RowNew w0 w' row v) {B : Nat} (hB : B ≤ w0.heap.size) : ∃ k, RowAt w' B v row k ∧ w0.heap.size ≤ k := by
  obtain ⟨g, cap, sp, h1, h2, h3, h4, h5, h6⟩ := h
  exact ⟨g, ⟨cap, sp, h1, h2, h3, h4, by omega⟩, h5⟩
end Go.Proofs.Ytdegpgonphgbcaa
