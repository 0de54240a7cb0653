/-
  simplex.
  slices.
-/
import Derived.Deep.RegionLaw
import Derived.Lib.SliceRun
import Derived.Test.YtdegpgonphgbcaaZSxH
import Derived.Test.YtdegpgonphgbcaaQuiet
namespace Go.Proofs.Ytdegpgonphgbcaa
open Go.RowKit
def worStep (rows : List (List Rat)) (best : Int) (i : Nat) : Int := if (gR (rows.getD i []) 0).num < 0 ∧ (best < 0 ∨ cmpR (gR (rows.getD i []) 0) (gR (rows.getD best.toNat []) 0) < 0) then (i : Int) else best
def worAt (rows : List (List Rat)) : Nat → Int
  | 0 => -1
  | j + 1 => worStep rows (worAt rows j) j
theorem worAt_range (rows : List (List Rat)) (j : Nat) : worAt rows j = -1 ∨ ∃ t : Nat, t < j ∧ worAt rows j = (t : Int) := by
  induction j with
  | zero => exact .inl rfl
  | succ j ih =>
    unfold worAt worStep
    split
    · exact .inr ⟨j, by omega, rfl⟩
    · rcases ih with h | ⟨t, ht, h⟩
      · exact .inl h
      · exact .inr ⟨t, by omega, h⟩
inductive Feas1 (d : Dc) : Bool → Dc → Prop
  | good (h : worAt d.rows d.ins.length = -1) : Feas1 d true d
  | neg (i n : Nat) (b1 : Bool) (d1 : Dc) (h : worAt d.rows d.ins.length = (i : Int)) (hi : i < d.ins.length) (pf : PivFit d.rows i 0) (hc : Climb n (pivD d i 0) b1 d1) (hn : (gR (lastR d1.rows) 0).num < 0) : Feas1 d false d1
  | pos (i n : Nat) (b1 : Bool) (d1 : Dc) (h : worAt d.rows d.ins.length = (i : Int)) (hi : i < d.ins.length) (pf : PivFit d.rows i 0) (hc : Climb n (pivD d i 0) b1 d1) (hn : ¬ (gR (lastR d1.rows) 0).num < 0) : Feas1 d true d1
inductive Feas2 (d : Dc) : Dc → Prop
  | out (h : idxP d.ins 0 = -1) : Feas2 d d
  | non (j : Nat) (hj : j < d.ins.length) (h : idxP d.ins 0 = (j : Int)) (hz : ∀ t, t < d.outs.length → (gR (d.rows.getD j []) (t + 1)).num = 0) : Feas2 d d
  | piv (j k : Nat) (hj : j < d.ins.length) (h : idxP d.ins 0 = (j : Int)) (hk : k < d.outs.length) (hz : ∀ t, t < k → (gR (d.rows.getD j []) (t + 1)).num = 0) (hne : (gR (d.rows.getD j []) (k + 1)).num ≠ 0) (pf : PivFit d.rows j k) : Feas2 d (pivD d j k)
inductive Feas (d : Dc) : Bool → Dc → Prop
  | no (d1 : Dc) (h : Feas1 d false d1) : Feas d false d1
  | yes (d1 d2 : Dc) (h : Feas1 d true d1) (h2 : Feas2 d1 d2) : Feas d true d2
theorem Dic.below {w w' : World} {fp : Nat → Prop} {q : Nat} {ins outs : List Int} {rows : List (List Rat)} {vI vO vR : Value} {fI fO fR : Nat → Prop} (d : Dic w fp q ins outs rows vI vO vR fI fO fR) (hb : Below w.heap.size w w') : Dic w' fp q ins outs rows vI vO vR fI fO fR := d.chg (M := Non) (Chg.of_below hb) (fun _ _ _ h => h)
theorem feas2_cases {d d' : Dc} (h : Feas2 d d') : (idxP d.ins 0 = -1 ∧ d' = d) ∨ ∃ j : Nat, j < d.ins.length ∧ idxP d.ins 0 = (j : Int) ∧ ∃ k, k ≤ d.outs.length ∧ (∀ t, t < k → (gR (d.rows.getD j []) (t + 1)).num = 0) ∧
    ((k = d.outs.length ∧ d' = d) ∨ (k < d.outs.length ∧ (gR (d.rows.getD j []) (k + 1)).num ≠ 0 ∧ PivFit d.rows j k ∧ d' = pivD d j k)) := by
  cases h with
  | out h => exact .inl ⟨h, rfl⟩
  | non j hj h hz => exact .inr ⟨j, hj, h, d.outs.length, Nat.le_refl _, hz, .inl ⟨rfl, rfl⟩⟩
  | piv j k hj h hk hz hne pf => exact .inr ⟨j, hj, h, k, by omega, hz, .inr ⟨hk, hne, pf, rfl⟩⟩
theorem feas_cases {d d' : Dc} {b : Bool} (h : Feas d b d') :
    (worAt d.rows d.ins.length = -1 ∧ b = true ∧ Feas2 d d') ∨
    ∃ (i n : Nat) (b1 : Bool) (d1 : Dc), worAt d.rows d.ins.length = (i : Int) ∧ i < d.ins.length ∧ PivFit d.rows i 0 ∧ Climb n (pivD d i 0) b1 d1 ∧
      (((gR (lastR d1.rows) 0).num < 0 ∧ b = false ∧ d1 = d') ∨ (¬ (gR (lastR d1.rows) 0).num < 0 ∧ b = true ∧ Feas2 d1 d' ∧ Feas1 d true d1)) := by
  cases h with
  | no _ h => cases h with
    | neg i n b1 _ h hi pf hc hn => exact .inr ⟨i, n, b1, _, h, hi, pf, hc, .inl ⟨hn, rfl, rfl⟩⟩
  | yes d1 _ h h2 => cases h with
    | good h => exact .inl ⟨h, rfl, h2⟩
    | pos i n b1 _ h hi pf hc hn => exact .inr ⟨i, n, b1, _, h, hi, pf, hc, .inr ⟨hn, rfl, h2, .pos i n b1 _ h hi pf hc hn⟩⟩
set_option maxRecDepth 100000 in
set_option maxHeartbeats 16000000 in
theorem feasible_any (w : World) (fp : Nat → Prop) (q : Nat) (d d' : Dc) (b : Bool) (vI vO vR : Value) (fI fO fR : Nat → Prop) (hd : Dic w fp q d.ins d.outs d.rows vI vO vR fI fO fR) (ok : DcOk d) (hft : ∀ r ∈ d.rows, FitL r) (hf : Feas d b d') (hfp : ∀ x, fp x → x < w.heap.size) :
    Calls Try.prog 33 #[.pointer (some ⟨q, 0, none⟩)] w (ClRet w fp q b d' vI vO vR fI fO fR) := by
  obtain ⟨nI, hnI⟩ : ∃ n, n = d.ins.length := ⟨_, rfl⟩
  have hn8 : nI ≤ 8 := by have := ok.i8; omega
  have HNI := Lib.hid hnI; have HD := Lib.hid hd; have OK := Lib.hid ok; have HFT := Lib.hid hft; have HF := Lib.hid hf; have HFP := Lib.hid hfp
  have q0 := hd.has.cell 0 _ rfl
  obtain ⟨aI, cI, hvI, _⟩ := hd.inn
  rw [hvI, ← hnI] at q0
  clear hnI hd ok hft hf hfp hvI
  go_enter Try.func33, Try.ntmps33
  go_wp2
  clear q0
  go_loopw [3, 12] (fun s3 s12 wr => ∃ j : Nat, j ≤ nI ∧ s12 = .int .i64 j ∧ s3 = .int .i64 (worAt d.rows j) ∧ Below w.heap.size w wr) (fun _ s12 _ => nI - (intOf s12).toNat)
  case atStart => exact ⟨0, Nat.zero_le _, rfl, rfl, Below.refl _ _⟩
  case round =>
    obtain ⟨j, hj, rfl, rfl, hB⟩ := hrel
    have BR := Lib.hid hB
    clear hB
    obtain ⟨wo, rfl⟩ : ∃ wo : World, wo = wr := ⟨_, rfl⟩
    have DR := Lib.hid (HD.out.below BR.out)
    have rg := Lib.hid (worAt_range d.rows j)
    by_cases hlt : j < nI
    · obtain ⟨bR, cR, hvR, lbR, _, hrw⟩ := DR.out.row (by intro e; have := OK.out.rows; rw [e] at this; simp at this)
      obtain ⟨row, hrow⟩ : ∃ row, d.rows[j]? = some row := ⟨_, List.getElem?_eq_getElem (by have := OK.out.rows; have := HNI.out; omega)⟩
      have hrl := OK.out.cols row (List.mem_of_getElem? hrow)
      obtain ⟨b1, cap, sp, cr, fb, _⟩ := hrw j row hrow (by intro e; rw [e] at hrl; simp at hrl)
      obtain ⟨nC, hnC⟩ : ∃ n, n = d.outs.length + 1 := ⟨_, rfl⟩
      rw [hrl, ← hnC] at cr
      have hC0 : 0 < nC := by omega
      have q2 := DR.out.has.cell 2 _ rfl
      rw [hvR, OK.out.rows, ← HNI.out] at q2
      obtain ⟨y, hy⟩ : ∃ y, row[0]? = some y := ⟨_, List.getElem?_eq_getElem (by omega)⟩
      obtain ⟨y0, y1⟩ := FBlk.get fb hy
      have hgd : d.rows.getD j [] = row := by rw [List.getD_eq_getElem?_getD, hrow]; rfl
      have hst : worAt d.rows (j + 1) = worStep d.rows (worAt d.rows j) j := rfl
      unfold worStep at hst
      rw [hgd, gR_of hy] at hst
      have fy := Lib.hid (HFT.out row (List.mem_of_getElem? hrow) y (List.mem_of_getElem? hy))
      have hjR : (j : Int) < ((nI + 1 : Nat) : Int) := by omega
      have lq := DR.out.has.lt (by simp)
      have lb1 := fb.lt
      have HST := Lib.hid hst; have HNC := Lib.hid hnC; have HRW := Lib.hid hrw; have HVR := Lib.hid hvR
      clear hrow hrl hvR hrw hy hgd hst fb hnC
      by_cases hp : y.num < 0
      · have hpd : decide (y.num < 0) = true := decide_eq_true hp
        rcases rg.out with hb | ⟨t, ht, hb⟩
        · have HT := Lib.hid (HST.out.trans (if_pos ⟨hp, .inl (by omega)⟩))
          rw [hb]
          clear hb
          go_wp2
          go_quiet (fail)
          go_wp2
          go_roundw
          case rel => exact ⟨j + 1, by omega, by go_num, by rw [HT.out], below_drewN BR.out nq⟩
          case measure => simp [intOf]; omega
        · obtain ⟨row2, hrow2⟩ : ∃ row, d.rows[t]? = some row := ⟨_, List.getElem?_eq_getElem (by have := OK.out.rows; have := HNI.out; omega)⟩
          have hrl := OK.out.cols row2 (List.mem_of_getElem? hrow2)
          obtain ⟨b2, cap2, sp2, cr2, fb2, _⟩ := HRW.out t row2 hrow2 (by intro e; rw [e] at hrl; simp at hrl)
          rw [hrl, ← HNC.out] at cr2
          obtain ⟨z, hz⟩ : ∃ z, row2[0]? = some z := ⟨_, List.getElem?_eq_getElem (by omega)⟩
          obtain ⟨z0, z1⟩ := FBlk.get fb2 hz
          have hgd : d.rows.getD t [] = row2 := by rw [List.getD_eq_getElem?_getD, hrow2]; rfl
          have fz := HFT.out row2 (List.mem_of_getElem? hrow2) z (List.mem_of_getElem? hz)
          have NC := Lib.hid (ncmp y z fy.out fz)
          have HS2 := HST.out
          rw [hb, Int.toNat_natCast, hgd, gR_of hz] at HS2
          obtain ⟨c, hcc⟩ : ∃ c, c = cmpR y z := ⟨_, rfl⟩
          rw [← hcc] at NC HS2
          have HS3 := Lib.hid HS2
          have HB2 := Lib.hid hb
          have lb2 := fb2.lt
          have htR : (t : Int) < ((nI + 1 : Nat) : Int) := by omega
          have ht0 : 0 ≤ (t : Int) := by omega
          have htd : decide ((t : Int) < 0) = false := by simp
          rw [hb]
          clear hb hrow2 hrl fb2 hz hgd fz HS2 hcc
          have i0 := fun s : BelowW wo => (s.ok.cell (p := ⟨q, 2, none⟩) lq).trans q2
          have i1 := fun s : BelowW wo => (s.ok.cell (p := ⟨bR, j, none⟩) lbR).trans cr
          have i2 := fun s : BelowW wo => (s.ok.cell (p := ⟨bR, t, none⟩) lbR).trans cr2
          have i3 := fun s : BelowW wo => (s.ok.cell (p := ⟨b1, 0 * 2, none⟩) lb1).trans y0
          have i4 := fun s : BelowW wo => (s.ok.cell (p := ⟨b1, 0 * 2 + 1, none⟩) lb1).trans y1
          have i5 := fun s : BelowW wo => (s.ok.cell (p := ⟨b2, 0 * 2, none⟩) lb2).trans z0
          have i6 := fun s : BelowW wo => (s.ok.cell (p := ⟨b2, 0 * 2 + 1, none⟩) lb2).trans z1
          simp only [Nat.zero_mul, Nat.zero_add] at i3 i4 i5 i6
          clear y0 y1 z0 z1 q2 cr cr2
          by_cases hc0 : c < 0
          · have HT := Lib.hid (HS3.out.trans (if_pos ⟨hp, .inr hc0⟩))
            have hcd : decide (c < 0) = true := decide_eq_true hc0
            go_wp2
            refine wp_region_below (by kernel_rfl) (by kernel_rfl) ?_
            repeat (go_big_quiet_step ((go_at_call 61; (with_reducible exact calls_below _ (NC.out _)))))
            refine wpQuiet_nil ?_
            rintro w' ⟨s, rfl⟩
            obtain ⟨w7, ok7⟩ := s
            clear i0 i1 i2 i3 i4 i5 i6
            go_wp2
            go_roundw
            case rel => exact ⟨j + 1, by omega, by go_num, by rw [HT.out], BR.out.trans (ok7.mono BR.out.size)⟩
            case measure => simp [intOf]; omega
          · have HT := Lib.hid (HS3.out.trans (if_neg (fun h => h.2.elim (by omega) hc0)))
            have hcd : decide (c < 0) = false := decide_eq_false hc0
            go_wp2
            refine wp_region_below (by kernel_rfl) (by kernel_rfl) ?_
            repeat (go_big_quiet_step ((go_at_call 61; (with_reducible exact calls_below _ (NC.out _)))))
            refine wpQuiet_nil ?_
            rintro w' ⟨s, rfl⟩
            obtain ⟨w7, ok7⟩ := s
            clear i0 i1 i2 i3 i4 i5 i6
            go_wp2
            go_roundw
            case rel => exact ⟨j + 1, by omega, by go_num, by rw [HT.out], BR.out.trans (ok7.mono BR.out.size)⟩
            case measure => simp [intOf]; omega
      · have HT := Lib.hid (HST.out.trans (if_neg (fun h => hp h.1)))
        have hpd : decide (y.num < 0) = false := decide_eq_false hp
        generalize worAt d.rows j = bs at *
        clear rg
        go_wp2
        go_quiet (fail)
        go_wp2
        go_roundw
        case rel => exact ⟨j + 1, by omega, by go_num, by rw [HT.out], below_drewN BR.out nq⟩
        case measure => simp [intOf]; omega
    · have hj2 : j = nI := by omega
      have HW := Lib.hid (show worAt d.rows j = worAt d.rows d.ins.length by rw [hj2, HNI.out])
      clear hj2 hj rg
      go_upto_if 55 with fail
      go_cut [3] (fun _ wx => ∃ d1 : Dc, Feas1 d true d1 ∧ (∃ d2, b = true ∧ d' = d2 ∧ Feas2 d1 d2) ∧ DcOk d1 ∧ Dic wx fp q d1.ins d1.outs d1.rows vI vO vR fI fO fR ∧ Chg fp w wx)
      case first =>
        have hwo : worAt d.rows j = -1 ∨ ∃ i : Nat, worAt d.rows j = (i : Int) := by rcases worAt_range d.rows j with h | ⟨t, _, h⟩; exact .inl h; exact .inr ⟨t, h⟩
        have HWO := Lib.hid hwo
        clear hwo
        have FPO := Lib.hid (show ∀ x, fp x → x < wo.heap.size from fun x hx => Nat.lt_of_lt_of_le (HFP.out x hx) BR.out.size)
        have hneg : ∀ (i n : Nat) (b1 : Bool) (d1 : Dc), worAt d.rows d.ins.length = (i : Int) → i < d.ins.length → PivFit d.rows i 0 → Climb n (pivD d i 0) b1 d1 → DcOk d1 := fun i n b1 d1 _ _ _ hc => hc.ok (pivD_ok OK.out i 0)
        have HNEG := Lib.hid hneg
        clear hneg
        rcases feas_cases HF.out with ⟨hg, hb, h2⟩ | ⟨i, n, b1, d1, hwi, hi, pf, hc, hrest⟩
        · have HG := Lib.hid (HW.out.trans hg)
          have HB := Lib.hid hb; have H2 := Lib.hid h2
          clear hg hb h2
          rw [HG.out]
          go_wp2
          go_meet
          exact ⟨d, .good (HW.out.symm.trans HG.out), ⟨d', HB.out, rfl, H2.out⟩, OK.out, DR.out, Chg.of_below BR.out⟩
        · have HWI := Lib.hid (HW.out.trans hwi)
          have HI := Lib.hid hi; have PF := Lib.hid pf; have HC := Lib.hid hc; have HRS := Lib.hid hrest; have OK1 := Lib.hid (HNEG.out i n b1 d1 hwi hi pf hc)
          clear hwi hi pf hc hrest
          rw [HWI.out]
          have hi0 : 0 ≤ (i : Int) := by omega
          go_wp2_with fail
          refine (pivot_any wo fp q d.ins d.outs d.rows vI vO vR fI fO fR DR.out i 0 HI.out (by have := OK.out.ne; exact List.length_pos_iff.2 this) OK.out.rows OK.out.cols ⟨OK.out.i8, OK.out.o8⟩ PF.out).mono ?_
          rintro e w2 ⟨rfl, hd2, hc2⟩
          have D2 := Lib.hid (show Dic w2 fp q (pivD d i 0).ins (pivD d i 0).outs (pivD d i 0).rows vI vO vR fI fO fR from hd2)
          have C2 := Lib.hid (show Chg fp w w2 from (Chg.of_below BR.out).trans hc2 (fun _ _ h => h))
          have FP2 := Lib.hid (show ∀ x, fp x → x < w2.heap.size from fun x hx => Nat.lt_of_lt_of_le (FPO.out x hx) hc2.size)
          clear hd2 hc2
          go_wp2_with fail
          refine (climb_any w2 fp q (pivD d i 0) d1 n b1 vI vO vR fI fO fR D2.out (pivD_ok OK.out i 0) HC.out FP2.out).mono ?_
          rintro e w3 ⟨rfl, hd3, hc3⟩
          have D3 := Lib.hid hd3
          have C3 := Lib.hid (C2.out.trans hc3 (fun _ _ h => h))
          clear hd3 hc3 hi0
          obtain ⟨m, hm⟩ : ∃ m, m = d1.ins.length := ⟨_, rfl⟩
          obtain ⟨goal, hg⟩ : ∃ g, d1.rows[m]? = some g := ⟨_, List.getElem?_eq_getElem (by have := OK1.out.rows; omega)⟩
          have hgl := OK1.out.cols goal (List.mem_of_getElem? hg)
          obtain ⟨bR, cR, hvR, lbR, _, hrow⟩ := D3.out.row (by intro e; have := OK1.out.rows; rw [e] at this; simp at this)
          obtain ⟨bg, cap, sp, cg, fb, _⟩ := hrow m goal hg (by intro e; rw [e] at hgl; simp at hgl)
          have hLast : lastR d1.rows = goal := by unfold lastR; rw [show d1.rows.length - 1 = m by have := OK1.out.rows; omega, List.getD_eq_getElem?_getD, hg]; rfl
          obtain ⟨y, hy⟩ : ∃ y, goal[0]? = some y := ⟨_, List.getElem?_eq_getElem (by omega)⟩
          have hgy : gR (lastR d1.rows) 0 = y := by rw [hLast]; exact gR_of hy
          obtain ⟨y0, y1⟩ := FBlk.get fb hy
          simp only [Nat.zero_mul] at y0
          obtain ⟨nC, hnC⟩ : ∃ n, n = d1.outs.length + 1 := ⟨_, rfl⟩
          rw [hgl, ← hnC] at cg
          have hC0 : 0 < nC := by omega
          have q2 := D3.out.has.cell 2 _ rfl
          rw [hvR, OK1.out.rows, ← hm] at q2
          have hm8 : m ≤ 8 := by have := OK1.out.i8; omega
          have wm : IntKind.i64.wrap (((m + 1 : Nat) : Int) - 1) = (m : Int) := by rw [Go.IntWalk.i64_in _ ⟨by omega, by omega⟩]; omega
          have hmm : (m : Int) < ((m + 1 : Nat) : Int) := by omega
          have hm0 : 0 ≤ (m : Int) := by omega
          have HRS2 := HRS.out
          rw [hgy] at HRS2
          clear hg hgl hvR hrow fb hLast hy hgy hnC hm y1
          rcases HRS2 with ⟨hn, hb, hdd⟩ | ⟨hn, hb, h2, h1⟩
          · subst hb
            subst hdd
            have hpd : decide (y.num < 0) = true := decide_eq_true hn
            go_wp2
            go_quiet (fail)
            go_wp2
            go_ret
            exact ⟨rfl, D3.out.chg (M := Non) ((Chg.refl w3).drewN nq) (fun _ _ _ h => h), C3.out.drewN nq⟩
          · have HB := Lib.hid hb; have H2 := Lib.hid h2; have H1 := Lib.hid h1
            clear hb h2 h1
            have hpd : decide (y.num < 0) = false := decide_eq_false (by omega)
            go_wp2
            go_quiet (fail)
            go_wp2
            go_meet
            exact ⟨d1, H1.out, ⟨d', HB.out, rfl, H2.out⟩, OK1.out, D3.out.chg (M := Non) ((Chg.refl w3).drewN nq) (fun _ _ _ h => h), C3.out.drewN nq⟩
      case rest =>
        obtain ⟨d1, _, ⟨d2, hb, hdd, h2⟩, ok1, hd1, hc1⟩ := hcut
        subst hb
        subst hdd
        obtain ⟨wd, rfl⟩ : ∃ wd : World, wd = wc := ⟨_, rfl⟩
        have D1 := Lib.hid hd1; have C1 := Lib.hid hc1; have OK1 := Lib.hid ok1
        have q0 := hd1.has.cell 0 _ rfl
        obtain ⟨aJ, cJ, hvJ, _⟩ := hd1.inn
        obtain ⟨nJ, hnJ⟩ : ∃ n, n = d1.ins.length := ⟨_, rfl⟩
        rw [hvJ, ← hnJ] at q0
        have hin := hd1.hin
        rw [hvJ, ← hnJ] at hin
        have IX := Lib.hid (fun wq => sindex_any fI aJ nJ cJ d1.ins 0 wq)
        have IR := Lib.hid (OInts.read (K := fI) (fun _ h => h) hin)
        obtain ⟨bO, cO, hvO, lbO, _⟩ := hd1.out ok1.ne
        have q1 := hd1.has.cell 1 _ rfl
        obtain ⟨nO, hnO⟩ : ∃ n, n = d1.outs.length := ⟨_, rfl⟩
        rw [hvO, ← hnO] at q1
        have q2 := hd1.has.cell 2 _ rfl
        obtain ⟨bR, cR, hvR, lbR, _, hrow⟩ := hd1.row (by intro e; have := ok1.rows; rw [e] at this; simp at this)
        rw [hvR, ok1.rows, ← hnJ] at q2
        have hnO8 : nO ≤ 8 := by have := ok1.o8; omega
        have hnJ8 : nJ ≤ 8 := by have := ok1.i8; omega
        have HROW := Lib.hid hrow
        have HNJ := Lib.hid hnJ; have HNO := Lib.hid hnO; have H2 := Lib.hid h2
        have FPO := Lib.hid (show ∀ x, fp x → x < wd.heap.size from fun x hx => Nat.lt_of_lt_of_le (HFP.out x hx) hc1.size)
        clear hd1 hc1 ok1 hvJ hnJ hin hvO hnO hvR hrow h2
        go_wp2_with fail
        refine (IX.out _ IR.out).mono ?_
        rintro e w' ⟨rfl, hw'⟩
        subst hw'
        have key : ∀ j : Nat, j < d1.ins.length → ∃ row, d1.rows[j]? = some row ∧ d1.rows.getD j [] = row ∧ row.length = d1.outs.length + 1 := fun j hj => by
          obtain ⟨row, hrow⟩ : ∃ row, d1.rows[j]? = some row := ⟨_, List.getElem?_eq_getElem (by have := OK1.out.rows; omega)⟩
          exact ⟨row, hrow, by rw [List.getD_eq_getElem?_getD, hrow]; rfl, OK1.out.cols row (List.mem_of_getElem? hrow)⟩
        have KEY := Lib.hid key
        clear key
        rcases feas2_cases H2.out with ⟨h, hd⟩ | ⟨j, hj, h, kk, hkk, hz, hend⟩
        · rw [h]
          subst hd
          clear h
          go_wp2
          go_ret
          exact ⟨rfl, D1.out, C1.out⟩
        · rw [h]
          obtain ⟨row, hrow, hgd, hrl⟩ := KEY.out j hj
          obtain ⟨b1, cap, sp, cr, fb, _⟩ := HROW.out j row hrow (by intro e; rw [e] at hrl; simp at hrl)
          rw [hrl, ← HNO.out] at cr
          rw [hgd] at hz hend
          have FB := Lib.hid fb; have HZ := Lib.hid hz; have HE := Lib.hid hend; have HRL := Lib.hid hrl; have HJ := Lib.hid hj
          have hkO : kk ≤ nO := by have := HNO.out; omega
          have hj0 : 0 ≤ (j : Int) := by omega
          have hjJ : (j : Int) < ((nJ + 1 : Nat) : Int) := by have := HNJ.out; omega
          clear h hrow hgd hrl fb hz hend hj hkk
          go_wp2
          go_loop [89] (fun s89 => ∃ t : Nat, t ≤ kk ∧ s89 = .int .i64 t) (fun s89 => nO - (intOf s89).toNat)
          case atStart => exact ⟨0, Nat.zero_le _, rfl⟩
          case round =>
            obtain ⟨t, ht, rfl⟩ := hrel
            by_cases hto : t < nO
            · obtain ⟨x, hx⟩ : ∃ x, row[t + 1]? = some x := ⟨_, List.getElem?_eq_getElem (by have := HRL.out; have := HNO.out; omega)⟩
              obtain ⟨x0, x1⟩ := FBlk.get FB.out hx
              have hgx : gR row (t + 1) = x := gR_of hx
              have wt : IntKind.i64.wrap ((t : Int) + 1) = (t : Int) + 1 := Go.IntWalk.i64_in _ ⟨by omega, by omega⟩
              have ht0 : 0 ≤ (t : Int) + 1 := by omega
              have ht1 : (t : Int) + 1 < ((nO + 1 : Nat) : Int) := by omega
              by_cases htk : t < kk
              · have hx0 : x.num = 0 := by have := HZ.out t htk; rw [hgx] at this; exact this
                rw [hx0] at x0
                clear hx hgx hx0 x1
                go_wp2
                go_round
                case rel => exact ⟨t + 1, by omega, by go_num⟩
                case measure => simp [intOf]; omega
              · have hkt : kk = t := by omega
                subst hkt
                obtain ⟨hne, pf, hdd⟩ : x.num ≠ 0 ∧ PivFit d1.rows j kk ∧ d' = pivD d1 j kk := by
                  rcases HE.out with ⟨h1, _⟩ | ⟨_, h2, h3, h4⟩
                  · have := HNO.out; omega
                  · rw [hgx] at h2; exact ⟨h2, h3, h4⟩
                have hxn : (x.num != 0) = true := by simpa using hne
                have PF := Lib.hid pf
                subst hdd
                clear hx hgx x1 hne pf htk
                go_wp2_with fail
                refine (pivot_any wd fp q d1.ins d1.outs d1.rows vI vO vR fI fO fR D1.out j kk HJ.out (by have := HNO.out; omega) OK1.out.rows OK1.out.cols ⟨OK1.out.i8, OK1.out.o8⟩ PF.out).mono ?_
                rintro e w3 ⟨rfl, hd3, hc3⟩
                have R := Lib.hid (show ClRet w fp q true (pivD d1 j kk) vI vO vR fI fO fR (.returned (.bool true)) w3 from ⟨rfl, hd3, C1.out.trans hc3 (fun _ _ h => h)⟩)
                clear hd3 hc3
                go_wp2
                go_ret
                exact R.out
            · have hdd : d' = d1 := by
                rcases HE.out with ⟨_, h2⟩ | ⟨h1, _⟩
                · exact h2
                · have := HNO.out; omega
              subst hdd
              go_wp2
              go_ret
              exact ⟨rfl, D1.out, C1.out⟩
theorem spl_nil {α : Type} (L : List α) (o : Nat) : splice L o [] = L := by unfold splice; simp
theorem spl_cons {α : Type} {L : List α} {o : Nat} {v : α} {r : List α} (h : o < L.length) : splice (L.set o v) (o + 1) r = splice L o (v :: r) := by
  unfold splice
  rw [List.take_set, List.take_succ_eq_append_getElem h, List.set_append_right _ _ (by rw [List.length_take]; exact Nat.min_le_left _ _)]
  rw [List.length_take, Nat.min_eq_left (by omega), Nat.sub_self, List.set_cons_zero, List.drop_set_of_lt (by omega)]
  simp only [List.append_assoc, List.cons_append, List.nil_append, List.length_cons]
  rw [show o + 1 + r.length = o + (r.length + 1) by omega]
theorem Blk.cells {b : Nat} {t : TypeId} : ∀ (vs : List Value) (o : Nat) (L : List Value) (w : World), o + vs.length ≤ L.length → Blk w b t L → Blk (w.setCells b o vs) b t (splice L o vs)
  | [], o, L, w, _, h => by rw [spl_nil]; exact h
  | v :: r, o, L, w, hl, h => by
    simp at hl
    have h1 := Blk.cells r (o + 1) (L.set o v) (w.setCell ⟨b, o, none⟩ v) (by rw [List.length_set]; omega) (h.set o v)
    rw [spl_cons (by omega)] at h1
    exact h1
theorem chg_cells {w0 : World} {b : Nat} {M : Nat → Prop} (hM : b < w0.heap.size → M b) : ∀ (vs : List Value) (o : Nat) (w : World), Chg M w0 w → Chg M w0 (w.setCells b o vs)
  | [], _, _, h => h
  | v :: vs, o, _w, h => chg_cells hM vs (o + 1) _ (Chg.setCell (p := ⟨b, o, none⟩) h hM v)
theorem splice_del {A X B sp Z : List Value} (hZ : Z.length = X.length) : splice (splice (A ++ X ++ B ++ sp) A.length B) (A.length + B.length) Z = A ++ B ++ (Z ++ sp) := by
  have e1 : splice (A ++ X ++ B ++ sp) A.length B = A ++ B ++ (X ++ B ++ sp).drop B.length := by
    unfold splice
    rw [List.append_assoc, List.append_assoc, List.take_left' rfl, ← List.drop_drop, List.drop_left' rfl]
    simp only [List.append_assoc]
  rw [e1]
  have e2 : (A ++ B).length = A.length + B.length := List.length_append
  unfold splice
  rw [← e2, List.take_left' rfl, ← List.drop_drop, List.drop_left' rfl, List.drop_drop, hZ, List.append_assoc X B sp]
  have e3 : (X ++ (B ++ sp)).drop (B.length + X.length) = sp := by
    rw [Nat.add_comm, ← List.drop_drop, List.drop_left' rfl, List.drop_left' rfl]
  rw [e3, List.append_assoc]
theorem run_clear2 {P : Program} (w : World) (t e ty : TypeId) (z : Value) (z0 z1 : Value) (ht : P.underlying t = some (.slice e)) (hv : ∀ w, (zeroValue e).run P w = .ok z w) (hz : z.cells = #[z0, z1]) (h0 : z0.oneCell' = true) (h1 : z1.oneCell' = true) (b o c : Nat)
    (hc : ∀ j, j < 2 → (w.cell? ⟨b, o + j, none⟩).isSome = true) (hf : ∀ j, j < 2 → w.frozen? ⟨b, o + j, none⟩ = false) :
    (Builtin.clear_ #[t] ty #[.slice (some ⟨b, o, none⟩) 1 c]).run P w = .ok (.tuple #[]) (w.setCells b o [z0, z1]) := by
  have hzc : (Builtin.zeroCells z.cells 1).toList = [z0, z1] := by
    rw [hz]
    simp [Builtin.zeroCells, Array.range_succ]
  have hst := run_storeCells_cells (P := P) b o [z0, z1] 0 w (by simpa using hc) (by simpa using hf) (by intro v hv'; simp at hv'; rcases hv' with rfl | rfl <;> assumption)
  simp only [Nat.add_zero] at hst
  simp [Builtin.clear_, run_underlying ht, hv, hzc, hst]
theorem ivs_len1 (l : List Int) : (ivs l).length = l.length * 1 := by unfold ivs; simp
theorem ivs_app (l m : List Int) : ivs (l ++ m) = ivs l ++ ivs m := by unfold ivs; rw [List.map_append]
theorem ivs_one1 {l : List Int} : ∀ v ∈ ivs l, v.oneCell' = true := fun v h => by
  unfold ivs at h
  obtain ⟨x, _, rfl⟩ := List.mem_map.1 h
  rfl
set_option maxHeartbeats 4000000 in
set_option maxRecDepth 1000000 in
theorem sdel_int (b cap k j : Nat) (l : List Int) (sp : List Value) (w : World) (hb : Blk w b 3 (ivs l ++ sp)) (hcap : cap = l.length + sp.length) (_hm : cap ≤ 9223372036854775807) (hk : k < l.length) (hj : j = k + 1) :
    Calls Try.prog 66 #[.slice (some ⟨b, 0, none⟩) l.length cap, .int .i64 k, .int .i64 j] w fun e w' => e = .returned (.slice (some ⟨b, 0, none⟩) (l.length - 1) cap) ∧ Blk w' b 3 (ivs (l.eraseIdx k) ++ ([.int .i64 0] ++ sp)) ∧ Chg (fun x => x = b) w w' := by
  obtain ⟨i0, hi0, hz0, hz1, hz2⟩ := info_parts (show (Try.prog.info? 3).map (fun i => (i.zero, i.size, i.bytes)) = some (some (.int .i64 0), 1, 8) from by kernel_rfl)
  obtain ⟨n, hn⟩ : ∃ n, n = l.length := ⟨_, rfl⟩
  have hnc : n ≤ cap := by omega
  obtain ⟨A, hA⟩ : ∃ A, A = ivs (l.take k) := ⟨_, rfl⟩
  obtain ⟨B, hB⟩ : ∃ B, B = ivs (l.drop j) := ⟨_, rfl⟩
  obtain ⟨X, hX⟩ : ∃ X, X = ivs [l[k]] := ⟨_, rfl⟩
  have lA : A.length = k * 1 := by rw [hA, ivs_len1, List.length_take, Nat.min_eq_left (by omega)]
  have lB : B.length = (n - j) * 1 := by rw [hB, ivs_len1, List.length_drop, hn]
  have lX : X.length = 1 := by rw [hX, ivs_len1]; rfl
  have hl : ivs l = A ++ X ++ B := by
    have e : l = l.take k ++ ([l[k]] ++ l.drop j) := by rw [hj, List.singleton_append, List.getElem_cons_drop, List.take_append_drop]
    rw [hA, hX, hB, ← ivs_app, ← ivs_app, List.append_assoc, ← e]
  have he : ivs (l.eraseIdx k) = A ++ B := by rw [hA, hB, hj, ← ivs_app, List.eraseIdx_eq_take_drop_succ]
  have hb2 : Blk w.drew b 3 (A ++ X ++ B ++ sp) := hb.at (by rw [hl])
  have b1 : Blk (w.drew.setCells b (0 + k * 1) B) b 3 (splice (A ++ X ++ B ++ sp) A.length B) := by
    have := hb2.cells B (0 + k * 1) _ _ (by simp only [List.length_append]; omega)
    exact this.at (by rw [lA, Nat.zero_add])
  obtain ⟨W1, hW1⟩ : ∃ W1, W1 = w.drew.setCells b (0 + k * 1) B := ⟨_, rfl⟩
  rw [← hW1] at b1
  have hoff : k + (n - j) = A.length + B.length := by rw [lA, lB]; omega
  have b2 : Blk (W1.setCells b (k + (n - j)) [.int .i64 0]) b 3 (A ++ B ++ ([.int .i64 0] ++ sp)) := by
    have := b1.cells [.int .i64 0] (k + (n - j)) _ _ (by unfold splice; simp only [List.length_append, List.length_take, List.length_drop, List.length_cons, List.length_nil]; omega)
    exact this.at (by rw [hoff, splice_del (by rw [lX]; rfl)])
  have c2 : Chg (fun x => x = b) w (W1.setCells b (k + (n - j)) [.int .i64 0]) := chg_cells (M := fun x => x = b) (fun _ => rfl) _ _ _ (hW1 ▸ chg_cells (M := fun x => x = b) (fun _ => rfl) _ _ _ (Chg.refl w).drew)
  have hcell : ∀ t, t < 1 → (W1.cell? ⟨b, k + (n - j) + t, none⟩).isSome = true := fun t ht => by
    obtain ⟨u, hu⟩ : ∃ u, (splice (A ++ X ++ B ++ sp) A.length B)[k + (n - j) + t]? = some u := ⟨_, List.getElem?_eq_getElem (by unfold splice; simp only [List.length_append, List.length_take, List.length_drop]; omega)⟩
    rw [b1.cell hu]
    rfl
  have hcl : ∀ ty, (Builtin.clear_ #[22] ty #[.slice (some ⟨b, k + (n - j), none⟩) 1 (cap - (k + (n - j)))]).run Try.prog W1 = .ok (.tuple #[]) (W1.setCells b (k + (n - j)) [.int .i64 0]) :=
    fun ty => Lib.run_clear_slice W1 22 3 ty (.int .i64 0) (by kernel_rfl) (fun w => by kernel_rfl) rfl rfl b (k + (n - j)) 1 _ (by omega) (fun t ht => hcell t ht) (fun t _ => b1.free _)
  obtain ⟨a, ha, hsrc⟩ : ∃ a : Addr, (if cap = j then some (⟨b, 0, none⟩ : Addr) else some ⟨b, j, none⟩) = some a ∧ Hid (∀ t u, B[t]? = some u → w.drew.cell? (a.add t) = some u) := by
    by_cases h : cap = j
    · refine ⟨⟨b, 0, none⟩, by simp [h], fun t u hu => ?_⟩
      have h0 : B.length = 0 := by rw [lB]; omega
      rw [List.length_eq_zero_iff.1 h0] at hu
      simp at hu
    · refine ⟨⟨b, j, none⟩, by simp [h], fun t u hu => ?_⟩
      rw [Addr.add_lit]
      refine hb2.cell ?_
      rw [show j + t = (A ++ X).length + t by rw [List.length_append]; omega, List.append_assoc (A ++ X), List.getElem?_append_right (by omega), Nat.add_sub_cancel_left, List.getElem?_append_left (List.getElem?_eq_some_iff.1 hu).1]
      exact hu
  have s1 : Hid (B.length = (n - j) * 1) := lB
  have s2 : Hid (∀ u ∈ B, u.oneCell' = true) := by rw [hB]; exact ivs_one1
  have s3 : Hid (∀ t, t < B.length → (w.drew.cell? ⟨b, 0 + k * 1 + t, none⟩).isSome = true ∧ w.drew.frozen? ⟨b, 0 + k * 1 + t, none⟩ = false) := fun t ht => by
    refine ⟨?_, hb2.free _⟩
    rw [cell_of_row w.drew b _ _ 3 (0, 0) hb2, List.getElem?_toArray, List.getElem?_eq_getElem (by simp only [List.length_append]; omega)]
    rfl
  have hW : Hid (W1 = w.drew.setCells b (0 + k * 1) B) := hW1
  have hrest : n - 1 = k + (n - j) := by omega
  have R := Lib.hid (show Blk (W1.setCells b (k + (n - j)) [.int .i64 0]) b 3 (ivs (l.eraseIdx k) ++ ([.int .i64 0] ++ sp)) ∧ Chg (fun x => x = b) w (W1.setCells b (k + (n - j)) [.int .i64 0]) from ⟨b2.at (by rw [he]), c2⟩)
  have HR := Lib.hid hrest
  have hkj : k < j := by omega
  have hne : ¬ k = j := by omega
  have hjn : j ≤ n := by omega
  have hkc : k ≤ cap := by omega
  have hjc : j ≤ cap := by omega
  have hkn : k < n := by omega
  have hln : k + (n - j) + 1 = n := by omega
  have HL := Lib.hid hln
  have hlt : k + (n - j) < n := by omega
  have hlc : k + (n - j) ≤ cap := by omega
  have hlc2 : ¬ (cap = k + (n - j)) := by omega
  have hle : n - (k + (n - j)) = 1 := by omega
  rw [← hn]
  clear hrest hln hA hB hX lA lB lX hl he hb2 b1 hW1 hoff b2 c2 hcell hb hcap hk hj
  clear hn
  go_enter Try.func66, Try.ntmps66
  go_wp2_with fail
  go_region_law (refine step_append_room rfl (.tmp 22) (.tmp 25) 22 rfl 3 i0 1 (by kernel_rfl) hi0 hz1 b 0 k cap (by simp [Act.eval, Act.put]) a (n - j) (cap - j) B (by simp [Act.eval, Act.put]) s1.out hsrc.out s2.out (by omega) s3.out ?_; rw [← hW.out])
  go_wp2
  go_ret
  exact ⟨by rw [HR.out]; rfl, R.out.1, R.out.2⟩
set_option maxHeartbeats 4000000 in
set_option maxRecDepth 1000000 in
theorem sdel_fr (b cap k j : Nat) (l : List Rat) (sp : List Value) (w : World) (hb : Blk w b 31 (frs l ++ sp)) (hcap : cap * 2 = l.length * 2 + sp.length) (_hm : cap ≤ 9223372036854775807) (hk : k < l.length) (hj : j = k + 1) :
    Calls Try.prog 67 #[.slice (some ⟨b, 0, none⟩) l.length cap, .int .i64 k, .int .i64 j] w fun e w' => e = .returned (.slice (some ⟨b, 0, none⟩) (l.length - 1) cap) ∧ Blk w' b 31 (frs (l.eraseIdx k) ++ ([.int .i64 0, .int .i64 0] ++ sp)) ∧ Chg (fun x => x = b) w w' := by
  obtain ⟨i0, hi0, hz0, hz1, hz2⟩ := info_parts info_fr
  obtain ⟨n, hn⟩ : ∃ n, n = l.length := ⟨_, rfl⟩
  have hnc : n ≤ cap := by omega
  obtain ⟨A, hA⟩ : ∃ A, A = frs (l.take k) := ⟨_, rfl⟩
  obtain ⟨B, hB⟩ : ∃ B, B = frs (l.drop j) := ⟨_, rfl⟩
  obtain ⟨X, hX⟩ : ∃ X, X = frs [l[k]] := ⟨_, rfl⟩
  have lA : A.length = k * 2 := by rw [hA, frs_length, List.length_take, Nat.min_eq_left (by omega)]
  have lB : B.length = (n - j) * 2 := by rw [hB, frs_length, List.length_drop, hn]
  have lX : X.length = 2 := by rw [hX, frs_length]; rfl
  have hl : frs l = A ++ X ++ B := by
    have e : l = l.take k ++ ([l[k]] ++ l.drop j) := by rw [hj, List.singleton_append, List.getElem_cons_drop, List.take_append_drop]
    rw [hA, hX, hB, ← frs_append, ← frs_append, List.append_assoc, ← e]
  have he : frs (l.eraseIdx k) = A ++ B := by rw [hA, hB, hj, ← frs_append, List.eraseIdx_eq_take_drop_succ]
  have hb2 : Blk w.drew b 31 (A ++ X ++ B ++ sp) := hb.at (by rw [hl])
  have b1 : Blk (w.drew.setCells b (0 + k * 2) B) b 31 (splice (A ++ X ++ B ++ sp) A.length B) := by
    have := hb2.cells B (0 + k * 2) _ _ (by simp only [List.length_append]; omega)
    exact this.at (by rw [lA, Nat.zero_add])
  obtain ⟨W1, hW1⟩ : ∃ W1, W1 = w.drew.setCells b (0 + k * 2) B := ⟨_, rfl⟩
  rw [← hW1] at b1
  have hoff : (k + (n - j)) * 2 = A.length + B.length := by rw [lA, lB]; omega
  have b2 : Blk (W1.setCells b ((k + (n - j)) * 2) [.int .i64 0, .int .i64 0]) b 31 (A ++ B ++ ([.int .i64 0, .int .i64 0] ++ sp)) := by
    have := b1.cells [.int .i64 0, .int .i64 0] ((k + (n - j)) * 2) _ _ (by unfold splice; simp only [List.length_append, List.length_take, List.length_drop, List.length_cons, List.length_nil]; omega)
    exact this.at (by rw [hoff, splice_del (by rw [lX]; rfl)])
  have c2 : Chg (fun x => x = b) w (W1.setCells b ((k + (n - j)) * 2) [.int .i64 0, .int .i64 0]) := chg_cells (M := fun x => x = b) (fun _ => rfl) _ _ _ (hW1 ▸ chg_cells (M := fun x => x = b) (fun _ => rfl) _ _ _ (Chg.refl w).drew)
  have hcell : ∀ t, t < 2 → (W1.cell? ⟨b, (k + (n - j)) * 2 + t, none⟩).isSome = true := fun t ht => by
    obtain ⟨u, hu⟩ : ∃ u, (splice (A ++ X ++ B ++ sp) A.length B)[(k + (n - j)) * 2 + t]? = some u := ⟨_, List.getElem?_eq_getElem (by unfold splice; simp only [List.length_append, List.length_take, List.length_drop]; omega)⟩
    rw [b1.cell hu]
    rfl
  have hcl : ∀ ty, (Builtin.clear_ #[32] ty #[.slice (some ⟨b, (k + (n - j)) * 2, none⟩) 1 (cap - (k + (n - j)))]).run Try.prog W1 = .ok (.tuple #[]) (W1.setCells b ((k + (n - j)) * 2) [.int .i64 0, .int .i64 0]) :=
    fun ty => run_clear2 W1 32 31 ty (.agg #[.int .i64 0, .int .i64 0]) (.int .i64 0) (.int .i64 0) (by kernel_rfl) (fun w => by kernel_rfl) rfl rfl rfl b ((k + (n - j)) * 2) _ (fun t ht => hcell t ht) (fun t _ => b1.free _)
  obtain ⟨a, ha, hsrc⟩ : ∃ a : Addr, (if cap = j then some (⟨b, 0, none⟩ : Addr) else some ⟨b, j * 2, none⟩) = some a ∧ Hid (∀ t u, B[t]? = some u → w.drew.cell? (a.add t) = some u) := by
    by_cases h : cap = j
    · refine ⟨⟨b, 0, none⟩, by simp [h], fun t u hu => ?_⟩
      have h0 : B.length = 0 := by rw [lB]; omega
      rw [List.length_eq_zero_iff.1 h0] at hu
      simp at hu
    · refine ⟨⟨b, j * 2, none⟩, by simp [h], fun t u hu => ?_⟩
      rw [Addr.add_lit]
      refine hb2.cell ?_
      rw [show j * 2 + t = (A ++ X).length + t by rw [List.length_append]; omega, List.append_assoc (A ++ X), List.getElem?_append_right (by omega), Nat.add_sub_cancel_left, List.getElem?_append_left (List.getElem?_eq_some_iff.1 hu).1]
      exact hu
  have s1 : Hid (B.length = (n - j) * 2) := lB
  have s2 : Hid (∀ u ∈ B, u.oneCell' = true) := by rw [hB]; exact frs_one
  have s3 : Hid (∀ t, t < B.length → (w.drew.cell? ⟨b, 0 + k * 2 + t, none⟩).isSome = true ∧ w.drew.frozen? ⟨b, 0 + k * 2 + t, none⟩ = false) := fun t ht => by
    refine ⟨?_, hb2.free _⟩
    rw [cell_of_row w.drew b _ _ 31 (0, 0) hb2, List.getElem?_toArray, List.getElem?_eq_getElem (by simp only [List.length_append]; omega)]
    rfl
  have hW : Hid (W1 = w.drew.setCells b (0 + k * 2) B) := hW1
  have hrest : n - 1 = k + (n - j) := by omega
  have R := Lib.hid (show Blk (W1.setCells b ((k + (n - j)) * 2) [.int .i64 0, .int .i64 0]) b 31 (frs (l.eraseIdx k) ++ ([.int .i64 0, .int .i64 0] ++ sp)) ∧ Chg (fun x => x = b) w (W1.setCells b ((k + (n - j)) * 2) [.int .i64 0, .int .i64 0]) from ⟨b2.at (by rw [he]), c2⟩)
  have HR := Lib.hid hrest
  have hkj : k < j := by omega
  have hne : ¬ k = j := by omega
  have hjn : j ≤ n := by omega
  have hkc : k ≤ cap := by omega
  have hjc : j ≤ cap := by omega
  have hkn : k < n := by omega
  have hln : k + (n - j) + 1 = n := by omega
  have HL := Lib.hid hln
  have hlt : k + (n - j) < n := by omega
  have hlc : k + (n - j) ≤ cap := by omega
  have hlc2 : ¬ (cap = k + (n - j)) := by omega
  have hle : n - (k + (n - j)) = 1 := by omega
  rw [← hn]
  clear hrest hln hA hB hX lA lB lX hl he hb2 b1 hW1 hoff b2 c2 hcell hb hcap hk hj
  clear hn
  go_enter Try.func67, Try.ntmps67
  go_wp2_with fail
  go_region_law (refine step_append_room rfl (.tmp 22) (.tmp 25) 32 rfl 31 i0 2 (by kernel_rfl) hi0 hz1 b 0 k cap (by simp [Act.eval, Act.put]) a (n - j) (cap - j) B (by simp [Act.eval, Act.put]) s1.out hsrc.out s2.out (by omega) s3.out ?_; rw [← hW.out])
  go_wp2
  go_ret
  exact ⟨by rw [HR.out]; rfl, R.out.1, R.out.2⟩
end Go.Proofs.Ytdegpgonphgbcaa
