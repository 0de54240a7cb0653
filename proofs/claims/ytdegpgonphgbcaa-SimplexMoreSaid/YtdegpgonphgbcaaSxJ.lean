/-
  simplex.feasible.
-/
import Derived.Test.YtdegpgonphgbcaaZSxH
import Derived.Test.YtdegpgonphgbcaaQuiet
namespace Go.Proofs.Ytdegpgonphgbcaa
open Go.RowKit

/-- The row whose constant is least, if one is less than 0, of the first j. -/
def worStep (rows : List (List Rat)) (best : Int) (i : Nat) : Int := if (gR (rows.getD i []) 0).num < 0 ∧ (best < 0 ∨ cmpR (gR (rows.getD i []) 0) (gR (rows.getD best.toNat []) 0) < 0) then (i : Int) else best
def worAt (rows : List (List Rat)) : Nat → Int
  | 0 => -1
  | j + 1 => worStep rows (worAt rows j) j
theorem worAt_range (rows : List (List Rat)) (j : Nat) : worAt rows j = -1 ∨ ∃ t : Nat, t < j ∧ worAt rows j = (t : Int) := by
  induction j with
  | zero => exact .inl rfl
  | succ j ih =>
    unfold worAt worStep
    split
    · exact .inr ⟨j, by omega, rfl⟩
    · rcases ih with h | ⟨t, ht, h⟩
      · exact .inl h
      · exact .inr ⟨t, by omega, h⟩
inductive Feas1 (d : Dc) : Bool → Dc → Prop
  | good (h : worAt d.rows d.ins.length = -1) : Feas1 d true d
  | neg (i n : Nat) (b1 : Bool) (d1 : Dc) (h : worAt d.rows d.ins.length = (i : Int)) (hi : i < d.ins.length) (pf : PivFit d.rows i 0) (hc : Climb n (pivD d i 0) b1 d1) (hn : (gR (lastR d1.rows) 0).num < 0) : Feas1 d false d1
  | pos (i n : Nat) (b1 : Bool) (d1 : Dc) (h : worAt d.rows d.ins.length = (i : Int)) (hi : i < d.ins.length) (pf : PivFit d.rows i 0) (hc : Climb n (pivD d i 0) b1 d1) (hn : ¬ (gR (lastR d1.rows) 0).num < 0) : Feas1 d true d1
inductive Feas2 (d : Dc) : Dc → Prop
  | out (h : idxP d.ins 0 = -1) : Feas2 d d
  | non (j : Nat) (hj : j < d.ins.length) (h : idxP d.ins 0 = (j : Int)) (hz : ∀ t, t < d.outs.length → (gR (d.rows.getD j []) (t + 1)).num = 0) : Feas2 d d
  | piv (j k : Nat) (hj : j < d.ins.length) (h : idxP d.ins 0 = (j : Int)) (hk : k < d.outs.length) (hz : ∀ t, t < k → (gR (d.rows.getD j []) (t + 1)).num = 0) (hne : (gR (d.rows.getD j []) (k + 1)).num ≠ 0) (pf : PivFit d.rows j k) : Feas2 d (pivD d j k)
inductive Feas (d : Dc) : Bool → Dc → Prop
  | no (d1 : Dc) (h : Feas1 d false d1) : Feas d false d1
  | yes (d1 d2 : Dc) (h : Feas1 d true d1) (h2 : Feas2 d1 d2) : Feas d true d2
theorem Dic.below {w w' : World} {fp : Nat → Prop} {q : Nat} {ins outs : List Int} {rows : List (List Rat)} {vI vO vR : Value} {fI fO fR : Nat → Prop} (d : Dic w fp q ins outs rows vI vO vR fI fO fR) (hb : Below w.heap.size w w') : Dic w' fp q ins outs rows vI vO vR fI fO fR := d.chg (M := Non) (Chg.of_below hb) (fun _ _ _ h => h)
theorem feas2_cases {d d' : Dc} (h : Feas2 d d') : (idxP d.ins 0 = -1 ∧ d' = d) ∨ ∃ j : Nat, j < d.ins.length ∧ idxP d.ins 0 = (j : Int) ∧ ∃ k, k ≤ d.outs.length ∧ (∀ t, t < k → (gR (d.rows.getD j []) (t + 1)).num = 0) ∧
    ((k = d.outs.length ∧ d' = d) ∨ (k < d.outs.length ∧ (gR (d.rows.getD j []) (k + 1)).num ≠ 0 ∧ PivFit d.rows j k ∧ d' = pivD d j k)) := by
  cases h with
  | out h => exact .inl ⟨h, rfl⟩
  | non j hj h hz => exact .inr ⟨j, hj, h, d.outs.length, Nat.le_refl _, hz, .inl ⟨rfl, rfl⟩⟩
  | piv j k hj h hk hz hne pf => exact .inr ⟨j, hj, h, k, by omega, hz, .inr ⟨hk, hne, pf, rfl⟩⟩
theorem feas_cases {d d' : Dc} {b : Bool} (h : Feas d b d') :
    (worAt d.rows d.ins.length = -1 ∧ b = true ∧ Feas2 d d') ∨
    ∃ (i n : Nat) (b1 : Bool) (d1 : Dc), worAt d.rows d.ins.length = (i : Int) ∧ i < d.ins.length ∧ PivFit d.rows i 0 ∧ Climb n (pivD d i 0) b1 d1 ∧
      (((gR (lastR d1.rows) 0).num < 0 ∧ b = false ∧ d1 = d') ∨ (¬ (gR (lastR d1.rows) 0).num < 0 ∧ b = true ∧ Feas2 d1 d' ∧ Feas1 d true d1)) := by
  cases h with
  | no _ h => cases h with
    | neg i n b1 _ h hi pf hc hn => exact .inr ⟨i, n, b1, _, h, hi, pf, hc, .inl ⟨hn, rfl, rfl⟩⟩
  | yes d1 _ h h2 => cases h with
    | good h => exact .inl ⟨h, rfl, h2⟩
    | pos i n b1 _ h hi pf hc hn => exact .inr ⟨i, n, b1, _, h, hi, pf, hc, .inr ⟨hn, rfl, h2, .pos i n b1 _ h hi pf hc hn⟩⟩
set_option maxRecDepth 100000 in
set_option maxHeartbeats 16000000 in
theorem feasible_any (w : World) (fp : Nat → Prop) (q : Nat) (d d' : Dc) (b : Bool) (vI vO vR : Value) (fI fO fR : Nat → Prop) (hd : Dic w fp q d.ins d.outs d.rows vI vO vR fI fO fR) (ok : DcOk d) (hft : ∀ r ∈ d.rows, FitL r) (hf : Feas d b d') (hfp : ∀ x, fp x → x < w.heap.size) :
    Calls Try.prog 33 #[.pointer (some ⟨q, 0, none⟩)] w (ClRet w fp q b d' vI vO vR fI fO fR) := by
  obtain ⟨nI, hnI⟩ : ∃ n, n = d.ins.length := ⟨_, rfl⟩
  have hn8 : nI ≤ 8 := by have := ok.i8; omega
  have HNI := Lib.hid hnI; have HD := Lib.hid hd; have OK := Lib.hid ok; have HFT := Lib.hid hft; have HF := Lib.hid hf; have HFP := Lib.hid hfp
  have q0 := hd.has.cell 0 _ rfl
  obtain ⟨aI, cI, hvI, _⟩ := hd.inn
  rw [hvI, ← hnI] at q0
  clear hnI hd ok hft hf hfp hvI
  go_enter Try.func33, Try.ntmps33
  go_wp2
  clear q0
  go_loopw [3, 12] (fun s3 s12 wr => ∃ j : Nat, j ≤ nI ∧ s12 = .int .i64 j ∧ s3 = .int .i64 (worAt d.rows j) ∧ Below w.heap.size w wr) (fun _ s12 _ => nI - (intOf s12).toNat)
  case atStart => exact ⟨0, Nat.zero_le _, rfl, rfl, Below.refl _ _⟩
  case round =>
    obtain ⟨j, hj, rfl, rfl, hB⟩ := hrel
    have BR := Lib.hid hB
    clear hB
    obtain ⟨wo, rfl⟩ : ∃ wo : World, wo = wr := ⟨_, rfl⟩
    have DR := Lib.hid (HD.out.below BR.out)
    have rg := Lib.hid (worAt_range d.rows j)
    by_cases hlt : j < nI
    · obtain ⟨bR, cR, hvR, lbR, _, hrw⟩ := DR.out.row (by intro e; have := OK.out.rows; rw [e] at this; simp at this)
      obtain ⟨row, hrow⟩ : ∃ row, d.rows[j]? = some row := ⟨_, List.getElem?_eq_getElem (by have := OK.out.rows; have := HNI.out; omega)⟩
      have hrl := OK.out.cols row (List.mem_of_getElem? hrow)
      obtain ⟨b1, cap, sp, cr, fb, _⟩ := hrw j row hrow (by intro e; rw [e] at hrl; simp at hrl)
      obtain ⟨nC, hnC⟩ : ∃ n, n = d.outs.length + 1 := ⟨_, rfl⟩
      rw [hrl, ← hnC] at cr
      have hC0 : 0 < nC := by omega
      have q2 := DR.out.has.cell 2 _ rfl
      rw [hvR, OK.out.rows, ← HNI.out] at q2
      obtain ⟨y, hy⟩ : ∃ y, row[0]? = some y := ⟨_, List.getElem?_eq_getElem (by omega)⟩
      obtain ⟨y0, y1⟩ := FBlk.get fb hy
      have hgd : d.rows.getD j [] = row := by rw [List.getD_eq_getElem?_getD, hrow]; rfl
      have hst : worAt d.rows (j + 1) = worStep d.rows (worAt d.rows j) j := rfl
      unfold worStep at hst
      rw [hgd, gR_of hy] at hst
      have fy := Lib.hid (HFT.out row (List.mem_of_getElem? hrow) y (List.mem_of_getElem? hy))
      have hjR : (j : Int) < ((nI + 1 : Nat) : Int) := by omega
      have lq := DR.out.has.lt (by simp)
      have lb1 := fb.lt
      have HST := Lib.hid hst; have HNC := Lib.hid hnC; have HRW := Lib.hid hrw; have HVR := Lib.hid hvR
      clear hrow hrl hvR hrw hy hgd hst fb hnC
      by_cases hp : y.num < 0
      · have hpd : decide (y.num < 0) = true := decide_eq_true hp
        rcases rg.out with hb | ⟨t, ht, hb⟩
        · have HT := Lib.hid (HST.out.trans (if_pos ⟨hp, .inl (by omega)⟩))
          rw [hb]
          clear hb
          go_wp2
          go_quiet (fail)
          go_wp2
          go_roundw
          case rel => exact ⟨j + 1, by omega, by go_num, by rw [HT.out], below_drewN BR.out nq⟩
          case measure => simp [intOf]; omega
        · obtain ⟨row2, hrow2⟩ : ∃ row, d.rows[t]? = some row := ⟨_, List.getElem?_eq_getElem (by have := OK.out.rows; have := HNI.out; omega)⟩
          have hrl := OK.out.cols row2 (List.mem_of_getElem? hrow2)
          obtain ⟨b2, cap2, sp2, cr2, fb2, _⟩ := HRW.out t row2 hrow2 (by intro e; rw [e] at hrl; simp at hrl)
          rw [hrl, ← HNC.out] at cr2
          obtain ⟨z, hz⟩ : ∃ z, row2[0]? = some z := ⟨_, List.getElem?_eq_getElem (by omega)⟩
          obtain ⟨z0, z1⟩ := FBlk.get fb2 hz
          have hgd : d.rows.getD t [] = row2 := by rw [List.getD_eq_getElem?_getD, hrow2]; rfl
          have fz := HFT.out row2 (List.mem_of_getElem? hrow2) z (List.mem_of_getElem? hz)
          have NC := Lib.hid (ncmp y z fy.out fz)
          have HS2 := HST.out
          rw [hb, Int.toNat_natCast, hgd, gR_of hz] at HS2
          obtain ⟨c, hcc⟩ : ∃ c, c = cmpR y z := ⟨_, rfl⟩
          rw [← hcc] at NC HS2
          have HS3 := Lib.hid HS2
          have HB2 := Lib.hid hb
          have lb2 := fb2.lt
          have htR : (t : Int) < ((nI + 1 : Nat) : Int) := by omega
          have ht0 : 0 ≤ (t : Int) := by omega
          have htd : decide ((t : Int) < 0) = false := by simp
          rw [hb]
          clear hb hrow2 hrl fb2 hz hgd fz HS2 hcc
          have i0 := fun s : BelowW wo => (s.ok.cell (p := ⟨q, 2, none⟩) lq).trans q2
          have i1 := fun s : BelowW wo => (s.ok.cell (p := ⟨bR, j, none⟩) lbR).trans cr
          have i2 := fun s : BelowW wo => (s.ok.cell (p := ⟨bR, t, none⟩) lbR).trans cr2
          have i3 := fun s : BelowW wo => (s.ok.cell (p := ⟨b1, 0 * 2, none⟩) lb1).trans y0
          have i4 := fun s : BelowW wo => (s.ok.cell (p := ⟨b1, 0 * 2 + 1, none⟩) lb1).trans y1
          have i5 := fun s : BelowW wo => (s.ok.cell (p := ⟨b2, 0 * 2, none⟩) lb2).trans z0
          have i6 := fun s : BelowW wo => (s.ok.cell (p := ⟨b2, 0 * 2 + 1, none⟩) lb2).trans z1
          simp only [Nat.zero_mul, Nat.zero_add] at i3 i4 i5 i6
          clear y0 y1 z0 z1 q2 cr cr2
          by_cases hc0 : c < 0
          · have HT := Lib.hid (HS3.out.trans (if_pos ⟨hp, .inr hc0⟩))
            have hcd : decide (c < 0) = true := decide_eq_true hc0
            go_wp2
            refine wp_region_below (by kernel_rfl) (by kernel_rfl) ?_
            repeat (go_big_quiet_step ((go_at_call 61; (with_reducible exact calls_below _ (NC.out _)))))
            refine wpQuiet_nil ?_
            rintro w' ⟨s, rfl⟩
            obtain ⟨w7, ok7⟩ := s
            clear i0 i1 i2 i3 i4 i5 i6
            go_wp2
            go_roundw
            case rel => exact ⟨j + 1, by omega, by go_num, by rw [HT.out], BR.out.trans (ok7.mono BR.out.size)⟩
            case measure => simp [intOf]; omega
          · have HT := Lib.hid (HS3.out.trans (if_neg (fun h => h.2.elim (by omega) hc0)))
            have hcd : decide (c < 0) = false := decide_eq_false hc0
            go_wp2
            refine wp_region_below (by kernel_rfl) (by kernel_rfl) ?_
            repeat (go_big_quiet_step ((go_at_call 61; (with_reducible exact calls_below _ (NC.out _)))))
            refine wpQuiet_nil ?_
            rintro w' ⟨s, rfl⟩
            obtain ⟨w7, ok7⟩ := s
            clear i0 i1 i2 i3 i4 i5 i6
            go_wp2
            go_roundw
            case rel => exact ⟨j + 1, by omega, by go_num, by rw [HT.out], BR.out.trans (ok7.mono BR.out.size)⟩
            case measure => simp [intOf]; omega
      · have HT := Lib.hid (HST.out.trans (if_neg (fun h => hp h.1)))
        have hpd : decide (y.num < 0) = false := decide_eq_false hp
        generalize worAt d.rows j = bs at *
        clear rg
        go_wp2
        go_quiet (fail)
        go_wp2
        go_roundw
        case rel => exact ⟨j + 1, by omega, by go_num, by rw [HT.out], below_drewN BR.out nq⟩
        case measure => simp [intOf]; omega
    · have hj2 : j = nI := by omega
      have HW := Lib.hid (show worAt d.rows j = worAt d.rows d.ins.length by rw [hj2, HNI.out])
      clear hj2 hj rg
      go_upto_if 55 with fail
      go_cut [3] (fun _ wx => ∃ d1 : Dc, Feas1 d true d1 ∧ (∃ d2, b = true ∧ d' = d2 ∧ Feas2 d1 d2) ∧ DcOk d1 ∧ Dic wx fp q d1.ins d1.outs d1.rows vI vO vR fI fO fR ∧ Chg fp w wx)
      case first =>
        have hwo : worAt d.rows j = -1 ∨ ∃ i : Nat, worAt d.rows j = (i : Int) := by rcases worAt_range d.rows j with h | ⟨t, _, h⟩; exact .inl h; exact .inr ⟨t, h⟩
        have HWO := Lib.hid hwo
        clear hwo
        have FPO := Lib.hid (show ∀ x, fp x → x < wo.heap.size from fun x hx => Nat.lt_of_lt_of_le (HFP.out x hx) BR.out.size)
        have hneg : ∀ (i n : Nat) (b1 : Bool) (d1 : Dc), worAt d.rows d.ins.length = (i : Int) → i < d.ins.length → PivFit d.rows i 0 → Climb n (pivD d i 0) b1 d1 → DcOk d1 := fun i n b1 d1 _ _ _ hc => hc.ok (pivD_ok OK.out i 0)
        have HNEG := Lib.hid hneg
        clear hneg
        rcases feas_cases HF.out with ⟨hg, hb, h2⟩ | ⟨i, n, b1, d1, hwi, hi, pf, hc, hrest⟩
        · have HG := Lib.hid (HW.out.trans hg)
          have HB := Lib.hid hb; have H2 := Lib.hid h2
          clear hg hb h2
          rw [HG.out]
          go_wp2
          go_meet
          exact ⟨d, .good (HW.out.symm.trans HG.out), ⟨d', HB.out, rfl, H2.out⟩, OK.out, DR.out, Chg.of_below BR.out⟩
        · have HWI := Lib.hid (HW.out.trans hwi)
          have HI := Lib.hid hi; have PF := Lib.hid pf; have HC := Lib.hid hc; have HRS := Lib.hid hrest; have OK1 := Lib.hid (HNEG.out i n b1 d1 hwi hi pf hc)
          clear hwi hi pf hc hrest
          rw [HWI.out]
          have hi0 : 0 ≤ (i : Int) := by omega
          go_wp2_with fail
          refine (pivot_any wo fp q d.ins d.outs d.rows vI vO vR fI fO fR DR.out i 0 HI.out (by have := OK.out.ne; exact List.length_pos_iff.2 this) OK.out.rows OK.out.cols ⟨OK.out.i8, OK.out.o8⟩ PF.out).mono ?_
          rintro e w2 ⟨rfl, hd2, hc2⟩
          have D2 := Lib.hid (show Dic w2 fp q (pivD d i 0).ins (pivD d i 0).outs (pivD d i 0).rows vI vO vR fI fO fR from hd2)
          have C2 := Lib.hid (show Chg fp w w2 from (Chg.of_below BR.out).trans hc2 (fun _ _ h => h))
          have FP2 := Lib.hid (show ∀ x, fp x → x < w2.heap.size from fun x hx => Nat.lt_of_lt_of_le (FPO.out x hx) hc2.size)
          clear hd2 hc2
          go_wp2_with fail
          refine (climb_any w2 fp q (pivD d i 0) d1 n b1 vI vO vR fI fO fR D2.out (pivD_ok OK.out i 0) HC.out FP2.out).mono ?_
          rintro e w3 ⟨rfl, hd3, hc3⟩
          have D3 := Lib.hid hd3
          have C3 := Lib.hid (C2.out.trans hc3 (fun _ _ h => h))
          clear hd3 hc3 hi0
          obtain ⟨m, hm⟩ : ∃ m, m = d1.ins.length := ⟨_, rfl⟩
          obtain ⟨goal, hg⟩ : ∃ g, d1.rows[m]? = some g := ⟨_, List.getElem?_eq_getElem (by have := OK1.out.rows; omega)⟩
          have hgl := OK1.out.cols goal (List.mem_of_getElem? hg)
          obtain ⟨bR, cR, hvR, lbR, _, hrow⟩ := D3.out.row (by intro e; have := OK1.out.rows; rw [e] at this; simp at this)
          obtain ⟨bg, cap, sp, cg, fb, _⟩ := hrow m goal hg (by intro e; rw [e] at hgl; simp at hgl)
          have hLast : lastR d1.rows = goal := by unfold lastR; rw [show d1.rows.length - 1 = m by have := OK1.out.rows; omega, List.getD_eq_getElem?_getD, hg]; rfl
          obtain ⟨y, hy⟩ : ∃ y, goal[0]? = some y := ⟨_, List.getElem?_eq_getElem (by omega)⟩
          have hgy : gR (lastR d1.rows) 0 = y := by rw [hLast]; exact gR_of hy
          obtain ⟨y0, y1⟩ := FBlk.get fb hy
          simp only [Nat.zero_mul] at y0
          obtain ⟨nC, hnC⟩ : ∃ n, n = d1.outs.length + 1 := ⟨_, rfl⟩
          rw [hgl, ← hnC] at cg
          have hC0 : 0 < nC := by omega
          have q2 := D3.out.has.cell 2 _ rfl
          rw [hvR, OK1.out.rows, ← hm] at q2
          have hm8 : m ≤ 8 := by have := OK1.out.i8; omega
          have wm : IntKind.i64.wrap (((m + 1 : Nat) : Int) - 1) = (m : Int) := by rw [Go.IntWalk.i64_in _ ⟨by omega, by omega⟩]; omega
          have hmm : (m : Int) < ((m + 1 : Nat) : Int) := by omega
          have hm0 : 0 ≤ (m : Int) := by omega
          have HRS2 := HRS.out
          rw [hgy] at HRS2
          clear hg hgl hvR hrow fb hLast hy hgy hnC hm y1
          rcases HRS2 with ⟨hn, hb, hdd⟩ | ⟨hn, hb, h2, h1⟩
          · subst hb
            subst hdd
            have hpd : decide (y.num < 0) = true := decide_eq_true hn
            go_wp2
            go_quiet (fail)
            go_wp2
            go_ret
            exact ⟨rfl, D3.out.chg (M := Non) ((Chg.refl w3).drewN nq) (fun _ _ _ h => h), C3.out.drewN nq⟩
          · have HB := Lib.hid hb; have H2 := Lib.hid h2; have H1 := Lib.hid h1
            clear hb h2 h1
            have hpd : decide (y.num < 0) = false := decide_eq_false (by omega)
            go_wp2
            go_quiet (fail)
            go_wp2
            go_meet
            exact ⟨d1, H1.out, ⟨d', HB.out, rfl, H2.out⟩, OK1.out, D3.out.chg (M := Non) ((Chg.refl w3).drewN nq) (fun _ _ _ h => h), C3.out.drewN nq⟩
      case rest =>
        obtain ⟨d1, _, ⟨d2, hb, hdd, h2⟩, ok1, hd1, hc1⟩ := hcut
        subst hb
        subst hdd
        obtain ⟨wd, rfl⟩ : ∃ wd : World, wd = wc := ⟨_, rfl⟩
        have D1 := Lib.hid hd1; have C1 := Lib.hid hc1; have OK1 := Lib.hid ok1
        have q0 := hd1.has.cell 0 _ rfl
        obtain ⟨aJ, cJ, hvJ, _⟩ := hd1.inn
        obtain ⟨nJ, hnJ⟩ : ∃ n, n = d1.ins.length := ⟨_, rfl⟩
        rw [hvJ, ← hnJ] at q0
        have hin := hd1.hin
        rw [hvJ, ← hnJ] at hin
        have IX := Lib.hid (fun wq => sindex_any fI aJ nJ cJ d1.ins 0 wq)
        have IR := Lib.hid (OInts.read (K := fI) (fun _ h => h) hin)
        obtain ⟨bO, cO, hvO, lbO, _⟩ := hd1.out ok1.ne
        have q1 := hd1.has.cell 1 _ rfl
        obtain ⟨nO, hnO⟩ : ∃ n, n = d1.outs.length := ⟨_, rfl⟩
        rw [hvO, ← hnO] at q1
        have q2 := hd1.has.cell 2 _ rfl
        obtain ⟨bR, cR, hvR, lbR, _, hrow⟩ := hd1.row (by intro e; have := ok1.rows; rw [e] at this; simp at this)
        rw [hvR, ok1.rows, ← hnJ] at q2
        have hnO8 : nO ≤ 8 := by have := ok1.o8; omega
        have hnJ8 : nJ ≤ 8 := by have := ok1.i8; omega
        have HROW := Lib.hid hrow
        have HNJ := Lib.hid hnJ; have HNO := Lib.hid hnO; have H2 := Lib.hid h2
        have FPO := Lib.hid (show ∀ x, fp x → x < wd.heap.size from fun x hx => Nat.lt_of_lt_of_le (HFP.out x hx) hc1.size)
        clear hd1 hc1 ok1 hvJ hnJ hin hvO hnO hvR hrow h2
        go_wp2_with fail
        refine (IX.out _ IR.out).mono ?_
        rintro e w' ⟨rfl, hw'⟩
        subst hw'
        have key : ∀ j : Nat, j < d1.ins.length → ∃ row, d1.rows[j]? = some row ∧ d1.rows.getD j [] = row ∧ row.length = d1.outs.length + 1 := fun j hj => by
          obtain ⟨row, hrow⟩ : ∃ row, d1.rows[j]? = some row := ⟨_, List.getElem?_eq_getElem (by have := OK1.out.rows; omega)⟩
          exact ⟨row, hrow, by rw [List.getD_eq_getElem?_getD, hrow]; rfl, OK1.out.cols row (List.mem_of_getElem? hrow)⟩
        have KEY := Lib.hid key
        clear key
        rcases feas2_cases H2.out with ⟨h, hd⟩ | ⟨j, hj, h, kk, hkk, hz, hend⟩
        · rw [h]
          subst hd
          clear h
          go_wp2
          go_ret
          exact ⟨rfl, D1.out, C1.out⟩
        · rw [h]
          obtain ⟨row, hrow, hgd, hrl⟩ := KEY.out j hj
          obtain ⟨b1, cap, sp, cr, fb, _⟩ := HROW.out j row hrow (by intro e; rw [e] at hrl; simp at hrl)
          rw [hrl, ← HNO.out] at cr
          rw [hgd] at hz hend
          have FB := Lib.hid fb; have HZ := Lib.hid hz; have HE := Lib.hid hend; have HRL := Lib.hid hrl; have HJ := Lib.hid hj
          have hkO : kk ≤ nO := by have := HNO.out; omega
          have hj0 : 0 ≤ (j : Int) := by omega
          have hjJ : (j : Int) < ((nJ + 1 : Nat) : Int) := by have := HNJ.out; omega
          clear h hrow hgd hrl fb hz hend hj hkk
          go_wp2
          go_loop [89] (fun s89 => ∃ t : Nat, t ≤ kk ∧ s89 = .int .i64 t) (fun s89 => nO - (intOf s89).toNat)
          case atStart => exact ⟨0, Nat.zero_le _, rfl⟩
          case round =>
            obtain ⟨t, ht, rfl⟩ := hrel
            by_cases hto : t < nO
            · obtain ⟨x, hx⟩ : ∃ x, row[t + 1]? = some x := ⟨_, List.getElem?_eq_getElem (by have := HRL.out; have := HNO.out; omega)⟩
              obtain ⟨x0, x1⟩ := FBlk.get FB.out hx
              have hgx : gR row (t + 1) = x := gR_of hx
              have wt : IntKind.i64.wrap ((t : Int) + 1) = (t : Int) + 1 := Go.IntWalk.i64_in _ ⟨by omega, by omega⟩
              have ht0 : 0 ≤ (t : Int) + 1 := by omega
              have ht1 : (t : Int) + 1 < ((nO + 1 : Nat) : Int) := by omega
              by_cases htk : t < kk
              · have hx0 : x.num = 0 := by have := HZ.out t htk; rw [hgx] at this; exact this
                rw [hx0] at x0
                clear hx hgx hx0 x1
                go_wp2
                go_round
                case rel => exact ⟨t + 1, by omega, by go_num⟩
                case measure => simp [intOf]; omega
              · have hkt : kk = t := by omega
                subst hkt
                obtain ⟨hne, pf, hdd⟩ : x.num ≠ 0 ∧ PivFit d1.rows j kk ∧ d' = pivD d1 j kk := by
                  rcases HE.out with ⟨h1, _⟩ | ⟨_, h2, h3, h4⟩
                  · have := HNO.out; omega
                  · rw [hgx] at h2; exact ⟨h2, h3, h4⟩
                have hxn : (x.num != 0) = true := by simpa using hne
                have PF := Lib.hid pf
                subst hdd
                clear hx hgx x1 hne pf htk
                go_wp2_with fail
                refine (pivot_any wd fp q d1.ins d1.outs d1.rows vI vO vR fI fO fR D1.out j kk HJ.out (by have := HNO.out; omega) OK1.out.rows OK1.out.cols ⟨OK1.out.i8, OK1.out.o8⟩ PF.out).mono ?_
                rintro e w3 ⟨rfl, hd3, hc3⟩
                have R := Lib.hid (show ClRet w fp q true (pivD d1 j kk) vI vO vR fI fO fR (.returned (.bool true)) w3 from ⟨rfl, hd3, C1.out.trans hc3 (fun _ _ h => h)⟩)
                clear hd3 hc3
                go_wp2
                go_ret
                exact R.out
            · have hdd : d' = d1 := by
                rcases HE.out with ⟨_, h2⟩ | ⟨h1, _⟩
                · exact h2
                · have := HNO.out; omega
              subst hdd
              go_wp2
              go_ret
              exact ⟨rfl, D1.out, C1.out⟩
end Go.Proofs.Ytdegpgonphgbcaa
