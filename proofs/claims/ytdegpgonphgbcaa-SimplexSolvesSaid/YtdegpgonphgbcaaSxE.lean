/-
  simplex.
-/
import Derived.Deep.DeepCutAuto
import Derived.Deep.RegionHeld3
import Derived.Test.YtdegpgonphgbcaaSxD
import Derived.Test.YtdegpgonphgbcaaZHeadq
namespace Go.Proofs.Ytdegpgonphgbcaa
open Go.RowKit
def PivRet (w : World) (fp : Nat → Prop) (q : Nat) (ins outs : List Int) (rows : List (List Rat)) (vI vO vR : Value) (fI fO fR : Nat → Prop) (e : Ending) (w' : World) : Prop :=
  e = .returned (.tuple #[]) ∧ Dic w' fp q ins outs rows vI vO vR fI fO fR ∧ Chg fp w w'
theorem piv_fit_row {rows : List (List Rat)} {i k j : Nat} {row : List Rat} {x : Rat} (pf : PivFit rows i k) (hg : rows.getD i [] = row) (hx : row[j]? = some x) (hjk : j ≠ k + 1) : Fit x ∧ Fit (byOf row k) ∧ Fit (x * byOf row k) := by
  have h1 := pf.by_
  have hr := pf.row
  rw [hg] at h1 hr
  have hm : row ∈ rows := by
    rw [List.getD_eq_getElem?_getD] at hg
    cases hq : rows[i]? with
    | none => rw [hq] at hg; simp at hg; subst hg; simp at hx
    | some r => rw [hq] at hg; simp at hg; subst hg; exact List.mem_of_getElem? hq
  refine ⟨pf.all row hm x (List.mem_of_getElem? hx), fit_neg h1, hr.get (j := j) ?_⟩
  unfold pivRow
  rw [List.getElem?_set_ne (by omega), pivA_get hx, if_neg hjk]
theorem piv_fit_other {rows : List (List Rat)} {i k r j : Nat} {row o : List Rat} {x pj : Rat} (pf : PivFit rows i k) (hg : rows.getD i [] = row) (ho : rows[r]? = some o) (hri : r ≠ i) (hx : o[j]? = some x) (hp : (pivRow row k)[j]? = some pj) :
    Fit (gR o (k + 1)) ∧ Fit x ∧ Fit pj ∧ Fit (gR o (k + 1) * pj) ∧ (j ≠ k + 1 → Fit (x + gR o (k + 1) * pj)) := by
  have hm := List.mem_of_getElem? ho
  have h0 : Fit (gR o (k + 1)) := by
    unfold gR
    rw [List.getD_eq_getElem?_getD]
    cases hq : o[k + 1]? with
    | none => exact ⟨by decide, by decide, by decide⟩
    | some y => exact pf.all o hm y (List.mem_of_getElem? hq)
  have h1 := pf.row
  have h2 := pf.mul r o ho hri j (List.getElem?_eq_some_iff.1 hx).1
  have h3 := pf.other r o ho hri
  rw [hg] at h1 h2 h3
  rw [gR_of hp] at h2
  refine ⟨h0, pf.all o hm x (List.mem_of_getElem? hx), h1.get hp, h2, fun hj => ?_⟩
  have := pivOther_get (p := pivRow row k) (k := k) hx
  rw [if_neg hj, gR_of hp] at this
  exact h3.get this
theorem cell_low {w w' : World} {B b o : Nat} {v : Value} (hb : Below B w w') (hl : b < B) (h : w.cell? ⟨b, o, none⟩ = some v) : w'.cell? ⟨b, o, none⟩ = some v := (hb.cell (p := ⟨b, o, none⟩) hl).trans h
set_option maxRecDepth 100000 in
set_option maxHeartbeats 16000000 in
theorem pivot_any (w : World) (fp : Nat → Prop) (q : Nat) (ins outs : List Int) (rows : List (List Rat)) (vI vO vR : Value) (fI fO fR : Nat → Prop) (d : Dic w fp q ins outs rows vI vO vR fI fO fR) (i k : Nat) (hi : i < ins.length) (hk : k < outs.length)
    (hr : rows.length = ins.length + 1) (hc : ∀ r ∈ rows, r.length = outs.length + 1) (hl : ins.length ≤ 8 ∧ outs.length ≤ 8) (pf : PivFit rows i k) :
    Calls Try.prog 64 #[.pointer (some ⟨q, 0, none⟩), .int .i64 i, .int .i64 k] w (PivRet w fp q (ins.set i (outs.getD k 0)) (outs.set k (ins.getD i 0)) (pivRows rows i k) vI vO vR fI fO fR) := by
  obtain ⟨row, hrow⟩ : ∃ row, rows[i]? = some row := ⟨_, List.getElem?_eq_getElem (by omega)⟩
  have hrl : row.length = outs.length + 1 := hc row (List.mem_of_getElem? hrow)
  have hgd : rows.getD i [] = row := by rw [List.getD_eq_getElem?_getD, hrow]; rfl
  rcases d.hrows with ⟨_, h0⟩ | ⟨bR, cR, vs, spR, fps, hvR, rR⟩
  · rw [h0] at hrow; simp at hrow
  obtain ⟨u, hu, hof⟩ := rR.row i row hrow
  rcases hof with ⟨_, h0⟩ | ⟨b, cap, sp, hub, fa⟩
  · rw [h0] at hrl; simp at hrl
  subst hub
  have x2 := d.has.cell 2 _ rfl
  rw [hvR] at x2
  have cu := rR.blk.cell (i := i) (v := .slice (some ⟨b, 0, none⟩) row.length cap) (by rw [List.getElem?_append_left (List.getElem?_eq_some_iff.1 hu).1]; exact hu)
  obtain ⟨p, hp⟩ : ∃ p, row[k + 1]? = some p := ⟨_, List.getElem?_eq_getElem (by omega)⟩
  have hpg : gR row (k + 1) = p := gR_of hp
  have hp0 : p ≠ 0 := by have := pf.ne; rw [hgd, hpg] at this; exact this
  have hb1 : Fit (1 / p) := by have := pf.by_; rw [hgd, hpg] at this; exact this
  obtain ⟨cp0, cp1⟩ := FBlk.get fa.blk hp
  have hbby : byOf row k = -(1 / p) := by unfold byOf; rw [hpg]
  obtain ⟨nR, hnR⟩ : ∃ n, n = rows.length := ⟨_, rfl⟩
  obtain ⟨nC, hnC⟩ : ∃ n, n = row.length := ⟨_, rfl⟩
  rw [← hnR] at x2
  rw [← hnC] at cu
  have hiR : (i : Int) < (nR : Int) := by omega
  have hkC : (k : Int) + 1 < (nC : Int) := by omega
  have hk0 : 0 ≤ (k : Int) + 1 := by omega
  have hk8 : k ≤ 8 := by have := hl.2; omega
  have hi8 : i ≤ 8 := by have := hl.1; omega
  have hnC9 : nC ≤ 9 := by have := hl.2; omega
  have hnR9 : nR ≤ 9 := by have := hl.1; omega
  have wk : IntKind.i64.wrap ((k : Int) + 1) = (k : Int) + 1 := Go.IntWalk.i64_in _ ⟨by omega, by omega⟩
  have lb := fa.blk.lt
  have S1 := Lib.hid (sdiv 1 p hp0 (by exact ⟨by decide, by decide, by decide⟩) (pf.all row (List.mem_of_getElem? hrow) p (List.mem_of_getElem? hp)) hb1)
  have S2 := Lib.hid (sopp (1 / p) hb1)
  have HD := Lib.hid d; have HRL := Lib.hid hrl; have HGD := Lib.hid hgd; have HC := Lib.hid hc; have PF := Lib.hid pf; have HR := Lib.hid hr; have HV := Lib.hid hvR; have RR := Lib.hid rR; have FA := Lib.hid fa; have HU := Lib.hid hu; have HROW := Lib.hid hrow; have HP := Lib.hid hp; have HBY := Lib.hid hbby; have HNR := Lib.hid hnR; have HNC := Lib.hid hnC; have HL := Lib.hid hl
  clear d hrl hgd hc pf hr hvR rR fa hu hrow hp hbby hnR hnC hpg hp0 hb1 hl
  go_enter Try.func64, Try.ntmps64
  go_upto_region 1 with fail
  go_cut [7] (fun s wx => ∃ B7 : Nat, s = .pointer (some ⟨B7, 0, none⟩) ∧ w.heap.size ≤ B7 ∧ Blk wx B7 31 (FrC (-(1 / p))) ∧ Below w.heap.size w wx)
  case first =>
    as_aux_lemma =>
      refine hd_start 9 (fun w' => w'.cell? ⟨b, (k + 1) * 2, none⟩ = some (.int .i64 p.num) ∧ w'.cell? ⟨b, (k + 1) * 2 + 1, none⟩ = some (.int .i64 (p.den : Int))) (by kernel_rfl) ⟨by kernel_rfl, by kernel_rfl, by kernel_rfl, by decide⟩ (by refine ⟨cp0, cp1⟩) (fun ok => ?_)
      refine hd_t 1 ok rfl ?_
      go_frame
      refine hd_t 2 ok rfl ?_
      go_frame
      refine hd_t 3 ok rfl ?_
      go_frame
      refine hd_t 4 ok rfl ?_
      go_frame
      refine hd_t 5 ok rfl ?_
      go_frame
      refine hd_inv_p [(20, 0), (26, 6), (27, 7), (7, 8)] (fun _ => undef) (fun b v w' => Below w.heap.size w w' ∧ (b 0 = true → v 0 = FrV 1) ∧ (b 6 = true → v 6 = FrV (1 / p)) ∧ (b 7 = true → v 7 = FrV (-(1 / p))) ∧ ∃ q7, b 8 = true → v 8 = .pointer (some ⟨q7, 0, none⟩) ∧ Blk w' q7 31 [.int .i64 0, .int .i64 0] ∧ w.heap.size ≤ q7) (.inl ok) ⟨by decide, by decide, by kernel_rfl, rfl⟩ (by kernel_rfl) (by kernel_rfl) (by decide) ⟨(Below.refl _ _).drew, (fun h => by cases h), (fun h => by cases h), (fun h => by cases h), 0, (fun h => by cases h)⟩ ?_ ?_
      · intro j oj hj ho bb v a w' hJ hv hr hb hdep hS K hK
        obtain ⟨hB, j0, j6, j7, q7, j8⟩ := hJ
        have hBs := hB.size
        have hj4 : j = 0 ∨ j = 6 ∨ j = 7 ∨ j = 8 := by simpa using hj
        try dsimp only at hS
        obtain ⟨s0, s1⟩ := hS
        rcases hj4 with rfl | rfl | rfl | rfl
        · obtain rfl := Option.some.inj ho
          go_simp
          go_at_call 58
          refine (whole_any 1 _).mono ?_
          rintro e u ⟨rfl, hu⟩
          exact hK _ _ ⟨cell_later hu s0, cell_later hu s1⟩ ⟨hB.trans (hu.mono hBs), fun _ => rfl, j6, j7, q7, fun h => ⟨(j8 h).1, (j8 h).2.1.below hu (j8 h).2.1.lt, (j8 h).2.2⟩⟩
        · obtain rfl := Option.some.inj ho
          have d0 := hdep 0 (by kernel_rfl)
          have e20 : a.tmps[20]?.getD undef = FrV 1 := (get_eval a 20).trans ((hv 20 0 (by decide) d0).trans (j0 d0))
          have e25 : a.tmps[25]?.getD undef = FrV p := (get_eval a 25).trans (hr 25 (by decide))
          go_simp
          go_at_call 85
          refine (S1.out _).mono ?_
          rintro e u ⟨rfl, hu⟩
          exact hK _ _ ⟨cell_later hu s0, cell_later hu s1⟩ ⟨hB.trans (hu.mono hBs), j0, fun _ => rfl, j7, q7, fun h => ⟨(j8 h).1, (j8 h).2.1.below hu (j8 h).2.1.lt, (j8 h).2.2⟩⟩
        · obtain rfl := Option.some.inj ho
          have d0 := hdep 6 (by kernel_rfl)
          have e26 : a.tmps[26]?.getD undef = FrV (1 / p) := (get_eval a 26).trans ((hv 26 6 (by decide) d0).trans (j6 d0))
          go_simp
          go_at_call 37
          refine (S2.out _).mono ?_
          rintro e u ⟨rfl, hu⟩
          exact hK _ _ ⟨cell_later hu s0, cell_later hu s1⟩ ⟨hB.trans (hu.mono hBs), j0, j6, fun _ => rfl, q7, fun h => ⟨(j8 h).1, (j8 h).2.1.below hu (j8 h).2.1.lt, (j8 h).2.2⟩⟩
        · obtain rfl := Option.some.inj ho
          go_simp
          have hu : Below w'.heap.size w' (w'.alloc (.cells #[.int .i64 0, .int .i64 0] 31)) := (Below.refl _ _).alloc (Nat.le_refl _) _
          exact hK _ _ ⟨cell_later hu s0, cell_later hu s1⟩ ⟨hB.trans (hu.mono hBs), j0, j6, j7, w'.heap.size, fun _ => ⟨rfl, Blk.new w' [.int .i64 0, .int .i64 0] 31, hBs⟩⟩
      · intro bb v w' hall hJ hS
        obtain ⟨hB, j0, j6, j7, q7, j8⟩ := hJ
        have v0 := j0 (hall 0 (by decide))
        have v6 := j6 (hall 6 (by decide))
        have v7 := j7 (hall 7 (by decide))
        obtain ⟨v8, b8, l8⟩ := j8 (hall 8 (by decide))
        have LA := laid_setRow (vs := FrC (-(1 / p))) b8
        have R := Lib.hid (show ∃ B7 : Nat, Value.pointer (some ⟨q7, 0, none⟩) = .pointer (some ⟨B7, 0, none⟩) ∧ w.heap.size ≤ B7 ∧ Blk (w'.setRow q7 (FrC (-(1 / p))).toArray) B7 31 (FrC (-(1 / p))) ∧ Below w.heap.size w (w'.setRow q7 (FrC (-(1 / p))).toArray) from ⟨q7, rfl, l8, LA.blk, hB.trans (LA.chg.below (fun j hj e => by omega) hB.size)⟩)
        have BB := Lib.hid b8
        simp only [putP, v0, v6, v7, v8]
        clear hB j0 j6 j7 j8 v0 v6 v7 v8 b8 l8 LA hS hall ok
        go_frame
        refine hd_done (by kernel_rfl) ?_
        simp only [List.drop_succ_cons, List.drop_zero]
        refine wpList_store_row rfl 31 _ _ rfl q7 (FrC (-(1 / p))).toArray rfl rfl 31 #[.int .i64 0, .int .i64 0] BB.out.heap (by kernel_rfl) (by simp) (by simp [Value.oneCell']) ?_
        go_wp2_with fail
        go_meet
        exact R.out
  case rest =>
    obtain ⟨B7, rfl, lB7, b7, hB⟩ := hcut
    obtain ⟨w1, hw1⟩ : ∃ w1 : World, w1 = wc := ⟨_, rfl⟩
    rw [← hw1] at b7 hB ⊢
    clear hw1
    have HB := Lib.hid hB
    have FB1 := Lib.hid (FA.out.blk.below hB lb)
    have BY1 := Lib.hid (show Blk w1 B7 31 (FrC (byOf row k)) by rw [HBY.out]; exact b7)
    have LB := Lib.hid (show b ≠ B7 ∧ B7 < w1.heap.size ∧ b < w.heap.size from ⟨by omega, b7.lt, lb⟩)
    have X2 := Lib.hid x2
    have hbne : b ≠ B7 := LB.out.1
    clear x2 cu cp0 cp1 b7 hB S1 S2 wk
    go_wp2
    go_loopw [30] (fun i wr => ∃ j : Nat, j ≤ nC ∧ i = .int .i64 j ∧ FBlk wr b (part (pivA row k) row j) sp ∧ Chg (fun x => x = b) w1 wr) (fun i _ => nC - (intOf i).toNat)
    case atStart => exact ⟨0, Nat.zero_le _, rfl, by rw [part_zero]; exact FB1.out, Chg.refl _⟩
    case round =>
      obtain ⟨j, hj, rfl, hfb, hch⟩ := hrel
      have FBR := Lib.hid hfb; have CHR := Lib.hid hch
      clear hfb hch
      have BYR := Lib.hid (BY1.out.chg CHR.out (fun e => hbne e.symm))
      have wk : IntKind.i64.wrap ((k : Int) + 1) = (k : Int) + 1 := Go.IntWalk.i64_in _ ⟨by omega, by omega⟩
      by_cases hlt : j < nC
      · obtain ⟨x, hx⟩ : ∃ x, row[j]? = some x := ⟨_, List.getElem?_eq_getElem (by have := HNC.out; omega)⟩
        have HX := Lib.hid hx
        clear hx
        by_cases hjk : j = k + 1
        · have ej : ((j : Int) != (k : Int) + 1) = false := by subst hjk; simp
          have PS := Lib.hid (show FBlk wr b (part (pivA row k) row (j + 1)) sp by
            have h2 := pivA_get (k := k) HX.out
            rw [if_pos hjk] at h2
            rw [← part_same (pivA_length row k) h2 HX.out]
            exact FBR.out)
          clear hjk
          go_wp2
          go_roundw
          case rel => exact ⟨j + 1, by omega, by go_num, PS.out, CHR.out⟩
          case measure => simp [intOf]; omega
        · have ej : ((j : Int) != (k : Int) + 1) = true := by simp; omega
          obtain ⟨c0, c1⟩ := FBlk.get FBR.out (show (part (pivA row k) row j)[j]? = some x by rw [part_get (pivA_length row k) (by have := HNC.out; omega)]; exact HX.out)
          have c2 := BYR.out.cell (i := 0) rfl; have c3 := BYR.out.cell (i := 1) rfl
          have FT := Lib.hid (piv_fit_row PF.out HGD.out HX.out hjk)
          have SM := Lib.hid (smul x (byOf row k) FT.out.1 FT.out.2.1 FT.out.2.2)
          have hjC : (j : Int) < (nC : Int) := by omega
          have hj0 : 0 ≤ (j : Int) := by omega
          have hne := hjk
          clear hjk
          go_wp2
          refine hr_start 9 (fun w' => w'.cell? ⟨b, j * 2, none⟩ = some (.int .i64 x.num) ∧ w'.cell? ⟨b, j * 2 + 1, none⟩ = some (.int .i64 (x.den : Int)) ∧ w'.cell? ⟨B7, 0, none⟩ = some (.int .i64 (byOf row k).num) ∧ w'.cell? ⟨B7, 1, none⟩ = some (.int .i64 ((byOf row k).den : Int))) (by kernel_rfl) (by kernel_rfl) (by refine ⟨c0, c1, c2, c3⟩) (fun ok => ?_)
          refine hr_t 0 ok rfl ?_
          go_frame
          refine hr_t 1 ok rfl ?_
          go_frame
          refine hr_t 2 ok rfl ?_
          go_frame
          refine hr_t 3 ok rfl ?_
          go_frame
          refine hr_t 4 ok rfl ?_
          go_frame
          refine hr_t 5 ok rfl ?_
          go_frame
          refine hr_t 6 ok rfl ?_
          go_frame
          refine hr_only (c := 7) rfl (by kernel_rfl) (fun K hK => ?_)
          go_simp
          refine (SM.out _).mono ?_
          rintro e w' ⟨rfl, hb⟩
          have FB' := Lib.hid (FBR.out.drew.below hb FBR.out.lt)
          have CH' := Lib.hid (CHR.out.drew.tr hb)
          (try simp only [])
          refine hK _ _ (fun _ => by refine ⟨?_, ?_, ?_, ?_⟩ <;> (first | exact cell_later hb c0 | exact cell_later hb c1 | exact cell_later hb c2 | exact cell_later hb c3)) ?_
          clear hK K
          (try go_frame)
          refine hr_t 8 ok rfl ?_
          go_frame
          clear c0 c1 c2 c3 hb
          obtain ⟨c0, c1⟩ := FBlk.get FB'.out (show (part (pivA row k) row j)[j]? = some x by rw [part_get (pivA_length row k) (by have := HNC.out; omega)]; exact HX.out)
          have cf := FB'.out.free
          refine hr_only (c := 9) rfl (by kernel_rfl) (fun K hK => ?_)
          go_simp
          (try simp only [])
          refine hK _ _ (pend_no (by kernel_rfl)) ?_
          clear hK K
          (try go_frame)
          refine hr_end (by kernel_rfl) ?_
          have PS := Lib.hid (show FBlk ((w'.setCell ⟨b, j * 2, none⟩ (.int .i64 (x * byOf row k).num)).setCell ⟨b, j * 2 + 1, none⟩ (.int .i64 ((x * byOf row k).den : Int))) b (part (pivA row k) row (j + 1)) sp by
            have h2 := pivA_get (k := k) HX.out
            rw [if_neg hne] at h2
            rw [← part_succ (pivA_length row k) h2]
            exact FBlk.put FB'.out (by rw [part_length (pivA_length row k) (by have := HNC.out; omega)]; have := HNC.out; omega) _)
          have PC := Lib.hid (chg_put (b := b) CH'.out (fun _ => rfl) j (.int .i64 (x * byOf row k).num) (.int .i64 ((x * byOf row k).den : Int)))
          clear c0 c1 cf FB' CH' FBR CHR BYR
          go_wp2
          go_roundw
          case rel => exact ⟨j + 1, by omega, by go_num, PS.out, PC.out⟩
          case measure => simp [intOf]; omega
      · have hj2 : nC = j := by omega
        subst hj2
        have FB2 := Lib.hid (show FBlk wr b (pivA row k) sp by have h := FBR.out; rw [HNC.out, part_all (pivA_length row k)] at h; exact h)
        have c2 := BYR.out.cell (i := 0) rfl; have c3 := BYR.out.cell (i := 1) rfl
        clear FBR hj hlt
        have FBY := Lib.hid (show Fit (byOf row k) by rw [HBY.out]; have := PF.out.by_; rw [HGD.out, gR_of HP.out] at this; exact fit_neg this)
        have fb0 := FB2.out.free
        obtain ⟨nb, hnb⟩ : ∃ z, z = -(byOf row k) := ⟨_, rfl⟩
        have SO := Lib.hid (show ∀ wq : World, Calls Try.prog 37 #[FrV (byOf row k)] wq (FrRet nb wq) from fun wq => by rw [hnb]; exact sopp (byOf row k) FBY.out wq)
        have HNB := Lib.hid (show pivRow row k = (pivA row k).set (k + 1) nb by rw [hnb]; rfl)
        clear hnb
        go_wp2_with fail
        refine (SO.out _).mono ?_
        rintro e w2 ⟨rfl, hb⟩
        have FB2' := Lib.hid (FB2.out.below hb FB2.out.lt)
        have CH2 := Lib.hid (((Chg.of_below (M := fun x => x = b) HB.out).trans CHR.out (fun _ _ h => h)).tr hb)
        obtain ⟨a0, a1⟩ := FBlk.get FB2'.out (show (pivA row k)[k + 1]? = some p by rw [pivA_get HP.out, if_pos rfl])
        have af := FB2'.out.free
        clear hb c2 c3 fb0 FB2 BYR CHR
        go_upto_region 9 with fail
        obtain ⟨w3, hw3⟩ : ∃ w3, w3 = (w2.setCell ⟨b, (k + 1) * 2, none⟩ (.int .i64 nb.num)).setCell ⟨b, (k + 1) * 2 + 1, none⟩ (.int .i64 (nb.den : Int)) := ⟨_, rfl⟩
        rw [← hw3]
        have FB3 := Lib.hid (show FBlk w3 b (pivRow row k) sp by rw [hw3, HNB.out]; exact FBlk.put FB2'.out (by rw [pivA_length]; have := HNC.out; omega) _)
        have CH3 := Lib.hid (show Chg (fun x => x = b) w w3 by rw [hw3]; exact chg_put CH2.out (fun _ => rfl) _ _ _)
        clear hw3 a0 a1 af FB2' CH2 wk
        have RR3 := Lib.hid (RR.out.inner OFr.loc (by have := HNR.out; have := HR.out; omega) HU.out (CH3.out.mono (fun y _ e => e ▸ FA.out.own)) (show OFr w3 (fps i) (.slice (some ⟨b, 0, none⟩) row.length cap) (pivRow row k) from .inr ⟨b, cap, sp, by rw [pivRow_length], FB3.out, by rw [pivRow_length]; exact FA.out.hcap, FA.out.hsz, FA.out.own⟩))
        have QB := Lib.hid (show q ≠ b from fun e => HD.out.qr (e ▸ (RR.out.sub i b (by have := HNR.out; have := HR.out; omega) FA.out.own).1))
        have H3 := Lib.hid (CH3.out.has HD.out.has (HD.out.has.lt (by simp)) QB.out)
        have x2 := H3.out.cell 2 _ rfl
        rw [HV.out, ← HNR.out] at x2
        obtain ⟨Rold, hRold⟩ : ∃ R, R = rows.set i (pivRow row k) := ⟨_, rfl⟩
        have HO := Lib.hid hRold
        have RL := Lib.hid (show (pivRows rows i k).length = Rold.length by rw [pivRows_length, hRold, List.length_set])
        have RO := Lib.hid (show Rold.length = nR by rw [hRold, List.length_set, HNR.out])
        rw [← hRold] at RR3
        clear hRold
        go_wp2
        clear x2
        go_loopw [58] (fun s_ wr => ∃ r : Nat, r ≤ nR ∧ s_ = .int .i64 r ∧ OwnAt OFr 32 wr fR bR cR vs spR fps (part (pivRows rows i k) Rold r) ∧ FBlk wr b (pivRow row k) sp ∧ Chg fR w3 wr) (fun s_ _ => nR - (intOf s_).toNat)
        case atStart => exact ⟨0, Nat.zero_le _, rfl, by rw [part_zero]; exact RR3.out, FB3.out, Chg.refl _⟩
        case round =>
          obtain ⟨r, hr, rfl, hown, hfb, hch⟩ := hrel
          have OWR := Lib.hid hown; have FBR := Lib.hid hfb; have CHR := Lib.hid hch
          clear hown hfb hch
          obtain ⟨wo, rfl⟩ : ∃ wo : World, wo = wr := ⟨_, rfl⟩
          by_cases hlt : r < nR
          · obtain ⟨o, ho⟩ : ∃ o, rows[r]? = some o := ⟨_, List.getElem?_eq_getElem (by have := HNR.out; omega)⟩
            have hRm := pivRows_get (k := k) HGD.out ho
            by_cases hri : r = i
            · subst hri
              rw [if_pos rfl] at hRm
              have hRo : Rold[r]? = some (pivRow row k) := by rw [HO.out, List.getElem?_set_self (by have := HNR.out; omega)]
              have PS := Lib.hid (show OwnAt OFr 32 wo fR bR cR vs spR fps (part (pivRows rows r k) Rold (r + 1)) by rw [← part_same RL.out hRm hRo]; exact OWR.out)
              obtain ⟨ur, hur⟩ : ∃ ur, vs[r]? = some ur := ⟨_, HU.out⟩
              have cr := OWR.out.blk.cell (i := r) (v := ur) (by rw [List.getElem?_append_left (List.getElem?_eq_some_iff.1 hur).1]; exact hur)
              rw [HU.out] at hur
              cases hur
              clear ho hRm hRo
              go_wp2
              go_roundw
              case rel => exact ⟨r + 1, by omega, by go_num, PS.out, FBR.out, CHR.out⟩
              case measure => simp [intOf]; omega
            · rw [if_neg hri] at hRm
              have hRo : Rold[r]? = some o := by rw [HO.out, List.getElem?_set_ne (fun e => hri e.symm)]; exact ho
              have hpr : (part (pivRows rows i k) Rold r)[r]? = some o := by rw [part_get RL.out (by have := RO.out; omega)]; exact hRo
              have hol : o.length = nC := by have h1 := HC.out o (List.mem_of_getElem? ho); have h2 := HNC.out; have h3 := HRL.out; omega
              obtain ⟨ur, hur, hofr⟩ := OWR.out.row r o hpr
              rcases hofr with ⟨_, h0⟩ | ⟨b', cap', sp', hub, fa⟩
              · rw [h0] at hol; simp at hol; omega
              subst hub
              have cr := OWR.out.blk.cell (i := r) (v := .slice (some ⟨b', 0, none⟩) o.length cap') (by rw [List.getElem?_append_left (List.getElem?_eq_some_iff.1 hur).1]; exact hur)
              rw [hol] at cr
              have hbb : b' ≠ b := fun e => hri (OWR.out.apart r i b (by have := (List.getElem?_eq_some_iff.1 hpr).1; exact this) (by rw [part_length RL.out (by have := RO.out; omega)]; have := RO.out; have := HNR.out; have := HR.out; omega) (e ▸ fa.own) FA.out.own)
              have hbb2 : b ≠ b' := fun e => hbb e.symm
              obtain ⟨c, hcc⟩ : ∃ c, o[k + 1]? = some c := ⟨_, List.getElem?_eq_getElem (by omega)⟩
              obtain ⟨c0, c1⟩ := FBlk.get fa.blk hcc
              have eri : ((r : Int) == (i : Int)) = false := by simp; omega
              have hrR : (r : Int) < (nR : Int) := by omega
              have wk : IntKind.i64.wrap ((k : Int) + 1) = (k : Int) + 1 := Go.IntWalk.i64_in _ ⟨by omega, by omega⟩
              have FA' := Lib.hid fa; have HO' := Lib.hid ho; have HCC := Lib.hid hcc; have HUR := Lib.hid hur; have HPR := Lib.hid hpr; have HOL := Lib.hid hol; have HRM := Lib.hid hRm
              have HCG := Lib.hid (show gR o (k + 1) = c from gR_of hcc)
              have hne := hri
              clear fa ho hcc hur hpr hol hRm hRo hri
              go_upto_region 14 with fail
              obtain ⟨w5, hw5⟩ : ∃ w5, w5 = wo.alloc (.cells #[.int .i64 c.num, .int .i64 (c.den : Int)] 31) := ⟨_, rfl⟩
              rw [← hw5]
              have CH5 := Lib.hid (show Chg Non wo w5 by rw [hw5]; exact (Chg.refl wo).alloc _)
              have C5 := Lib.hid (show Blk w5 wo.heap.size 31 (FrC c) by rw [hw5]; exact Blk.new wo (FrC c) 31)
              have FB5 := Lib.hid (FBR.out.chg CH5.out (fun h => h))
              have FA5 := Lib.hid (FA'.out.blk.chg CH5.out (fun h => h))
              have LL := Lib.hid (show b' < wo.heap.size ∧ b < wo.heap.size from ⟨FA'.out.blk.lt, FBR.out.lt⟩)
              have hB11 : b' ≠ wo.heap.size ∧ b ≠ wo.heap.size := by have := LL.out; omega
              clear hw5 c0 c1 cr
              generalize wo.heap.size = B11 at C5 hB11 ⊢
              obtain ⟨h11, h11b⟩ := hB11
              have h11' : B11 ≠ b' := fun e => h11 e.symm
              go_wp2
              go_loopw [73] (fun s_ wz => ∃ j : Nat, j ≤ nC ∧ s_ = .int .i64 j ∧ FBlk wz b' (part (pivOther (pivRow row k) o k) o j) sp' ∧ Chg (fun x => x = b') w5 wz) (fun s_ _ => nC - (intOf s_).toNat)
              case atStart => exact ⟨0, Nat.zero_le _, rfl, by rw [part_zero]; exact FA5.out, Chg.refl _⟩
              case round =>
                obtain ⟨j, hj, rfl, hfb, hch⟩ := hrel
                have FZ := Lib.hid hfb; have CZ := Lib.hid hch
                clear hfb hch
                have BC := Lib.hid (C5.out.chg CZ.out h11')
                have FBZ := Lib.hid (FB5.out.chg CZ.out hbb2)
                by_cases hlt2 : j < nC
                · obtain ⟨x, hx⟩ : ∃ x, o[j]? = some x := ⟨_, List.getElem?_eq_getElem (by have := HOL.out; omega)⟩
                  obtain ⟨pj, hpj⟩ : ∃ pj, (pivRow row k)[j]? = some pj := ⟨_, List.getElem?_eq_getElem (by rw [pivRow_length]; have := HNC.out; omega)⟩
                  have FT := Lib.hid (piv_fit_other PF.out HGD.out HO'.out hne hx hpj)
                  have HNW := Lib.hid (pivOther_get (p := pivRow row k) (k := k) hx)
                  obtain ⟨c0, c1⟩ := FBlk.get FZ.out (show (part (pivOther (pivRow row k) o k) o j)[j]? = some x by rw [part_get (pivOther_length _ _ _) (by have := HOL.out; omega)]; exact hx)
                  obtain ⟨d0, d1⟩ := FBlk.get FBZ.out hpj
                  have e0 := BC.out.cell (i := 0) rfl
                  have e1 := BC.out.cell (i := 1) rfl
                  have HPJ := Lib.hid (gR_of hpj)
                  have hjC : (j : Int) < (nC : Int) := by omega
                  have HXO := Lib.hid hx
                  clear hx hpj
                  by_cases hjk : j = k + 1
                  · have ej : ((j : Int) == (k : Int) + 1) = true := by subst hjk; simp
                    have SM := Lib.hid (smul c pj (by have := FT.out.1; rw [HCG.out] at this; exact this) FT.out.2.2.1 (by have := FT.out.2.2.2.1; rw [HCG.out] at this; exact this))
                    have HN2 := Lib.hid (show (pivOther (pivRow row k) o k)[j]? = some (c * pj) by have := HNW.out; rw [if_pos hjk, HCG.out, HPJ.out] at this; exact this)
                    clear hjk
                    go_wp2
                    refine hr_start 9 (fun w' => w'.cell? ⟨B11, 0, none⟩ = some (.int .i64 c.num) ∧ w'.cell? ⟨B11, 1, none⟩ = some (.int .i64 (c.den : Int)) ∧ w'.cell? ⟨b, j * 2, none⟩ = some (.int .i64 pj.num) ∧ w'.cell? ⟨b, j * 2 + 1, none⟩ = some (.int .i64 (pj.den : Int))) (by kernel_rfl) (by kernel_rfl) (by refine ⟨e0, e1, d0, d1⟩) (fun ok => ?_)
                    refine hr_t 0 ok rfl ?_
                    go_frame
                    refine hr_t 1 ok rfl ?_
                    go_frame
                    refine hr_t 2 ok rfl ?_
                    go_frame
                    refine hr_t 3 ok rfl ?_
                    go_frame
                    refine hr_t 4 ok rfl ?_
                    go_frame
                    refine hr_t 5 ok rfl ?_
                    go_frame
                    refine hr_t 6 ok rfl ?_
                    go_frame
                    refine hr_only (c := 7) rfl (by kernel_rfl) (fun K hK => ?_)
                    go_simp
                    refine (SM.out _).mono ?_
                    rintro e w' ⟨rfl, hb⟩
                    have FB' := Lib.hid (FZ.out.drew.below hb FZ.out.lt)
                    have CH' := Lib.hid (CZ.out.drew.tr hb)
                    (try simp only [])
                    refine hK _ _ (fun _ => by refine ⟨?_, ?_, ?_, ?_⟩ <;> (first | exact cell_later hb e0 | exact cell_later hb e1 | exact cell_later hb d0 | exact cell_later hb d1)) ?_
                    clear hK K
                    (try go_frame)
                    refine hr_t 8 ok rfl ?_
                    go_frame
                    clear c0 c1 d0 d1 e0 e1 hb
                    obtain ⟨c0, c1⟩ := FBlk.get FB'.out (show (part (pivOther (pivRow row k) o k) o j)[j]? = some x by rw [part_get (pivOther_length _ _ _) (by have := HOL.out; omega)]; exact HXO.out)
                    have cf := FB'.out.free
                    refine hr_only (c := 9) rfl (by kernel_rfl) (fun K hK => ?_)
                    go_simp
                    (try simp only [])
                    refine hK _ _ (pend_no (by kernel_rfl)) ?_
                    clear hK K
                    (try go_frame)
                    refine hr_end (by kernel_rfl) ?_
                    have PS := Lib.hid (show FBlk ((w'.setCell ⟨b', j * 2, none⟩ (.int .i64 (c * pj).num)).setCell ⟨b', j * 2 + 1, none⟩ (.int .i64 ((c * pj).den : Int))) b' (part (pivOther (pivRow row k) o k) o (j + 1)) sp' by
                      rw [← part_succ (pivOther_length _ _ _) HN2.out]
                      exact FBlk.put FB'.out (by rw [part_length (pivOther_length _ _ _) (by have := HOL.out; omega)]; have := HOL.out; omega) _)
                    have PC := Lib.hid (chg_put (b := b') CH'.out (fun _ => rfl) j (.int .i64 (c * pj).num) (.int .i64 ((c * pj).den : Int)))
                    clear c0 c1 cf FB' CH' FZ CZ BC FBZ
                    go_wp2
                    go_roundw
                    case rel => exact ⟨j + 1, by omega, by go_num, PS.out, PC.out⟩
                    case measure => simp [intOf]; omega
                  · have ej : ((j : Int) == (k : Int) + 1) = false := by simp; omega
                    have SM := Lib.hid (smul c pj (by have := FT.out.1; rw [HCG.out] at this; exact this) FT.out.2.2.1 (by have := FT.out.2.2.2.1; rw [HCG.out] at this; exact this))
                    have SA := Lib.hid (sadd x (c * pj) FT.out.2.1 (by have := FT.out.2.2.2.1; rw [HCG.out] at this; exact this) (by have := FT.out.2.2.2.2 hjk; rw [HCG.out] at this; exact this))
                    have HN2 := Lib.hid (show (pivOther (pivRow row k) o k)[j]? = some (x + c * pj) by have := HNW.out; rw [if_neg hjk, HCG.out, HPJ.out] at this; exact this)
                    obtain ⟨s, hs⟩ : ∃ s, s = x + c * pj := ⟨_, rfl⟩
                    rw [← hs] at SA HN2
                    obtain ⟨m, hm⟩ : ∃ m, m = c * pj := ⟨_, rfl⟩
                    rw [← hm] at SM SA
                    clear hs hm hjk
                    go_wp2
                    refine hr_start 14 (fun w' => w'.cell? ⟨b', j * 2, none⟩ = some (.int .i64 x.num) ∧ w'.cell? ⟨b', j * 2 + 1, none⟩ = some (.int .i64 (x.den : Int)) ∧ w'.cell? ⟨B11, 0, none⟩ = some (.int .i64 c.num) ∧ w'.cell? ⟨B11, 1, none⟩ = some (.int .i64 (c.den : Int)) ∧ w'.cell? ⟨b, j * 2, none⟩ = some (.int .i64 pj.num) ∧ w'.cell? ⟨b, j * 2 + 1, none⟩ = some (.int .i64 (pj.den : Int))) (by kernel_rfl) (by kernel_rfl) (by refine ⟨c0, c1, e0, e1, d0, d1⟩) (fun ok => ?_)
                    refine hr_t 0 ok rfl ?_
                    go_frame
                    refine hr_t 1 ok rfl ?_
                    go_frame
                    refine hr_t 2 ok rfl ?_
                    go_frame
                    refine hr_t 3 ok rfl ?_
                    go_frame
                    refine hr_t 4 ok rfl ?_
                    go_frame
                    refine hr_t 5 ok rfl ?_
                    go_frame
                    refine hr_t 6 ok rfl ?_
                    go_frame
                    refine hr_t 7 ok rfl ?_
                    go_frame
                    refine hr_t 8 ok rfl ?_
                    go_frame
                    refine hr_t 9 ok rfl ?_
                    go_frame
                    refine hr_t 10 ok rfl ?_
                    go_frame
                    refine hr_only (c := 11) rfl (by kernel_rfl) (fun K hK => ?_)
                    go_simp
                    refine (SM.out _).mono ?_
                    rintro e w' ⟨rfl, hb⟩
                    have FB' := Lib.hid (FZ.out.drew.below hb FZ.out.lt)
                    have CH' := Lib.hid (CZ.out.drew.tr hb)
                    have c0 := cell_later hb c0; have c1 := cell_later hb c1; have d0 := cell_later hb d0; have d1 := cell_later hb d1; have e0 := cell_later hb e0; have e1 := cell_later hb e1
                    (try simp only [])
                    refine hK _ _ (fun _ => by refine ⟨?_, ?_, ?_, ?_, ?_, ?_⟩ <;> (first | exact c0 | exact c1 | exact e0 | exact e1 | exact d0 | exact d1)) ?_
                    clear hK K
                    (try go_frame)
                    clear hb
                    refine hr_only (c := 12) rfl (by kernel_rfl) (fun K hK => ?_)
                    go_simp
                    refine (SA.out _).mono ?_
                    rintro e w'' ⟨rfl, hb⟩
                    have FB'' := Lib.hid (FB'.out.below hb FB'.out.lt)
                    have CH'' := Lib.hid (CH'.out.tr hb)
                    (try simp only [])
                    refine hK _ _ (fun _ => by refine ⟨?_, ?_, ?_, ?_, ?_, ?_⟩ <;> (first | exact cell_later hb c0 | exact cell_later hb c1 | exact cell_later hb e0 | exact cell_later hb e1 | exact cell_later hb d0 | exact cell_later hb d1)) ?_
                    clear hK K
                    (try go_frame)
                    refine hr_t 13 ok rfl ?_
                    go_frame
                    clear c0 c1 d0 d1 e0 e1 hb FB' CH'
                    obtain ⟨c0, c1⟩ := FBlk.get FB''.out (show (part (pivOther (pivRow row k) o k) o j)[j]? = some x by rw [part_get (pivOther_length _ _ _) (by have := HOL.out; omega)]; exact HXO.out)
                    have cf := FB''.out.free
                    refine hr_only (c := 14) rfl (by kernel_rfl) (fun K hK => ?_)
                    go_simp
                    (try simp only [])
                    refine hK _ _ (pend_no (by kernel_rfl)) ?_
                    clear hK K
                    (try go_frame)
                    refine hr_end (by kernel_rfl) ?_
                    have PS := Lib.hid (show FBlk ((w''.setCell ⟨b', j * 2, none⟩ (.int .i64 s.num)).setCell ⟨b', j * 2 + 1, none⟩ (.int .i64 (s.den : Int))) b' (part (pivOther (pivRow row k) o k) o (j + 1)) sp' by
                      rw [← part_succ (pivOther_length _ _ _) HN2.out]
                      exact FBlk.put FB''.out (by rw [part_length (pivOther_length _ _ _) (by have := HOL.out; omega)]; have := HOL.out; omega) _)
                    have PC := Lib.hid (chg_put (b := b') CH''.out (fun _ => rfl) j (.int .i64 s.num) (.int .i64 (s.den : Int)))
                    clear c0 c1 cf FB'' CH'' FZ CZ BC FBZ
                    go_wp2
                    go_roundw
                    case rel => exact ⟨j + 1, by omega, by go_num, PS.out, PC.out⟩
                    case measure => simp [intOf]; omega
                · have hj2 : nC = j := by omega
                  subst hj2
                  have FN := Lib.hid (show FBlk wr b' (pivOther (pivRow row k) o k) sp' by have h := FZ.out; rw [← HOL.out, part_all (pivOther_length _ _ _)] at h; exact h)
                  have CW := Lib.hid (show Chg (fun x => x = b') wo wr from (CH5.out.mono (fun y _ h => h.elim)).trans CZ.out (fun _ _ h => h))
                  have OW2 := Lib.hid (show OwnAt OFr 32 wr fR bR cR vs spR fps (part (pivRows rows i k) Rold (r + 1)) by
                    have h := OWR.out.inner OFr.loc (i := r) (List.getElem?_eq_some_iff.1 HPR.out).1 HUR.out (CW.out.mono (fun y _ e => e ▸ FA'.out.own)) (show OFr wr (fps r) (.slice (some ⟨b', 0, none⟩) o.length cap') (pivOther (pivRow row k) o k) from .inr ⟨b', cap', sp', by rw [pivOther_length], FN.out, by rw [pivOther_length]; exact FA'.out.hcap, FA'.out.hsz, FA'.out.own⟩)
                    rw [part_succ RL.out HRM.out] at h
                    exact h)
                  have CR2 := Lib.hid (show Chg fR w3 wr from CHR.out.trans CW.out (fun y _ e => by
                    subst e
                    exact (OWR.out.sub r _ (List.getElem?_eq_some_iff.1 HPR.out).1 FA'.out.own).1))
                  clear FZ CZ BC
                  go_wp2
                  go_roundw
                  case rel => exact ⟨r + 1, by omega, by go_num, OW2.out, FBZ.out, CR2.out⟩
                  case measure => simp [intOf]; omega
          · have hr2 : nR = r := by omega
            subst hr2
            have ROW := Lib.hid (show OwnAt OFr 32 wo fR bR cR vs spR fps (pivRows rows i k) by have h := OWR.out; rw [← RO.out, part_all RL.out] at h; exact h)
            have CW := Lib.hid (show Chg fR w wo from (CH3.out.mono (fun y _ e => by subst e; exact (RR.out.sub i _ (by have := HNR.out; have := HR.out; omega) FA.out.own).1)).trans CHR.out (fun _ _ h => h))
            have DW := Lib.hid (show Dic wo fp q ins outs (pivRows rows i k) vI vO vR fI fO fR from
              ⟨CW.out.has HD.out.has (HD.out.has.lt (by simp)) HD.out.qr, OInts.loc.chg HD.out.hin CW.out (fun y hy _ => HD.out.ir y hy), OInts.loc.chg HD.out.hout CW.out (fun y hy _ => HD.out.or_ y hy),
                .inr ⟨bR, cR, vs, spR, fps, by rw [pivRows_length]; exact HV.out, ROW.out⟩, HD.out.sI, HD.out.sO, HD.out.sR, HD.out.sq, HD.out.io, HD.out.ir, HD.out.or_, HD.out.qi, HD.out.qo, HD.out.qr⟩)
            obtain ⟨zi, hzi⟩ : ∃ zi, ins[i]? = some zi := ⟨_, List.getElem?_eq_getElem hi⟩
            obtain ⟨zo, hzo⟩ : ∃ zo, outs[k]? = some zo := ⟨_, List.getElem?_eq_getElem hk⟩
            have hI := DW.out.hin
            have hO := DW.out.hout
            rcases hI with ⟨_, h0⟩ | ⟨bI, cI, viI, spI, fpsI, hvI, rI⟩
            · rw [h0] at hi; simp at hi
            rcases hO with ⟨_, h0⟩ | ⟨bO, cO, viO, spO, fpsO, hvO, rO⟩
            · rw [h0] at hk; simp at hk
            have eI := rI.ints
            have eO := rO.ints
            have cI0 := rI.blk.cell (i := i) (v := .int .i64 zi) (by rw [eI, List.getElem?_append_left (by rw [ivs_length]; exact hi)]; exact ivs_get hzi)
            have cO0 := rO.blk.cell (i := k) (v := .int .i64 zo) (by rw [eO, List.getElem?_append_left (by rw [ivs_length]; exact hk)]; exact ivs_get hzo)
            have fI0 := rI.blk.free
            have fO0 := rO.blk.free
            have q0 := DW.out.has.cell 0 _ rfl
            have q1 := DW.out.has.cell 1 _ rfl
            obtain ⟨lI, hlI⟩ : ∃ n, n = ins.length := ⟨_, rfl⟩
            obtain ⟨lO, hlO⟩ : ∃ n, n = outs.length := ⟨_, rfl⟩
            rw [hvI, ← hlI] at q0
            rw [hvO, ← hlO] at q1
            have hIO : bI ≠ bO := fun e => DW.out.io bI rI.own (e ▸ rO.own)
            have hOI : bO ≠ bI := fun e => hIO e.symm
            have hiI : (i : Int) < (lI : Int) := by omega
            have hkO : (k : Int) < (lO : Int) := by omega
            have zib := rI.range zi (List.mem_of_getElem? hzi)
            have zob := rO.range zo (List.mem_of_getElem? hzo)
            have gi : ins.getD i 0 = zi := by rw [List.getD_eq_getElem?_getD, hzi]; rfl
            have go_ : outs.getD k 0 = zo := by rw [List.getD_eq_getElem?_getD, hzo]; rfl
            have FIN := Lib.hid (show PivRet w fp q (ins.set i (outs.getD k 0)) (outs.set k (ins.getD i 0)) (pivRows rows i k) vI vO vR fI fO fR (.returned (.tuple #[])) ((wo.setCell ⟨bI, i, none⟩ (.int .i64 zo)).setCell ⟨bO, k, none⟩ (.int .i64 zi)).drew by
              rw [gi, go_]
              exact ⟨rfl, (dic_swap DW.out hvI rI hvO rO hi hk zob zib).drew, (((CW.out.mono (fun y _ h => HD.out.sR y h)).setCell (fun _ => HD.out.sI _ rI.own) _).setCell (fun _ => HD.out.sO _ rO.own) _).drew⟩)
            clear hlI hlO hvI hvO rI rO eI eO hzi hzo zib zob gi go_ DW CW ROW OWR
            go_wp2
            refine hr_start 25 (fun w' => w'.cell? ⟨q, 0, none⟩ = some (.slice (some ⟨bI, 0, none⟩) lI cI) ∧ w'.cell? ⟨q, 1, none⟩ = some (.slice (some ⟨bO, 0, none⟩) lO cO) ∧ w'.cell? ⟨bO, k, none⟩ = some (.int .i64 zo) ∧ w'.cell? ⟨bI, i, none⟩ = some (.int .i64 zi)) (by kernel_rfl) (by kernel_rfl) (by refine ⟨q0, q1, cO0, cI0⟩) (fun ok => ?_)
            refine hr_t 0 ok rfl ?_
            go_frame
            refine hr_t 1 ok rfl ?_
            go_frame
            refine hr_t 2 ok rfl ?_
            go_frame
            refine hr_t 3 ok rfl ?_
            go_frame
            refine hr_t 4 ok rfl ?_
            go_frame
            refine hr_t 5 ok rfl ?_
            go_frame
            refine hr_t 6 ok rfl ?_
            go_frame
            refine hr_t 7 ok rfl ?_
            go_frame
            refine hr_t 8 ok rfl ?_
            go_frame
            refine hp_t 9 ok rfl ?_
            go_frame
            refine hr_t 10 ok rfl ?_
            go_frame
            refine hr_t 11 ok rfl ?_
            go_frame
            refine hr_t 12 ok rfl ?_
            go_frame
            refine hr_t 13 ok rfl ?_
            go_frame
            refine hr_t 14 ok rfl ?_
            go_frame
            refine hr_t 15 ok rfl ?_
            go_frame
            refine hr_t 16 ok rfl ?_
            go_frame
            refine hr_t 17 ok rfl ?_
            go_frame
            refine hr_t 18 ok rfl ?_
            go_frame
            refine hr_t 19 ok rfl ?_
            go_frame
            refine hr_t 20 ok rfl ?_
            go_frame
            refine hr_t 21 ok rfl ?_
            go_frame
            refine hr_t 22 ok rfl ?_
            go_frame
            refine hr_t 23 ok rfl ?_
            go_frame
            refine hr_t 24 ok rfl ?_
            go_frame
            refine hr_only (c := 25) rfl (by kernel_rfl) (fun K hK => ?_)
            go_simp
            (try simp only [])
            refine hK _ _ (pend_no (by kernel_rfl)) ?_
            clear hK K
            (try go_frame)
            refine hp_t 26 ok rfl ?_
            go_frame
            refine hr_only (c := 27) rfl (by kernel_rfl) (fun K hK => ?_)
            go_simp
            (try simp only [])
            refine hK _ _ (pend_no (by kernel_rfl)) ?_
            clear hK K
            (try go_frame)
            refine hr_end (by kernel_rfl) ?_
            go_wp2
            go_end0
            exact FIN.out
end Go.Proofs.Ytdegpgonphgbcaa
