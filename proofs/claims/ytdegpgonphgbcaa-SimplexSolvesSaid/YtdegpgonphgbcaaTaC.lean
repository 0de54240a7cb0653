/-
  The document's table.
-/
import Derived.Deep.DeepCutAuto
import Derived.Test.YtdegpgonphgbcaaZPrC
import Derived.Test.YtdegpgonphgbcaaZHeadq
namespace Go.Proofs.Ytdegpgonphgbcaa
open Go.RowKit
theorem TbAt.at' {w : World} {B q : Nat} {T : Tab} {vB vG : Value} {us : List Value} {gs : List Nat} {g bR cR m L i : Nat} (h : TbAt w B q T (.slice (some ⟨bR, 0, none⟩) m cR) vB vG us gs g) (hm : T.rows.length = m) (hi : i < m) (hL : (T.row i).length = L) :
    ∃ sR gi ci si, Blk w bR 32 (us ++ sR) ∧ cR = us.length + sR.length ∧ B ≤ bR ∧ us.length = m ∧ gs[i]? = some gi ∧ us[i]? = some (.slice (some ⟨gi, 0, none⟩) L ci) ∧ FBlk w gi (T.row i) si ∧ ci * 2 = L * 2 + si.length ∧ B ≤ gi ∧ w.cell? ⟨bR, i, none⟩ = some (.slice (some ⟨gi, 0, none⟩) L ci) ∧ w.cell? ⟨q, 0, none⟩ = some (.slice (some ⟨bR, 0, none⟩) m cR) := by
  obtain ⟨bR', cR', sR, gi, ci, si, h1, h2, h3, h4, h5, h6, h7, h8, h9, h10, h11, h12⟩ := h.at (i := i) (by omega)
  injection h1 with a1 a2 a3
  injection a1 with a1
  injection a1 with a1
  subst a1; subst a3
  rw [hm] at h5 h12
  rw [hL] at h7 h9 h11
  exact ⟨sR, gi, ci, si, h2, h3, h4, h5, h6, h7, h8, h9, h10, h11, h12⟩
theorem part_row_new {new old : List (List Rat)} {k i : Nat} {r : List Rat} {b : List Nat} {gl : List Rat} (hl : new.length = old.length) (hn : new[i]? = some r) (ho : old[i]? = some r) : (Tab.mk (part new old k) b gl).row i = r := by
  refine Tab.row_of ?_
  show (part new old k)[i]? = some r
  have hi := (List.getElem?_eq_some_iff.1 hn).1
  unfold part
  by_cases h : i < k
  · rw [List.getElem?_append_left (by simp; omega), List.getElem?_take, if_pos h]; exact hn
  · by_cases hk : k ≤ new.length
    · rw [List.getElem?_append_right (by simp; omega), List.getElem?_drop]
      rw [show k + (i - (new.take k).length) = i by simp; omega]; exact ho
    · omega
set_option maxRecDepth 100000 in
set_option maxHeartbeats 32000000 in
theorem tpivot_any (w : World) (B q : Nat) (T : Tab) (m L : Nat) (ht : Tbl w B q T) (hl : TabLen T m L) (hm : m ≤ 1000) (hL : L ≤ 1000) (i c : Nat) (hi : i < m) (hc : c < L) (pf : PivTFit T i c) (hB : B ≤ w.heap.size) :
    Calls Try.prog 42 #[.pointer (some ⟨q, 0, none⟩), .int .i64 i, .int .i64 c] w fun e w' => e = .returned (.tuple #[]) ∧ Tbl w' B q (pivT T i c) ∧ Below B w w' := by
  obtain ⟨vR, vB, vG, us, gs, g, tb⟩ := ht
  obtain ⟨bR, cR, sR0, gi0, ci0, si0, hvR, -⟩ := tb.at (i := i) (by rw [hl.rows]; exact hi)
  rw [hl.rows] at hvR
  subst hvR
  obtain ⟨sR, gi, ci, si, hbR, hcR, hBR, hul, hgi, hui, hbi, hci, hBi, cu, x0⟩ := tb.at' hl.rows hi (hl.len i hi)
  obtain ⟨p, hp⟩ : ∃ p, (T.row i)[c]? = some p := ⟨_, List.getElem?_eq_getElem (by rw [hl.len i hi]; exact hc)⟩
  have hpg : gR (T.row i) c = p := gR_of hp
  have hp0 : p ≠ 0 := by have := pf.ne; rwa [hpg] at this
  have hpF : Fit p := by rw [← hpg]; exact fitl_gR (pf.all _ (List.mem_of_getElem? (T.row_some (by rw [hl.rows]; exact hi)))) c
  obtain ⟨cp0, cp1⟩ := FBlk.get hbi hp
  obtain ⟨w1, hw1⟩ : ∃ w1, w1 = w.alloc (.cells #[.int .i64 p.num, .int .i64 (p.den : Int)] 31) := ⟨_, rfl⟩
  have A1 := Lib.hid (show Below w.heap.size w w1 by rw [hw1]; exact (Below.refl _ _).alloc (Nat.le_refl _) _)
  have P1 := Lib.hid (show Blk w1 w.heap.size 31 (FrC p) by rw [hw1]; exact Blk.new w _ _)
  have HW1 := Lib.hid hw1
  obtain ⟨X, hX⟩ : ∃ X, X = w.heap.size := ⟨_, rfl⟩
  have HX := Lib.hid hX
  rw [← hX] at P1
  have LX := Lib.hid (show gi < X ∧ B ≤ X ∧ bR < X ∧ q < X from by rw [hX]; exact ⟨hbi.lt, hB, hbR.lt, tb.hq.lt⟩)
  have TB1 := Lib.hid (tb.below A1.out)
  have R1 := Lib.hid (hbR.below A1.out hbR.lt)
  have I1 := Lib.hid (hbi.below A1.out hbi.lt)
  have HGI := Lib.hid hgi; have HUI := Lib.hid hui; have HCI := Lib.hid hci; have HL := Lib.hid hl; have PF := Lib.hid pf; have HPG := Lib.hid hpg; have HBB := Lib.hid hB; have HBR := Lib.hid hBR; have HUL := Lib.hid hul
  have hm1 : (i : Int) < (m : Int) := by omega
  have hi0 : 0 ≤ (i : Int) := by omega
  have hc1 : (c : Int) < (L : Int) := by omega
  have hc0 : 0 ≤ (c : Int) := by omega
  have BW := Lib.hid (show Below B w w1 from A1.out.mono hB)
  clear hw1 hX hbR hbi hgi hui hci hl pf hpg tb hB hBi hcR hp hBR hul
  go_enter Try.func42, Try.ntmps42
  go_upto_region 1 with fail
  rw [← HW1.out, ← HX.out]
  clear cp0 cp1 cu x0
  have x0 := (TB1.out.hq).cell (i := 0) rfl
  have cu := R1.out.cell (i := i) (by rw [List.getElem?_append_left (List.getElem?_eq_some_iff.1 HUI.out).1]; exact HUI.out)
  go_wp2
  clear x0 cu
  go_loopw [27] (fun s wr => ∃ j : Nat, j ≤ L ∧ s = .int .i64 j ∧ FBlk wr gi (part (nrm (T.row i) c) (T.row i) j) si ∧ Chg (fun x => x = gi) w1 wr) (fun s _ => L - (intOf s).toNat)
  case atStart => exact ⟨0, Nat.zero_le _, rfl, by rw [part_zero]; exact I1.out, Chg.refl _⟩
  case round =>
    obtain ⟨j, hj, rfl, hfb, hch⟩ := hrel
    have FBR := Lib.hid hfb; have CHR := Lib.hid hch
    clear hfb hch
    obtain ⟨wo, rfl⟩ : ∃ wo : World, wo = wr := ⟨_, rfl⟩
    have PR := Lib.hid (P1.out.chg CHR.out (by have := LX.out; omega))
    have RR := Lib.hid (R1.out.chg CHR.out (by
      intro e
      obtain ⟨_, k1, _⟩ := TB1.out.rows.tag (List.mem_of_getElem? HGI.out)
      exact blk_tag R1.out k1 (by decide) e))
    have QR := Lib.hid (TB1.out.hq.chg CHR.out (by
      intro e
      obtain ⟨_, k1, _⟩ := TB1.out.rows.tag (List.mem_of_getElem? HGI.out)
      exact blk_tag TB1.out.hq k1 (by decide) e))
    by_cases hlt : j < L
    · obtain ⟨x, hx⟩ : ∃ x, (T.row i)[j]? = some x := ⟨_, List.getElem?_eq_getElem (by rw [HL.out.len i hi]; exact hlt)⟩
      obtain ⟨z, hz⟩ : ∃ z, z = x / p := ⟨_, rfl⟩
      have hnew : (nrm (T.row i) c)[j]? = some z := by rw [nrm_get hx, HPG.out, hz]
      have fz : Fit z := PF.out.row.get hnew
      have fx : Fit x := (PF.out.all _ (List.mem_of_getElem? (T.row_some (by rw [HL.out.rows]; exact hi)))).get hx
      have DIV := Lib.hid (rdiv x p hp0 fx hpF (by rw [← hz]; exact fz))
      rw [← hz] at DIV
      obtain ⟨c0, c1⟩ := FBlk.get FBR.out (show (part (nrm (T.row i) c) (T.row i) j)[j]? = some x by rw [part_get (nrm_length _ _) (by rw [HL.out.len i hi]; exact hlt)]; exact hx)
      have p0 := PR.out.cell (i := 0) rfl; have p1 := PR.out.cell (i := 1) rfl
      have x0 := QR.out.cell (i := 0) rfl
      have cu := RR.out.cell (i := i) (by rw [List.getElem?_append_left (List.getElem?_eq_some_iff.1 HUI.out).1]; exact HUI.out)
      have hjn : (j : Int) < (L : Int) := by omega
      have hj0 : 0 ≤ (j : Int) := by omega
      have HXX := Lib.hid hx; have HNEW := Lib.hid hnew
      clear hx hz fz fx hnew
      go_upto_region 4 with fail
      refine hr_start 24 (fun w' => w'.cell? ⟨q, 0, none⟩ = some (.slice (some ⟨bR, 0, none⟩) m cR) ∧ w'.cell? ⟨bR, i, none⟩ = some (.slice (some ⟨gi, 0, none⟩) L ci) ∧ w'.cell? ⟨gi, j * 2, none⟩ = some (.int .i64 x.num) ∧ w'.cell? ⟨gi, j * 2 + 1, none⟩ = some (.int .i64 (x.den : Int)) ∧ w'.cell? ⟨X, 0, none⟩ = some (.int .i64 p.num) ∧ w'.cell? ⟨X, 1, none⟩ = some (.int .i64 (p.den : Int))) (by kernel_rfl) (by kernel_rfl) (by refine ⟨x0, cu, c0, c1, p0, p1⟩) (fun ok => ?_)
      refine hr_t 0 ok rfl ?_
      go_frame
      refine hr_t 1 ok rfl ?_
      go_frame
      refine hr_t 2 ok rfl ?_
      go_frame
      refine hr_t 3 ok rfl ?_
      go_frame
      refine hr_t 4 ok rfl ?_
      go_frame
      refine hr_t 5 ok rfl ?_
      go_frame
      refine hr_t 6 ok rfl ?_
      go_frame
      refine hr_t 7 ok rfl ?_
      go_frame
      refine hr_t 8 ok rfl ?_
      go_frame
      refine hr_t 9 ok rfl ?_
      go_frame
      refine hr_t 10 ok rfl ?_
      go_frame
      refine hr_t 11 ok rfl ?_
      go_frame
      refine hr_t 12 ok rfl ?_
      go_frame
      refine hr_t 13 ok rfl ?_
      go_frame
      refine hr_t 14 ok rfl ?_
      go_frame
      refine hr_t 15 ok rfl ?_
      go_frame
      refine hr_t 16 ok rfl ?_
      go_frame
      refine hr_t 17 ok rfl ?_
      go_frame
      refine hr_t 18 ok rfl ?_
      go_frame
      refine hr_only (c := 19) rfl (by kernel_rfl) (fun K hK => ?_)
      go_simp
      refine (DIV.out _).mono ?_
      rintro e w' ⟨rfl, hb⟩
      have FB' := Lib.hid (FBR.out.drew.below hb FBR.out.lt)
      have CH' := Lib.hid (CHR.out.drew.tr hb)
      (try simp only [])
      refine hK _ _ (fun _ => by refine ⟨?_, ?_, ?_, ?_, ?_, ?_⟩ <;> (first | exact cell_later hb x0 | exact cell_later hb cu | exact cell_later hb c0 | exact cell_later hb c1 | exact cell_later hb p0 | exact cell_later hb p1)) ?_
      clear hK K
      (try go_frame)
      refine hr_t 20 ok rfl ?_
      go_frame
      refine hr_t 21 ok rfl ?_
      go_frame
      refine hp_t 22 ok rfl ?_
      go_frame
      refine hr_t 23 ok rfl ?_
      go_frame
      clear c0 c1 p0 p1 x0 cu hb
      obtain ⟨c0, c1⟩ := FBlk.get FB'.out (show (part (nrm (T.row i) c) (T.row i) j)[j]? = some x by rw [part_get (nrm_length _ _) (by rw [HL.out.len i hi]; exact hlt)]; exact HXX.out)
      have cf := FB'.out.free
      refine hr_only (c := 24) rfl (by kernel_rfl) (fun K hK => ?_)
      go_simp
      (try simp only [])
      refine hK _ _ (pend_no (by kernel_rfl)) ?_
      clear hK K
      (try go_frame)
      refine hr_end (by kernel_rfl) ?_
      have PS := Lib.hid (show FBlk ((w'.setCell ⟨gi, j * 2, none⟩ (.int .i64 z.num)).setCell ⟨gi, j * 2 + 1, none⟩ (.int .i64 (z.den : Int))) gi (part (nrm (T.row i) c) (T.row i) (j + 1)) si by
        rw [← part_succ (nrm_length _ _) HNEW.out]
        exact FBlk.put FB'.out (by rw [part_length (nrm_length _ _) (by rw [HL.out.len i hi]; omega), HL.out.len i hi]; exact hlt) _)
      have PC := Lib.hid (chg_put (b := gi) CH'.out (fun _ => rfl) j (.int .i64 z.num) (.int .i64 (z.den : Int)))
      clear c0 c1 cf FB' CH'
      go_wp2
      go_roundw
      case rel => exact ⟨j + 1, by omega, by go_num, PS.out, PC.out⟩
      case measure => simp [intOf]; omega
    · obtain rfl : L = j := by omega
      have hrl := HL.out.len i hi
      have FBN := Lib.hid (show FBlk wo gi (nrm (T.row i) c) si by
        have h1 := FBR.out
        have e := part_all (new := nrm (T.row i) c) (old := T.row i) (nrm_length _ _)
        rw [hrl] at e
        rwa [e] at h1)
      have TB2 := Lib.hid (TB1.out.inRow (by rw [HL.out.rows]; exact hi) HGI.out CHR.out (by rw [hrl]; exact HUI.out) FBN.out (nrm_length _ _) (by rw [hrl]; exact HCI.out))
      have B2 := Lib.hid (show Below B w wo from BW.out.trans (CHR.out.below (B := B) (fun k hk e => by
        obtain ⟨_, k1, k2⟩ := TB1.out.rows.tag (List.mem_of_getElem? HGI.out)
        have : k = gi := e
        omega) (Nat.le_trans HBB.out BW.out.size)))
      have ONEW := Lib.hid (show (pivRs T i c).length = (T.rows.set i (nrm (T.row i) c)).length by rw [pivRs_length, List.length_set])
      have OLEN := Lib.hid (show (T.rows.set i (nrm (T.row i) c)).length = m by rw [List.length_set]; exact HL.out.rows)
      have ORI := Lib.hid (show (T.rows.set i (nrm (T.row i) c))[i]? = some (nrm (T.row i) c) by rw [List.getElem?_set_self (by rw [HL.out.rows]; exact hi)])
      have NRI := Lib.hid (show (pivRs T i c)[i]? = some (nrm (T.row i) c) by rw [pivRs_get (by rw [HL.out.rows]; exact hi)]; unfold newRow; rw [if_pos rfl])
      clear FBR PR RR QR FBN CHR P1 R1 I1 TB1 HUI HCI HGI hlt hj hrl
      have x0 := TB2.out.hq.cell (i := 0) rfl
      go_wp2
      clear x0
      go_loopw [60] (fun s wr => ∃ k : Nat, k ≤ m ∧ s = .int .i64 k ∧ (∃ us gs, TbAt wr B q ⟨part (pivRs T i c) (T.rows.set i (nrm (T.row i) c)) k, T.basis, T.goal⟩ (.slice (some ⟨bR, 0, none⟩) m cR) vB vG us gs g) ∧ Below B w wr) (fun s _ => m - (intOf s).toNat)
      case atStart => exact ⟨0, Nat.zero_le _, rfl, ⟨us, gs, by rw [part_zero]; exact TB2.out⟩, B2.out⟩
      case round =>
        clear TB2 B2
        obtain ⟨k, hk, rfl, ⟨us, gs, tbr⟩, hbw⟩ := hrel
        have TBR := Lib.hid tbr; have BR := Lib.hid hbw
        clear tbr hbw
        have PLEN := Lib.hid (show (part (pivRs T i c) (T.rows.set i (nrm (T.row i) c)) k).length = m by rw [part_length ONEW.out (by rw [OLEN.out]; exact hk)]; exact OLEN.out)
        have ROWI := Lib.hid (show (Tab.mk (part (pivRs T i c) (T.rows.set i (nrm (T.row i) c)) k) T.basis T.goal).row i = nrm (T.row i) c from part_row_new ONEW.out NRI.out ORI.out)
        obtain ⟨sR', gi', ci', si', hbR', hcR', hBR', hul', hgi', hui', hbi', hci', hBi', cu, x0⟩ := TBR.out.at' (L := L) PLEN.out hi (by rw [ROWI.out, nrm_length]; exact HL.out.len i hi)
        rw [ROWI.out] at hbi'
        by_cases hlt : k < m
        · have hkm : (k : Int) < (m : Int) := by omega
          have hk0 : 0 ≤ (k : Int) := by omega
          by_cases hki : k = i
          · have ne : ((k : Int) != (i : Int)) = false := by subst hki; simp
            have TB3 := Lib.hid (show TbAt wr B q ⟨part (pivRs T i c) (T.rows.set i (nrm (T.row i) c)) (k + 1), T.basis, T.goal⟩ (.slice (some ⟨bR, 0, none⟩) m cR) vB vG us gs g by
              rw [← part_same ONEW.out (by rw [hki]; exact NRI.out) (by rw [hki]; exact ORI.out)]
              exact TBR.out)
            clear hbR' hcR' hBR' hul' hgi' hui' hbi' hci' hBi' cu x0 hki
            go_wp2
            go_roundw
            case rel => exact ⟨k + 1, by omega, by go_num, ⟨us, gs, TB3.out⟩, BR.out⟩
            case measure => simp [intOf]; omega
          · have ne : ((k : Int) != (i : Int)) = true := by simp; omega
            have ROWK := Lib.hid (show (Tab.mk (part (pivRs T i c) (T.rows.set i (nrm (T.row i) c)) k) T.basis T.goal).row k = T.row k from Tab.row_of (by
              show (part (pivRs T i c) (T.rows.set i (nrm (T.row i) c)) k)[k]? = some (T.row k)
              rw [part_get ONEW.out (by rw [OLEN.out]; exact hlt), List.getElem?_set_ne (by omega)]
              exact T.row_some (by rw [HL.out.rows]; exact hlt)))
            obtain ⟨sR2, gk, ck, sk, hbR2, hcR2, hBR2, hul2, hgk, huk, hbk, hck, hBk, cuk, -⟩ := TBR.out.at' (L := L) PLEN.out hlt (by rw [ROWK.out]; exact HL.out.len k hlt)
            rw [ROWK.out] at hbk
            have NRK := Lib.hid (show (pivRs T i c)[k]? = some (clr (T.row k) (nrm (T.row i) c) c) by rw [pivRs_get (by rw [HL.out.rows]; exact hlt)]; unfold newRow; rw [if_neg hki])
            have hkr : k < T.rows.length := by rw [HL.out.rows]; exact hlt
            have CLR := Lib.hid (clear_any wr.drew gk gi' ck ci' L (T.row k) (nrm (T.row i) c) sk si' hbk.drew hbi'.drew (HL.out.len k hlt) (by rw [nrm_length]; exact HL.out.len i hi) hL c hc (PF.out.all _ (List.mem_of_getElem? (T.row_some hkr))) PF.out.row (fun j hj => PF.out.mul k hkr hki j (by rw [HL.out.len k hlt]; exact hj)) (PF.out.other k hkr hki))
            have HB2 := Lib.hid hbR2; have HC2 := Lib.hid hcR2; have HU2 := Lib.hid hul2; have HBR2 := Lib.hid hBR2
            clear hbR' hcR' hBR' hul' hgi' hui' hbi' hci' hBi' hbR2 hcR2 hBR2 hul2 hgk huk hbk hck hBk hki hkr
            go_upto_region 10 with fail
            refine hr_start 22 (fun w' => w'.cell? ⟨q, 0, none⟩ = some (.slice (some ⟨bR, 0, none⟩) m cR) ∧ w'.cell? ⟨bR, k, none⟩ = some (.slice (some ⟨gk, 0, none⟩) L ck) ∧ w'.cell? ⟨bR, i, none⟩ = some (.slice (some ⟨gi', 0, none⟩) L ci')) (by kernel_rfl) (by kernel_rfl) (by refine ⟨x0, cuk, cu⟩) (fun ok => ?_)
            refine hr_t 0 ok rfl ?_
            go_frame
            refine hr_t 1 ok rfl ?_
            go_frame
            refine hr_t 2 ok rfl ?_
            go_frame
            refine hr_t 3 ok rfl ?_
            go_frame
            refine hr_t 4 ok rfl ?_
            go_frame
            refine hr_t 5 ok rfl ?_
            go_frame
            refine hr_t 6 ok rfl ?_
            go_frame
            refine hr_t 7 ok rfl ?_
            go_frame
            refine hr_t 8 ok rfl ?_
            go_frame
            refine hr_t 9 ok rfl ?_
            go_frame
            refine hr_t 10 ok rfl ?_
            go_frame
            refine hr_t 11 ok rfl ?_
            go_frame
            refine hr_t 12 ok rfl ?_
            go_frame
            refine hr_t 13 ok rfl ?_
            go_frame
            refine hr_t 14 ok rfl ?_
            go_frame
            refine hr_t 15 ok rfl ?_
            go_frame
            refine hr_t 16 ok rfl ?_
            go_frame
            refine hr_t 17 ok rfl ?_
            go_frame
            refine hr_t 18 ok rfl ?_
            go_frame
            refine hr_t 19 ok rfl ?_
            go_frame
            refine hr_only (c := 20) rfl (by kernel_rfl) (fun K hK => ?_)
            go_simp
            refine CLR.out.mono ?_
            rintro e w' ⟨v, rfl, hnew⟩
            have hb := Lib.hid hnew
            obtain ⟨gn, capn, spn, rfl, _, _, _, hgn, hbel⟩ := hnew
            have HGN := Lib.hid hgn; have HBEL := Lib.hid hbel
            clear hgn
            have hb' : Below wr.drew.heap.size wr.drew w' := hbel
            clear hbel
            (try simp only [])
            refine hK _ _ (fun _ => by refine ⟨?_, ?_, ?_⟩ <;> (first | exact cell_later hb' x0 | exact cell_later hb' cuk | exact cell_later hb' cu)) ?_
            clear hK K
            (try go_frame)
            refine hr_t 21 ok rfl ?_
            go_frame
            clear x0 cuk cu hb'
            have RB' := Lib.hid (HB2.out.drew.below HBEL.out HB2.out.lt)
            have cf := RB'.out.free
            have x0 := (TBR.out.drew.below HBEL.out).hq.cell (i := 0) rfl
            have cbl := RB'.out.cell (i := k) (by rw [List.getElem?_append_left (by rw [HU2.out]; exact hlt)]; exact List.getElem?_eq_getElem (by rw [HU2.out]; exact hlt))
            refine hr_only (c := 22) rfl (by kernel_rfl) (fun K hK => ?_)
            go_simp
            (try simp only [])
            refine hK _ _ (pend_no (by kernel_rfl)) ?_
            clear hK K
            (try go_frame)
            refine hr_end (by kernel_rfl) ?_
            have TB3 := Lib.hid (show ∃ us gs, TbAt (w'.setCell ⟨bR, k, none⟩ (.slice (some ⟨gn, 0, none⟩) (clr (T.row k) (nrm (T.row i) c) c).length capn)) B q ⟨part (pivRs T i c) (T.rows.set i (nrm (T.row i) c)) (k + 1), T.basis, T.goal⟩ (.slice (some ⟨bR, 0, none⟩) m cR) vB vG us gs g by
              obtain ⟨kn, hkn, hkl⟩ := hb.out.at (B := B) (show B ≤ wr.drew.heap.size from Nat.le_trans HBB.out BR.out.size)
              have fr := TBR.out.fresh (k := kn) hkl
              have := (TBR.out.drew.below HBEL.out).putRow (i := k) (bR := bR) (cR := cR) (sR := sR2) (by show k < (part _ _ k).length; rw [PLEN.out]; exact hlt) (by show _ = Value.slice _ (part _ _ k).length _; rw [PLEN.out]) RB'.out HC2.out HBR2.out hkn fr.1 fr.2
              rw [← part_succ ONEW.out NRK.out]
              exact ⟨_, _, this⟩)
            have B3 := Lib.hid (show Below B w (w'.setCell ⟨bR, k, none⟩ (.slice (some ⟨gn, 0, none⟩) (clr (T.row k) (nrm (T.row i) c) c).length capn)) from (BR.out.trans ((Below.refl B wr).drew.trans (HBEL.out.mono (Nat.le_trans HBB.out BR.out.size)))).setCell HBR2.out _)
            clear cf x0 cbl
            go_wp2
            go_roundw
            case rel => exact ⟨k + 1, by omega, by go_num, TB3.out, B3.out⟩
            case measure => simp [intOf]; omega
        · obtain rfl : k = m := by omega
          have PALL := Lib.hid (show part (pivRs T i c) (T.rows.set i (nrm (T.row i) c)) k = pivRs T i c by
            have := part_all ONEW.out
            rwa [OLEN.out] at this)
          have TBF := Lib.hid (show TbAt wr B q ⟨pivRs T i c, T.basis, T.goal⟩ (.slice (some ⟨bR, 0, none⟩) k cR) vB vG us gs g by have h := TBR.out; rw [PALL.out] at h; exact h)
          obtain ⟨cG, sG, hvG, hbG, hcG, _, hBG⟩ := TBF.out.goal
          have hgl : T.goal.length = L := HL.out.goal
          dsimp only at hvG hbG
          rw [hgl] at hvG
          subst hvG
          have x2 := TBF.out.hq.cell (i := 2) rfl
          have CLG := Lib.hid (clear_any wr.drew g gi' cG ci' L T.goal (nrm (T.row i) c) sG si' hbG.drew hbi'.drew hgl (by rw [nrm_length]; exact HL.out.len i hi) hL c hc PF.out.goal PF.out.row (fun j hj => PF.out.gmul j (by rw [hgl]; exact hj)) PF.out.gother)
          have qf := TBF.out.hq.free
          clear hbR' hcR' hBR' hul' hgi' hui' hbi' hci' hBi' hbG hcG hBG hlt
          go_upto_region 12 with fail
          refine hr_start 16 (fun w' => w'.cell? ⟨q, 2, none⟩ = some (.slice (some ⟨g, 0, none⟩) L cG) ∧ w'.cell? ⟨q, 0, none⟩ = some (.slice (some ⟨bR, 0, none⟩) k cR) ∧ w'.cell? ⟨bR, i, none⟩ = some (.slice (some ⟨gi', 0, none⟩) L ci')) (by kernel_rfl) (by kernel_rfl) (by refine ⟨x2, x0, cu⟩) (fun ok => ?_)
          refine hr_t 0 ok rfl ?_
          go_frame
          refine hr_t 1 ok rfl ?_
          go_frame
          refine hr_t 2 ok rfl ?_
          go_frame
          refine hr_t 3 ok rfl ?_
          go_frame
          refine hr_t 4 ok rfl ?_
          go_frame
          refine hr_t 5 ok rfl ?_
          go_frame
          refine hr_t 6 ok rfl ?_
          go_frame
          refine hr_t 7 ok rfl ?_
          go_frame
          refine hr_t 8 ok rfl ?_
          go_frame
          refine hr_t 9 ok rfl ?_
          go_frame
          refine hr_t 10 ok rfl ?_
          go_frame
          refine hr_t 11 ok rfl ?_
          go_frame
          refine hr_t 12 ok rfl ?_
          go_frame
          refine hr_only (c := 13) rfl (by kernel_rfl) (fun K hK => ?_)
          go_simp
          refine CLG.out.mono ?_
          rintro e w' ⟨v, rfl, hnew⟩
          have hb := Lib.hid hnew
          obtain ⟨gn, capn, spn, rfl, _, _, _, hgn, hbel⟩ := hnew
          have HGN := Lib.hid hgn; have HBEL := Lib.hid hbel
          clear hgn
          have hb' : Below wr.drew.heap.size wr.drew w' := hbel
          clear hbel
          (try simp only [])
          refine hK _ _ (fun _ => by refine ⟨?_, ?_, ?_⟩ <;> (first | exact cell_later hb' x2 | exact cell_later hb' x0 | exact cell_later hb' cu)) ?_
          clear hK K
          (try go_frame)
          refine hr_t 14 ok rfl ?_
          go_frame
          refine hr_t 15 ok rfl ?_
          go_frame
          clear x0 x2 cu hb' qf
          have TB' := Lib.hid (TBF.out.drew.below HBEL.out)
          have qf := TB'.out.hq.free
          have x2 := TB'.out.hq.cell (i := 2) rfl
          refine hr_only (c := 16) rfl (by kernel_rfl) (fun K hK => ?_)
          go_simp
          (try simp only [])
          refine hK _ _ (pend_no (by kernel_rfl)) ?_
          clear hK K
          (try go_frame)
          refine hr_end (by kernel_rfl) ?_
          have TBG := Lib.hid (show ∃ kn, TbAt (w'.setCell ⟨q, 2, none⟩ (.slice (some ⟨gn, 0, none⟩) (clr T.goal (nrm (T.row i) c) c).length capn)) B q ⟨pivRs T i c, T.basis, clr T.goal (nrm (T.row i) c) c⟩ (.slice (some ⟨bR, 0, none⟩) k cR) vB (.slice (some ⟨gn, 0, none⟩) (clr T.goal (nrm (T.row i) c) c).length capn) us gs kn by
            obtain ⟨kn, hkn, hkl⟩ := hb.out.at (B := B) (show B ≤ wr.drew.heap.size from Nat.le_trans HBB.out BR.out.size)
            have fr := TBF.out.fresh (k := kn) hkl
            exact ⟨kn, TB'.out.putGoal hkn fr.1⟩)
          have BG := Lib.hid (show Below B w (w'.setCell ⟨q, 2, none⟩ (.slice (some ⟨gn, 0, none⟩) (clr T.goal (nrm (T.row i) c) c).length capn)) from (BR.out.trans ((Below.refl B wr).drew.trans (HBEL.out.mono (Nat.le_trans HBB.out BR.out.size)))).setCell TBF.out.qB _)
          obtain ⟨kn, tbg⟩ := TBG.out
          obtain ⟨wg, hwg⟩ : ∃ wg, wg = w'.setCell ⟨q, 2, none⟩ (.slice (some ⟨gn, 0, none⟩) (clr T.goal (nrm (T.row i) c) c).length capn) := ⟨_, rfl⟩
          rw [← hwg] at tbg BG ⊢
          have TG := Lib.hid tbg
          have hbl : T.basis.length = k := HL.out.basis
          obtain ⟨bB, cB, sB, hvB, hbB, hcB, hBB⟩ := tbg.hB.at (by rw [bvs_length]; show 0 < T.basis.length; rw [hbl]; omega)
          rw [bvs_length] at hvB hcB
          dsimp only at hvB hbB hcB
          have TF := Lib.hid (tbg.putBasis (i := i) (z := c) (by show i < T.basis.length; rw [hbl]; exact hi) hvB hbB hcB hBB)
          have BF := Lib.hid (BG.out.setCell (p := ⟨bB, i, none⟩) hBB (.int .i64 (c : Int)))
          rw [hbl] at hvB
          subst hvB
          clear hwg TBG TB' HBEL HGN hb TBF
          have x1 := tbg.hq.cell (i := 1) rfl
          have bf := hbB.free
          have bc := hbB.cell (i := i) (by rw [List.getElem?_append_left (by rw [bvs_length, hbl]; exact hi)]; exact bvs_get (by rw [hbl]; exact hi))
          clear tbg hbB hcB hBB qf x2
          have FIN := Lib.hid (show (Ending.returned (.tuple #[]) = .returned (.tuple #[])) ∧ Tbl (wg.setCell ⟨bB, i, none⟩ (.int .i64 (c : Int))) B q (pivT T i c) ∧ Below B w (wg.setCell ⟨bB, i, none⟩ (.int .i64 (c : Int))) from ⟨rfl, ⟨_, _, _, _, _, _, TF.out⟩, BF.out⟩)
          go_wp2
          go_end0
          exact ⟨rfl, FIN.out.2⟩
end Go.Proofs.Ytdegpgonphgbcaa
