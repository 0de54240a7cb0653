/-
  The document's Check of an instruction. (printed by mkInD.py)
-/
import Derived.Deep.DeepCutAuto
import Derived.Deep.RegionHeld3
import Derived.Test.YtonbmijhbbodnaaZInA
namespace Go.Proofs.Ytonbmijhbbodnaa
open Go.RowKit

theorem chk_of {x : Ins} {g : Bool} (hk : kn x.k = true) (h : goodI (fldOf x.k) x = g) : chkI x = if g then 0 else 10 := by unfold chkI; rw [hk, h]; rfl
theorem box_below {w : World} {l _m : List (List Value)} {wr : World} (h : Fm Non w wr l) : Below w.heap.size w wr := h.below
theorem good0 (a b c op imm : Int) : goodI (fldOf 0) ⟨0, a, b, c, op, imm⟩ = (inB a 8 && inB b 8 && inB c 8 && eqI ⟨0, 0, 0, 0, 0, 0⟩ ⟨0, a, b, c, op, imm⟩) := by
  apply Bool.eq_iff_iff.2
  simp [goodI, fldOf, regB, opB, inB, eqI]
  omega
theorem good1 (a b c op imm : Int) : goodI (fldOf 1) ⟨1, a, b, c, op, imm⟩ = (inB a 8 && inB b 8 && inB c 8 && wordB imm && eqI ⟨1, a, 0, 0, 0, imm⟩ ⟨1, a, b, c, op, imm⟩) := by
  apply Bool.eq_iff_iff.2
  simp [goodI, fldOf, regB, opB, inB, wordB, eqI]
  omega
theorem good2 (a b c op imm : Int) : goodI (fldOf 2) ⟨2, a, b, c, op, imm⟩ = (inB a 8 && inB b 8 && inB c 8 && eqI ⟨2, a, b, 0, 0, 0⟩ ⟨2, a, b, c, op, imm⟩) := by
  apply Bool.eq_iff_iff.2
  simp [goodI, fldOf, regB, opB, inB, eqI]
  omega
theorem good3 (a b c op imm : Int) : goodI (fldOf 3) ⟨3, a, b, c, op, imm⟩ = (inB a 8 && inB b 8 && inB c 8 && opB op && eqI ⟨3, a, b, c, op, 0⟩ ⟨3, a, b, c, op, imm⟩) := by
  apply Bool.eq_iff_iff.2
  simp [goodI, fldOf, regB, opB, inB, eqI]
  omega
theorem good4 (a b c op imm : Int) : goodI (fldOf 4) ⟨4, a, b, c, op, imm⟩ = (inB a 8 && inB b 8 && inB c 8 && inB imm 1024 && eqI ⟨4, a, b, 0, 0, imm⟩ ⟨4, a, b, c, op, imm⟩) := by
  apply Bool.eq_iff_iff.2
  simp [goodI, fldOf, regB, opB, inB, eqI]
  omega
theorem good5 (a b c op imm : Int) : goodI (fldOf 5) ⟨5, a, b, c, op, imm⟩ = (inB a 8 && inB b 8 && inB c 8 && inB imm 1024 && eqI ⟨5, a, b, 0, 0, imm⟩ ⟨5, a, b, c, op, imm⟩) := by
  apply Bool.eq_iff_iff.2
  simp [goodI, fldOf, regB, opB, inB, eqI]
  omega
theorem good6 (a b c op imm : Int) : goodI (fldOf 6) ⟨6, a, b, c, op, imm⟩ = (inB a 8 && inB b 8 && inB c 8 && inB imm 1024 && eqI ⟨6, 0, 0, 0, 0, imm⟩ ⟨6, a, b, c, op, imm⟩) := by
  apply Bool.eq_iff_iff.2
  simp [goodI, fldOf, regB, opB, inB, eqI]
  omega
theorem good7 (a b c op imm : Int) : goodI (fldOf 7) ⟨7, a, b, c, op, imm⟩ = (inB a 8 && inB b 8 && inB c 8 && inB imm 1024 && eqI ⟨7, a, 0, 0, 0, imm⟩ ⟨7, a, b, c, op, imm⟩) := by
  apply Bool.eq_iff_iff.2
  simp [goodI, fldOf, regB, opB, inB, eqI]
  omega
theorem good8 (a b c op imm : Int) : goodI (fldOf 8) ⟨8, a, b, c, op, imm⟩ = (inB a 8 && inB b 8 && inB c 8 && inB imm 4 && eqI ⟨8, 0, 0, 0, 0, imm⟩ ⟨8, a, b, c, op, imm⟩) := by
  apply Bool.eq_iff_iff.2
  simp [goodI, fldOf, regB, opB, inB, eqI]
  omega
theorem good9 (a b c op imm : Int) : goodI (fldOf 9) ⟨9, a, b, c, op, imm⟩ = (inB a 8 && inB b 8 && inB c 8 && inB imm 4 && eqI ⟨9, 0, 0, 0, 0, imm⟩ ⟨9, a, b, c, op, imm⟩) := by
  apply Bool.eq_iff_iff.2
  simp [goodI, fldOf, regB, opB, inB, eqI]
  omega
theorem good10 (a b c op imm : Int) : goodI (fldOf 10) ⟨10, a, b, c, op, imm⟩ = (inB a 8 && inB b 8 && inB c 8 && eqI ⟨10, 0, 0, 0, 0, 0⟩ ⟨10, a, b, c, op, imm⟩) := by
  apply Bool.eq_iff_iff.2
  simp [goodI, fldOf, regB, opB, inB, eqI]
  omega

set_option maxRecDepth 100000 in
set_option maxHeartbeats 8000000 in
theorem rcheck_any (x : Ins) (w : World) : Calls Try.prog 45 #[IV x] w (ChkRet x w) := by
  obtain ⟨k, a, b, c, op, imm⟩ := x
  have F0 := Lib.hid (Fm.new (Fm.new (Fm.start Non w) rfl (ICells ⟨k, a, b, c, op, imm⟩) 50) (by simp) (ICells ⟨k, 0, 0, 0, 0, 0⟩) 50)
  obtain ⟨ra, hra⟩ : ∃ r, r = inB a 8 := ⟨_, rfl⟩
  obtain ⟨rb, hrb⟩ : ∃ r, r = inB b 8 := ⟨_, rfl⟩
  obtain ⟨rc, hrc⟩ : ∃ r, r = inB c 8 := ⟨_, rfl⟩
  have RA : CallB Try.prog 79 #[.int .i64 a, .int .i64 8] ra := fun w => by rw [hra]; exact in_any a 8 w
  have RB : CallB Try.prog 79 #[.int .i64 b, .int .i64 8] rb := fun w => by rw [hrb]; exact in_any b 8 w
  have RC : CallB Try.prog 79 #[.int .i64 c, .int .i64 8] rc := fun w => by rw [hrc]; exact in_any c 8 w
  have HR := Lib.hid (show (ra && rb && rc) = (inB a 8 && inB b 8 && inB c 8) by rw [hra, hrb, hrc])
  clear hra hrb hrc
  have QA := Lib.hid RA; have QB := Lib.hid RB; have QC := Lib.hid RC
  clear RA RB RC
  obtain ⟨w1, hw1⟩ : ∃ w1, w1 = (w.alloc (.cells (ICells ⟨k, a, b, c, op, imm⟩).toArray 50)).alloc (.cells (ICells ⟨k, 0, 0, 0, 0, 0⟩).toArray 50) := ⟨_, rfl⟩
  go_enter Try.func45, Try.ntmps45
  go_upto_region 2 with fail
  go_cut [4] (fun s4 wx => s4 = .bool (ra && rb && rc) ∧ w1 = wx)
  case first =>
    cases ra with
    | false =>
      go_wp2_with fail
      refine (QA.out _).mono ?_
      rintro e w' ⟨rfl, rfl⟩
      go_wp2
      go_meet
      exact ⟨rfl, hw1⟩
    | true =>
      cases rb with
      | false =>
        go_wp2_with fail
        refine (QA.out _).mono ?_
        rintro e w' ⟨rfl, rfl⟩
        go_wp2_with fail
        refine (QB.out _).mono ?_
        rintro e w' ⟨rfl, rfl⟩
        go_wp2
        go_meet
        exact ⟨rfl, hw1⟩
      | true =>
        go_wp2_with fail
        refine (QA.out _).mono ?_
        rintro e w' ⟨rfl, rfl⟩
        go_wp2_with fail
        refine (QB.out _).mono ?_
        rintro e w' ⟨rfl, rfl⟩
        go_wp2_with fail
        refine (QC.out _).mono ?_
        rintro e w' ⟨rfl, rfl⟩
        go_wp2
        go_meet
        exact ⟨rfl, hw1⟩
  case rest =>
    obtain ⟨rfl, hwx⟩ := hcut
    subst hwx
    obtain ⟨r, hr⟩ : ∃ r, r = (ra && rb && rc) := ⟨_, rfl⟩
    rw [← hr] at HR
    rw [← hr]
    clear hr QA QB QC
    have F1 := Lib.hid (show Fm Non w w1 [ICells ⟨k, a, b, c, op, imm⟩, ICells ⟨k, 0, 0, 0, 0, 0⟩] by rw [hw1]; exact F0.out)
    clear hw1 F0
    have x := F1.out.h0; have z := F1.out.h1
    have a0 := x.cell 0 _ rfl; have a1 := x.cell 1 _ rfl; have a2 := x.cell 2 _ rfl; have a3 := x.cell 3 _ rfl; have a4 := x.cell 4 _ rfl; have a5 := x.cell 5 _ rfl
    have z0 := z.cell 0 _ rfl; have z1 := z.cell 1 _ rfl; have z2 := z.cell 2 _ rfl; have z3 := z.cell 3 _ rfl; have z4 := z.cell 4 _ rfl; have z5 := z.cell 5 _ rfl; have zf := z.free; have zl := z.lt (by simp)
    clear x z
    by_cases hk : kn k = true
    · rcases kn_cases hk with rfl | rfl | rfl | rfl | rfl | rfl | rfl | rfl | rfl | rfl | rfl
      · have HE := Lib.hid (chk_of hk (good0 a b c op imm))
        have HE2 := Lib.hid (show chkI ⟨0, a, b, c, op, imm⟩ = if (r && eqI ⟨0, 0, 0, 0, 0, 0⟩ ⟨0, a, b, c, op, imm⟩) then 0 else 10 by rw [HR.out]; exact HE.out)
        clear HE hk
        obtain ⟨e, he⟩ : ∃ e, e = eqI ⟨0, 0, 0, 0, 0, 0⟩ ⟨0, a, b, c, op, imm⟩ := ⟨_, rfl⟩
        have HE3 := Lib.hid he
        rw [← he] at HE2
        clear he
        have FW := Lib.hid (F1.out)
        cases r with
        | false =>
          go_wp2
          go_ret
          exact ⟨by rw [HE2.out]; rfl, FW.out.below⟩
        | true =>
          cases e with
          | false =>
            have E := HE3.out.symm
            go_wp2
            go_ret
            exact ⟨by rw [HE2.out]; rfl, FW.out.below⟩
          | true =>
            have E := HE3.out.symm
            go_wp2
            go_ret
            exact ⟨by rw [HE2.out]; rfl, FW.out.below⟩
      · have HE := Lib.hid (chk_of hk (good1 a b c op imm))
        have HE2 := Lib.hid (show chkI ⟨1, a, b, c, op, imm⟩ = if (r && wordB imm && eqI ⟨1, a, 0, 0, 0, imm⟩ ⟨1, a, b, c, op, imm⟩) then 0 else 10 by rw [HR.out]; exact HE.out)
        clear HE hk
        obtain ⟨e, he⟩ : ∃ e, e = eqI ⟨1, a, 0, 0, 0, imm⟩ ⟨1, a, b, c, op, imm⟩ := ⟨_, rfl⟩
        have HE3 := Lib.hid he
        obtain ⟨p, hp⟩ : ∃ p, p = wordB imm := ⟨_, rfl⟩
        have QP := Lib.hid (show CallB Try.prog 78 #[.int .i64 imm] p from fun w => by rw [hp]; exact word_any imm w)
        rw [← he, ← hp] at HE2
        clear he hp
        have FW := Lib.hid (((F1.out.drew).set 1 1 _ rfl (by simp) (.int .i64 a)).set 1 5 _ rfl (by simp) (.int .i64 imm))
        go_wp2
        go_region_held3 (fun w' => w'.cell? ⟨w.heap.size, 1, none⟩ = some (.int .i64 a) ∧ w'.cell? ⟨w.heap.size, 5, none⟩ = some (.int .i64 imm)) (((try dsimp only); (try go_split_ands); (repeat' apply And.intro); all_goals (repeat (first | with_reducible assumption | (with_reducible refine cell_set (by omega) ?_) | (with_reducible refine cell_drew ?_))))) (fail)
        cases r with
        | false =>
          go_wp2
          go_ret
          exact ⟨by rw [HE2.out]; rfl, FW.out.below⟩
        | true =>
          cases p with
          | false =>
            go_wp2_with fail
            refine (QP.out _).mono ?_
            rintro _ w' ⟨rfl, rfl⟩
            go_wp2
            go_ret
            exact ⟨by rw [HE2.out]; rfl, FW.out.below⟩
          | true =>
            cases e with
            | false =>
              have E := HE3.out.symm
              go_wp2_with fail
              refine (QP.out _).mono ?_
              rintro _ w' ⟨rfl, rfl⟩
              go_wp2
              go_ret
              exact ⟨by rw [HE2.out]; rfl, FW.out.below⟩
            | true =>
              have E := HE3.out.symm
              go_wp2_with fail
              refine (QP.out _).mono ?_
              rintro _ w' ⟨rfl, rfl⟩
              go_wp2
              go_ret
              exact ⟨by rw [HE2.out]; rfl, FW.out.below⟩
      · have HE := Lib.hid (chk_of hk (good2 a b c op imm))
        have HE2 := Lib.hid (show chkI ⟨2, a, b, c, op, imm⟩ = if (r && eqI ⟨2, a, b, 0, 0, 0⟩ ⟨2, a, b, c, op, imm⟩) then 0 else 10 by rw [HR.out]; exact HE.out)
        clear HE hk
        obtain ⟨e, he⟩ : ∃ e, e = eqI ⟨2, a, b, 0, 0, 0⟩ ⟨2, a, b, c, op, imm⟩ := ⟨_, rfl⟩
        have HE3 := Lib.hid he
        rw [← he] at HE2
        clear he
        have FW := Lib.hid (((F1.out.drew).set 1 1 _ rfl (by simp) (.int .i64 a)).set 1 2 _ rfl (by simp) (.int .i64 b))
        go_wp2
        go_region_held3 (fun w' => w'.cell? ⟨w.heap.size, 1, none⟩ = some (.int .i64 a) ∧ w'.cell? ⟨w.heap.size, 2, none⟩ = some (.int .i64 b)) (((try dsimp only); (try go_split_ands); (repeat' apply And.intro); all_goals (repeat (first | with_reducible assumption | (with_reducible refine cell_set (by omega) ?_) | (with_reducible refine cell_drew ?_))))) (fail)
        cases r with
        | false =>
          go_wp2
          go_ret
          exact ⟨by rw [HE2.out]; rfl, FW.out.below⟩
        | true =>
          cases e with
          | false =>
            have E := HE3.out.symm
            go_wp2
            go_ret
            exact ⟨by rw [HE2.out]; rfl, FW.out.below⟩
          | true =>
            have E := HE3.out.symm
            go_wp2
            go_ret
            exact ⟨by rw [HE2.out]; rfl, FW.out.below⟩
      · have HE := Lib.hid (chk_of hk (good3 a b c op imm))
        have HE2 := Lib.hid (show chkI ⟨3, a, b, c, op, imm⟩ = if (r && opB op && eqI ⟨3, a, b, c, op, 0⟩ ⟨3, a, b, c, op, imm⟩) then 0 else 10 by rw [HR.out]; exact HE.out)
        clear HE hk
        obtain ⟨e, he⟩ : ∃ e, e = eqI ⟨3, a, b, c, op, 0⟩ ⟨3, a, b, c, op, imm⟩ := ⟨_, rfl⟩
        have HE3 := Lib.hid he
        obtain ⟨p, hp⟩ : ∃ p, p = opB op := ⟨_, rfl⟩
        have QP := Lib.hid (show CallB Try.prog 80 #[.int .i64 op] p from fun w => by rw [hp]; exact rknown_any op w)
        rw [← he, ← hp] at HE2
        clear he hp
        have FW := Lib.hid (((((F1.out.drew).set 1 1 _ rfl (by simp) (.int .i64 a)).set 1 2 _ rfl (by simp) (.int .i64 b)).set 1 3 _ rfl (by simp) (.int .i64 c)).set 1 4 _ rfl (by simp) (.int .i64 op))
        go_wp2
        have q1 := ((F1.out.drew).set 1 1 _ rfl (by simp) (.int .i64 a)).h1; have y1 := q1.cell 2 _ rfl; have yf1 := q1.free; clear q1
        have q2 := (((F1.out.drew).set 1 1 _ rfl (by simp) (.int .i64 a)).set 1 2 _ rfl (by simp) (.int .i64 b)).h1; have y2 := q2.cell 3 _ rfl; have yf2 := q2.free; clear q2
        have q3 := ((((F1.out.drew).set 1 1 _ rfl (by simp) (.int .i64 a)).set 1 2 _ rfl (by simp) (.int .i64 b)).set 1 3 _ rfl (by simp) (.int .i64 c)).h1; have y3 := q3.cell 4 _ rfl; have yf3 := q3.free; clear q3
        go_region_held3 (fun w' => w'.cell? ⟨w.heap.size, 1, none⟩ = some (.int .i64 a) ∧ w'.cell? ⟨w.heap.size, 2, none⟩ = some (.int .i64 b) ∧ w'.cell? ⟨w.heap.size, 3, none⟩ = some (.int .i64 c) ∧ w'.cell? ⟨w.heap.size, 4, none⟩ = some (.int .i64 op)) (((try dsimp only); (try go_split_ands); (repeat' apply And.intro); all_goals (repeat (first | with_reducible assumption | (with_reducible refine cell_set (by omega) ?_) | (with_reducible refine cell_drew ?_))))) (fail)
        cases r with
        | false =>
          go_wp2
          go_ret
          exact ⟨by rw [HE2.out]; rfl, FW.out.below⟩
        | true =>
          cases p with
          | false =>
            go_wp2_with fail
            refine (QP.out _).mono ?_
            rintro _ w' ⟨rfl, rfl⟩
            go_wp2
            go_ret
            exact ⟨by rw [HE2.out]; rfl, FW.out.below⟩
          | true =>
            cases e with
            | false =>
              have E := HE3.out.symm
              go_wp2_with fail
              refine (QP.out _).mono ?_
              rintro _ w' ⟨rfl, rfl⟩
              go_wp2
              go_ret
              exact ⟨by rw [HE2.out]; rfl, FW.out.below⟩
            | true =>
              have E := HE3.out.symm
              go_wp2_with fail
              refine (QP.out _).mono ?_
              rintro _ w' ⟨rfl, rfl⟩
              go_wp2
              go_ret
              exact ⟨by rw [HE2.out]; rfl, FW.out.below⟩
      · have HE := Lib.hid (chk_of hk (good4 a b c op imm))
        have HE2 := Lib.hid (show chkI ⟨4, a, b, c, op, imm⟩ = if (r && inB imm 1024 && eqI ⟨4, a, b, 0, 0, imm⟩ ⟨4, a, b, c, op, imm⟩) then 0 else 10 by rw [HR.out]; exact HE.out)
        clear HE hk
        obtain ⟨e, he⟩ : ∃ e, e = eqI ⟨4, a, b, 0, 0, imm⟩ ⟨4, a, b, c, op, imm⟩ := ⟨_, rfl⟩
        have HE3 := Lib.hid he
        obtain ⟨p, hp⟩ : ∃ p, p = inB imm 1024 := ⟨_, rfl⟩
        have QP := Lib.hid (show CallB Try.prog 79 #[.int .i64 imm, .int .i64 1024] p from fun w => by rw [hp]; exact in_any imm 1024 w)
        rw [← he, ← hp] at HE2
        clear he hp
        have FW := Lib.hid ((((F1.out.drew).set 1 1 _ rfl (by simp) (.int .i64 a)).set 1 2 _ rfl (by simp) (.int .i64 b)).set 1 5 _ rfl (by simp) (.int .i64 imm))
        go_wp2
        go_region_held3 (fun w' => w'.cell? ⟨w.heap.size, 1, none⟩ = some (.int .i64 a) ∧ w'.cell? ⟨w.heap.size, 2, none⟩ = some (.int .i64 b) ∧ w'.cell? ⟨w.heap.size, 5, none⟩ = some (.int .i64 imm)) (((try dsimp only); (try go_split_ands); (repeat' apply And.intro); all_goals (repeat (first | with_reducible assumption | (with_reducible refine cell_set (by omega) ?_) | (with_reducible refine cell_drew ?_))))) (fail)
        cases r with
        | false =>
          go_wp2
          go_ret
          exact ⟨by rw [HE2.out]; rfl, FW.out.below⟩
        | true =>
          cases p with
          | false =>
            go_wp2_with fail
            refine (QP.out _).mono ?_
            rintro _ w' ⟨rfl, rfl⟩
            go_wp2
            go_ret
            exact ⟨by rw [HE2.out]; rfl, FW.out.below⟩
          | true =>
            cases e with
            | false =>
              have E := HE3.out.symm
              go_wp2_with fail
              refine (QP.out _).mono ?_
              rintro _ w' ⟨rfl, rfl⟩
              go_wp2
              go_ret
              exact ⟨by rw [HE2.out]; rfl, FW.out.below⟩
            | true =>
              have E := HE3.out.symm
              go_wp2_with fail
              refine (QP.out _).mono ?_
              rintro _ w' ⟨rfl, rfl⟩
              go_wp2
              go_ret
              exact ⟨by rw [HE2.out]; rfl, FW.out.below⟩
      · have HE := Lib.hid (chk_of hk (good5 a b c op imm))
        have HE2 := Lib.hid (show chkI ⟨5, a, b, c, op, imm⟩ = if (r && inB imm 1024 && eqI ⟨5, a, b, 0, 0, imm⟩ ⟨5, a, b, c, op, imm⟩) then 0 else 10 by rw [HR.out]; exact HE.out)
        clear HE hk
        obtain ⟨e, he⟩ : ∃ e, e = eqI ⟨5, a, b, 0, 0, imm⟩ ⟨5, a, b, c, op, imm⟩ := ⟨_, rfl⟩
        have HE3 := Lib.hid he
        obtain ⟨p, hp⟩ : ∃ p, p = inB imm 1024 := ⟨_, rfl⟩
        have QP := Lib.hid (show CallB Try.prog 79 #[.int .i64 imm, .int .i64 1024] p from fun w => by rw [hp]; exact in_any imm 1024 w)
        rw [← he, ← hp] at HE2
        clear he hp
        have FW := Lib.hid ((((F1.out.drew).set 1 1 _ rfl (by simp) (.int .i64 a)).set 1 2 _ rfl (by simp) (.int .i64 b)).set 1 5 _ rfl (by simp) (.int .i64 imm))
        go_wp2
        go_region_held3 (fun w' => w'.cell? ⟨w.heap.size, 1, none⟩ = some (.int .i64 a) ∧ w'.cell? ⟨w.heap.size, 2, none⟩ = some (.int .i64 b) ∧ w'.cell? ⟨w.heap.size, 5, none⟩ = some (.int .i64 imm)) (((try dsimp only); (try go_split_ands); (repeat' apply And.intro); all_goals (repeat (first | with_reducible assumption | (with_reducible refine cell_set (by omega) ?_) | (with_reducible refine cell_drew ?_))))) (fail)
        cases r with
        | false =>
          go_wp2
          go_ret
          exact ⟨by rw [HE2.out]; rfl, FW.out.below⟩
        | true =>
          cases p with
          | false =>
            go_wp2_with fail
            refine (QP.out _).mono ?_
            rintro _ w' ⟨rfl, rfl⟩
            go_wp2
            go_ret
            exact ⟨by rw [HE2.out]; rfl, FW.out.below⟩
          | true =>
            cases e with
            | false =>
              have E := HE3.out.symm
              go_wp2_with fail
              refine (QP.out _).mono ?_
              rintro _ w' ⟨rfl, rfl⟩
              go_wp2
              go_ret
              exact ⟨by rw [HE2.out]; rfl, FW.out.below⟩
            | true =>
              have E := HE3.out.symm
              go_wp2_with fail
              refine (QP.out _).mono ?_
              rintro _ w' ⟨rfl, rfl⟩
              go_wp2
              go_ret
              exact ⟨by rw [HE2.out]; rfl, FW.out.below⟩
      · have HE := Lib.hid (chk_of hk (good6 a b c op imm))
        have HE2 := Lib.hid (show chkI ⟨6, a, b, c, op, imm⟩ = if (r && inB imm 1024 && eqI ⟨6, 0, 0, 0, 0, imm⟩ ⟨6, a, b, c, op, imm⟩) then 0 else 10 by rw [HR.out]; exact HE.out)
        clear HE hk
        obtain ⟨e, he⟩ : ∃ e, e = eqI ⟨6, 0, 0, 0, 0, imm⟩ ⟨6, a, b, c, op, imm⟩ := ⟨_, rfl⟩
        have HE3 := Lib.hid he
        obtain ⟨p, hp⟩ : ∃ p, p = inB imm 1024 := ⟨_, rfl⟩
        have QP := Lib.hid (show CallB Try.prog 79 #[.int .i64 imm, .int .i64 1024] p from fun w => by rw [hp]; exact in_any imm 1024 w)
        rw [← he, ← hp] at HE2
        clear he hp
        have FW := Lib.hid ((F1.out).set 1 5 _ rfl (by simp) (.int .i64 imm))
        cases r with
        | false =>
          go_wp2
          go_ret
          exact ⟨by rw [HE2.out]; rfl, FW.out.below⟩
        | true =>
          cases p with
          | false =>
            go_wp2_with fail
            refine (QP.out _).mono ?_
            rintro _ w' ⟨rfl, rfl⟩
            go_wp2
            go_ret
            exact ⟨by rw [HE2.out]; rfl, FW.out.below⟩
          | true =>
            cases e with
            | false =>
              have E := HE3.out.symm
              go_wp2_with fail
              refine (QP.out _).mono ?_
              rintro _ w' ⟨rfl, rfl⟩
              go_wp2
              go_ret
              exact ⟨by rw [HE2.out]; rfl, FW.out.below⟩
            | true =>
              have E := HE3.out.symm
              go_wp2_with fail
              refine (QP.out _).mono ?_
              rintro _ w' ⟨rfl, rfl⟩
              go_wp2
              go_ret
              exact ⟨by rw [HE2.out]; rfl, FW.out.below⟩
      · have HE := Lib.hid (chk_of hk (good7 a b c op imm))
        have HE2 := Lib.hid (show chkI ⟨7, a, b, c, op, imm⟩ = if (r && inB imm 1024 && eqI ⟨7, a, 0, 0, 0, imm⟩ ⟨7, a, b, c, op, imm⟩) then 0 else 10 by rw [HR.out]; exact HE.out)
        clear HE hk
        obtain ⟨e, he⟩ : ∃ e, e = eqI ⟨7, a, 0, 0, 0, imm⟩ ⟨7, a, b, c, op, imm⟩ := ⟨_, rfl⟩
        have HE3 := Lib.hid he
        obtain ⟨p, hp⟩ : ∃ p, p = inB imm 1024 := ⟨_, rfl⟩
        have QP := Lib.hid (show CallB Try.prog 79 #[.int .i64 imm, .int .i64 1024] p from fun w => by rw [hp]; exact in_any imm 1024 w)
        rw [← he, ← hp] at HE2
        clear he hp
        have FW := Lib.hid (((F1.out.drew).set 1 1 _ rfl (by simp) (.int .i64 a)).set 1 5 _ rfl (by simp) (.int .i64 imm))
        go_wp2
        go_region_held3 (fun w' => w'.cell? ⟨w.heap.size, 1, none⟩ = some (.int .i64 a) ∧ w'.cell? ⟨w.heap.size, 5, none⟩ = some (.int .i64 imm)) (((try dsimp only); (try go_split_ands); (repeat' apply And.intro); all_goals (repeat (first | with_reducible assumption | (with_reducible refine cell_set (by omega) ?_) | (with_reducible refine cell_drew ?_))))) (fail)
        cases r with
        | false =>
          go_wp2
          go_ret
          exact ⟨by rw [HE2.out]; rfl, FW.out.below⟩
        | true =>
          cases p with
          | false =>
            go_wp2_with fail
            refine (QP.out _).mono ?_
            rintro _ w' ⟨rfl, rfl⟩
            go_wp2
            go_ret
            exact ⟨by rw [HE2.out]; rfl, FW.out.below⟩
          | true =>
            cases e with
            | false =>
              have E := HE3.out.symm
              go_wp2_with fail
              refine (QP.out _).mono ?_
              rintro _ w' ⟨rfl, rfl⟩
              go_wp2
              go_ret
              exact ⟨by rw [HE2.out]; rfl, FW.out.below⟩
            | true =>
              have E := HE3.out.symm
              go_wp2_with fail
              refine (QP.out _).mono ?_
              rintro _ w' ⟨rfl, rfl⟩
              go_wp2
              go_ret
              exact ⟨by rw [HE2.out]; rfl, FW.out.below⟩
      · have HE := Lib.hid (chk_of hk (good8 a b c op imm))
        have HE2 := Lib.hid (show chkI ⟨8, a, b, c, op, imm⟩ = if (r && inB imm 4 && eqI ⟨8, 0, 0, 0, 0, imm⟩ ⟨8, a, b, c, op, imm⟩) then 0 else 10 by rw [HR.out]; exact HE.out)
        clear HE hk
        obtain ⟨e, he⟩ : ∃ e, e = eqI ⟨8, 0, 0, 0, 0, imm⟩ ⟨8, a, b, c, op, imm⟩ := ⟨_, rfl⟩
        have HE3 := Lib.hid he
        obtain ⟨p, hp⟩ : ∃ p, p = inB imm 4 := ⟨_, rfl⟩
        have QP := Lib.hid (show CallB Try.prog 79 #[.int .i64 imm, .int .i64 4] p from fun w => by rw [hp]; exact in_any imm 4 w)
        rw [← he, ← hp] at HE2
        clear he hp
        have FW := Lib.hid ((F1.out).set 1 5 _ rfl (by simp) (.int .i64 imm))
        cases r with
        | false =>
          go_wp2
          go_ret
          exact ⟨by rw [HE2.out]; rfl, FW.out.below⟩
        | true =>
          cases p with
          | false =>
            go_wp2_with fail
            refine (QP.out _).mono ?_
            rintro _ w' ⟨rfl, rfl⟩
            go_wp2
            go_ret
            exact ⟨by rw [HE2.out]; rfl, FW.out.below⟩
          | true =>
            cases e with
            | false =>
              have E := HE3.out.symm
              go_wp2_with fail
              refine (QP.out _).mono ?_
              rintro _ w' ⟨rfl, rfl⟩
              go_wp2
              go_ret
              exact ⟨by rw [HE2.out]; rfl, FW.out.below⟩
            | true =>
              have E := HE3.out.symm
              go_wp2_with fail
              refine (QP.out _).mono ?_
              rintro _ w' ⟨rfl, rfl⟩
              go_wp2
              go_ret
              exact ⟨by rw [HE2.out]; rfl, FW.out.below⟩
      · have HE := Lib.hid (chk_of hk (good9 a b c op imm))
        have HE2 := Lib.hid (show chkI ⟨9, a, b, c, op, imm⟩ = if (r && inB imm 4 && eqI ⟨9, 0, 0, 0, 0, imm⟩ ⟨9, a, b, c, op, imm⟩) then 0 else 10 by rw [HR.out]; exact HE.out)
        clear HE hk
        obtain ⟨e, he⟩ : ∃ e, e = eqI ⟨9, 0, 0, 0, 0, imm⟩ ⟨9, a, b, c, op, imm⟩ := ⟨_, rfl⟩
        have HE3 := Lib.hid he
        obtain ⟨p, hp⟩ : ∃ p, p = inB imm 4 := ⟨_, rfl⟩
        have QP := Lib.hid (show CallB Try.prog 79 #[.int .i64 imm, .int .i64 4] p from fun w => by rw [hp]; exact in_any imm 4 w)
        rw [← he, ← hp] at HE2
        clear he hp
        have FW := Lib.hid ((F1.out).set 1 5 _ rfl (by simp) (.int .i64 imm))
        cases r with
        | false =>
          go_wp2
          go_ret
          exact ⟨by rw [HE2.out]; rfl, FW.out.below⟩
        | true =>
          cases p with
          | false =>
            go_wp2_with fail
            refine (QP.out _).mono ?_
            rintro _ w' ⟨rfl, rfl⟩
            go_wp2
            go_ret
            exact ⟨by rw [HE2.out]; rfl, FW.out.below⟩
          | true =>
            cases e with
            | false =>
              have E := HE3.out.symm
              go_wp2_with fail
              refine (QP.out _).mono ?_
              rintro _ w' ⟨rfl, rfl⟩
              go_wp2
              go_ret
              exact ⟨by rw [HE2.out]; rfl, FW.out.below⟩
            | true =>
              have E := HE3.out.symm
              go_wp2_with fail
              refine (QP.out _).mono ?_
              rintro _ w' ⟨rfl, rfl⟩
              go_wp2
              go_ret
              exact ⟨by rw [HE2.out]; rfl, FW.out.below⟩
      · have HE := Lib.hid (chk_of hk (good10 a b c op imm))
        have HE2 := Lib.hid (show chkI ⟨10, a, b, c, op, imm⟩ = if (r && eqI ⟨10, 0, 0, 0, 0, 0⟩ ⟨10, a, b, c, op, imm⟩) then 0 else 10 by rw [HR.out]; exact HE.out)
        clear HE hk
        obtain ⟨e, he⟩ : ∃ e, e = eqI ⟨10, 0, 0, 0, 0, 0⟩ ⟨10, a, b, c, op, imm⟩ := ⟨_, rfl⟩
        have HE3 := Lib.hid he
        rw [← he] at HE2
        clear he
        have FW := Lib.hid (F1.out)
        cases r with
        | false =>
          go_wp2
          go_ret
          exact ⟨by rw [HE2.out]; rfl, FW.out.below⟩
        | true =>
          cases e with
          | false =>
            have E := HE3.out.symm
            go_wp2
            go_ret
            exact ⟨by rw [HE2.out]; rfl, FW.out.below⟩
          | true =>
            have E := HE3.out.symm
            go_wp2
            go_ret
            exact ⟨by rw [HE2.out]; rfl, FW.out.below⟩
    · have h' : kn k = false := by simpa using hk
      have HE := Lib.hid (show chkI ⟨k, a, b, c, op, imm⟩ = 6 by unfold chkI; rw [h']; rfl)
      simp [kn] at hk
      have n0 : (k == 0) = false := by simp; omega
      have n1 : (k == 1) = false := by simp; omega
      have n2 : (k == 2) = false := by simp; omega
      have n3 : (k == 3) = false := by simp; omega
      have n4 : (k == 4) = false := by simp; omega
      have n5 : (k == 5) = false := by simp; omega
      have n6 : (k == 6) = false := by simp; omega
      have n7 : (k == 7) = false := by simp; omega
      have n8 : (k == 8) = false := by simp; omega
      have n9 : (k == 9) = false := by simp; omega
      have n10 : (k == 10) = false := by simp; omega
      clear hk h'
      go_wp2
      go_ret
      exact ⟨by rw [HE.out]; rfl, F1.out.below⟩
end Go.Proofs.Ytonbmijhbbodnaa
