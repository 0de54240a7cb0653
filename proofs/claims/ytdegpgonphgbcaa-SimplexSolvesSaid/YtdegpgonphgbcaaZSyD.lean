/-
  The document's terms of a model.
  The document's Row.
-/
import Derived.Test.YtdegpgonphgbcaaZSxO
namespace Go.Proofs.Ytdegpgonphgbcaa
open Go.RowKit
set_option maxRecDepth 100000 in
set_option maxHeartbeats 8000000 in
theorem rterms_any (K : Nat → Prop) (l : List (Int × Int)) (cols most : Int) (hm : 0 ≤ most ∧ most ≤ 1000000000) (w : World) (a : Option Addr) (n c : Nat) (R : Row RTm 2 K w a n c l) :
    Calls Try.prog 56 #[.slice a n c, .int .i64 cols, .int .i64 most] w (TermRet l cols most w) := by
  have HR := Lib.hid R
  have h6 := R.hsz
  have HL := Lib.hid R.hlen
  obtain ⟨z, hz⟩ : ∃ z, z = -most := ⟨_, rfl⟩
  have wz : IntKind.i64.wrap (-most) = z := by rw [Go.IntWalk.i64_in _ ⟨by omega, by omega⟩]; omega
  have HM := Lib.hid hm
  have HZ := Lib.hid hz
  clear R hm hz
  go_enter Try.func56, Try.ntmps56
  go_wp2
  go_loopw [11] (fun i wr => ∃ k : Nat, k ≤ n ∧ i = .int .i64 k ∧ TermsOk l cols most k ∧ Below w.heap.size w wr) (fun i _ => n - (intOf i).toNat)
  case atStart => exact ⟨0, Nat.zero_le _, rfl, fun i t h => absurd h (Nat.not_lt_zero _), Below.refl _ _⟩
  case round =>
    obtain ⟨k, hk, rfl, hT, hb⟩ := hrel
    have HT := Lib.hid hT; have HB := Lib.hid hb
    clear hT hb
    by_cases hlt : k < n
    · have RR := HR.out.keeps RTm.stays (fun x _ hl => HB.out.block x hl) HB.out.size
      obtain ⟨b, o, ⟨of_, co⟩, rfl, ht, c0, c1, kb, lb⟩ := RTm.get RR hlt
      dsimp only at c0 c1
      have RP := Lib.hid RR
      have HTT := Lib.hid ht
      clear ht RR
      obtain ⟨wx, hwx⟩ : ∃ wx, wx = wr.alloc (.cells #[.int .i64 of_, .int .i64 co] 56) := ⟨_, rfl⟩
      have BX := Lib.hid (show Below wr.heap.size wr wx by rw [hwx]; exact (Below.refl _ _).alloc (Nat.le_refl _) _)
      have YX := Lib.hid (show Blk wx wr.heap.size 56 [.int .i64 of_, .int .i64 co] by rw [hwx]; exact Blk.new wr _ _)
      have HWX := Lib.hid hwx
      clear hwx
      by_cases q1 : of_ < 0
      · have HNO := Lib.hid (show ¬ TermsOk l cols most l.length from fun h => by have h := h k (of_, co) (by have := HL.out; omega) HTT.out; have := h.1; dsimp only at this; omega)
        go_upto_region 4 with fail
        rw [← HWX.out]
        have y0 := YX.out.cell (i := 0) rfl; have y1 := YX.out.cell (i := 1) rfl
        go_quiet (fail)
        have B2 := Lib.hid (HB.out.trans (BX.out.mono HB.out.size))
        go_wp2
        go_ret
        exact ⟨false, rfl, ⟨(fun h => by cases h), (fun h => absurd h HNO.out)⟩, below_drewN B2.out nq⟩
      · by_cases q2 : cols ≤ of_
        · have HNO := Lib.hid (show ¬ TermsOk l cols most l.length from fun h => by have h := h k (of_, co) (by have := HL.out; omega) HTT.out; have := h.2.1; dsimp only at this; omega)
          go_upto_region 4 with fail
          rw [← HWX.out]
          have y0 := YX.out.cell (i := 0) rfl; have y1 := YX.out.cell (i := 1) rfl
          go_quiet (fail)
          have B2 := Lib.hid (HB.out.trans (BX.out.mono HB.out.size))
          go_wp2
          go_ret
          exact ⟨false, rfl, ⟨(fun h => by cases h), (fun h => absurd h HNO.out)⟩, below_drewN B2.out nq⟩
        · by_cases q4 : co = 0
          · subst q4
            have HNO := Lib.hid (show ¬ TermsOk l cols most l.length from fun h => by have h := h k (of_, 0) (by have := HL.out; omega) HTT.out; exact h.2.2.2.1 rfl)
            go_upto_region 4 with fail
            rw [← HWX.out]
            have y0 := YX.out.cell (i := 0) rfl; have y1 := YX.out.cell (i := 1) rfl
            go_quiet (fail)
            have B2 := Lib.hid (HB.out.trans (BX.out.mono HB.out.size))
            go_wp2
            go_ret
            exact ⟨false, rfl, ⟨(fun h => by cases h), (fun h => absurd h HNO.out)⟩, below_drewN B2.out nq⟩
          · have q5 : (co == 0) = false := by simpa using q4
            have Q4 := Lib.hid q4
            clear q4
            by_cases q6 : co < z
            · have HNO := Lib.hid (show ¬ TermsOk l cols most l.length from fun h => by have h := h k (of_, co) (by have := HL.out; omega) HTT.out; have := h.2.2.2.2.1; have := HZ.out; dsimp only at *; omega)
              go_upto_region 4 with fail
              rw [← HWX.out]
              have y0 := YX.out.cell (i := 0) rfl; have y1 := YX.out.cell (i := 1) rfl
              go_quiet (fail)
              have B2 := Lib.hid (HB.out.trans (BX.out.mono HB.out.size))
              go_wp2
              go_ret
              exact ⟨false, rfl, ⟨(fun h => by cases h), (fun h => absurd h HNO.out)⟩, below_drewN B2.out nq⟩
            · by_cases q7 : most < co
              · have HNO := Lib.hid (show ¬ TermsOk l cols most l.length from fun h => by have h := h k (of_, co) (by have := HL.out; omega) HTT.out; have := h.2.2.2.2.2; dsimp only at this; omega)
                go_upto_region 4 with fail
                rw [← HWX.out]
                have y0 := YX.out.cell (i := 0) rfl; have y1 := YX.out.cell (i := 1) rfl
                go_quiet (fail)
                have B2 := Lib.hid (HB.out.trans (BX.out.mono HB.out.size))
                go_wp2
                go_ret
                exact ⟨false, rfl, ⟨(fun h => by cases h), (fun h => absurd h HNO.out)⟩, below_drewN B2.out nq⟩
              · rcases Nat.eq_zero_or_pos k with hk0 | hk0
                · have hk1 : decide (0 < k) = false := decide_eq_false (by omega)
                  have HK0 := Lib.hid hk0
                  clear hk0
                  have HYES := Lib.hid (show TermsOk l cols most (k + 1) from fun i t hi ht => by
                    by_cases e : i = k
                    · subst e
                      rw [HTT.out] at ht
                      cases ht
                      exact ⟨by omega, by omega, (fun p' s e hs => by
                        have := HK0.out
                        omega), Q4.out, by have := HZ.out; omega, by omega⟩
                    · exact HT.out i t (by omega) ht)
                  go_upto_region 4 with fail
                  rw [← HWX.out]
                  have y0 := YX.out.cell (i := 0) rfl; have y1 := YX.out.cell (i := 1) rfl
                  go_quiet (fail)
                  have B2 := Lib.hid (HB.out.trans (BX.out.mono HB.out.size))
                  go_wp2
                  go_roundw
                  case rel => exact ⟨k + 1, by omega, by go_num, HYES.out, below_drewN B2.out nq⟩
                  case measure => simp [intOf]; omega
                · obtain ⟨p, hp⟩ : ∃ p, k = p + 1 := ⟨k - 1, by omega⟩
                  have wp : IntKind.i64.wrap ((k : Int) - 1) = (p : Int) := by rw [Go.IntWalk.i64_in _ ⟨by omega, by omega⟩]; omega
                  have hpn : (p : Int) < (n : Int) := by omega
                  have hk1 : decide (0 < k) = true := decide_eq_true hk0
                  clear hk0
                  obtain ⟨b', o', ⟨pof, pco⟩, hbb, hpt, p0, _, _, _⟩ := RTm.get RP.out (show p < n by omega)
                  obtain ⟨rfl, rfl⟩ : b = b' ∧ o = o' := by cases hbb; exact ⟨rfl, rfl⟩
                  dsimp only at p0
                  have HPV := Lib.hid hpt
                  have HP := Lib.hid hp
                  clear hpt hbb hp
                  by_cases q3 : of_ ≤ pof
                  · have HNO := Lib.hid (show ¬ TermsOk l cols most l.length from fun h => by have h := h k (of_, co) (by have := HL.out; omega) HTT.out; have := h.2.2.1 p _ HP.out HPV.out; dsimp only at this; omega)
                    go_upto_region 4 with fail
                    rw [← HWX.out]
                    have y0 := YX.out.cell (i := 0) rfl; have y1 := YX.out.cell (i := 1) rfl
                    have p0 := (BX.out.cell (p := ⟨b, o + p * 2, none⟩) lb).trans p0
                    go_quiet (fail)
                    have B2 := Lib.hid (HB.out.trans (BX.out.mono HB.out.size))
                    go_wp2
                    go_ret
                    exact ⟨false, rfl, ⟨(fun h => by cases h), (fun h => absurd h HNO.out)⟩, below_drewN B2.out nq⟩
                  · have HYES := Lib.hid (show TermsOk l cols most (k + 1) from fun i t hi ht => by
                      by_cases e : i = k
                      · subst e
                        rw [HTT.out] at ht
                        cases ht
                        exact ⟨by omega, by omega, (fun p' s e hs => by
                          obtain rfl : p' = p := by have := HP.out; omega
                          rw [HPV.out] at hs
                          cases hs
                          dsimp only
                          omega), Q4.out, by have := HZ.out; omega, by omega⟩
                      · exact HT.out i t (by omega) ht)
                    go_upto_region 4 with fail
                    rw [← HWX.out]
                    have y0 := YX.out.cell (i := 0) rfl; have y1 := YX.out.cell (i := 1) rfl
                    have p0 := (BX.out.cell (p := ⟨b, o + p * 2, none⟩) lb).trans p0
                    go_quiet (fail)
                    have B2 := Lib.hid (HB.out.trans (BX.out.mono HB.out.size))
                    go_wp2
                    go_roundw
                    case rel => exact ⟨k + 1, by omega, by go_num, HYES.out, below_drewN B2.out nq⟩
                    case measure => simp [intOf]; omega
    · have hk2 : n = k := by omega
      subst hk2
      have HY := Lib.hid (show TermsOk l cols most l.length by rw [HL.out]; exact HT.out)
      go_wp2
      go_ret
      exact ⟨true, rfl, ⟨fun _ => HY.out, fun _ => rfl⟩, HB.out⟩
set_option maxRecDepth 100000 in
set_option maxHeartbeats 4000000 in
theorem rrow_any (K : Nat → Prop) (tm : List (Int × Int)) (x cols : Int) (a : Option Addr) (n c : Nat) (w : World) (R : Row RTm 2 K w a n c tm) :
    Calls Try.prog 55 #[.agg #[.slice a n c, .int .i64 x], .int .i64 cols] w (YesNo (RowOk (tm, x) cols 1048576 1048576) w) := by
  obtain ⟨w1, hw1⟩ : ∃ w1, w1 = w.alloc (.cells #[.slice a n c, .int .i64 x] 50) := ⟨_, rfl⟩
  have B1 := Lib.hid (show Below w.heap.size w w1 by rw [hw1]; exact (Below.refl _ _).alloc (Nat.le_refl _) _)
  have R1 := Lib.hid (show Blk w1 w.heap.size 50 [.slice a n c, .int .i64 x] by rw [hw1]; exact Blk.new w _ _)
  have TR := Lib.hid (rterms_any K tm cols 1048576 (by decide) w1 a n c (R.keeps RTm.stays (fun y _ hl => B1.out.block y hl) B1.out.size))
  have r0 := R1.out.cell (i := 0) rfl
  have HW1 := Lib.hid hw1
  clear hw1 R
  go_enter Try.func55, Try.ntmps55
  go_upto_region 1 with fail
  rw [← HW1.out]
  go_wp2_with fail
  refine TR.out.mono ?_
  rintro e w2 ⟨r, rfl, hr, hb⟩
  have HR := Lib.hid hr
  have B2 := Lib.hid (B1.out.trans (hb.mono B1.out.size))
  have s1 := (hb.cell (p := ⟨w.heap.size, 1, none⟩) R1.out.lt).trans (R1.out.cell (i := 1) rfl)
  clear hr hb r0
  cases r with
  | false =>
    have NO := Lib.hid (show ¬ RowOk (tm, x) cols 1048576 1048576 from fun h => by have := HR.out.2 h.1; cases this)
    go_wp2
    go_ret
    exact no_ret NO.out B2.out rfl
  | true =>
    have T0 := Lib.hid (HR.out.1 rfl)
    by_cases q1 : -1048576 ≤ x
    · by_cases q2 : x ≤ 1048576
      · have OK := Lib.hid (show RowOk (tm, x) cols 1048576 1048576 from ⟨T0.out, q1, q2⟩)
        go_wp2
        go_ret
        exact yes_ret OK.out B2.out rfl
      · have NO := Lib.hid (show ¬ RowOk (tm, x) cols 1048576 1048576 from fun h => q2 h.2.2)
        go_wp2
        go_ret
        exact no_ret NO.out B2.out (by simpa using q2)
    · have NO := Lib.hid (show ¬ RowOk (tm, x) cols 1048576 1048576 from fun h => q1 h.2.1)
      go_wp2
      go_ret
      exact no_ret NO.out B2.out rfl
set_option maxRecDepth 100000 in
set_option maxHeartbeats 8000000 in
theorem rvalidm_any (K : Nat → Prop) (cols : Int) (rows : List (List (Int × Int) × Int)) (goal : List (Int × Int)) (c0 : Int) (ra : Option Addr) (rn rc : Nat) (ga : Option Addr) (gn gc : Nat) (w : World) (R : Row RRw 2 K w ra rn rc rows) (G : Row RTm 2 K w ga gn gc goal) :
    Calls Try.prog 26 #[MdV cols (.slice ra rn rc) ga gn gc c0] w (YesNo (ValidP cols rows goal c0) w) := by
  obtain ⟨wa, hwa⟩ : ∃ wa, wa = w.alloc (.cells (MdC cols (.slice ra rn rc) ga gn gc c0).toArray 28) := ⟨_, rfl⟩
  have BA := Lib.hid (show Below w.heap.size w wa by rw [hwa]; exact (Below.refl _ _).alloc (Nat.le_refl _) _)
  have MA := Lib.hid (show Blk wa w.heap.size 28 (MdC cols (.slice ra rn rc) ga gn gc c0) by rw [hwa]; exact Blk.new w _ _)
  have HWA := Lib.hid hwa; have HR := Lib.hid R; have HG := Lib.hid G; have HL := Lib.hid R.hlen
  have h6 := R.hsz
  have m1 := MA.out.cell (i := 1) rfl
  clear hwa R G
  go_enter Try.func26, Try.ntmps26
  go_upto_region 1 with fail
  rw [← HWA.out]
  go_wp2
  clear m1
  go_loopw [8] (fun i wr => ∃ k : Nat, k ≤ rn ∧ i = .int .i64 k ∧ (∀ x, x ∈ rows.take k → RowOk x cols 1048576 1048576) ∧ Below wa.heap.size wa wr) (fun i _ => rn - (intOf i).toNat)
  case atStart => exact ⟨0, Nat.zero_le _, rfl, by simp, Below.refl _ _⟩
  case round =>
    obtain ⟨k, hk, rfl, hT, hb⟩ := hrel
    have HT := Lib.hid hT; have HB := Lib.hid hb
    have HBW := Lib.hid (BA.out.trans (hb.mono BA.out.size))
    have MR := Lib.hid (MA.out.below hb MA.out.lt)
    clear hT hb
    by_cases hlt : k < rn
    · obtain ⟨⟨tm, x⟩, hx⟩ : ∃ t, rows[k]? = some t := ⟨_, List.getElem?_eq_getElem (by have := HL.out; omega)⟩
      obtain ⟨b, o, rfl, kb, lb, ⟨ta, tn, tc, t0, htm⟩, t1⟩ := (HR.out.keeps RRw.stays (fun y _ hl => HBW.out.block y hl) HBW.out.size).row k (tm, x) hx
      dsimp only at t0 t1
      have HX := Lib.hid hx
      obtain ⟨w3, hw3⟩ : ∃ w3, w3 = wr.alloc (.cells #[.slice ta tn tc, .int .i64 x] 50) := ⟨_, rfl⟩
      have A3 := Lib.hid (show Below wr.heap.size wr w3 by rw [hw3]; exact (Below.refl _ _).alloc (Nat.le_refl _) _)
      have X3 := Lib.hid (show Blk w3 wr.heap.size 50 [.slice ta tn tc, .int .i64 x] by rw [hw3]; exact Blk.new wr _ _)
      have CL := Lib.hid (rrow_any K tm x cols ta tn tc w3 (htm.keeps RTm.stays (fun y _ hl => A3.out.block y hl) A3.out.size))
      have M3 := Lib.hid (MR.out.below A3.out MR.out.lt)
      have HW3 := Lib.hid hw3
      clear hx htm hw3
      go_upto_region 4 with fail
      rw [← HW3.out]
      have m0 := M3.out.cell (i := 0) rfl
      have x0 := X3.out.cell (i := 0) rfl; have x1 := X3.out.cell (i := 1) rfl
      go_wp2_with fail
      refine CL.out.mono ?_
      rintro e w4 ⟨r, rfl, hr, hb⟩
      have HRR := Lib.hid hr
      have B4 := Lib.hid (HB.out.trans ((A3.out.trans (hb.mono A3.out.size)).mono HB.out.size))
      clear hr hb m0 x0 x1 t0 t1
      cases r with
      | false =>
        have NO := Lib.hid (show ¬ ValidP cols rows goal c0 from fun h => by have := HRR.out.2 (h.2.2.2.2.2.2 _ (List.mem_of_getElem? HX.out)); cases this)
        go_wp2
        go_ret
        exact no_ret NO.out (BA.out.trans (B4.out.mono BA.out.size)) rfl
      | true =>
        have HT2 := Lib.hid (show ∀ y, y ∈ rows.take (k + 1) → RowOk y cols 1048576 1048576 from fun y hy => by
          rw [List.take_add_one, HX.out, List.mem_append] at hy
          rcases hy with h | h
          · exact HT.out y h
          · have e : y = (tm, x) := by simpa using h
            subst e
            exact HRR.out.1 rfl)
        go_wp2
        go_roundw
        case rel => exact ⟨k + 1, by omega, by go_num, HT2.out, B4.out⟩
        case measure => simp [intOf]; omega
    · obtain rfl : k = rn := by omega
      have HA := Lib.hid (show ∀ x ∈ rows, RowOk x cols 1048576 1048576 from fun x hx => HT.out x (by rw [List.take_of_length_le (by rw [HL.out]; exact Nat.le_refl _)]; exact hx))
      have m0 := MR.out.cell (i := 0) rfl; have m1 := MR.out.cell (i := 1) rfl; have m2 := MR.out.cell (i := 2) rfl
      have TR := Lib.hid (rterms_any K goal cols 16777216 (by decide) wr ga gn gc (HG.out.keeps RTm.stays (fun y _ hl => HBW.out.block y hl) HBW.out.size))
      by_cases q1 : 0 ≤ cols
      rotate_left
      · have NO := Lib.hid (show ¬ ValidP cols rows goal c0 from fun h => q1 h.1)
        go_wp2
        go_ret
        exact no_ret NO.out HBW.out rfl
      by_cases q2 : cols ≤ 300
      rotate_left
      · have NO := Lib.hid (show ¬ ValidP cols rows goal c0 from fun h => q2 h.2.1)
        go_wp2
        go_ret
        exact no_ret NO.out HBW.out rfl
      by_cases q3 : k ≤ 400
      rotate_left
      · have NO := Lib.hid (show ¬ ValidP cols rows goal c0 from fun h => q3 (by have := h.2.2.1; have := HL.out; omega))
        have q3' : ¬ ((k : Int) ≤ 400) := by omega
        go_wp2
        go_ret
        exact no_ret NO.out HBW.out rfl
      have q3' : ((k : Int) ≤ 400) := by omega
      go_wp2_with fail
      refine TR.out.mono ?_
      rintro e w2 ⟨r, rfl, hr, hb⟩
      have HRR := Lib.hid hr
      have B2 := Lib.hid (HBW.out.trans (hb.mono HBW.out.size))
      have m3 := (MR.out.below hb MR.out.lt).cell (i := 3) rfl
      clear hr hb m0 m1 m2
      cases r with
      | false =>
        have NO := Lib.hid (show ¬ ValidP cols rows goal c0 from fun h => by have := HRR.out.2 h.2.2.2.1; cases this)
        go_wp2
        go_ret
        exact no_ret NO.out B2.out rfl
      | true =>
        have T0 := Lib.hid (HRR.out.1 rfl)
        by_cases q4 : -16777216 ≤ c0
        · by_cases q5 : c0 ≤ 16777216
          · have YES := Lib.hid (show ValidP cols rows goal c0 from ⟨q1, q2, by rw [HL.out]; exact q3', T0.out, q4, q5, HA.out⟩)
            go_wp2
            go_ret
            exact yes_ret YES.out B2.out rfl
          · have NO := Lib.hid (show ¬ ValidP cols rows goal c0 from fun h => q5 h.2.2.2.2.2.1)
            go_wp2
            go_ret
            exact no_ret NO.out B2.out (by simpa using q5)
        · have NO := Lib.hid (show ¬ ValidP cols rows goal c0 from fun h => q4 h.2.2.2.2.1)
          go_wp2
          go_ret
          exact no_ret NO.out B2.out rfl
end Go.Proofs.Ytdegpgonphgbcaa
