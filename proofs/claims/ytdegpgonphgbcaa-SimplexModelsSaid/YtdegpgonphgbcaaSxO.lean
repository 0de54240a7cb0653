/-
  The limits of models: simplex.within, Terms, limited, Valid, Small.
-/
import Derived.Deep.DeepCutAuto
import Derived.Deep.QuietTactic
import Derived.Test.YtdegpgonphgbcaaSxMb
import Derived.Test.YtdegpgonphgbcaaQuiet
namespace Go.Proofs.Ytdegpgonphgbcaa
open Go.RowKit

theorem within_any (n most : Int) (hm : 0 ≤ most ∧ most ≤ 1000000000) (w : World) : Calls Try.prog 75 #[.int .i64 n, .int .i64 most] w fun e w' => e = .returned (.bool (decide (-most ≤ n ∧ n ≤ most))) ∧ w' = w := by
  obtain ⟨z, hz⟩ : ∃ z, z = -most := ⟨_, rfl⟩
  have wz : IntKind.i64.wrap (-most) = z := by rw [Go.IntWalk.i64_in _ ⟨by omega, by omega⟩]; omega
  by_cases h1 : z ≤ n
  · by_cases h2 : n ≤ most
    · have HD := Lib.hid (show decide (-most ≤ n ∧ n ≤ most) = true from decide_eq_true ⟨by omega, h2⟩)
      go_enter Try.func75, Try.ntmps75
      go_wp2
      go_ret
      exact ⟨by rw [HD.out]; rfl, rfl⟩
    · have h2' : most < n := by omega
      go_enter Try.func75, Try.ntmps75
      go_wp2
      go_ret
      exact ⟨by simp; omega, rfl⟩
  · have h1' : n < z := by omega
    go_enter Try.func75, Try.ntmps75
    go_wp2
    go_ret
    exact ⟨by simp; omega, rfl⟩
/-- The first k terms ascend and lie within the limits. -/
def TermsOk (l : List (Int × Int)) (cols most : Int) (k : Nat) : Prop := ∀ i t, i < k → l[i]? = some t → 0 ≤ t.1 ∧ t.1 < cols ∧ (∀ p s, i = p + 1 → l[p]? = some s → s.1 < t.1) ∧ t.2 ≠ 0 ∧ -most ≤ t.2 ∧ t.2 ≤ most
def TermRet (l : List (Int × Int)) (cols most : Int) (w : World) (e : Ending) (w' : World) : Prop := ∃ r : Bool, e = .returned (.bool r) ∧ (r = true ↔ TermsOk l cols most l.length) ∧ Below w.heap.size w w'
theorem RTm.get {K : Nat → Prop} {w : World} {a : Option Addr} {n c k : Nat} {l : List (Int × Int)} (r : Row RTm 2 K w a n c l) (hk : k < n) : ∃ b o t, a = some ⟨b, o, none⟩ ∧ l[k]? = some t ∧ w.cell? ⟨b, o + k * 2, none⟩ = some (.int .i64 t.1) ∧ w.cell? ⟨b, o + k * 2 + 1, none⟩ = some (.int .i64 t.2) ∧ K b ∧ b < w.heap.size := by
  obtain ⟨t, ht⟩ : ∃ t, l[k]? = some t := ⟨_, List.getElem?_eq_getElem (by have := r.hlen; omega)⟩
  obtain ⟨b, o, h1, h2, h3, h4⟩ := r.row k t ht
  exact ⟨b, o, t, h1, ht, h4.1, h4.2, h2, h3⟩
set_option maxRecDepth 100000 in
set_option maxHeartbeats 8000000 in
theorem terms_any (K : Nat → Prop) (l : List (Int × Int)) (cols most : Int) (hm : 0 ≤ most ∧ most ≤ 1000000000) (w : World) (a : Option Addr) (n c : Nat) (R : Row RTm 2 K w a n c l) :
    Calls Try.prog 74 #[.slice a n c, .int .i64 cols, .int .i64 most] w (TermRet l cols most w) := by
  have HR := Lib.hid R
  have h6 := R.hsz
  have HL := Lib.hid R.hlen
  have HM := Lib.hid hm
  clear R hm
  go_enter Try.func74, Try.ntmps74
  go_wp2
  go_loopw [11] (fun i wr => ∃ k : Nat, k ≤ n ∧ i = .int .i64 k ∧ TermsOk l cols most k ∧ Below w.heap.size w wr) (fun i _ => n - (intOf i).toNat)
  case atStart => exact ⟨0, Nat.zero_le _, rfl, fun i t h => absurd h (Nat.not_lt_zero _), Below.refl _ _⟩
  case round =>
    obtain ⟨k, hk, rfl, hT, hb⟩ := hrel
    have HT := Lib.hid hT; have HB := Lib.hid hb
    clear hT hb
    by_cases hlt : k < n
    · have RR := HR.out.keeps RTm.stays (fun x _ hl => HB.out.block x hl) HB.out.size
      obtain ⟨b, o, ⟨of_, co⟩, rfl, ht, c0, c1, kb, lb⟩ := RTm.get RR hlt
      dsimp only at c0 c1
      have RP := Lib.hid RR
      have HTT := Lib.hid ht
      have W0 := Lib.hid (fun wq => within_any co most HM.out wq)
      clear ht RR
      obtain ⟨wx, hwx⟩ : ∃ wx, wx = wr.alloc (.cells #[.int .i64 of_, .int .i64 co] 56) := ⟨_, rfl⟩
      have BX := Lib.hid (show Below wr.heap.size wr wx by rw [hwx]; exact (Below.refl _ _).alloc (Nat.le_refl _) _)
      have YX := Lib.hid (show Blk wx wr.heap.size 56 [.int .i64 of_, .int .i64 co] by rw [hwx]; exact Blk.new wr _ _)
      have HWX := Lib.hid hwx
      clear hwx
      by_cases q1 : of_ < 0
      · have W1 := W0
        have HNO := Lib.hid (show ¬ TermsOk l cols most l.length from fun h => by have h := h k (of_, co) (by have := HL.out; omega) HTT.out; have := h.1; dsimp only at this; omega)
        go_upto_region 4 with fail
        rw [← HWX.out]
        have y0 := YX.out.cell (i := 0) rfl; have y1 := YX.out.cell (i := 1) rfl
        go_quiet ((go_at_call 75; with_reducible exact Calls.quiet_of_same (W1.out _)))
        have B2 := Lib.hid (HB.out.trans (BX.out.mono HB.out.size))
        go_wp2
        go_ret
        exact ⟨false, rfl, ⟨(fun h => by cases h), (fun h => absurd h HNO.out)⟩, below_drewN B2.out nq⟩
      · by_cases q2 : of_ ≥ cols
        · have W1 := W0
          have HNO := Lib.hid (show ¬ TermsOk l cols most l.length from fun h => by have h := h k (of_, co) (by have := HL.out; omega) HTT.out; have := h.2.1; dsimp only at this; omega)
          go_upto_region 4 with fail
          rw [← HWX.out]
          have y0 := YX.out.cell (i := 0) rfl; have y1 := YX.out.cell (i := 1) rfl
          go_quiet ((go_at_call 75; with_reducible exact Calls.quiet_of_same (W1.out _)))
          have B2 := Lib.hid (HB.out.trans (BX.out.mono HB.out.size))
          go_wp2
          go_ret
          exact ⟨false, rfl, ⟨(fun h => by cases h), (fun h => absurd h HNO.out)⟩, below_drewN B2.out nq⟩
        · rcases Nat.eq_zero_or_pos k with hk0 | hk0
          · have hk1 : decide (0 < k) = false := decide_eq_false (by omega)
            have HK0 := Lib.hid hk0
            clear hk0
            by_cases q4 : co = 0
            · subst q4
              have W1 := W0
              have HNO := Lib.hid (show ¬ TermsOk l cols most l.length from fun h => by have h := h k (of_, 0) (by have := HL.out; omega) HTT.out; exact h.2.2.2.1 rfl)
              go_upto_region 4 with fail
              rw [← HWX.out]
              have y0 := YX.out.cell (i := 0) rfl; have y1 := YX.out.cell (i := 1) rfl
              go_quiet ((go_at_call 75; with_reducible exact Calls.quiet_of_same (W1.out _)))
              have B2 := Lib.hid (HB.out.trans (BX.out.mono HB.out.size))
              go_wp2
              go_ret
              exact ⟨false, rfl, ⟨(fun h => by cases h), (fun h => absurd h HNO.out)⟩, below_drewN B2.out nq⟩
            · have q5 : (co == 0) = false := by simpa using q4
              have Q4 := Lib.hid q4
              clear q4
              by_cases hin : -most ≤ co ∧ co ≤ most
              · have W1 := Lib.hid (show ∀ wq : World, Calls Try.prog 75 #[.int .i64 co, .int .i64 most] wq fun e w' => e = .returned (.bool true) ∧ w' = wq from fun wq => by have := W0.out wq; rw [decide_eq_true hin] at this; exact this)
                have HIN := Lib.hid hin
                clear hin
                have HYES := Lib.hid (show TermsOk l cols most (k + 1) from fun i t hi ht => by
                  by_cases e : i = k
                  · subst e
                    rw [HTT.out] at ht
                    cases ht
                    exact ⟨by omega, by omega, (fun p' s e hs => by
                      have := HK0.out
                      omega), Q4.out, HIN.out.1, HIN.out.2⟩
                  · exact HT.out i t (by omega) ht)
                go_upto_region 4 with fail
                rw [← HWX.out]
                have y0 := YX.out.cell (i := 0) rfl; have y1 := YX.out.cell (i := 1) rfl
                go_quiet ((go_at_call 75; with_reducible exact Calls.quiet_of_same (W1.out _)))
                have B2 := Lib.hid (HB.out.trans (BX.out.mono HB.out.size))
                go_wp2
                go_roundw
                case rel => exact ⟨k + 1, by omega, by go_num, HYES.out, below_drewN B2.out nq⟩
                case measure => simp [intOf]; omega
              · have W1 := Lib.hid (show ∀ wq : World, Calls Try.prog 75 #[.int .i64 co, .int .i64 most] wq fun e w' => e = .returned (.bool false) ∧ w' = wq from fun wq => by have := W0.out wq; rw [decide_eq_false hin] at this; exact this)
                have HIN := Lib.hid hin
                clear hin
                have HNO := Lib.hid (show ¬ TermsOk l cols most l.length from fun h => by have h := h k (of_, co) (by have := HL.out; omega) HTT.out; exact HIN.out ⟨h.2.2.2.2.1, h.2.2.2.2.2⟩)
                go_upto_region 4 with fail
                rw [← HWX.out]
                have y0 := YX.out.cell (i := 0) rfl; have y1 := YX.out.cell (i := 1) rfl
                go_quiet ((go_at_call 75; with_reducible exact Calls.quiet_of_same (W1.out _)))
                have B2 := Lib.hid (HB.out.trans (BX.out.mono HB.out.size))
                go_wp2
                go_ret
                exact ⟨false, rfl, ⟨(fun h => by cases h), (fun h => absurd h HNO.out)⟩, below_drewN B2.out nq⟩
          · obtain ⟨p, hp⟩ : ∃ p, k = p + 1 := ⟨k - 1, by omega⟩
            have wp : IntKind.i64.wrap ((k : Int) - 1) = (p : Int) := by rw [Go.IntWalk.i64_in _ ⟨by omega, by omega⟩]; omega
            have hpn : (p : Int) < (n : Int) := by omega
            have hk1 : decide (0 < k) = true := decide_eq_true hk0
            have HKP := Lib.hid hk0
            clear hk0
            obtain ⟨b', o', ⟨pof, pco⟩, hbb, hpt, p0, _, _, _⟩ := RTm.get RP.out (show p < n by omega)
            obtain ⟨rfl, rfl⟩ : b = b' ∧ o = o' := by cases hbb; exact ⟨rfl, rfl⟩
            dsimp only at p0
            have HPV := Lib.hid hpt
            have HP := Lib.hid hp
            clear hpt hbb hp
            by_cases q3 : pof ≥ of_
            · have W1 := W0
              have HNO := Lib.hid (show ¬ TermsOk l cols most l.length from fun h => by have h := h k (of_, co) (by have := HL.out; omega) HTT.out; have := h.2.2.1 p _ HP.out HPV.out; dsimp only at this; omega)
              go_upto_region 4 with fail
              rw [← HWX.out]
              have y0 := YX.out.cell (i := 0) rfl; have y1 := YX.out.cell (i := 1) rfl
              have p0 := (BX.out.cell (p := ⟨b, o + p * 2, none⟩) lb).trans p0
              go_quiet ((go_at_call 75; with_reducible exact Calls.quiet_of_same (W1.out _)))
              have B2 := Lib.hid (HB.out.trans (BX.out.mono HB.out.size))
              go_wp2
              go_ret
              exact ⟨false, rfl, ⟨(fun h => by cases h), (fun h => absurd h HNO.out)⟩, below_drewN B2.out nq⟩
            · have hpp := HP
              by_cases q4 : co = 0
              · subst q4
                have W1 := W0
                have HNO := Lib.hid (show ¬ TermsOk l cols most l.length from fun h => by have h := h k (of_, 0) (by have := HL.out; omega) HTT.out; exact h.2.2.2.1 rfl)
                go_upto_region 4 with fail
                rw [← HWX.out]
                have y0 := YX.out.cell (i := 0) rfl; have y1 := YX.out.cell (i := 1) rfl
                have p0 := (BX.out.cell (p := ⟨b, o + p * 2, none⟩) lb).trans p0
                go_quiet ((go_at_call 75; with_reducible exact Calls.quiet_of_same (W1.out _)))
                have B2 := Lib.hid (HB.out.trans (BX.out.mono HB.out.size))
                go_wp2
                go_ret
                exact ⟨false, rfl, ⟨(fun h => by cases h), (fun h => absurd h HNO.out)⟩, below_drewN B2.out nq⟩
              · have q5 : (co == 0) = false := by simpa using q4
                have Q4 := Lib.hid q4
                clear q4
                by_cases hin : -most ≤ co ∧ co ≤ most
                · have W1 := Lib.hid (show ∀ wq : World, Calls Try.prog 75 #[.int .i64 co, .int .i64 most] wq fun e w' => e = .returned (.bool true) ∧ w' = wq from fun wq => by have := W0.out wq; rw [decide_eq_true hin] at this; exact this)
                  have HIN := Lib.hid hin
                  clear hin
                  have HYES := Lib.hid (show TermsOk l cols most (k + 1) from fun i t hi ht => by
                    by_cases e : i = k
                    · subst e
                      rw [HTT.out] at ht
                      cases ht
                      exact ⟨by omega, by omega, (fun p' s e hs => by
                        obtain rfl : p' = p := by have := HP.out; omega
                        rw [HPV.out] at hs
                        cases hs
                        dsimp only
                        omega), Q4.out, HIN.out.1, HIN.out.2⟩
                    · exact HT.out i t (by omega) ht)
                  go_upto_region 4 with fail
                  rw [← HWX.out]
                  have y0 := YX.out.cell (i := 0) rfl; have y1 := YX.out.cell (i := 1) rfl
                  have p0 := (BX.out.cell (p := ⟨b, o + p * 2, none⟩) lb).trans p0
                  go_quiet ((go_at_call 75; with_reducible exact Calls.quiet_of_same (W1.out _)))
                  have B2 := Lib.hid (HB.out.trans (BX.out.mono HB.out.size))
                  go_wp2
                  go_roundw
                  case rel => exact ⟨k + 1, by omega, by go_num, HYES.out, below_drewN B2.out nq⟩
                  case measure => simp [intOf]; omega
                · have W1 := Lib.hid (show ∀ wq : World, Calls Try.prog 75 #[.int .i64 co, .int .i64 most] wq fun e w' => e = .returned (.bool false) ∧ w' = wq from fun wq => by have := W0.out wq; rw [decide_eq_false hin] at this; exact this)
                  have HIN := Lib.hid hin
                  clear hin
                  have HNO := Lib.hid (show ¬ TermsOk l cols most l.length from fun h => by have h := h k (of_, co) (by have := HL.out; omega) HTT.out; exact HIN.out ⟨h.2.2.2.2.1, h.2.2.2.2.2⟩)
                  go_upto_region 4 with fail
                  rw [← HWX.out]
                  have y0 := YX.out.cell (i := 0) rfl; have y1 := YX.out.cell (i := 1) rfl
                  have p0 := (BX.out.cell (p := ⟨b, o + p * 2, none⟩) lb).trans p0
                  go_quiet ((go_at_call 75; with_reducible exact Calls.quiet_of_same (W1.out _)))
                  have B2 := Lib.hid (HB.out.trans (BX.out.mono HB.out.size))
                  go_wp2
                  go_ret
                  exact ⟨false, rfl, ⟨(fun h => by cases h), (fun h => absurd h HNO.out)⟩, below_drewN B2.out nq⟩
    · have hk2 : n = k := by omega
      subst hk2
      have HY := Lib.hid (show TermsOk l cols most l.length by rw [HL.out]; exact HT.out)
      go_wp2
      go_ret
      exact ⟨true, rfl, ⟨fun _ => HY.out, fun _ => rfl⟩, HB.out⟩
end Go.Proofs.Ytdegpgonphgbcaa
