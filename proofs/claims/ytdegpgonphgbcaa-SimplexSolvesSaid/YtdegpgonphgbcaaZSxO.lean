/-
  The limits of models.
  The limits of models.
  simplex.
-/
import Derived.Deep.DeepCutAuto
import Derived.Deep.QuietTactic
import Derived.Test.YtdegpgonphgbcaaZSxM
import Derived.Test.YtdegpgonphgbcaaQuiet
namespace Go.Proofs.Ytdegpgonphgbcaa
open Go.RowKit
theorem within_any (n most : Int) (hm : 0 ≤ most ∧ most ≤ 1000000000) (w : World) : Calls Try.prog 75 #[.int .i64 n, .int .i64 most] w fun e w' => e = .returned (.bool (decide (-most ≤ n ∧ n ≤ most))) ∧ w' = w := by
  obtain ⟨z, hz⟩ : ∃ z, z = -most := ⟨_, rfl⟩
  have wz : IntKind.i64.wrap (-most) = z := by rw [Go.IntWalk.i64_in _ ⟨by omega, by omega⟩]; omega
  by_cases h1 : z ≤ n
  · by_cases h2 : n ≤ most
    · have HD := Lib.hid (show decide (-most ≤ n ∧ n ≤ most) = true from decide_eq_true ⟨by omega, h2⟩)
      go_enter Try.func75, Try.ntmps75
      go_wp2
      go_ret
      exact ⟨by rw [HD.out]; rfl, rfl⟩
    · have h2' : most < n := by omega
      go_enter Try.func75, Try.ntmps75
      go_wp2
      go_ret
      exact ⟨by simp; omega, rfl⟩
  · have h1' : n < z := by omega
    go_enter Try.func75, Try.ntmps75
    go_wp2
    go_ret
    exact ⟨by simp; omega, rfl⟩
def TermsOk (l : List (Int × Int)) (cols most : Int) (k : Nat) : Prop := ∀ i t, i < k → l[i]? = some t → 0 ≤ t.1 ∧ t.1 < cols ∧ (∀ p s, i = p + 1 → l[p]? = some s → s.1 < t.1) ∧ t.2 ≠ 0 ∧ -most ≤ t.2 ∧ t.2 ≤ most
def TermRet (l : List (Int × Int)) (cols most : Int) (w : World) (e : Ending) (w' : World) : Prop := ∃ r : Bool, e = .returned (.bool r) ∧ (r = true ↔ TermsOk l cols most l.length) ∧ Below w.heap.size w w'
theorem RTm.get {K : Nat → Prop} {w : World} {a : Option Addr} {n c k : Nat} {l : List (Int × Int)} (r : Row RTm 2 K w a n c l) (hk : k < n) : ∃ b o t, a = some ⟨b, o, none⟩ ∧ l[k]? = some t ∧ w.cell? ⟨b, o + k * 2, none⟩ = some (.int .i64 t.1) ∧ w.cell? ⟨b, o + k * 2 + 1, none⟩ = some (.int .i64 t.2) ∧ K b ∧ b < w.heap.size := by
  obtain ⟨t, ht⟩ : ∃ t, l[k]? = some t := ⟨_, List.getElem?_eq_getElem (by have := r.hlen; omega)⟩
  obtain ⟨b, o, h1, h2, h3, h4⟩ := r.row k t ht
  exact ⟨b, o, t, h1, ht, h4.1, h4.2, h2, h3⟩
set_option maxRecDepth 100000 in
set_option maxHeartbeats 8000000 in
theorem terms_any (K : Nat → Prop) (l : List (Int × Int)) (cols most : Int) (hm : 0 ≤ most ∧ most ≤ 1000000000) (w : World) (a : Option Addr) (n c : Nat) (R : Row RTm 2 K w a n c l) :
    Calls Try.prog 74 #[.slice a n c, .int .i64 cols, .int .i64 most] w (TermRet l cols most w) := by
  have HR := Lib.hid R
  have h6 := R.hsz
  have HL := Lib.hid R.hlen
  have HM := Lib.hid hm
  clear R hm
  go_enter Try.func74, Try.ntmps74
  go_wp2
  go_loopw [11] (fun i wr => ∃ k : Nat, k ≤ n ∧ i = .int .i64 k ∧ TermsOk l cols most k ∧ Below w.heap.size w wr) (fun i _ => n - (intOf i).toNat)
  case atStart => exact ⟨0, Nat.zero_le _, rfl, fun i t h => absurd h (Nat.not_lt_zero _), Below.refl _ _⟩
  case round =>
    obtain ⟨k, hk, rfl, hT, hb⟩ := hrel
    have HT := Lib.hid hT; have HB := Lib.hid hb
    clear hT hb
    by_cases hlt : k < n
    · have RR := HR.out.keeps RTm.stays (fun x _ hl => HB.out.block x hl) HB.out.size
      obtain ⟨b, o, ⟨of_, co⟩, rfl, ht, c0, c1, kb, lb⟩ := RTm.get RR hlt
      dsimp only at c0 c1
      have RP := Lib.hid RR
      have HTT := Lib.hid ht
      have W0 := Lib.hid (fun wq => within_any co most HM.out wq)
      clear ht RR
      obtain ⟨wx, hwx⟩ : ∃ wx, wx = wr.alloc (.cells #[.int .i64 of_, .int .i64 co] 56) := ⟨_, rfl⟩
      have BX := Lib.hid (show Below wr.heap.size wr wx by rw [hwx]; exact (Below.refl _ _).alloc (Nat.le_refl _) _)
      have YX := Lib.hid (show Blk wx wr.heap.size 56 [.int .i64 of_, .int .i64 co] by rw [hwx]; exact Blk.new wr _ _)
      have HWX := Lib.hid hwx
      clear hwx
      by_cases q1 : of_ < 0
      · have W1 := W0
        have HNO := Lib.hid (show ¬ TermsOk l cols most l.length from fun h => by have h := h k (of_, co) (by have := HL.out; omega) HTT.out; have := h.1; dsimp only at this; omega)
        go_upto_region 4 with fail
        rw [← HWX.out]
        have y0 := YX.out.cell (i := 0) rfl; have y1 := YX.out.cell (i := 1) rfl
        go_quiet ((go_at_call 75; with_reducible exact Calls.quiet_of_same (W1.out _)))
        have B2 := Lib.hid (HB.out.trans (BX.out.mono HB.out.size))
        go_wp2
        go_ret
        exact ⟨false, rfl, ⟨(fun h => by cases h), (fun h => absurd h HNO.out)⟩, below_drewN B2.out nq⟩
      · by_cases q2 : of_ ≥ cols
        · have W1 := W0
          have HNO := Lib.hid (show ¬ TermsOk l cols most l.length from fun h => by have h := h k (of_, co) (by have := HL.out; omega) HTT.out; have := h.2.1; dsimp only at this; omega)
          go_upto_region 4 with fail
          rw [← HWX.out]
          have y0 := YX.out.cell (i := 0) rfl; have y1 := YX.out.cell (i := 1) rfl
          go_quiet ((go_at_call 75; with_reducible exact Calls.quiet_of_same (W1.out _)))
          have B2 := Lib.hid (HB.out.trans (BX.out.mono HB.out.size))
          go_wp2
          go_ret
          exact ⟨false, rfl, ⟨(fun h => by cases h), (fun h => absurd h HNO.out)⟩, below_drewN B2.out nq⟩
        · rcases Nat.eq_zero_or_pos k with hk0 | hk0
          · have hk1 : decide (0 < k) = false := decide_eq_false (by omega)
            have HK0 := Lib.hid hk0
            clear hk0
            by_cases q4 : co = 0
            · subst q4
              have W1 := W0
              have HNO := Lib.hid (show ¬ TermsOk l cols most l.length from fun h => by have h := h k (of_, 0) (by have := HL.out; omega) HTT.out; exact h.2.2.2.1 rfl)
              go_upto_region 4 with fail
              rw [← HWX.out]
              have y0 := YX.out.cell (i := 0) rfl; have y1 := YX.out.cell (i := 1) rfl
              go_quiet ((go_at_call 75; with_reducible exact Calls.quiet_of_same (W1.out _)))
              have B2 := Lib.hid (HB.out.trans (BX.out.mono HB.out.size))
              go_wp2
              go_ret
              exact ⟨false, rfl, ⟨(fun h => by cases h), (fun h => absurd h HNO.out)⟩, below_drewN B2.out nq⟩
            · have q5 : (co == 0) = false := by simpa using q4
              have Q4 := Lib.hid q4
              clear q4
              by_cases hin : -most ≤ co ∧ co ≤ most
              · have W1 := Lib.hid (show ∀ wq : World, Calls Try.prog 75 #[.int .i64 co, .int .i64 most] wq fun e w' => e = .returned (.bool true) ∧ w' = wq from fun wq => by have := W0.out wq; rw [decide_eq_true hin] at this; exact this)
                have HIN := Lib.hid hin
                clear hin
                have HYES := Lib.hid (show TermsOk l cols most (k + 1) from fun i t hi ht => by
                  by_cases e : i = k
                  · subst e
                    rw [HTT.out] at ht
                    cases ht
                    exact ⟨by omega, by omega, (fun p' s e hs => by
                      have := HK0.out
                      omega), Q4.out, HIN.out.1, HIN.out.2⟩
                  · exact HT.out i t (by omega) ht)
                go_upto_region 4 with fail
                rw [← HWX.out]
                have y0 := YX.out.cell (i := 0) rfl; have y1 := YX.out.cell (i := 1) rfl
                go_quiet ((go_at_call 75; with_reducible exact Calls.quiet_of_same (W1.out _)))
                have B2 := Lib.hid (HB.out.trans (BX.out.mono HB.out.size))
                go_wp2
                go_roundw
                case rel => exact ⟨k + 1, by omega, by go_num, HYES.out, below_drewN B2.out nq⟩
                case measure => simp [intOf]; omega
              · have W1 := Lib.hid (show ∀ wq : World, Calls Try.prog 75 #[.int .i64 co, .int .i64 most] wq fun e w' => e = .returned (.bool false) ∧ w' = wq from fun wq => by have := W0.out wq; rw [decide_eq_false hin] at this; exact this)
                have HIN := Lib.hid hin
                clear hin
                have HNO := Lib.hid (show ¬ TermsOk l cols most l.length from fun h => by have h := h k (of_, co) (by have := HL.out; omega) HTT.out; exact HIN.out ⟨h.2.2.2.2.1, h.2.2.2.2.2⟩)
                go_upto_region 4 with fail
                rw [← HWX.out]
                have y0 := YX.out.cell (i := 0) rfl; have y1 := YX.out.cell (i := 1) rfl
                go_quiet ((go_at_call 75; with_reducible exact Calls.quiet_of_same (W1.out _)))
                have B2 := Lib.hid (HB.out.trans (BX.out.mono HB.out.size))
                go_wp2
                go_ret
                exact ⟨false, rfl, ⟨(fun h => by cases h), (fun h => absurd h HNO.out)⟩, below_drewN B2.out nq⟩
          · obtain ⟨p, hp⟩ : ∃ p, k = p + 1 := ⟨k - 1, by omega⟩
            have wp : IntKind.i64.wrap ((k : Int) - 1) = (p : Int) := by rw [Go.IntWalk.i64_in _ ⟨by omega, by omega⟩]; omega
            have hpn : (p : Int) < (n : Int) := by omega
            have hk1 : decide (0 < k) = true := decide_eq_true hk0
            have HKP := Lib.hid hk0
            clear hk0
            obtain ⟨b', o', ⟨pof, pco⟩, hbb, hpt, p0, _, _, _⟩ := RTm.get RP.out (show p < n by omega)
            obtain ⟨rfl, rfl⟩ : b = b' ∧ o = o' := by cases hbb; exact ⟨rfl, rfl⟩
            dsimp only at p0
            have HPV := Lib.hid hpt
            have HP := Lib.hid hp
            clear hpt hbb hp
            by_cases q3 : pof ≥ of_
            · have W1 := W0
              have HNO := Lib.hid (show ¬ TermsOk l cols most l.length from fun h => by have h := h k (of_, co) (by have := HL.out; omega) HTT.out; have := h.2.2.1 p _ HP.out HPV.out; dsimp only at this; omega)
              go_upto_region 4 with fail
              rw [← HWX.out]
              have y0 := YX.out.cell (i := 0) rfl; have y1 := YX.out.cell (i := 1) rfl
              have p0 := (BX.out.cell (p := ⟨b, o + p * 2, none⟩) lb).trans p0
              go_quiet ((go_at_call 75; with_reducible exact Calls.quiet_of_same (W1.out _)))
              have B2 := Lib.hid (HB.out.trans (BX.out.mono HB.out.size))
              go_wp2
              go_ret
              exact ⟨false, rfl, ⟨(fun h => by cases h), (fun h => absurd h HNO.out)⟩, below_drewN B2.out nq⟩
            · have hpp := HP
              by_cases q4 : co = 0
              · subst q4
                have W1 := W0
                have HNO := Lib.hid (show ¬ TermsOk l cols most l.length from fun h => by have h := h k (of_, 0) (by have := HL.out; omega) HTT.out; exact h.2.2.2.1 rfl)
                go_upto_region 4 with fail
                rw [← HWX.out]
                have y0 := YX.out.cell (i := 0) rfl; have y1 := YX.out.cell (i := 1) rfl
                have p0 := (BX.out.cell (p := ⟨b, o + p * 2, none⟩) lb).trans p0
                go_quiet ((go_at_call 75; with_reducible exact Calls.quiet_of_same (W1.out _)))
                have B2 := Lib.hid (HB.out.trans (BX.out.mono HB.out.size))
                go_wp2
                go_ret
                exact ⟨false, rfl, ⟨(fun h => by cases h), (fun h => absurd h HNO.out)⟩, below_drewN B2.out nq⟩
              · have q5 : (co == 0) = false := by simpa using q4
                have Q4 := Lib.hid q4
                clear q4
                by_cases hin : -most ≤ co ∧ co ≤ most
                · have W1 := Lib.hid (show ∀ wq : World, Calls Try.prog 75 #[.int .i64 co, .int .i64 most] wq fun e w' => e = .returned (.bool true) ∧ w' = wq from fun wq => by have := W0.out wq; rw [decide_eq_true hin] at this; exact this)
                  have HIN := Lib.hid hin
                  clear hin
                  have HYES := Lib.hid (show TermsOk l cols most (k + 1) from fun i t hi ht => by
                    by_cases e : i = k
                    · subst e
                      rw [HTT.out] at ht
                      cases ht
                      exact ⟨by omega, by omega, (fun p' s e hs => by
                        obtain rfl : p' = p := by have := HP.out; omega
                        rw [HPV.out] at hs
                        cases hs
                        dsimp only
                        omega), Q4.out, HIN.out.1, HIN.out.2⟩
                    · exact HT.out i t (by omega) ht)
                  go_upto_region 4 with fail
                  rw [← HWX.out]
                  have y0 := YX.out.cell (i := 0) rfl; have y1 := YX.out.cell (i := 1) rfl
                  have p0 := (BX.out.cell (p := ⟨b, o + p * 2, none⟩) lb).trans p0
                  go_quiet ((go_at_call 75; with_reducible exact Calls.quiet_of_same (W1.out _)))
                  have B2 := Lib.hid (HB.out.trans (BX.out.mono HB.out.size))
                  go_wp2
                  go_roundw
                  case rel => exact ⟨k + 1, by omega, by go_num, HYES.out, below_drewN B2.out nq⟩
                  case measure => simp [intOf]; omega
                · have W1 := Lib.hid (show ∀ wq : World, Calls Try.prog 75 #[.int .i64 co, .int .i64 most] wq fun e w' => e = .returned (.bool false) ∧ w' = wq from fun wq => by have := W0.out wq; rw [decide_eq_false hin] at this; exact this)
                  have HIN := Lib.hid hin
                  clear hin
                  have HNO := Lib.hid (show ¬ TermsOk l cols most l.length from fun h => by have h := h k (of_, co) (by have := HL.out; omega) HTT.out; exact HIN.out ⟨h.2.2.2.2.1, h.2.2.2.2.2⟩)
                  go_upto_region 4 with fail
                  rw [← HWX.out]
                  have y0 := YX.out.cell (i := 0) rfl; have y1 := YX.out.cell (i := 1) rfl
                  have p0 := (BX.out.cell (p := ⟨b, o + p * 2, none⟩) lb).trans p0
                  go_quiet ((go_at_call 75; with_reducible exact Calls.quiet_of_same (W1.out _)))
                  have B2 := Lib.hid (HB.out.trans (BX.out.mono HB.out.size))
                  go_wp2
                  go_ret
                  exact ⟨false, rfl, ⟨(fun h => by cases h), (fun h => absurd h HNO.out)⟩, below_drewN B2.out nq⟩
    · have hk2 : n = k := by omega
      subst hk2
      have HY := Lib.hid (show TermsOk l cols most l.length by rw [HL.out]; exact HT.out)
      go_wp2
      go_ret
      exact ⟨true, rfl, ⟨fun _ => HY.out, fun _ => rfl⟩, HB.out⟩
def RowOk (x : List (Int × Int) × Int) (cols entry most : Int) : Prop := TermsOk x.1 cols entry x.1.length ∧ -most ≤ x.2 ∧ x.2 ≤ most
def YesNo (p : Prop) (w : World) (e : Ending) (w' : World) : Prop := ∃ r : Bool, e = .returned (.bool r) ∧ (r = true ↔ p) ∧ Below w.heap.size w w'
theorem yes_ret {p : Prop} {w w' : World} {b : Bool} (h : p) (hb : Below w.heap.size w w') (e : b = true) : YesNo p w (.returned (.bool b)) w' := ⟨b, rfl, ⟨fun _ => h, fun _ => e⟩, hb⟩
theorem no_ret {p : Prop} {w w' : World} {b : Bool} (h : ¬ p) (hb : Below w.heap.size w w') (e : b = false) : YesNo p w (.returned (.bool b)) w' := ⟨b, rfl, ⟨(fun h => by rw [e] at h; cases h), fun k => absurd k h⟩, hb⟩
set_option maxRecDepth 100000 in
set_option maxHeartbeats 4000000 in
theorem lclo_any (K : Nat → Prop) (tm : List (Int × Int)) (x cols entry most : Int) (h1 : 0 ≤ entry ∧ entry ≤ 1000000000) (h2 : 0 ≤ most ∧ most ≤ 1000000000) (a : Option Addr) (n c : Nat) (M E S : Nat) (w : World) (R : Row RTm 2 K w a n c tm) (cM : w.cell? ⟨M, 0, none⟩ = some (.int .i64 cols)) (cE : w.cell? ⟨E, 0, none⟩ = some (.int .i64 entry)) (cS : w.cell? ⟨S, 0, none⟩ = some (.int .i64 most)) :
    Calls Try.prog 77 #[.agg #[.slice a n c, .int .i64 x], .pointer (some ⟨M, 0, none⟩), .pointer (some ⟨E, 0, none⟩), .pointer (some ⟨S, 0, none⟩)] w (YesNo (¬ RowOk (tm, x) cols entry most) w) := by
  obtain ⟨w1, hw1⟩ : ∃ w1, w1 = w.alloc (.cells #[.slice a n c, .int .i64 x] 50) := ⟨_, rfl⟩
  have B1 := Lib.hid (show Below w.heap.size w w1 by rw [hw1]; exact (Below.refl _ _).alloc (Nat.le_refl _) _)
  have R1 := Lib.hid (show Blk w1 w.heap.size 50 [.slice a n c, .int .i64 x] by rw [hw1]; exact Blk.new w _ _)
  have TR := Lib.hid (terms_any K tm cols entry h1 w1 a n c (R.keeps RTm.stays (fun y _ hl => B1.out.block y hl) B1.out.size))
  have lM := World.block_lt_of_cell? w _ cM; have lE := World.block_lt_of_cell? w _ cE; have lS := World.block_lt_of_cell? w _ cS
  dsimp only at lM lE lS
  have dM := (B1.out.cell (p := ⟨M, 0, none⟩) lM).trans cM
  have dE := (B1.out.cell (p := ⟨E, 0, none⟩) lE).trans cE
  have dS := (B1.out.cell (p := ⟨S, 0, none⟩) lS).trans cS
  have r0 := R1.out.cell (i := 0) rfl; have r1 := R1.out.cell (i := 1) rfl
  have LL := Lib.hid (show M < w.heap.size ∧ E < w.heap.size ∧ S < w.heap.size from ⟨lM, lE, lS⟩)
  have HW1 := Lib.hid hw1
  have H2 := Lib.hid h2
  clear lM lE lS cM cE cS R hw1 h1 h2
  go_enter Try.func77, Try.ntmps77
  go_upto_region 1 with fail
  rw [← HW1.out]
  go_wp2_with fail
  refine TR.out.mono ?_
  rintro e w2 ⟨r, rfl, hr, hb⟩
  have HR := Lib.hid hr
  have B2 := Lib.hid hb
  have e1 := R1.out.lt
  have s1 := (hb.cell (p := ⟨w.heap.size, 1, none⟩) e1).trans r1
  have s2 := (hb.cell (p := ⟨S, 0, none⟩) (by have := LL.out; have := B1.out.size; show S < w1.heap.size; omega)).trans dS
  clear hr hb r0 r1 dM dE dS
  cases r with
  | false =>
    have NO := Lib.hid (show ¬ RowOk (tm, x) cols entry most from fun h => by have := HR.out.2 h.1; cases this)
    go_wp2
    go_ret
    exact yes_ret NO.out (B1.out.trans (B2.out.mono B1.out.size)) rfl
  | true =>
    have W0 := Lib.hid (within_any x most H2.out w2)
    by_cases hin : -most ≤ x ∧ x ≤ most
    · rw [decide_eq_true hin] at W0
      have OK := Lib.hid (show RowOk (tm, x) cols entry most from ⟨HR.out.1 rfl, hin⟩)
      clear hin
      go_wp2_with fail
      refine W0.out.mono ?_
      rintro e w3 ⟨rfl, rfl⟩
      go_wp2
      go_ret
      exact no_ret (fun h => h OK.out) (B1.out.trans (B2.out.mono B1.out.size)) rfl
    · rw [decide_eq_false hin] at W0
      have NO := Lib.hid (show ¬ RowOk (tm, x) cols entry most from fun h => hin h.2)
      clear hin
      go_wp2_with fail
      refine W0.out.mono ?_
      rintro e w3 ⟨rfl, rfl⟩
      go_wp2
      go_ret
      exact yes_ret NO.out (B1.out.trans (B2.out.mono B1.out.size)) rfl
set_option maxRecDepth 100000 in
set_option maxHeartbeats 4000000 in
theorem lidx_any (K : Nat → Prop) (rows : List (List (Int × Int) × Int)) (cols entry most : Int) (h1 : 0 ≤ entry ∧ entry ≤ 1000000000) (h2 : 0 ≤ most ∧ most ≤ 1000000000) (a : Option Addr) (n c : Nat) (M E S : Nat) (w : World) (R : Row RRw 2 K w a n c rows) (cM : w.cell? ⟨M, 0, none⟩ = some (.int .i64 cols)) (cE : w.cell? ⟨E, 0, none⟩ = some (.int .i64 entry)) (cS : w.cell? ⟨S, 0, none⟩ = some (.int .i64 most)) :
    Calls Try.prog 88 #[.slice a n c, .func (.func 77) #[] #[.pointer (some ⟨M, 0, none⟩), .pointer (some ⟨E, 0, none⟩), .pointer (some ⟨S, 0, none⟩)]] w fun e w' => ∃ i : Int, e = .returned (.int .i64 i) ∧ (0 ≤ i ↔ ∃ x ∈ rows, ¬ RowOk x cols entry most) ∧ Below w.heap.size w w' := by
  have HR := Lib.hid R; have HM := Lib.hid cM; have HE := Lib.hid cE; have HS := Lib.hid cS; have HL := Lib.hid R.hlen; have h6 := R.hsz; have H1 := Lib.hid h1; have H2 := Lib.hid h2
  clear R cM cE cS h1 h2
  go_enter Try.func88, Try.ntmps88
  go_wp2
  go_loopw [8] (fun i wr => ∃ k : Nat, k ≤ n ∧ i = .int .i64 k ∧ (∀ x, x ∈ rows.take k → RowOk x cols entry most) ∧ Below w.heap.size w wr) (fun i _ => n - (intOf i).toNat)
  case atStart => exact ⟨0, Nat.zero_le _, rfl, by simp, Below.refl _ _⟩
  case round =>
    obtain ⟨k, hk, rfl, hT, hb⟩ := hrel
    have HT := Lib.hid hT; have HB := Lib.hid hb
    clear hT hb
    by_cases hlt : k < n
    · obtain ⟨⟨tm, x⟩, hx⟩ : ∃ t, rows[k]? = some t := ⟨_, List.getElem?_eq_getElem (by have := HL.out; omega)⟩
      obtain ⟨b, o, rfl, kb, lb, ⟨ta, tn, tc, t0, htm⟩, t1⟩ := (HR.out.keeps RRw.stays (fun y _ hl => HB.out.block y hl) HB.out.size).row k (tm, x) hx
      dsimp only at t0 t1
      have HX := Lib.hid hx
      have low : ∀ {p : Nat} {v : Value}, w.cell? ⟨p, 0, none⟩ = some v → wr.cell? ⟨p, 0, none⟩ = some v := fun {p v} h => (HB.out.cell (p := ⟨p, 0, none⟩) (World.block_lt_of_cell? w _ h)).trans h
      have CL := Lib.hid (lclo_any K tm x cols entry most H1.out H2.out ta tn tc M E S wr htm (low HM.out) (low HE.out) (low HS.out))
      have hk1 : (k : Int) < (n : Int) := by omega
      clear hx low htm
      go_wp2_with fail
      refine CL.out.mono ?_
      rintro e w1 ⟨r, rfl, hr, hb⟩
      have HRR := Lib.hid hr
      have B1 := Lib.hid (HB.out.trans (hb.mono HB.out.size))
      clear hr hb
      cases r with
      | true =>
        have YES := Lib.hid (show ∃ x ∈ rows, ¬ RowOk x cols entry most from ⟨_, List.mem_of_getElem? HX.out, HRR.out.1 rfl⟩)
        go_wp2
        go_ret
        exact ⟨_, rfl, ⟨fun _ => YES.out, fun _ => by omega⟩, B1.out⟩
      | false =>
        have HT2 := Lib.hid (show ∀ y, y ∈ rows.take (k + 1) → RowOk y cols entry most from fun y hy => by
          rw [List.take_add_one, HX.out, List.mem_append] at hy
          rcases hy with h | h
          · exact HT.out y h
          · have e : y = (tm, x) := by simpa using h
            subst e
            exact Classical.byContradiction fun h => by have := HRR.out.2 h; cases this)
        go_wp2
        go_roundw
        case rel => exact ⟨k + 1, by omega, by go_num, HT2.out, B1.out⟩
        case measure => simp [intOf]; omega
    · obtain rfl : k = n := by omega
      have NO := Lib.hid (show ¬ ∃ x ∈ rows, ¬ RowOk x cols entry most from fun ⟨x, hx, hb⟩ => hb (HT.out x (by rw [List.take_of_length_le (by rw [HL.out]; exact Nat.le_refl _)]; exact hx)))
      go_wp2
      go_ret
      exact ⟨-1, rfl, ⟨fun h => by omega, fun h => absurd h NO.out⟩, HB.out⟩
theorem lcont_any (K : Nat → Prop) (rows : List (List (Int × Int) × Int)) (cols entry most : Int) (h1 : 0 ≤ entry ∧ entry ≤ 1000000000) (h2 : 0 ≤ most ∧ most ≤ 1000000000) (a : Option Addr) (n c : Nat) (M E S : Nat) (w : World) (R : Row RRw 2 K w a n c rows) (cM : w.cell? ⟨M, 0, none⟩ = some (.int .i64 cols)) (cE : w.cell? ⟨E, 0, none⟩ = some (.int .i64 entry)) (cS : w.cell? ⟨S, 0, none⟩ = some (.int .i64 most)) :
    Calls Try.prog 76 #[.slice a n c, .func (.func 77) #[] #[.pointer (some ⟨M, 0, none⟩), .pointer (some ⟨E, 0, none⟩), .pointer (some ⟨S, 0, none⟩)]] w (YesNo (∃ x ∈ rows, ¬ RowOk x cols entry most) w) := by
  have VI := Lib.hid (lidx_any K rows cols entry most h1 h2 a n c M E S w R cM cE cS)
  clear R cM cE cS
  go_enter Try.func76, Try.ntmps76
  go_wp2_with fail
  refine VI.out.mono ?_
  rintro e w1 ⟨i, rfl, hi, hb⟩
  have HI := Lib.hid hi; have HB := Lib.hid hb
  clear hi hb
  go_wp2
  go_ret
  exact ⟨_, rfl, decide_eq_true_iff.trans HI.out, HB.out⟩
def LimOk (cols : Int) (rows : List (List (Int × Int) × Int)) (goal : List (Int × Int)) (c0 : Int) (mc mr me mg mk mm : Int) : Prop :=
  0 ≤ cols ∧ cols ≤ mc ∧ (rows.length : Int) ≤ mr ∧ TermsOk goal cols mg goal.length ∧ -mk ≤ c0 ∧ c0 ≤ mk ∧ ∀ x ∈ rows, RowOk x cols me mm
set_option maxRecDepth 100000 in
set_option maxHeartbeats 8000000 in
theorem limited_any (K : Nat → Prop) (cols : Int) (rows : List (List (Int × Int) × Int)) (goal : List (Int × Int)) (c0 mc mr me mg mk mm : Int) (h1 : 0 ≤ me ∧ me ≤ 1000000000) (h2 : 0 ≤ mm ∧ mm ≤ 1000000000) (h3 : 0 ≤ mg ∧ mg ≤ 1000000000) (h4 : 0 ≤ mk ∧ mk ≤ 1000000000)
    (ra : Option Addr) (rn rc : Nat) (ga : Option Addr) (gn gc : Nat) (w : World) (R : Row RRw 2 K w ra rn rc rows) (G : Row RTm 2 K w ga gn gc goal) :
    Calls Try.prog 54 #[MdV cols (.slice ra rn rc) ga gn gc c0, .int .i64 mc, .int .i64 mr, .int .i64 me, .int .i64 mg, .int .i64 mk, .int .i64 mm] w (YesNo (LimOk cols rows goal c0 mc mr me mg mk mm) w) := by
  obtain ⟨wa, hwa⟩ : ∃ wa, wa = ((w.alloc (.cells (MdC cols (.slice ra rn rc) ga gn gc c0).toArray 28)).alloc (.cells #[.int .i64 me] 3)).alloc (.cells #[.int .i64 mm] 3) := ⟨_, rfl⟩
  have BA := Lib.hid (show Below w.heap.size w wa by rw [hwa]; exact (((Below.refl _ _).alloc (Nat.le_refl _) _).alloc (by simp) _).alloc (by simp; omega) _)
  have MA := Lib.hid (show Blk wa w.heap.size 28 (MdC cols (.slice ra rn rc) ga gn gc c0) by rw [hwa]; exact ((Blk.new w _ _).old _).old _)
  have EA := Lib.hid (show Blk wa (w.heap.size + 1) 3 [.int .i64 me] by rw [hwa]; exact ((Blk.new (w.alloc _) [.int .i64 me] 3).old _).at' (by simp))
  have SA := Lib.hid (show Blk wa (w.heap.size + 2) 3 [.int .i64 mm] by rw [hwa]; exact (Blk.new ((w.alloc _).alloc _) [.int .i64 mm] 3).at' (by simp))
  have HWA := Lib.hid hwa
  have RA := Lib.hid (R.keeps RRw.stays (fun y _ hl => BA.out.block y hl) BA.out.size)
  have GA := Lib.hid (terms_any K goal cols mg h3 wa ga gn gc (G.keeps RTm.stays (fun y _ hl => BA.out.block y hl) BA.out.size))
  have HL := Lib.hid R.hlen
  have H4 := Lib.hid h4; have H1 := Lib.hid h1; have H2 := Lib.hid h2
  clear hwa R G h1 h2 h3 h4
  have m0 := MA.out.cell (i := 0) rfl; have m1 := MA.out.cell (i := 1) rfl; have m2 := MA.out.cell (i := 2) rfl
  go_enter Try.func54, Try.ntmps54
  go_upto_region 1 with fail
  rw [← HWA.out]
  by_cases q1 : 0 ≤ cols
  rotate_left
  · have NO := Lib.hid (show ¬ LimOk cols rows goal c0 mc mr me mg mk mm from fun h => q1 h.1)
    go_wp2
    go_ret
    exact no_ret NO.out BA.out rfl
  by_cases q2 : cols ≤ mc
  rotate_left
  · have NO := Lib.hid (show ¬ LimOk cols rows goal c0 mc mr me mg mk mm from fun h => q2 h.2.1)
    go_wp2
    go_ret
    exact no_ret NO.out BA.out rfl
  by_cases q3 : (rn : Int) ≤ mr
  rotate_left
  · have NO := Lib.hid (show ¬ LimOk cols rows goal c0 mc mr me mg mk mm from fun h => q3 (by rw [← HL.out]; exact h.2.2.1))
    go_wp2
    go_ret
    exact no_ret NO.out BA.out rfl
  go_wp2_with fail
  refine GA.out.mono ?_
  rintro e w2 ⟨r, rfl, hr, hb⟩
  have HR := Lib.hid hr
  have B2 := Lib.hid hb
  have M2 := Lib.hid (MA.out.below hb MA.out.lt); have E2 := Lib.hid (EA.out.below hb EA.out.lt); have S2 := Lib.hid (SA.out.below hb SA.out.lt)
  clear hr hb m0 m1 m2
  have m1 := M2.out.cell (i := 1) rfl; have m3 := M2.out.cell (i := 3) rfl
  have BW := Lib.hid (BA.out.trans (B2.out.mono BA.out.size))
  cases r with
  | false =>
    have NO := Lib.hid (show ¬ LimOk cols rows goal c0 mc mr me mg mk mm from fun h => by have := HR.out.2 h.2.2.2.1; cases this)
    go_wp2
    go_ret
    exact no_ret NO.out BW.out rfl
  | true =>
    have W0 := Lib.hid (within_any c0 mk H4.out w2)
    by_cases hin : -mk ≤ c0 ∧ c0 ≤ mk
    · rw [decide_eq_true hin] at W0
      have HIN := Lib.hid hin
      clear hin
      go_wp2_with fail
      refine W0.out.mono ?_
      rintro e w3 ⟨rfl, rfl⟩
      have LC := Lib.hid (lcont_any K rows cols me mm H1.out H2.out ra rn rc w.heap.size (w.heap.size + 1) (w.heap.size + 2) w3 (RA.out.keeps RRw.stays (fun y _ hl => B2.out.block y hl) B2.out.size) (M2.out.cell (i := 0) rfl) (E2.out.cell (i := 0) rfl) (S2.out.cell (i := 0) rfl))
      go_wp2_with fail
      refine LC.out.mono ?_
      rintro e w4 ⟨r2, rfl, hr2, hb⟩
      have HR2 := Lib.hid hr2
      have B4 := Lib.hid (BW.out.trans (hb.mono BW.out.size))
      clear hr2 hb
      cases r2 with
      | true =>
        have NO := Lib.hid (show ¬ LimOk cols rows goal c0 mc mr me mg mk mm from fun h => by obtain ⟨x, hx, h9⟩ := HR2.out.1 (by first | rfl | trivial); exact h9 (h.2.2.2.2.2.2 x hx))
        go_wp2
        go_ret
        exact no_ret NO.out B4.out rfl
      | false =>
        have YES := Lib.hid (show LimOk cols rows goal c0 mc mr me mg mk mm from ⟨q1, q2, by rw [HL.out]; exact q3, HR.out.1 (by first | rfl | trivial), HIN.out.1, HIN.out.2, fun x hx => Classical.byContradiction fun h9 => by have := HR2.out.2 ⟨x, hx, h9⟩; cases this⟩)
        go_wp2
        go_ret
        exact yes_ret YES.out B4.out rfl
    · rw [decide_eq_false hin] at W0
      have NO := Lib.hid (show ¬ LimOk cols rows goal c0 mc mr me mg mk mm from fun h => hin ⟨h.2.2.2.2.1, h.2.2.2.2.2.1⟩)
      clear hin
      go_wp2_with fail
      refine W0.out.mono ?_
      rintro e w3 ⟨rfl, rfl⟩
      go_wp2
      go_ret
      exact no_ret NO.out BW.out rfl
def ValidP (cols : Int) (rows : List (List (Int × Int) × Int)) (goal : List (Int × Int)) (c0 : Int) : Prop := LimOk cols rows goal c0 300 400 1048576 16777216 16777216 1048576
def SmallP (cols : Int) (rows : List (List (Int × Int) × Int)) (goal : List (Int × Int)) (c0 : Int) : Prop := LimOk cols rows goal c0 6 6 9 9 9 50
set_option maxRecDepth 100000 in
theorem small_any (K : Nat → Prop) (cols : Int) (rows : List (List (Int × Int) × Int)) (goal : List (Int × Int)) (c0 : Int) (ra : Option Addr) (rn rc : Nat) (ga : Option Addr) (gn gc : Nat) (w : World) (R : Row RRw 2 K w ra rn rc rows) (G : Row RTm 2 K w ga gn gc goal) :
    Calls Try.prog 27 #[MdV cols (.slice ra rn rc) ga gn gc c0] w (YesNo (SmallP cols rows goal c0) w) := by
  obtain ⟨wa, hwa⟩ : ∃ wa, wa = w.alloc (.cells (MdC cols (.slice ra rn rc) ga gn gc c0).toArray 28) := ⟨_, rfl⟩
  have BA := Lib.hid (show Below w.heap.size w wa by rw [hwa]; exact (Below.refl _ _).alloc (Nat.le_refl _) _)
  have MA := Lib.hid (show Blk wa w.heap.size 28 (MdC cols (.slice ra rn rc) ga gn gc c0) by rw [hwa]; exact Blk.new w _ _)
  have LM := Lib.hid (limited_any K cols rows goal c0 6 6 9 9 9 50 (by decide) (by decide) (by decide) (by decide) ra rn rc ga gn gc wa (R.keeps RRw.stays (fun y _ hl => BA.out.block y hl) BA.out.size) (G.keeps RTm.stays (fun y _ hl => BA.out.block y hl) BA.out.size))
  have HWA := Lib.hid hwa
  have m0 := MA.out.cell (i := 0) rfl; have m1 := MA.out.cell (i := 1) rfl; have m2 := MA.out.cell (i := 2) rfl; have m3 := MA.out.cell (i := 3) rfl
  clear hwa R G
  go_enter Try.func27, Try.ntmps27
  go_upto_region 1 with fail
  rw [← HWA.out]
  go_wp2_with fail
  refine LM.out.mono ?_
  rintro e w2 ⟨r, rfl, hr, hb⟩
  have HR := Lib.hid hr
  have B2 := Lib.hid (BA.out.trans (hb.mono BA.out.size))
  clear hr hb
  go_wp2
  go_ret
  exact ⟨r, rfl, HR.out, B2.out⟩
end Go.Proofs.Ytdegpgonphgbcaa
