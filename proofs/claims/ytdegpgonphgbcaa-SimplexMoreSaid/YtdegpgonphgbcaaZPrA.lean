/-
  Lists of fractions: good of the program, natural of the document.
  Two variables that are made while numbers are multiplied: small laws for the document's Add and Cmp.
-/
import Derived.Deep.RegionLaw
import Derived.Deep.DeepCutAuto
import Derived.Test.YtdegpgonphgbcaaSyC
import Derived.Test.YtdegpgonphgbcaaZFxQ
import Derived.Test.YtdegpgonphgbcaaZFxX
import Derived.Test.YtdegpgonphgbcaaZSxP
namespace Go.Proofs.Ytdegpgonphgbcaa
open Go.RowKit

def ValB (t : Int × Int) : Bool := decide (-1152921504606846976 ≤ t.1 ∧ t.1 ≤ 1152921504606846976 ∧ 1 ≤ t.2 ∧ t.2 ≤ 1152921504606846976 ∧ Int.gcd t.1 t.2 = 1)
def In63 (t : Int × Int) : Prop := -9223372036854775808 ≤ t.1 ∧ t.1 ≤ 9223372036854775807
theorem valid_is (t : Int × Int) (h : In63 t) : (∀ w, Calls Try.prog 79 #[.agg #[.int .i64 t.1, .int .i64 t.2]] w (BoolB (ValB t) w)) ∧ (∀ w, Calls Try.prog 20 #[.agg #[.int .i64 t.1, .int .i64 t.2]] w (BoolB (ValB t) w)) := by
  obtain ⟨a, b⟩ := t
  obtain ⟨ha, ha'⟩ := h
  dsimp only at *
  by_cases h1 : a < -1152921504606846976 ∨ 1152921504606846976 < a
  · have e : ValB (a, b) = false := decide_eq_false (fun h => by dsimp only at h; omega)
    rw [e]
    exact ⟨valid_out a b ha ha' h1, rvalid_out a b (by omega)⟩
  · by_cases h2 : b < 1 ∨ 1152921504606846976 < b
    · have e : ValB (a, b) = false := decide_eq_false (fun h => by dsimp only at h; omega)
      rw [e]
      exact ⟨valid_den a b (by omega) (by omega) h2, rvalid_out a b (by omega)⟩
    · by_cases h3 : Int.gcd a b = 1
      · have e : ValB (a, b) = true := decide_eq_true ⟨by dsimp only; omega, by dsimp only; omega, by dsimp only; omega, by dsimp only; omega, h3⟩
        rw [e]
        exact ⟨valid_yes a b (by omega) (by omega) (by omega) (by omega) h3, rvalid_yes a b (by omega) (by omega) (by omega) (by omega) h3⟩
      · have e : ValB (a, b) = false := decide_eq_false (fun h => h3 h.2.2.2.2)
        rw [e]
        exact ⟨valid_gcd a b (by omega) (by omega) (by omega) (by omega) h3, rvalid_gcd a b (by omega) (by omega) (by omega) (by omega) h3⟩
/-- Not a good fraction. -/
def BadP (t : Int × Int) : Prop := ¬ (0 ≤ t.1 ∧ ValB t = true)
theorem fgood_any (t : Int × Int) (h : In63 t) (w : World) : Calls Try.prog 78 #[.agg #[.int .i64 t.1, .int .i64 t.2]] w (YesNo (BadP t) w) := by
  have HV := Lib.hid (valid_is t h).1
  have HB := Lib.hid (show BadP t ↔ ¬ (0 ≤ t.1 ∧ ValB t = true) from Iff.rfl)
  generalize BadP t = B at HB ⊢
  generalize ValB t = v at HV HB
  obtain ⟨a, b⟩ := t
  dsimp only at *
  clear h
  obtain ⟨wa, hwa⟩ : ∃ wa, wa = w.alloc (.cells #[.int .i64 a, .int .i64 b] 31) := ⟨_, rfl⟩
  have BA := Lib.hid (show Below w.heap.size w wa by rw [hwa]; exact (Below.refl _ _).alloc (Nat.le_refl _) _)
  have YA := Lib.hid (show Blk wa w.heap.size 31 [.int .i64 a, .int .i64 b] by rw [hwa]; exact Blk.new w _ _)
  have HWA := Lib.hid hwa
  have y0 := YA.out.cell (i := 0) rfl; have y1 := YA.out.cell (i := 1) rfl
  clear hwa
  by_cases hn : a < 0
  · have YES := Lib.hid (show B from HB.out.2 (fun h => by omega))
    go_enter Try.func78, Try.ntmps78
    go_upto_region 1 with fail
    rw [← HWA.out]
    go_wp2
    go_ret
    exact yes_ret YES.out BA.out rfl
  · have H2 := Lib.hid (show B ↔ v = false from HB.out.trans (by cases v <;> simp <;> omega))
    go_enter Try.func78, Try.ntmps78
    go_upto_region 1 with fail
    rw [← HWA.out]
    go_wp2_with fail
    refine (HV.out _).mono ?_
    rintro e w1 ⟨rfl, hb⟩
    have B1 := Lib.hid (BA.out.trans (hb.mono BA.out.size))
    clear hb
    go_wp2
    go_ret
    exact ⟨_, rfl, by rw [H2.out]; cases v <;> simp, B1.out⟩
set_option maxRecDepth 100000 in
set_option maxHeartbeats 4000000 in
theorem fidxG_any (p : Int × Int → Prop) (K : Nat → Prop) (l : List (Int × Int)) (hf : ∀ t ∈ l, ∀ w, Calls Try.prog 78 #[.agg #[.int .i64 t.1, .int .i64 t.2]] w (YesNo (p t) w)) (a : Option Addr) (n c : Nat) (w : World) (R : Row RTm 2 K w a n c l) :
    Calls Try.prog 84 #[.slice a n c, .func (.func 78) #[] #[]] w fun e w' => ∃ i : Int, e = .returned (.int .i64 i) ∧ (0 ≤ i ↔ ∃ x ∈ l, p x) ∧ Below w.heap.size w w' := by
  have HR := Lib.hid R; have HL := Lib.hid R.hlen; have h6 := R.hsz; have HF := Lib.hid hf
  clear R hf
  go_enter Try.func84, Try.ntmps84
  go_wp2
  go_loopw [8] (fun i wr => ∃ k : Nat, k ≤ n ∧ i = .int .i64 k ∧ (∀ x, x ∈ l.take k → ¬ p x) ∧ Below w.heap.size w wr) (fun i _ => n - (intOf i).toNat)
  case atStart => exact ⟨0, Nat.zero_le _, rfl, by simp, Below.refl _ _⟩
  case round =>
    obtain ⟨k, hk, rfl, hT, hb⟩ := hrel
    have HT := Lib.hid hT; have HB := Lib.hid hb
    clear hT hb
    by_cases hlt : k < n
    · obtain ⟨b, o, ⟨x, y⟩, rfl, hx, t0, t1, kb, lb⟩ := RTm.get (HR.out.keeps RTm.stays (fun y _ hl => HB.out.block y hl) HB.out.size) hlt
      dsimp only at t0 t1
      have HX := Lib.hid hx
      have CL := Lib.hid (HF.out (x, y) (List.mem_of_getElem? hx) wr)
      have hk1 : (k : Int) < (n : Int) := by omega
      clear hx
      go_wp2_with fail
      refine CL.out.mono ?_
      rintro e w1 ⟨r, rfl, hr, hb⟩
      have HRR := Lib.hid hr
      have B1 := Lib.hid (HB.out.trans (hb.mono HB.out.size))
      clear hr hb
      cases r with
      | true =>
        have YES := Lib.hid (show ∃ x ∈ l, p x from ⟨_, List.mem_of_getElem? HX.out, HRR.out.1 rfl⟩)
        go_wp2
        go_ret
        exact ⟨_, rfl, ⟨fun _ => YES.out, fun _ => by omega⟩, B1.out⟩
      | false =>
        have HT2 := Lib.hid (show ∀ y, y ∈ l.take (k + 1) → ¬ p y from fun z hz => by
          rw [List.take_add_one, HX.out, List.mem_append] at hz
          rcases hz with h | h
          · exact HT.out z h
          · have e : z = (x, y) := by simpa using h
            subst e
            exact fun h => by have := HRR.out.2 h; cases this)
        go_wp2
        go_roundw
        case rel => exact ⟨k + 1, by omega, by go_num, HT2.out, B1.out⟩
        case measure => simp [intOf]; omega
    · obtain rfl : k = n := by omega
      have NO := Lib.hid (show ¬ ∃ x ∈ l, p x from fun ⟨x, hx, hb⟩ => HT.out x (by rw [List.take_of_length_le (by rw [HL.out]; exact Nat.le_refl _)]; exact hx) hb)
      go_wp2
      go_ret
      exact ⟨-1, rfl, ⟨fun h => by omega, fun h => absurd h NO.out⟩, HB.out⟩
theorem fcontG_any (p : Int × Int → Prop) (K : Nat → Prop) (l : List (Int × Int)) (hf : ∀ t ∈ l, ∀ w, Calls Try.prog 78 #[.agg #[.int .i64 t.1, .int .i64 t.2]] w (YesNo (p t) w)) (a : Option Addr) (n c : Nat) (w : World) (R : Row RTm 2 K w a n c l) :
    Calls Try.prog 62 #[.slice a n c, .func (.func 78) #[] #[]] w (YesNo (∃ x ∈ l, p x) w) := by
  have VI := Lib.hid (fidxG_any p K l hf a n c w R)
  clear R hf
  go_enter Try.func62, Try.ntmps62
  go_wp2_with fail
  refine VI.out.mono ?_
  rintro e w1 ⟨i, rfl, hi, hb⟩
  have HI := Lib.hid hi; have HB := Lib.hid hb
  clear hi hb
  go_wp2
  go_ret
  exact ⟨_, rfl, decide_eq_true_iff.trans HI.out, HB.out⟩
set_option maxRecDepth 100000 in
set_option maxHeartbeats 4000000 in
theorem fidxP_any (p : Int × Int → Prop) (K : Nat → Prop) (l : List (Int × Int)) (hf : ∀ t ∈ l, ∀ w, Calls Try.prog 63 #[.agg #[.int .i64 t.1, .int .i64 t.2]] w (YesNo (p t) w)) (a : Option Addr) (n c : Nat) (w : World) (R : Row RTm 2 K w a n c l) :
    Calls Try.prog 84 #[.slice a n c, .func (.func 63) #[] #[]] w fun e w' => ∃ i : Int, e = .returned (.int .i64 i) ∧ (0 ≤ i ↔ ∃ x ∈ l, p x) ∧ Below w.heap.size w w' := by
  have HR := Lib.hid R; have HL := Lib.hid R.hlen; have h6 := R.hsz; have HF := Lib.hid hf
  clear R hf
  go_enter Try.func84, Try.ntmps84
  go_wp2
  go_loopw [8] (fun i wr => ∃ k : Nat, k ≤ n ∧ i = .int .i64 k ∧ (∀ x, x ∈ l.take k → ¬ p x) ∧ Below w.heap.size w wr) (fun i _ => n - (intOf i).toNat)
  case atStart => exact ⟨0, Nat.zero_le _, rfl, by simp, Below.refl _ _⟩
  case round =>
    obtain ⟨k, hk, rfl, hT, hb⟩ := hrel
    have HT := Lib.hid hT; have HB := Lib.hid hb
    clear hT hb
    by_cases hlt : k < n
    · obtain ⟨b, o, ⟨x, y⟩, rfl, hx, t0, t1, kb, lb⟩ := RTm.get (HR.out.keeps RTm.stays (fun y _ hl => HB.out.block y hl) HB.out.size) hlt
      dsimp only at t0 t1
      have HX := Lib.hid hx
      have CL := Lib.hid (HF.out (x, y) (List.mem_of_getElem? hx) wr)
      have hk1 : (k : Int) < (n : Int) := by omega
      clear hx
      go_wp2_with fail
      refine CL.out.mono ?_
      rintro e w1 ⟨r, rfl, hr, hb⟩
      have HRR := Lib.hid hr
      have B1 := Lib.hid (HB.out.trans (hb.mono HB.out.size))
      clear hr hb
      cases r with
      | true =>
        have YES := Lib.hid (show ∃ x ∈ l, p x from ⟨_, List.mem_of_getElem? HX.out, HRR.out.1 rfl⟩)
        go_wp2
        go_ret
        exact ⟨_, rfl, ⟨fun _ => YES.out, fun _ => by omega⟩, B1.out⟩
      | false =>
        have HT2 := Lib.hid (show ∀ y, y ∈ l.take (k + 1) → ¬ p y from fun z hz => by
          rw [List.take_add_one, HX.out, List.mem_append] at hz
          rcases hz with h | h
          · exact HT.out z h
          · have e : z = (x, y) := by simpa using h
            subst e
            exact fun h => by have := HRR.out.2 h; cases this)
        go_wp2
        go_roundw
        case rel => exact ⟨k + 1, by omega, by go_num, HT2.out, B1.out⟩
        case measure => simp [intOf]; omega
    · obtain rfl : k = n := by omega
      have NO := Lib.hid (show ¬ ∃ x ∈ l, p x from fun ⟨x, hx, hb⟩ => HT.out x (by rw [List.take_of_length_le (by rw [HL.out]; exact Nat.le_refl _)]; exact hx) hb)
      go_wp2
      go_ret
      exact ⟨-1, rfl, ⟨fun h => by omega, fun h => absurd h NO.out⟩, HB.out⟩
theorem fcontP_any (p : Int × Int → Prop) (K : Nat → Prop) (l : List (Int × Int)) (hf : ∀ t ∈ l, ∀ w, Calls Try.prog 63 #[.agg #[.int .i64 t.1, .int .i64 t.2]] w (YesNo (p t) w)) (a : Option Addr) (n c : Nat) (w : World) (R : Row RTm 2 K w a n c l) :
    Calls Try.prog 62 #[.slice a n c, .func (.func 63) #[] #[]] w (YesNo (∃ x ∈ l, p x) w) := by
  have VI := Lib.hid (fidxP_any p K l hf a n c w R)
  clear R hf
  go_enter Try.func62, Try.ntmps62
  go_wp2_with fail
  refine VI.out.mono ?_
  rintro e w1 ⟨i, rfl, hi, hb⟩
  have HI := Lib.hid hi; have HB := Lib.hid hb
  clear hi hb
  go_wp2
  go_ret
  exact ⟨_, rfl, decide_eq_true_iff.trans HI.out, HB.out⟩
def GoodP (l : List (Int × Int)) : Prop := ∀ t ∈ l, 0 ≤ t.1 ∧ ValB t = true
theorem good_any (K : Nat → Prop) (l : List (Int × Int)) (h : ∀ t ∈ l, In63 t) (a : Option Addr) (n c : Nat) (m : Int) (w : World) (R : Row RTm 2 K w a n c l) :
    Calls Try.prog 57 #[.slice a n c, .int .i64 m] w (YesNo ((n : Int) = m ∧ GoodP l) w) := by
  have CF := Lib.hid (fcontG_any BadP K l (fun t ht w => fgood_any t (h t ht) w) a n c w R)
  clear R h
  by_cases hm : (n : Int) = m
  · have HM := Lib.hid hm
    have hmb : ((n : Int) == m) = true := by simpa using hm
    clear hm
    go_enter Try.func57, Try.ntmps57
    go_wp2_with fail
    refine CF.out.mono ?_
    rintro e w1 ⟨r, rfl, hr, hb⟩
    have HRR := Lib.hid hr
    have B1 := Lib.hid hb
    clear hr hb
    cases r with
    | true =>
      have NO := Lib.hid (show ¬ ((n : Int) = m ∧ GoodP l) from fun h => by obtain ⟨x, hx, hb⟩ := HRR.out.1 rfl; exact hb (h.2 x hx))
      go_wp2
      go_ret
      exact no_ret NO.out B1.out rfl
    | false =>
      have YES := Lib.hid (show ((n : Int) = m ∧ GoodP l) from ⟨HM.out, fun x hx => Classical.byContradiction fun h => by have := HRR.out.2 ⟨x, hx, h⟩; cases this⟩)
      go_wp2
      go_ret
      exact yes_ret YES.out B1.out rfl
  · have NO := Lib.hid (show ¬ ((n : Int) = m ∧ GoodP l) from fun h => hm h.1)
    have hmb : ((n : Int) == m) = false := by simpa using hm
    clear hm
    go_enter Try.func57, Try.ntmps57
    go_wp2
    go_ret
    exact no_ret NO.out (Below.refl _ _) rfl
set_option maxRecDepth 100000 in
set_option maxHeartbeats 4000000 in
theorem natural_any (K : Nat → Prop) (l : List (Int × Int)) (h : ∀ t ∈ l, In63 t) (a : Option Addr) (n c : Nat) (m : Int) (w : World) (R : Row RTm 2 K w a n c l) :
    Calls Try.prog 45 #[.slice a n c, .int .i64 m] w (YesNo ((n : Int) = m ∧ GoodP l) w) := by
  have HR := Lib.hid R; have HL := Lib.hid R.hlen; have h6 := R.hsz; have HF := Lib.hid h
  clear R h
  go_enter Try.func45, Try.ntmps45
  go_wp2
  go_loopw [9] (fun i wr => ∃ k : Nat, k ≤ n ∧ i = .int .i64 k ∧ (∀ x, x ∈ l.take k → 0 ≤ x.1 ∧ ValB x = true) ∧ Below w.heap.size w wr) (fun i _ => n - (intOf i).toNat)
  case atStart => exact ⟨0, Nat.zero_le _, rfl, by simp, Below.refl _ _⟩
  case round =>
    obtain ⟨k, hk, rfl, hT, hb⟩ := hrel
    have HT := Lib.hid hT; have HB := Lib.hid hb
    clear hT hb
    by_cases hlt : k < n
    · obtain ⟨b, o, ⟨x, y⟩, rfl, hx, t0, t1, kb, lb⟩ := RTm.get (HR.out.keeps RTm.stays (fun y _ hl => HB.out.block y hl) HB.out.size) hlt
      dsimp only at t0 t1
      have HX := Lib.hid hx
      have CL := Lib.hid ((valid_is (x, y) (HF.out _ (List.mem_of_getElem? hx))).2)
      have hk1 : (k : Int) < (n : Int) := by omega
      obtain ⟨v, hv⟩ : ∃ v, v = ValB (x, y) := ⟨_, rfl⟩
      rw [← hv] at CL
      have HV := Lib.hid hv
      clear hx hv
      obtain ⟨wx, hwx⟩ : ∃ wx, wx = wr.alloc (.cells #[.int .i64 x, .int .i64 y] 31) := ⟨_, rfl⟩
      have BX := Lib.hid (show Below wr.heap.size wr wx by rw [hwx]; exact (Below.refl _ _).alloc (Nat.le_refl _) _)
      have YX := Lib.hid (show Blk wx wr.heap.size 31 [.int .i64 x, .int .i64 y] by rw [hwx]; exact Blk.new wr _ _)
      have HWX := Lib.hid hwx
      clear hwx
      go_upto_region 4 with fail
      rw [← HWX.out]
      have y0 := YX.out.cell (i := 0) rfl; have y1 := YX.out.cell (i := 1) rfl
      go_wp2_with fail
      refine (CL.out _).mono ?_
      rintro e w1 ⟨rfl, hb⟩
      have B1 := Lib.hid (HB.out.trans ((BX.out.trans (hb.mono BX.out.size)).mono HB.out.size))
      have Y1 := Lib.hid (YX.out.below hb YX.out.lt)
      clear hb y0 y1
      have y0 := Y1.out.cell (i := 0) rfl
      cases v with
      | false =>
        have NO := Lib.hid (show ¬ ((n : Int) = m ∧ GoodP l) from fun h => by have := (h.2 _ (List.mem_of_getElem? HX.out)).2; rw [← HV.out] at this; cases this)
        go_wp2
        go_ret
        exact no_ret NO.out B1.out rfl
      | true =>
        by_cases hneg : x < 0
        · have NO := Lib.hid (show ¬ ((n : Int) = m ∧ GoodP l) from fun h => by have := (h.2 _ (List.mem_of_getElem? HX.out)).1; dsimp only at this; omega)
          go_wp2
          go_ret
          exact no_ret NO.out B1.out rfl
        · have HT2 := Lib.hid (show ∀ y, y ∈ l.take (k + 1) → 0 ≤ y.1 ∧ ValB y = true from fun z hz => by
            rw [List.take_add_one, HX.out, List.mem_append] at hz
            rcases hz with h | h
            · exact HT.out z h
            · have e : z = (x, y) := by simpa using h
              subst e
              exact ⟨by dsimp only; omega, HV.out.symm⟩)
          go_wp2
          go_roundw
          case rel => exact ⟨k + 1, by omega, by go_num, HT2.out, B1.out⟩
          case measure => simp [intOf]; omega
    · obtain rfl : k = n := by omega
      have GP := Lib.hid (show GoodP l from fun x hx => HT.out x (by rw [List.take_of_length_le (by rw [HL.out]; exact Nat.le_refl _)]; exact hx))
      by_cases hm : (k : Int) = m
      · have YES := Lib.hid (show ((k : Int) = m ∧ GoodP l) from ⟨hm, GP.out⟩)
        have hmb : ((k : Int) == m) = true := by simpa using hm
        clear hm
        go_wp2
        go_ret
        exact yes_ret YES.out HB.out rfl
      · have NO := Lib.hid (show ¬ ((k : Int) = m ∧ GoodP l) from fun h => hm h.1)
        have hmb : ((k : Int) == m) = false := by simpa using hm
        clear hm
        go_wp2
        go_ret
        exact no_ret NO.out HB.out rfl
end Go.Proofs.Ytdegpgonphgbcaa
namespace Go.Proofs.Ytdegpgonphgbcaa
open Go.RowKit

/-! ### Two variables that are made while numbers are multiplied -/

abbrev zz : Obj := .cells #[.int .u64 0, .int .u64 0] 85
theorem Has.k_new2 {w : World} {b : Nat} {u v : Value} (e : b = w.heap.size) : Has (w.alloc (.cells #[u, v] 85)) b [u, v] := e ▸ Has.new w [u, v] 85
theorem Has.k_set2 {w : World} {b : Nat} {u v x y : Value} (h : Has w b [u, v]) : Has ((w.setCell ⟨b, 0, none⟩ x).setCell ⟨b, 1, none⟩ y) b [x, y] := (h.set0 x).set1 y
theorem Has.k_set {w : World} {b g k : Nat} {vs : List Value} {v : Value} (hne : b ≠ g) (h : Has w b vs) : Has (w.setCell ⟨g, k, none⟩ v) b vs := h.other hne
theorem Fr.k_alloc {w wr : World} {l : List (List Value)} {o : Obj} (s : Fr w wr l) : Fr w (wr.alloc o) l := s.more o
theorem Fr.k_set {w wr : World} {l : List (List Value)} {g k : Nat} {v : Value} (hg : w.heap.size + l.length ≤ g) (s : Fr w wr l) : Fr w (wr.setCell ⟨g, k, none⟩ v) l :=
  ⟨s.below.trans ((Below.refl _ _).setCell (by simp; omega) _), by simpa using s.size, fun i vs h => (s.has i vs h).other (by have := (List.getElem?_eq_some_iff.1 h).1; simp; omega)⟩
/-- Two variables of two words. -/
def TwoW (w : World) (l : List (List Value)) (A B : Nat) (s6 s7 : Value) (wx : World) : Prop :=
  ∃ bx by_ : Nat, s6 = .pointer (some ⟨bx, 0, none⟩) ∧ s7 = .pointer (some ⟨by_, 0, none⟩) ∧ Has wx bx [.int .u64 (wh A), .int .u64 (wl A)] ∧ Has wx by_ [.int .u64 (wh B), .int .u64 (wl B)] ∧ Fr w wx l ∧ w.heap.size + l.length ≤ bx ∧ w.heap.size + l.length ≤ by_ ∧ bx ≠ by_

theorem sv_scale (a : Nat) (b : Nat) (n : Bool) : sv (a * b) n = sv a n * (b : Int) := by
  unfold sv
  split
  · rw [Int.natCast_mul, Int.neg_mul]
  · rw [Int.natCast_mul]
theorem add_law (xn yn : Int) (xd yd : Nat) : sv (plN (xn.natAbs * yd) (yn.natAbs * xd) (decide (xn < 0)) (decide (yn < 0))) (plS (xn.natAbs * yd) (yn.natAbs * xd) (decide (xn < 0)) (decide (yn < 0))) = xn * (yd : Int) + yn * (xd : Int) := by
  rw [sv_plus, sv_scale, sv_scale, sv_abs, sv_abs]

end Go.Proofs.Ytdegpgonphgbcaa
