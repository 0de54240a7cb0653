/-
  cache.Valid, checked, Line, Set.
-/
import Derived.Test.YtdkpfifnegndmaaCacheB
namespace Go.Proofs.Ytdkpfifnegndmaa
open Go.RowKit

/-- Right contents. -/
def ValidP (S W : Int) (ss : List (List Int)) : Prop := (ss.length : Int) = S ∧ ∀ (i : Nat) x, ss[i]? = some x → SetOk S W i x

set_option maxHeartbeats 1000000 in
theorem valid_any (S W L : Int) (hc : COk S W L) (K : Nat → Prop) (a : Option Addr) (len cap : Nat) (ss : List (List Int)) (w : World) (r : Mat K w a len cap ss) :
    Calls Try.prog 18 #[CV S W L, .agg #[.slice a len cap]] w (BoolRet (ValidP S W ss) w) := by
  have hl := r.len63
  have hC := Lib.hid hc
  obtain ⟨h1, h2, h3, h4, h5, h6⟩ := hc
  have HR := Lib.hid r; clear r
  have f0 := Fm.new (Fm.new (Fm.start Non w) rfl [.int .i64 S, .int .i64 W, .int .i64 L] 29) (by simp) [.slice a len cap] 33
  have F0 := Lib.hid f0; clear f0
  by_cases hw : (len : Int) = S
  · have hw' : ((len : Int) != S) = false := by simp [hw]
    have HW := Lib.hid hw; clear hw
    go_enter Try.func18, Try.ntmps18
    go_wp2_with fail
    refine (check_ok _ _ _ hC.out _).mono ?_
    rintro e w1 ⟨rfl, hb1⟩
    have f1 := Fm.call hb1 F0.out
    have t0 := f1.h0; have t1 := f1.h1
    have c0 := t0.cell 0 _ rfl; have d0 := t1.cell 0 _ rfl; have lt0 := t0.lt (by simp); have lt1 := t1.lt (by simp)
    have F1 := Lib.hid f1; clear f1 hb1
    go_wp2
    clear t0 t1 c0 d0 lt0 lt1
    go_loopw [21] (fun i wr => ∃ k : Nat, k ≤ len ∧ i = .int .i64 k ∧ Fm Non w wr [[.int .i64 S, .int .i64 W, .int .i64 L], [.slice a len cap]] ∧ ∀ (i : Nat) x, i < k → ss[i]? = some x → SetOk S W i x) (fun i _ => len - (intOf i).toNat)
    case atStart => exact ⟨0, Nat.zero_le _, rfl, F1.out, fun i z h => absurd h (Nat.not_lt_zero _)⟩
    case round =>
      obtain ⟨k, hk, rfl, f2, hno⟩ := hrel
      have HN := Lib.hid hno; clear hno
      have t0 := f2.h0; have t1 := f2.h1
      have c0 := t0.cell 0 _ rfl; have c1 := t0.cell 1 _ rfl; have c2 := t0.cell 2 _ rfl; have lt0 := t0.lt (by simp)
      have r2 := HR.out.below f2.below
      have F2 := Lib.hid f2; clear f2
      by_cases hlt : k < len
      · obtain ⟨b, o, x, ra, rl, rc, rfl, hx, hcx, hrx, _, hbw⟩ := Rows.get r2 hlt
        have HX := Lib.hid hx; clear hx
        have HRX := Lib.hid hrx; clear hrx r2
        go_wp2_with fail
        refine (set_any S W L k hC.out (by have := HW.out; omega) K ra rl rc x _ HRX.out).mono ?_
        rintro e w3 ⟨bb, rfl, hiff, hb3⟩
        have HI := Lib.hid hiff; clear hiff
        have f3 := Fm.call hb3 F2.out
        have F3 := Lib.hid f3; clear f3
        cases bb with
        | true =>
          go_wp2
          go_roundw
          case rel =>
            refine ⟨k + 1, by omega, by go_num, F3.out, fun i y hi hy => ?_⟩
            rcases Nat.lt_or_eq_of_le (Nat.le_of_lt_succ hi) with h | rfl
            · exact HN.out i y h hy
            · rw [HX.out] at hy; cases hy; exact HI.out.1 trivial
          case measure => simp [intOf]; omega
        | false =>
          go_wp2
          go_ret
          exact BoolRet.no (fun h => by have := HI.out.2 (h.2 k x HX.out); cases this) rfl F3.out.below
      · go_wp2
        go_ret
        exact BoolRet.yes ⟨by rw [HR.out.hlen]; exact HW.out, fun i z h => HN.out i z (by have := (List.getElem?_eq_some_iff.1 h).1; have := HR.out.hlen; omega) h⟩ rfl F2.out.below
  · have hw' : ((len : Int) != S) = true := by simp [hw]
    go_enter Try.func18, Try.ntmps18
    go_wp2_with fail
    refine (check_ok _ _ _ hC.out _).mono ?_
    rintro e w1 ⟨rfl, hb1⟩
    have f1 := Fm.call hb1 F0.out
    have t0 := f1.h0; have t1 := f1.h1
    have c0 := t0.cell 0 _ rfl; have d0 := t1.cell 0 _ rfl; have lt0 := t0.lt (by simp); have lt1 := t1.lt (by simp)
    go_wp2
    go_ret
    exact BoolRet.no (fun h => hw (by rw [← h.1, HR.out.hlen])) rfl f1.below

def IntRet (n : Int) (w : World) (e : Ending) (w' : World) : Prop := e = .returned (.int .i64 n) ∧ Below w.heap.size w w'
set_option maxHeartbeats 1000000 in
theorem checked_any (S W L : Int) (hc : COk S W L) (K : Nat → Prop) (a : Option Addr) (len cap : Nat) (ss : List (List Int)) (w : World) (r : Mat K w a len cap ss) :
    (ValidP S W ss → Calls Try.prog 28 #[CV S W L, .agg #[.slice a len cap]] w (IntRet 0 w)) ∧
    (¬ ValidP S W ss → Calls Try.prog 28 #[CV S W L, .agg #[.slice a len cap]] w (IntRet 10 w)) := by
  have hl := r.len63
  have HR := Lib.hid r; clear r
  have hC := Lib.hid hc; clear hc
  have f0 := Fm.new (Fm.new (Fm.start Non w) rfl [.int .i64 S, .int .i64 W, .int .i64 L] 29) (by simp) [.slice a len cap] 33
  have F0 := Lib.hid f0; clear f0
  constructor
  all_goals
    intro hv
    have HV := Lib.hid hv; clear hv
    go_enter Try.func28, Try.ntmps28
    go_wp2_with fail
    refine (check_ok _ _ _ hC.out _).mono ?_
    rintro e w1 ⟨rfl, hb1⟩
    have f1 := Fm.call hb1 F0.out
    have t0 := f1.h0; have t1 := f1.h1
    have c0 := t0.cell 0 _ rfl; have c1 := t0.cell 1 _ rfl; have c2 := t0.cell 2 _ rfl; have d0 := t1.cell 0 _ rfl; have lt0 := t0.lt (by simp); have lt1 := t1.lt (by simp)
    go_wp2_with fail
    refine (valid_any S W L hC.out K a len cap ss _ (HR.out.below f1.below)).mono ?_
    rintro e w2 ⟨bb, rfl, hiff, hb2⟩
    have f2 := Fm.call hb2 f1
    have HI := Lib.hid hiff; clear hiff
  · obtain rfl : bb = true := HI.out.2 HV.out
    go_wp2
    go_ret
    exact ⟨rfl, f2.below⟩
  · obtain rfl : bb = false := by
      cases bb with
      | false => rfl
      | true => exact absurd (HI.out.1 rfl) HV.out
    go_wp2
    go_ret
    exact ⟨rfl, f2.below⟩

set_option maxHeartbeats 1000000 in
theorem line_any (S W L : Int) (hc : COk S W L) (n : Int) (hn : 0 ≤ n) (hn' : n ≤ 9223372036854775807) (w : World) :
    Calls Try.prog 20 #[CV S W L, .int .i64 n] w (IntRet (n / L) w) := by
  have hC := Lib.hid hc
  obtain ⟨h1, h2, h3, h4, h5, h6⟩ := hc
  have f0 := Fm.new (Fm.start Non w) rfl [.int .i64 S, .int .i64 W, .int .i64 L] 29
  have F0 := Lib.hid f0; clear f0
  go_enter Try.func20, Try.ntmps20
  go_wp2_with fail
  refine (check_ok _ _ _ hC.out _).mono ?_
  rintro e w1 ⟨rfl, hb1⟩
  have f1 := Fm.call hb1 F0.out
  have t0 := f1.h0
  have c0 := t0.cell 0 _ rfl; have c1 := t0.cell 1 _ rfl; have c2 := t0.cell 2 _ rfl; have lt0 := t0.lt (by simp)
  go_wp2
  go_ret
  exact ⟨rfl, f1.below⟩
set_option maxHeartbeats 1000000 in
theorem setof_any (S W L : Int) (hc : COk S W L) (hS : 1 ≤ S) (n : Int) (hn : 0 ≤ n) (hn' : n ≤ 9223372036854775807) (w : World) :
    Calls Try.prog 21 #[CV S W L, .int .i64 n] w (IntRet (n % S) w) := by
  have hC := Lib.hid hc
  obtain ⟨h1, h2, h3, h4, h5, h6⟩ := hc
  have hz : (S == 0) = false := by simp; omega
  have f0 := Fm.new (Fm.start Non w) rfl [.int .i64 S, .int .i64 W, .int .i64 L] 29
  have F0 := Lib.hid f0; clear f0
  go_enter Try.func21, Try.ntmps21
  go_wp2_with fail
  refine (check_ok _ _ _ hC.out _).mono ?_
  rintro e w1 ⟨rfl, hb1⟩
  have f1 := Fm.call hb1 F0.out
  have t0 := f1.h0
  have c0 := t0.cell 0 _ rfl; have c1 := t0.cell 1 _ rfl; have c2 := t0.cell 2 _ rfl; have lt0 := t0.lt (by simp)
  go_wp2
  go_ret
  exact ⟨rfl, f1.below⟩
set_option maxHeartbeats 1000000 in
theorem setof_none (W L : Int) (hc : COk 0 W L) (n : Int) (w : World) :
    Calls Try.prog 21 #[CV 0 W L, .int .i64 n] w (IntRet (-1) w) := by
  have hC := Lib.hid hc
  obtain ⟨h1, h2, h3, h4, h5, h6⟩ := hc
  have f0 := Fm.new (Fm.start Non w) rfl [.int .i64 0, .int .i64 W, .int .i64 L] 29
  have F0 := Lib.hid f0; clear f0
  by_cases hn : n < 0
  all_goals
    go_enter Try.func21, Try.ntmps21
    go_wp2_with fail
    refine (check_ok _ _ _ hC.out _).mono ?_
    rintro e w1 ⟨rfl, hb1⟩
    have f1 := Fm.call hb1 F0.out
    have t0 := f1.h0
    have c0 := t0.cell 0 _ rfl; have c1 := t0.cell 1 _ rfl; have c2 := t0.cell 2 _ rfl; have lt0 := t0.lt (by simp)
    go_wp2
    go_ret
    exact ⟨rfl, f1.below⟩
end Go.Proofs.Ytdkpfifnegndmaa
