/-
  The document's Valid: whether contents are right.
-/
import Derived.Test.YtdkpfifnegndmaaCacheI
import Derived.Test.YtdkpfifnegndmaaCacheK
import Derived.Deep.DeepCutAuto
namespace Go.Proofs.Ytdkpfifnegndmaa
open Go.RowKit

theorem not_mem_succ {x : List Int} {p : Nat} {z v : Int} (h : v ∉ x.take p) (e : x[p]? = some z) (hne : z ≠ v) : v ∉ x.take (p + 1) := by
  rw [List.take_add_one, e]; simp [h]; exact fun e => hne e.symm
/-- What the first look at a number tells. -/
def Nice (S n : Int) (x : List Int) (m : Nat) (z : Int) : Prop := z = -1 ∨ (0 ≤ z ∧ z ≤ 1048576 ∧ z % S = n ∧ -1 ∉ x.take m)

set_option maxRecDepth 100000 in
set_option maxHeartbeats 4000000 in
theorem rvalid_any (S W L : Int) (hc : COk S W L) (K : Nat → Prop) (a : Option Addr) (len cap : Nat) (ss : List (List Int)) (w : World) (r : Mat K w a len cap ss) :
    Calls Try.prog 37 #[CV S W L, .agg #[.slice a len cap]] w (BoolRet (ValidP S W ss) w) := by
  have hl := r.len63
  have hC := Lib.hid hc
  obtain ⟨h1, h2, h3, h4, h5, h6⟩ := hc
  have HR := Lib.hid r; clear r
  have f0 := Fm.new (Fm.new (Fm.start Non w) rfl [.int .i64 S, .int .i64 W, .int .i64 L] 29) (by simp) [.slice a len cap] 33
  have F0 := Lib.hid f0; clear f0
  by_cases hw : (len : Int) = S
  · have hw' : ((len : Int) != S) = false := by simp [hw]
    have HW := Lib.hid hw; clear hw
    go_enter Try.func37, Try.ntmps37
    go_wp2_with fail
    refine (rcheck_ok _ _ _ hC.out _).mono ?_
    rintro e w1 ⟨rfl, hb1⟩
    have f1 := Fm.call hb1 F0.out
    have t0 := f1.h0; have t1 := f1.h1
    have c0 := t0.cell 0 _ rfl; have d0 := t1.cell 0 _ rfl; have lt0 := t0.lt (by simp); have lt1 := t1.lt (by simp)
    have F1 := Lib.hid f1; clear f1 hb1
    go_wp2
    clear t0 t1 c0 d0 lt0 lt1 hw'
    go_loopw [5] (fun i wr => ∃ k : Nat, k ≤ len ∧ i = .int .i64 k ∧ Fm Non w wr [[.int .i64 S, .int .i64 W, .int .i64 L], [.slice a len cap]] ∧ ∀ (i : Nat) x, i < k → ss[i]? = some x → SetOk S W i x) (fun i _ => len - (intOf i).toNat)
    case atStart => exact ⟨0, Nat.zero_le _, rfl, F1.out, fun i z h => absurd h (Nat.not_lt_zero _)⟩
    case round =>
      obtain ⟨k, hk, rfl, f2, hno⟩ := hrel
      have HN := Lib.hid hno; clear hno
      have F2 := Lib.hid f2
      have c0 := f2.h0.cell 0 _ rfl; have c1 := f2.h0.cell 1 _ rfl; have d0 := f2.h1.cell 0 _ rfl
      clear f2
      by_cases hlt : k < len
      · have r2 := HR.out.below F2.out.below
        obtain ⟨b, o, x, ra, rl, rc, rfl, hx, hcx, hrx, _, hbx⟩ := Rows.get r2 hlt
        have hxl := hrx.hlen
        have RX := Lib.hid (show Ints K w ra rl rc x from by
          obtain ⟨b', o', x', ra', rl', rc', e', hx', hcx', hrx', _, _⟩ := Rows.get HR.out hlt
          cases e'
          obtain rfl : x = x' := by rw [hx] at hx'; cases hx'; rfl
          have := F2.out.below.cell (p := ⟨b, o + k, none⟩) (World.block_lt_of_cell? w _ hcx')
          rw [hcx, hcx'] at this
          cases this
          exact hrx')
        have HX := Lib.hid hx
        clear r2 hrx hx
        by_cases hxw : (rl : Int) = W
        · have hxw' : ((rl : Int) != W) = false := by simp [hxw]
          have HXW := Lib.hid hxw
          go_wp2
          obtain ⟨wq, rfl⟩ : ∃ wq : World, wq = wr := ⟨_, rfl⟩
          clear c0 c1 d0 hcx hxw'
          go_loopw [7] (fun i wr => ∃ m : Nat, m ≤ rl ∧ i = .int .i64 m ∧ Fm Non w wr [[.int .i64 S, .int .i64 W, .int .i64 L], [.slice (some ⟨b, o, none⟩) len cap]] ∧ ∀ (j : Nat) z, j < m → x[j]? = some z → ElemOk S k x j z) (fun i _ => rl - (intOf i).toNat)
          case atStart => exact ⟨0, Nat.zero_le _, rfl, F2.out, fun i z h => absurd h (Nat.not_lt_zero _)⟩
          case round =>
            obtain ⟨m, hm, rfl, f3, hno⟩ := hrel
            have HE := Lib.hid hno; clear hno
            have F3 := Lib.hid f3
            have c0 := f3.h0.cell 0 _ rfl
            clear f3
            by_cases hml : m < rl
            · have r3 := RX.out.below F3.out.below
              obtain ⟨e3, o3, z, rfl, hz, hcz, z0, z1, _, hb3⟩ := Ints.get r3 hml
              have HZ := Lib.hid hz; have R3 := Lib.hid r3
              clear r3 hz
              have m0 : (0 : Int) ≤ (m : Int) := by omega
              have m1 : (m : Int) < (rl : Int) := by omega
              go_upto_region 12 with fail
              go_cut [91] (fun s91 wx => ∃ (c : Bool) (n : Nat), s91 = .bool c ∧ (c = true → ¬ ElemOk S k x m z) ∧ (c = false → Nice S k x m z) ∧ wx = wr.drewN n)
              case first =>
                by_cases a1 : z < -1
                · go_quiet (fail)
                  go_wp2
                  go_meet
                  exact ⟨true, nq, rfl, fun _ he => (by rcases he with he | he <;> omega), (fun h => by cases h), rfl⟩
                · by_cases a2 : 1048576 < z
                  · go_quiet (fail)
                    go_wp2
                    go_meet
                    exact ⟨true, nq, rfl, fun _ he => (by rcases he with he | he <;> omega), (fun h => by cases h), rfl⟩
                  · by_cases a3 : 0 ≤ z
                    · have a3n : ¬ z = -1 := by omega
                      have b1 : z.tmod S = z % S := Int.tmod_eq_emod_of_nonneg a3
                      have b2 : ¬ S = 0 := by have := HW.out; omega
                      have b0 : 0 ≤ z % S := Int.emod_nonneg _ b2
                      have b00 : z % S < S := Int.emod_lt_of_pos _ (by have := HW.out; omega)
                      have b3 : IntKind.i64.wrap (z % S) = z % S := IntWalk.i64_in _ (by omega)
                      have c0' := c0
                      by_cases a4 : z % S = (k : Int)
                      · have a5 : (z % S != (k : Int)) = false := by simp [a4]
                        by_cases hm0 : m = 0
                        · have m00 : ¬ 0 < m := by omega
                          have m02 : decide (0 < m) = false := by simpa using m00
                          have HM0 := Lib.hid hm0
                          clear hm0
                          go_quiet (fail)
                          go_wp2
                          go_meet
                          exact ⟨false, nq, rfl, (fun h => by cases h), fun _ => .inr ⟨a3, by omega, a4, by rw [HM0.out]; simp⟩, rfl⟩
                        · obtain ⟨e5, o5, y, e55, hy, hcy, y0, y1, _, hb5⟩ := Ints.get R3.out (show m - 1 < rl by omega)
                          cases e55
                          have HY := Lib.hid hy
                          clear hy
                          have m00 : 0 < m := by omega
                          have q1 : ((m : Int) - 1).toNat = m - 1 := by omega
                          have q2 : (0 : Int) ≤ (m : Int) - 1 := by omega
                          have q3 : (m : Int) - 1 < (rl : Int) := by omega
                          have q4 : (z != -1) = true := by simp; omega
                          by_cases a6 : y = -1
                          · have a7 : (y == -1) = true := by simp [a6]
                            go_quiet (fail)
                            go_wp2
                            go_meet
                            exact ⟨true, nq, rfl, (fun _ he => by
                              rcases he with he | he
                              · omega
                              · exact he.2.2.2.2 (List.mem_take_iff_getElem.2 ⟨m - 1, by have := (List.getElem?_eq_some_iff.1 HY.out).1; omega, by have := HY.out; rw [List.getElem?_eq_some_iff] at this; obtain ⟨_, e⟩ := this; rw [e, a6]⟩)), (fun h => by cases h), rfl⟩
                          · have a7 : (y == -1) = false := by simp [a6]
                            have hno : -1 ∉ x.take m := by
                              rcases HE.out (m - 1) y (by omega) HY.out with he | he
                              · exact absurd he a6
                              · have := not_mem_succ he.2.2.2.2 HY.out a6
                                rwa [show m - 1 + 1 = m by omega] at this
                            have HNN := Lib.hid hno
                            clear hno
                            go_quiet (fail)
                            go_wp2
                            go_meet
                            exact ⟨false, nq, rfl, (fun h => by cases h), fun _ => .inr ⟨a3, by omega, a4, HNN.out⟩, rfl⟩
                      · have a5 : (z % S != (k : Int)) = true := by simp [a4]
                        go_quiet (fail)
                        go_wp2
                        go_meet
                        exact ⟨true, nq, rfl, fun _ he => (by rcases he with he | he <;> omega), (fun h => by cases h), rfl⟩
                    · have a4 : z < 0 := by omega
                      have a5 : decide (0 ≤ z) = false := by simpa using a3
                      have a6 : (z != -1) = false := by simp; omega
                      by_cases hm0 : m = 0
                      · have m00 : ¬ 0 < m := by omega
                        have m02 : decide (0 < m) = false := by simpa using m00
                        have HM0 := Lib.hid hm0
                        clear hm0
                        go_quiet (fail)
                        go_wp2
                        go_meet
                        exact ⟨false, nq, rfl, (fun h => by cases h), fun _ => .inl (by omega), rfl⟩
                      · obtain ⟨e5, o5, y, e55, hy, hcy, y0, y1, _, hb5⟩ := Ints.get R3.out (show m - 1 < rl by omega)
                        cases e55
                        clear hy
                        have m00 : 0 < m := by omega
                        have q1 : ((m : Int) - 1).toNat = m - 1 := by omega
                        have q2 : (0 : Int) ≤ (m : Int) - 1 := by omega
                        have q3 : (m : Int) - 1 < (rl : Int) := by omega
                        by_cases a8 : y = -1
                        · have a7 : (y == -1) = true := by simp [a8]
                          go_quiet (fail)
                          go_wp2
                          go_meet
                          exact ⟨false, nq, rfl, (fun h => by cases h), fun _ => .inl (by omega), rfl⟩
                        · have a7 : (y == -1) = false := by simp [a8]
                          go_quiet (fail)
                          go_wp2
                          go_meet
                          exact ⟨false, nq, rfl, (fun h => by cases h), fun _ => .inl (by omega), rfl⟩
              case rest =>
              obtain ⟨c, nq, rfl, hct, hcf, rfl⟩ := hcut
              have F4 := Lib.hid (F3.out.drewN nq)
              cases c with
              | true =>
                have HB := Lib.hid (hct rfl)
                clear c0 hcz hct hcf F3
                go_wp2
                go_ret
                exact BoolRet.no (fun hv => elem_bad HZ.out HB.out (hv.2 k x HX.out)) rfl F4.out.below
              | false =>
                have NI := Lib.hid (hcf rfl)
                have hcz2 : (wr.drewN nq).cell? ⟨e3, o3 + m, none⟩ = some (.int .i64 z) := hcz
                clear c0 hcz hct hcf F3
                go_wp2
                obtain ⟨wp, hwp⟩ : ∃ wp : World, wp = wr.drewN nq := ⟨_, rfl⟩
                rw [← hwp] at F4 hcz2 ⊢
                have HCZ := Lib.hid hcz2
                clear hwp hcz2
                go_loopw [8] (fun i wr => ∃ p : Nat, p ≤ m ∧ i = .int .i64 p ∧ Fm Non w wr [[.int .i64 S, .int .i64 W, .int .i64 L], [.slice (some ⟨b, o, none⟩) len cap]] ∧ Chg Non wp wr ∧ (0 ≤ z → z ∉ x.take p)) (fun i _ => m - (intOf i).toNat)
                case atStart => exact ⟨0, Nat.zero_le _, rfl, F4.out, Chg.refl _, fun _ => by simp⟩
                case round =>
                  obtain ⟨p, hp, rfl, f5, n5, hno⟩ := hrel
                  have HNO := Lib.hid hno; clear hno
                  have F5 := Lib.hid f5; have N5 := Lib.hid n5; clear f5 n5
                  by_cases hpl : p < m
                  · have hcz := N5.out.cell id HCZ.out
                    have r5 := RX.out.below F5.out.below
                    obtain ⟨e5, o5, y, e55, hy, hcy, _, _, _, hb5⟩ := Ints.get r5 (show p < rl by omega)
                    cases e55
                    have HY := Lib.hid hy
                    clear r5 hy
                    have p0 : (0 : Int) ≤ (p : Int) := by omega
                    have p1 : (p : Int) < (rl : Int) := by omega
                    by_cases hz0 : 0 ≤ z
                    · by_cases hyz : y = z
                      · have hyz' : (y == z) = true := by simp [hyz]
                        go_wp2
                        go_quiet (fail)
                        have F6 := Lib.hid (F5.out.drewN nq)
                        clear hcz hcy hyz'
                        go_wp2
                        go_ret
                        refine BoolRet.no (fun hv => elem_bad HZ.out (fun he => ?_) (hv.2 k x HX.out)) rfl F6.out.below
                        rcases he with he | he
                        · omega
                        · exact he.2.2.2.1 (by rw [← hyz]; exact List.mem_take_iff_getElem.2 ⟨p, by have := (List.getElem?_eq_some_iff.1 HY.out).1; omega, by have := HY.out; rw [List.getElem?_eq_some_iff] at this; obtain ⟨_, e⟩ := this; exact e⟩)
                      · have hyz' : (y == z) = false := by simp [hyz]
                        go_wp2
                        go_quiet (fail)
                        have F6 := Lib.hid (F5.out.drewN nq); have N6 := Lib.hid (N5.out.drewN nq)
                        clear hcz hcy hyz'
                        go_wp2
                        go_roundw
                        case rel => exact ⟨p + 1, by omega, by go_num, F6.out, N6.out, fun h => not_mem_succ (HNO.out h) HY.out hyz⟩
                        case measure => simp [intOf]; omega
                    · have hz1 : z < 0 := by omega
                      have hz2 : decide (0 ≤ z) = false := by simpa using hz0
                      go_wp2
                      go_quiet (fail)
                      have F6 := Lib.hid (F5.out.drewN nq); have N6 := Lib.hid (N5.out.drewN nq)
                      clear hcz hcy
                      go_wp2
                      go_roundw
                      case rel => exact ⟨p + 1, by omega, by go_num, F6.out, N6.out, fun h => by omega⟩
                      case measure => simp [intOf]; omega
                  · obtain rfl : p = m := by omega
                    go_wp2
                    go_roundw
                    case rel =>
                      refine ⟨p + 1, by omega, by go_num, F5.out, fun j y hj hy => ?_⟩
                      rcases Nat.lt_or_ge j p with h | h
                      · exact HE.out j y h hy
                      · obtain rfl : j = p := by omega
                        rw [HZ.out] at hy
                        cases hy
                        rcases NI.out with h | h
                        · exact .inl h
                        · exact .inr ⟨h.1, h.2.1, h.2.2.1, HNO.out h.1, h.2.2.2⟩
                    case measure => simp [intOf]; omega
            · obtain rfl : m = rl := by omega
              clear c0
              go_wp2
              go_roundw
              case rel =>
                refine ⟨k + 1, by omega, by go_num, F3.out, fun j y hj hy => ?_⟩
                rcases Nat.lt_or_ge j k with h | h
                · exact HN.out j y h hy
                · obtain rfl : j = k := by omega
                  rw [HX.out] at hy
                  cases hy
                  exact ⟨by have := HXW.out; omega, fun i z hz => HE.out i z (by have := (List.getElem?_eq_some_iff.1 hz).1; omega) hz⟩
              case measure => simp [intOf]; omega
        · have hxw' : ((rl : Int) != W) = true := by simp [hxw]
          go_wp2
          go_ret
          exact BoolRet.no (fun hv => hxw (by have := (hv.2 k x HX.out).1; omega)) rfl F2.out.below
      · obtain rfl : k = len := by omega
        clear c1
        go_wp2
        go_ret
        refine BoolRet.yes ⟨?_, fun i x hx => HN.out i x (by have := (List.getElem?_eq_some_iff.1 hx).1; have := HR.out.hlen; omega) hx⟩ rfl F2.out.below
        rw [HR.out.hlen]; exact HW.out
  · have hw' : ((len : Int) != S) = true := by simp [hw]
    go_enter Try.func37, Try.ntmps37
    go_wp2_with fail
    refine (rcheck_ok _ _ _ hC.out _).mono ?_
    rintro e w1 ⟨rfl, hb1⟩
    have f1 := Fm.call hb1 F0.out
    have c0 := f1.h0.cell 0 _ rfl; have d0 := f1.h1.cell 0 _ rfl
    go_wp2
    go_ret
    exact BoolRet.no (fun hv => hw (by have := hv.1; have := HR.out.hlen; omega)) rfl f1.below
end Go.Proofs.Ytdkpfifnegndmaa
