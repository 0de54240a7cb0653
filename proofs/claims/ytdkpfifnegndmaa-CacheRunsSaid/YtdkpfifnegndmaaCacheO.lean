/-
  timeboundref22.Same: equal contents.
-/
import Derived.Test.YtdkpfifnegndmaaCacheF
namespace Go.Proofs.Ytdkpfifnegndmaa
open Go.RowKit

set_option maxHeartbeats 2000000 in
theorem same_yes (K K2 : Nat → Prop) (a b : Option Addr) (la ca lb cb : Nat) (xs : List (List Int)) (w : World) (ra : Mat K w a la ca xs) (rb : Mat K2 w b lb cb xs) :
    Calls Try.prog 17 #[.agg #[.slice a la ca], .agg #[.slice b lb cb]] w fun e w' => e = .returned (.bool true) ∧ Below w.heap.size w w' := by
  obtain rfl : la = lb := by rw [← ra.hlen, ← rb.hlen]
  have hl := ra.hsz
  have hlen := ra.hlen
  have RA := Lib.hid ra; have RB := Lib.hid rb; have HL := Lib.hid hlen
  clear ra rb hlen
  have F0 := Lib.hid (Fm.new (Fm.new (Fm.start Non w) rfl [.slice a la ca] 33) (by simp) [.slice b la cb] 33)
  have hll : ((la : Int) != (la : Int)) = false := by simp
  go_enter Try.func17, Try.ntmps17
  go_wp2
  go_loopw [5] (fun i wr => ∃ k : Nat, k ≤ la ∧ i = .int .i64 k ∧ Fm Non w wr [[.slice a la ca], [.slice b la cb]]) (fun i _ => la - (intOf i).toNat)
  case atStart => exact ⟨0, Nat.zero_le _, rfl, F0.out⟩
  case round =>
    obtain ⟨k, hk, rfl, f1⟩ := hrel
    obtain ⟨wo, rfl⟩ : ∃ wo : World, wo = wr := ⟨_, rfl⟩
    have t0 := f1.h0; have t1 := f1.h1
    have c0 := t0.cell 0 _ rfl; have l0 := t0.lt (by simp); have d0 := t1.cell 0 _ rfl; have l1 := t1.lt (by simp)
    have F1 := Lib.hid f1
    by_cases hlt : k < la
    · obtain ⟨b1, o1, x, xa, xn, xc, rfl, hx, hcx, hrx, _, hb1⟩ := Rows.get (RA.out.below f1.below) hlt
      obtain ⟨b2, o2, y, ya, yn, yc, rfl, hy, hcy, hry, _, hb2⟩ := Rows.get (RB.out.below f1.below) hlt
      obtain rfl : x = y := by rw [hx] at hy; cases hy; rfl
      obtain rfl : xn = yn := by rw [← hrx.hlen, ← hry.hlen]
      have hxn := hrx.hsz
      have HX := Lib.hid hrx; have HY := Lib.hid hry
      clear hx hy hrx hry t0 t1 f1
      have q0 : (0 : Int) ≤ (k : Int) := by omega
      have q1 : (k : Int) < (la : Int) := by omega
      have hxx : ((xn : Int) != (xn : Int)) = false := by simp
      go_wp2
      go_quiet (fail)
      have F2 := Lib.hid (F1.out.drewN nq)
      have HCX := Lib.hid hcx; have HCY := Lib.hid hcy
      have BO := Lib.hid (below_drewN (Below.refl wo.heap.size wo) nq)
      clear c0 d0 l0 l1 hcx hcy q0 q1
      go_wp2
      go_loopw [6] (fun i wr => ∃ j : Nat, j ≤ xn ∧ i = .int .i64 j ∧ Fm Non w wr [[.slice (some ⟨b1, o1, none⟩) la ca], [.slice (some ⟨b2, o2, none⟩) la cb]] ∧ Below wo.heap.size wo wr) (fun i _ => xn - (intOf i).toNat)
      case atStart => exact ⟨0, Nat.zero_le _, rfl, F2.out, BO.out⟩
      case round =>
        obtain ⟨j, hj, rfl, f3, bo⟩ := hrel
        have t0 := f3.h0; have t1 := f3.h1
        have c0 := t0.cell 0 _ rfl; have l0 := t0.lt (by simp); have d0 := t1.cell 0 _ rfl; have l1 := t1.lt (by simp)
        have F3 := Lib.hid f3; have BO3 := Lib.hid bo
        have hcx := cell_later bo HCX.out; have hcy := cell_later bo HCY.out
        have m1 := Nat.lt_of_lt_of_le hb1 bo.size; have m2 := Nat.lt_of_lt_of_le hb2 bo.size
        have q0 : (0 : Int) ≤ (k : Int) := by omega
        have q1 : (k : Int) < (la : Int) := by omega
        by_cases hjl : j < xn
        · obtain ⟨b3, o3, z, rfl, hz, hcz, _, _, _, hb3⟩ := Ints.get (Ints.below HX.out bo) hjl
          obtain ⟨b4, o4, z', rfl, hz', hcz', _, _, _, hb4⟩ := Ints.get (Ints.below HY.out bo) hjl
          obtain rfl : z = z' := by rw [hz] at hz'; cases hz'; rfl
          have q2 : (0 : Int) ≤ (j : Int) := by omega
          have q3 : (j : Int) < (xn : Int) := by omega
          have hzz : (z != z) = false := by simp
          clear hz hz' f3 bo t0 t1
          go_wp2
          go_quiet (fail)
          have F4 := Lib.hid (F3.out.drewN nq)
          have BO4 := Lib.hid (below_drewN BO3.out nq)
          go_wp2
          go_roundw
          case rel => exact ⟨j + 1, by omega, by go_num, F4.out, BO4.out⟩
          case measure => simp [intOf]; omega
        · clear f3 bo t0 t1
          go_wp2
          go_roundw
          case rel => exact ⟨k + 1, by omega, by go_num, F3.out⟩
          case measure => simp [intOf]; omega
    · go_wp2
      go_ret
      exact ⟨rfl, F1.out.below⟩
end Go.Proofs.Ytdkpfifnegndmaa
