/-
  timeboundmake2.Frac: a fraction of small numbers in lowest terms, whatever the deck gives.
-/
import Derived.Test.YtaokenpdaiabgaaP
import Derived.Test.YtaokenpdaiabgaaO
namespace Go.Proofs.Ytaokenpdaiabgaa
open Go.RowKit

/-- What a call of Frac leaves: a small fraction in lowest terms, the deck, all else as it was. -/
def TakenFrac (d : Nat) (w : World) (e : Ending) (w' : World) : Prop := ∃ p q : Int, e = .returned (.agg #[.int .i64 p, .int .i64 q]) ∧ -10 ≤ p ∧ p ≤ 10 ∧ 1 ≤ q ∧ q ≤ 9 ∧ Int.gcd p q = 1 ∧ Deck w' d ∧ But d w w'

theorem frac_plain (n k : Int) (h0 : -10 ≤ n) (h1 : n ≤ 10) (h2 : 1 ≤ k) (h3 : k ≤ 9) : -10 ≤ fN n k ∧ fN n k ≤ 10 ∧ 1 ≤ fD n k ∧ fD n k ≤ 9 ∧ Int.gcd (fN n k) (fD n k) = 1 := by
  have hk : k ≠ 0 := by omega
  have a1 := fN_le (a := n) hk
  have a2 := fD_le (a := n) hk
  have a3 := fD_pos (a := n) hk
  have a4 := fN_gcd (a := n) hk
  omega

set_option maxHeartbeats 2000000 in
theorem frac_any (d : Nat) (w : World) (hd : Deck w d) :
    Calls Try.prog 13 #[.pointer (some ⟨d, 0, none⟩)] w (TakenFrac d w) := by
  have hlt := hd.lt
  have HD := Lib.hid hd
  clear hd
  go_enter Try.func13, Try.ntmps13
  go_wp2_with fail
  refine (next_any d 21 (by omega) (by omega) _ (HD.out.below ((Below.refl _ _).alloc (Nat.le_refl _) _) (Nat.le_refl _))).mono ?_
  rintro e w1 ⟨n0, rfl, n1, n2, hd1, hb1⟩
  have t1 : Has w1 w.heap.size [.int .i64 0, .int .i64 0] := hb1.has (Has.new w _ 24) (by go_size) (by omega)
  have z1 : w.heap.size < w1.heap.size := t1.lt (by simp)
  have b1 : But d w w1 := (But.of_below ((Below.refl _ _).alloc (Nat.le_refl _) (.cells #[.int .i64 0, .int .i64 0] 24))).trans hb1
  go_wp2_with fail
  refine (next_any d 9 (by omega) (by omega) _ hd1).mono ?_
  rintro e w2 ⟨k0, rfl, k1, k2, hd2, hb2⟩
  have t2 : Has w2 w.heap.size [.int .i64 0, .int .i64 0] := hb2.has t1 z1 (by omega)
  have z2 : w.heap.size < w2.heap.size := t2.lt (by simp)
  have b2 : But d w w2 := b1.trans hb2
  clear hb1 hb2 t1 hd1 b1
  have HD2 := Lib.hid hd2; have HB2 := Lib.hid b2
  clear hd2 b2
  have hk0 : 1 + k0 ≠ 0 := by omega
  go_wp2_with fail
  all_goals
    go_loopg [5, 6] ((1 + k0).toNat + 1) (fun g a b wr => ∃ X Y : Nat, g = Y + 1 ∧ a = .int .i64 X ∧ b = .int .i64 Y ∧ Nat.gcd X Y = Int.gcd (n0 - 10) (1 + k0) ∧ X ≤ 10 ∧ Y ≤ 10 ∧ Has wr w.heap.size [.int .i64 0, .int .i64 0] ∧ w.heap.size < wr.heap.size ∧ Deck wr d ∧ But d w wr)
    case atStart =>
      refine ⟨(n0 - 10).natAbs, (1 + k0).natAbs, by omega, by congr 1; omega, by congr 1; omega, rfl, by omega, by omega, t2, z2, HD2.out, HB2.out⟩
    case round =>
      obtain ⟨X, Y, rfl, rfl, rfl, hg, hX, hY, t3, z3, hd3, hb3⟩ := hrel
      have G := Lib.hid hg; have HD3 := Lib.hid hd3; have HB3 := Lib.hid hb3
      clear hg hd3 hb3
      rcases Nat.lt_or_ge Y 1 with hc | hc
      · have hX' : (X : Int) = (Int.gcd (n0 - 10) (1 + k0) : Nat) := by rw [← G.out, show Y = 0 by omega, Nat.gcd_zero_right]
        have hX0 : 0 < X := by have := gcd_pos (a := n0 - 10) hk0; omega
        have HX := Lib.hid hX'
        clear hX'
        have q0 := t3.cell 0 _ rfl; have q1 := t3.cell 1 _ rfl; have qf := t3.free
        by_cases hz : n0 = 10
        · have hz' : (n0 - 10 == 0) = true := by simp; omega
          go_wp2
          all_goals refine bodyPost_ret (v := .agg #[.int .i64 0, .int .i64 1]) (by simp [results, Try.results13, go_sem, q0, q1]) rfl ?_
          all_goals exact ⟨0, 1, rfl, by omega, by omega, by omega, by omega, by decide, (HD3.out.other hlt _).other hlt _, (HB3.out.other (Nat.le_refl _) _).other (Nat.le_refl _) _⟩
        · have hz' : (n0 - 10 == 0) = false := by simp; omega
          go_wp2
          go_region
          all_goals go_wp2
          all_goals
            have e1 : (n0 - 10).tdiv (X : Int) = fN (n0 - 10) (1 + k0) := by rw [HX.out, fN_nonneg (by omega)]
            have e2 : (1 + k0) / (X : Int) = fD (n0 - 10) (1 + k0) := by rw [HX.out, fD_nonneg (by omega)]
            obtain ⟨f1, f2, f3, f4, f5⟩ := frac_plain (n0 - 10) (1 + k0) (by omega) (by omega) (by omega) (by omega)
            first
              | (refine bodyPost_ret (v := .agg #[.int .i64 ((n0 - 10).tdiv (X : Int)), .int .i64 ((1 + k0) / (X : Int))]) ?hv rfl ?_
                 case hv => (simp [results, Try.results13, go_sem, q0, q1]; done)
                 rw [e1, e2]
                 exact ⟨_, _, rfl, f1, f2, f3, f4, f5, ((HD3.out.other hlt _).other hlt _).drewN 1, ((HB3.out.other (Nat.le_refl _) _).other (Nat.le_refl _) _).drewN 1⟩)
              | (have e3 : (n0 - 10) / (X : Int) = fN (n0 - 10) (1 + k0) := (Int.tdiv_eq_ediv_of_nonneg (show 0 ≤ n0 - 10 by omega)).symm.trans e1
                 refine bodyPost_ret (v := .agg #[.int .i64 ((n0 - 10) / (X : Int)), .int .i64 ((1 + k0) / (X : Int))]) ?hv rfl ?_
                 case hv => (simp [results, Try.results13, go_sem, q0, q1]; done)
                 rw [e3, e2]
                 exact ⟨_, _, rfl, f1, f2, f3, f4, f5, ((HD3.out.other hlt _).other hlt _).drewN 1, ((HB3.out.other (Nat.le_refl _) _).other (Nat.le_refl _) _).drewN 1⟩)
      · have hc' : (0 : Int) < (Y : Int) := by omega
        go_wp2
        go_region
        all_goals go_wp2
        all_goals go_roundg (X % Y + 1)
        all_goals first | (case measure => have := Nat.mod_lt X hc; omega) | skip
        exact ⟨Y, X % Y, rfl, rfl, rfl, by rw [← G.out, Nat.gcd_comm Y, ← Nat.gcd_rec, Nat.gcd_comm], hY, by have := Nat.mod_lt X hc; omega, t3.drew, z3, HD3.out.drewN 1, HB3.out.drewN 1⟩
end Go.Proofs.Ytaokenpdaiabgaa
