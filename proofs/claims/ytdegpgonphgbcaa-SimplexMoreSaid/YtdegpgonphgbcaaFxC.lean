/-
  The reference's greatest common divisor and validity (timeboundref31.gcd, Valid), and the program's own for small numbers (fraction.common, within, checked, lowest, Make, Floor, Ceil, Valid).
-/
import Derived.Deep.LoopGhost
import Derived.Test.YtdegpgonphgbcaaFxB
namespace Go.Proofs.Ytdegpgonphgbcaa
open Go.RowKit

theorem two_zero (N : Nat) : (wh N = 0 ∧ wl N = 0) ↔ N = 0 := by unfold wh wl; omega

theorem divide_at {h l g m : Int} (A B : Nat) (e1 : h = wh A) (e2 : l = wl A) (e3 : g = wh B) (e4 : m = wl B) (hA : A < 340282366920938463463374607431768211456) (hB0 : 0 < B) (hB : B < 170141183460469231731687303715884105728) (w : World) :
    Calls Try.prog 73 #[.agg #[.int .u64 h, .int .u64 l], .agg #[.int .u64 g, .int .u64 m]] w fun e w' => e = .returned (.tuple #[.agg #[.int .u64 (wh (A / B)), .int .u64 (wl (A / B))], .agg #[.int .u64 (wh (A % B)), .int .u64 (wl (A % B))]]) ∧ Below w.heap.size w w' := by
  subst e1 e2 e3 e4; exact divide_any A B hA hB0 hB w

set_option maxHeartbeats 1000000 in
theorem gcd_any (A B : Nat) (hA : A < 340282366920938463463374607431768211456) (hB : B < 170141183460469231731687303715884105728) (w : World) :
    Calls Try.prog 53 #[.agg #[.int .u64 (wh A), .int .u64 (wl A)], .agg #[.int .u64 (wh B), .int .u64 (wl B)]] w fun e w' => e = .returned (.agg #[.int .u64 (wh (Nat.gcd A B)), .int .u64 (wl (Nat.gcd A B))]) ∧ Below w.heap.size w w' := by
  go_enter Try.func53, Try.ntmps53
  go_wp2
  go_loopg [] (B + 1) (fun k wr => ∃ X Y : Nat, k = Y + 1 ∧ Nat.gcd X Y = Nat.gcd A B ∧ X < 340282366920938463463374607431768211456 ∧ Y < 170141183460469231731687303715884105728 ∧ Below w.heap.size w wr ∧ w.heap.size + 3 ≤ wr.heap.size ∧
     Has wr (w.heap.size) (two X) ∧ Has wr (w.heap.size + 1) (two Y) ∧ Has wr (w.heap.size + 1 + 1) (two 0))
  case atStart =>
    refine ⟨A, B, rfl, rfl, hA, hB, by go_grown, by go_size, ?_, ?_, ?_⟩
    · exact ((Has.new w (two A) 85).old (by go_size)).old (by go_size)
    · exact Has.old ((Has.new (w.alloc _) (two B) 85).at' (by simp)) (by go_size)
    · exact (Has.new _ (two 0) 85).at' (by simp)
  case round =>
    obtain ⟨X, Y, rfl, hg, hX, hY, hbel, hsz, tX, tY, t0⟩ := hrel
    have x1 := tX.cell 0 _ rfl; have x2 := tX.cell 1 _ rfl; have x3 := tX.free
    have y1 := tY.cell 0 _ rfl; have y2 := tY.cell 1 _ rfl; have y3 := tY.free
    have G := Lib.hid hg
    clear hg
    rcases Nat.lt_or_ge Y 1 with hc | hc
    · have s1 := t0.cell 0 _ rfl; have s2 := t0.cell 1 _ rfl; have s3 := t0.free
      obtain rfl : Y = 0 := by omega
      rw [wh0] at y1
      rw [wl0] at y2
      go_wp2
      all_goals exact bodyPost_ret (v := .agg #[.int .u64 (wh X), .int .u64 (wl X)]) (by simp [results, Try.results53, go_sem, s1, s2]) rfl ⟨by rw [← G.out, Nat.gcd_zero_right], by go_grown⟩
    · have hw : (Y : Int) ≤ wh Y * 18446744073709551616 + wl Y := by have := w_of Y; omega
      go_wp2_with fail
      all_goals refine (divide_at X Y (by first | rfl | omega) (by first | rfl | omega) (by first | rfl | omega) (by first | rfl | omega) hX hc hY _).mono ?_
      all_goals rintro e w1 ⟨rfl, hb1⟩
      all_goals have z1 : wr.heap.size ≤ w1.heap.size := by simpa using hb1.size
      all_goals have tX1 := tX.below hb1 (by go_size)
      all_goals have tY1 := tY.below hb1 (by go_size)
      all_goals have t01 := t0.below hb1 (by go_size)
      all_goals have hbel1 := hbel.trans (hb1.mono (by go_size))
      all_goals clear x1 x2 x3 y1 y2 y3
      all_goals have x1 := tX1.cell 0 _ rfl
      all_goals have x2 := tX1.cell 1 _ rfl
      all_goals have x3 := tX1.free
      all_goals have y1 := tY1.cell 0 _ rfl
      all_goals have y2 := tY1.cell 1 _ rfl
      all_goals have y3 := tY1.free
      all_goals have l0 : w.heap.size < w1.heap.size := by omega
      all_goals have l1 : w.heap.size + 1 < w1.heap.size := by omega
      all_goals have l2 : w.heap.size + 1 + 1 < w1.heap.size := by omega
      all_goals have s1 := t01.cell 0 _ rfl
      all_goals have s2 := t01.cell 1 _ rfl
      all_goals have s3 := t01.free
      all_goals go_wp2_with fail
      all_goals go_region
      all_goals go_wp2
      all_goals go_roundg (X % Y + 1)
      all_goals first | (case measure => have := Nat.mod_lt X hc; omega) | skip
      all_goals
        refine ⟨Y, X % Y, rfl, ?_, by omega, by have := Nat.mod_lt X hc; omega, ?_, by go_size, ?_, ?_, ?_⟩
        · rw [← G.out, Nat.gcd_comm Y, ← Nat.gcd_rec, Nat.gcd_comm]
        · exact hbel1.trans (by go_grown)
        · exact Has.mk2 (by go_cell) (by go_cell) (by intro o; go_cell)
        · exact Has.mk2 (by go_cell) (by go_cell) (by intro o; go_cell)
        · exact Has.mk2 (by go_cell) (by go_cell) (by intro o; go_cell)
end Go.Proofs.Ytdegpgonphgbcaa
