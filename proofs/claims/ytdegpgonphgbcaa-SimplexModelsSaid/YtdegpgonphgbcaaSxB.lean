/-
  The program's and the document's functions on fractions, as functions on rational numbers. (printed by mkSxB.py)
-/
import Derived.Test.YtdegpgonphgbcaaZFxN
import Derived.Test.YtdegpgonphgbcaaFxO
import Derived.Test.YtdegpgonphgbcaaFxT
import Derived.Test.YtdegpgonphgbcaaMem
namespace Go.Proofs.Ytdegpgonphgbcaa
open Go.RowKit

abbrev FrV (x : Rat) : Value := .agg #[.int .i64 x.num, .int .i64 (x.den : Int)]
abbrev FrC (x : Rat) : List Value := [.int .i64 x.num, .int .i64 (x.den : Int)]
def FrRet (z : Rat) (w : World) (e : Ending) (w' : World) : Prop := e = .returned (FrV z) ∧ Below w.heap.size w w'
def FrTup (z : Rat) (w : World) (e : Ending) (w' : World) : Prop := e = .returned (.tuple #[FrV z, .int .i64 0]) ∧ Below w.heap.size w w'
theorem Fit.d {x : Rat} (h : Fit x) : (x.den : Int) ≤ 1152921504606846976 := by have := h.2.2; omega
def cmpR (x y : Rat) : Int := if x < y then -1 else if x = y then 0 else 1
theorem cmp_rat (x y : Rat) : cmpI (x.num * (y.den : Int)) (y.num * (x.den : Int)) = cmpR x y := by
  unfold cmpI cmpR
  by_cases h : x < y
  · rw [if_pos h, if_pos ((Rat.lt_iff x y).1 h)]
  · rw [if_neg h, if_neg (fun g => h ((Rat.lt_iff x y).2 g))]
    by_cases h2 : x = y
    · rw [if_pos h2, if_pos (Rat.eq_iff_mul_eq_mul.1 h2)]
    · rw [if_neg h2, if_neg (fun g => h2 (Rat.eq_iff_mul_eq_mul.2 g))]
theorem pden (x y : Rat) : (x.den : Int) * (y.den : Int) ≠ 0 := Int.mul_ne_zero (den_ne x) (den_ne y)
theorem num_ne {x : Rat} (h : x ≠ 0) : x.num ≠ 0 := fun e => h (Rat.num_eq_zero.1 e)
theorem nadd (x y : Rat) (hx : Fit x) (hy : Fit y) (hz : Fit (x + y)) (w : World) : Calls Try.prog 80 #[FrV x, FrV y] w (FrTup (x + y) w) := by
  obtain ⟨h1, h2, h3⟩ := fit_named (pden x y) (add_rat x y) hz
  have h := frac_add x.num x.den y.num y.den hx.1 hx.2.1 hy.1 hy.2.1 (den_one x) hx.d (den_one y) hy.d w
  rw [h1, h2, h3] at h
  exact h
theorem nmul (x y : Rat) (hx : Fit x) (hy : Fit y) (hz : Fit (x * y)) (w : World) : Calls Try.prog 81 #[FrV x, FrV y] w (FrTup (x * y) w) := by
  obtain ⟨h1, h2, h3⟩ := fit_named (pden x y) (mul_rat x y) hz
  have h := frac_mul x.num x.den y.num y.den hx.1 hx.2.1 hy.1 hy.2.1 (den_one x) hx.d (den_one y) hy.d w
  rw [h1, h2, h3] at h
  exact h
theorem ndiv (x y : Rat) (hn : y ≠ 0) (hx : Fit x) (hy : Fit y) (hz : Fit (x / y)) (w : World) : Calls Try.prog 97 #[FrV x, FrV y] w (FrTup (x / y) w) := by
  obtain ⟨h1, h2, h3⟩ := fit_named (Int.mul_ne_zero (den_ne x) (num_ne hn)) (div_rat (x := x) (y := y)) hz
  have h := frac_div x.num x.den y.num y.den hx.1 hx.2.1 hy.1 hy.2.1 (den_one x) hx.d (den_one y) hy.d (num_ne hn) w
  rw [h1, h2, h3] at h
  exact h
theorem ncmp (x y : Rat) (hx : Fit x) (hy : Fit y) (w : World) : Calls Try.prog 61 #[FrV x, FrV y] w fun e w' => e = .returned (.int .i64 (cmpR x y)) ∧ Below w.heap.size w w' := by
  have h := cmp_any x.num x.den y.num y.den hx.1 hx.2.1 hy.1 hy.2.1 (den_one x) hx.d (den_one y) hy.d w
  rw [cmp_rat] at h
  exact h
set_option maxHeartbeats 4000000 in
theorem sadd (x y : Rat) (hx : Fit x) (hy : Fit y) (hz : Fit (x + y)) (w : World) : Calls Try.prog 59 #[FrV x, FrV y] w (FrRet (x + y) w) := by
  have N := Lib.hid (fun w => nadd x y hx hy hz w)
  have F0 := Lib.hid (Fm.new (Fm.new (Fm.new (Fm.start Non w) rfl (FrC x) 31) (by simp) (FrC y) 31) (by simp) [.int .i64 0, .int .i64 0] 31)
  generalize x + y = z at N ⊢
  clear hx hy hz
  go_enter Try.func59, Try.ntmps59
  go_wp2_with fail
  refine (N.out _).mono ?_
  rintro e w1 ⟨rfl, hb⟩
  have F1 := Lib.hid (Fm.call hb F0.out)
  clear hb
  have z0 := F1.out.h2.cell 0 _ rfl; have z1 := F1.out.h2.cell 1 _ rfl; have zf := F1.out.h2.free; have lz := F1.out.h2.lt (by simp)
  go_upto_region 2 with fail
  obtain ⟨w2, hw2⟩ : ∃ w2, w2 = w1.alloc (.cells #[.int .i64 z.num, .int .i64 (z.den : Int)] 31) := ⟨_, rfl⟩
  rw [← hw2]
  have F2 := Lib.hid (show Fm Non w w2 [FrC x, FrC y, [.int .i64 0, .int .i64 0]] by rw [hw2]; exact F1.out.more _)
  have Z2 := Lib.hid (show Has w2 w1.heap.size (FrC z) by rw [hw2]; exact Has.new w1 (FrC z) 31)
  clear hw2 z0 z1 zf lz F1
  generalize w1.heap.size = q at Z2 ⊢
  have z0 := F2.out.h2.cell 0 _ rfl; have z1 := F2.out.h2.cell 1 _ rfl; have zf := F2.out.h2.free
  have q0 := Z2.out.cell 0 _ rfl; have q1 := Z2.out.cell 1 _ rfl
  go_wp2
  refine bodyPost_ret (v := FrV z) (by simp [results, Try.results59, go_sem, z0, z1]) rfl ⟨rfl, ?_⟩
  exact (F2.out.below.setCell (by simp; omega) _).setCell (by simp; omega) _
set_option maxHeartbeats 4000000 in
theorem smul (x y : Rat) (hx : Fit x) (hy : Fit y) (hz : Fit (x * y)) (w : World) : Calls Try.prog 60 #[FrV x, FrV y] w (FrRet (x * y) w) := by
  have N := Lib.hid (fun w => nmul x y hx hy hz w)
  have F0 := Lib.hid (Fm.new (Fm.new (Fm.new (Fm.start Non w) rfl (FrC x) 31) (by simp) (FrC y) 31) (by simp) [.int .i64 0, .int .i64 0] 31)
  generalize x * y = z at N ⊢
  clear hx hy hz
  go_enter Try.func60, Try.ntmps60
  go_wp2_with fail
  refine (N.out _).mono ?_
  rintro e w1 ⟨rfl, hb⟩
  have F1 := Lib.hid (Fm.call hb F0.out)
  clear hb
  have z0 := F1.out.h2.cell 0 _ rfl; have z1 := F1.out.h2.cell 1 _ rfl; have zf := F1.out.h2.free; have lz := F1.out.h2.lt (by simp)
  go_upto_region 2 with fail
  obtain ⟨w2, hw2⟩ : ∃ w2, w2 = w1.alloc (.cells #[.int .i64 z.num, .int .i64 (z.den : Int)] 31) := ⟨_, rfl⟩
  rw [← hw2]
  have F2 := Lib.hid (show Fm Non w w2 [FrC x, FrC y, [.int .i64 0, .int .i64 0]] by rw [hw2]; exact F1.out.more _)
  have Z2 := Lib.hid (show Has w2 w1.heap.size (FrC z) by rw [hw2]; exact Has.new w1 (FrC z) 31)
  clear hw2 z0 z1 zf lz F1
  generalize w1.heap.size = q at Z2 ⊢
  have z0 := F2.out.h2.cell 0 _ rfl; have z1 := F2.out.h2.cell 1 _ rfl; have zf := F2.out.h2.free
  have q0 := Z2.out.cell 0 _ rfl; have q1 := Z2.out.cell 1 _ rfl
  go_wp2
  refine bodyPost_ret (v := FrV z) (by simp [results, Try.results60, go_sem, z0, z1]) rfl ⟨rfl, ?_⟩
  exact (F2.out.below.setCell (by simp; omega) _).setCell (by simp; omega) _
set_option maxHeartbeats 4000000 in
theorem sdiv (x y : Rat) (hn : y ≠ 0) (hx : Fit x) (hy : Fit y) (hz : Fit (x / y)) (w : World) : Calls Try.prog 85 #[FrV x, FrV y] w (FrRet (x / y) w) := by
  have N := Lib.hid (fun w => ndiv x y hn hx hy hz w)
  have F0 := Lib.hid (Fm.new (Fm.new (Fm.new (Fm.start Non w) rfl (FrC x) 31) (by simp) (FrC y) 31) (by simp) [.int .i64 0, .int .i64 0] 31)
  generalize x / y = z at N ⊢
  clear hx hy hz
  go_enter Try.func85, Try.ntmps85
  go_wp2_with fail
  refine (N.out _).mono ?_
  rintro e w1 ⟨rfl, hb⟩
  have F1 := Lib.hid (Fm.call hb F0.out)
  clear hb
  have z0 := F1.out.h2.cell 0 _ rfl; have z1 := F1.out.h2.cell 1 _ rfl; have zf := F1.out.h2.free; have lz := F1.out.h2.lt (by simp)
  go_upto_region 2 with fail
  obtain ⟨w2, hw2⟩ : ∃ w2, w2 = w1.alloc (.cells #[.int .i64 z.num, .int .i64 (z.den : Int)] 31) := ⟨_, rfl⟩
  rw [← hw2]
  have F2 := Lib.hid (show Fm Non w w2 [FrC x, FrC y, [.int .i64 0, .int .i64 0]] by rw [hw2]; exact F1.out.more _)
  have Z2 := Lib.hid (show Has w2 w1.heap.size (FrC z) by rw [hw2]; exact Has.new w1 (FrC z) 31)
  clear hw2 z0 z1 zf lz F1
  generalize w1.heap.size = q at Z2 ⊢
  have z0 := F2.out.h2.cell 0 _ rfl; have z1 := F2.out.h2.cell 1 _ rfl; have zf := F2.out.h2.free
  have q0 := Z2.out.cell 0 _ rfl; have q1 := Z2.out.cell 1 _ rfl
  go_wp2
  refine bodyPost_ret (v := FrV z) (by simp [results, Try.results85, go_sem, z0, z1]) rfl ⟨rfl, ?_⟩
  exact (F2.out.below.setCell (by simp; omega) _).setCell (by simp; omega) _
theorem fit_neg {x : Rat} (h : Fit x) : Fit (-x) := by obtain ⟨h1, h2, h3⟩ := h; exact ⟨by rw [Rat.neg_num]; omega, by rw [Rat.neg_num]; omega, by rw [Rat.neg_den]; exact h3⟩
set_option maxHeartbeats 4000000 in
theorem sopp (x : Rat) (hx : Fit x) (w : World) : Calls Try.prog 37 #[FrV x] w (FrRet (-x) w) := by
  have h0 := hx.1; have h1 := hx.2.1
  have NN := Lib.hid (show (-x).num = -x.num ∧ (-x).den = x.den from ⟨rfl, rfl⟩)
  generalize hn : x.num = n at *
  generalize hd : x.den = d at *
  clear hx
  go_enter Try.func37, Try.ntmps37
  go_wp2
  refine bodyPost_ret (v := .agg #[.int .i64 (-n), .int .i64 (d : Int)]) (by simp [results, Try.results37, go_sem]) rfl ⟨by unfold FrV; rw [NN.out.1, NN.out.2], ?_⟩
  exact ((Below.refl _ _).alloc (Nat.le_refl _) _).alloc (by simp) _
set_option maxHeartbeats 4000000 in
theorem whole_any (n : Int) (w : World) : Calls Try.prog 58 #[.int .i64 n] w (FrRet (n : Rat) w) := by
  go_enter Try.func58, Try.ntmps58
  go_wp2
  refine bodyPost_ret (v := .agg #[.int .i64 n, .int .i64 1]) (by simp [results, Try.results58, go_sem]) rfl ⟨rfl, ?_⟩
  exact (Below.refl _ _).alloc (Nat.le_refl _) _
theorem fit_int {n : Int} (h0 : -1152921504606846976 ≤ n) (h1 : n ≤ 1152921504606846976) : Fit (n : Rat) := ⟨h0, h1, by show 1 ≤ _; omega⟩
end Go.Proofs.Ytdegpgonphgbcaa
