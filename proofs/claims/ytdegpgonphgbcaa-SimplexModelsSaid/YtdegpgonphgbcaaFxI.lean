/-
  fraction.exact and what it is made of: numbers of 128 bits become a fraction in lowest terms, or ErrLimit.
-/
import Derived.Test.YtdegpgonphgbcaaFxH
import Derived.Test.YtdegpgonphgbcaaFxD
namespace Go.Proofs.Ytdegpgonphgbcaa
open Go.RowKit

theorem product_any (a b : Int) (ha : -9223372036854775808 ≤ a) (ha' : a ≤ 9223372036854775807) (hb : -9223372036854775808 ≤ b) (hb' : b ≤ 9223372036854775807) (w : World) :
    Calls Try.prog 96 #[.int .i64 a, .int .i64 b] w fun e w' => e = .returned (.agg #[.int .u64 (wh (a.natAbs * b.natAbs)), .int .u64 (wl (a.natAbs * b.natAbs)), .bool (decide (a < 0) != decide (b < 0))]) ∧ Below w.heap.size w w' := by
  go_enter Try.func96, Try.ntmps96
  go_wp2_with (first | (go_at_call 106; refine (wsize_any _ (by omega) (by omega) _).mono ?_; rintro e w' ⟨rfl, rfl⟩) | (go_at_call 83; refine (mul64_any _ _ (by omega) (by omega) _).mono ?_; rintro e w' ⟨rfl, rfl⟩))
  go_returns
  exact ⟨rfl, by go_grown⟩
theorem negative_any (N : Nat) (n : Bool) (w : World) :
    Calls Try.prog 105 #[.agg #[.int .u64 (wh N), .int .u64 (wl N), .bool n]] w fun e w' => e = .returned (.bool (n && decide (0 < N))) ∧ Below w.heap.size w w' := by
  cases n
  · go_enter Try.func105, Try.ntmps105
    go_wp2
    go_returns
    exact ⟨rfl, by go_grown⟩
  · rcases Nat.lt_or_ge N 1 with h | h
    · go_enter Try.func105, Try.ntmps105
      go_wp2_with (go_at_call 109; refine ((zero_at N true _).1 (by omega)).mono ?_; rintro e w1 ⟨rfl, hb1⟩; have hbel := ((Below.refl w.heap.size w).alloc (Nat.le_refl _) _).trans (hb1.mono (by go_size)))
      go_returns
      exact ⟨by rw [decide_eq_false (by omega)]; rfl, hbel⟩
    · go_enter Try.func105, Try.ntmps105
      go_wp2_with (go_at_call 109; refine ((zero_at N true _).2 (by omega)).mono ?_; rintro e w1 ⟨rfl, hb1⟩; have hbel := ((Below.refl w.heap.size w).alloc (Nat.le_refl _) _).trans (hb1.mono (by go_size)))
      go_returns
      exact ⟨by rw [decide_eq_true (by omega)]; rfl, hbel⟩
def plN (A B : Nat) (n o : Bool) : Nat := if n = o then A + B else if A < B then B - A else A - B
def plS (A B : Nat) (n o : Bool) : Bool := if n = o then n else if A < B then o else n
/-- A size with a sign, as an integer. -/
def sv (N : Nat) (n : Bool) : Int := if n then -(N : Int) else N
theorem sv_plus (A B : Nat) (n o : Bool) : sv (plN A B n o) (plS A B n o) = sv A n + sv B o := by
  unfold sv plN plS
  cases n <;> cases o <;> simp <;> (repeat' split) <;> omega
theorem sv_not (A : Nat) (n : Bool) : sv A (!n) = -sv A n := by unfold sv; cases n <;> simp
theorem sv_abs (a : Int) : sv a.natAbs (decide (a < 0)) = a := by unfold sv; by_cases h : a < 0 <;> simp [h] <;> omega
theorem sv_mul (a b : Int) : sv (a.natAbs * b.natAbs) (decide (a < 0) != decide (b < 0)) = a * b := by
  unfold sv
  have e : ((a.natAbs * b.natAbs : Nat) : Int) = (a.natAbs : Int) * (b.natAbs : Int) := by simp
  rw [e]
  by_cases h : a < 0 <;> by_cases k : b < 0 <;> simp [h, k]
  · rw [show (a.natAbs : Int) = -a by omega, show (b.natAbs : Int) = -b by omega]; grind
  · rw [show (a.natAbs : Int) = -a by omega, show (b.natAbs : Int) = b by omega]; grind
  · rw [show (a.natAbs : Int) = a by omega, show (b.natAbs : Int) = -b by omega]; grind
  · rw [show (a.natAbs : Int) = a by omega, show (b.natAbs : Int) = b by omega]
theorem sv_natAbs (N : Nat) (n : Bool) : (sv N n).natAbs = N := by unfold sv; cases n <;> simp

theorem wless_at {_h _l _g _m : Int} (A B : Nat) (n o : Bool) (hB : B ≤ A) (hA : A < 340282366920938463463374607431768211456) (w : World) :
    Calls Try.prog 102 #[.agg #[.int .u64 (wh A), .int .u64 (wl A), .bool n], .agg #[.int .u64 (wh B), .int .u64 (wl B), .bool o]] w fun e w' => e = .returned (.agg #[.int .u64 (wh (A - B)), .int .u64 (wl (A - B)), .bool n]) ∧ Below w.heap.size w w' := wless_any A B n o hB hA w

theorem plus_any (A B : Nat) (n o : Bool) (hA : A < 170141183460469231731687303715884105728) (hB : B < 170141183460469231731687303715884105728) (w : World) :
    Calls Try.prog 94 #[.agg #[.int .u64 (wh A), .int .u64 (wl A), .bool n], .agg #[.int .u64 (wh B), .int .u64 (wl B), .bool o]] w fun e w' => e = .returned (.agg #[.int .u64 (wh (plN A B n o)), .int .u64 (wl (plN A B n o)), .bool (plS A B n o)]) ∧ Below w.heap.size w w' := by
  unfold plN plS
  by_cases hn : n = o
  · subst hn
    simp only [if_true]
    go_enter Try.func94, Try.ntmps94
    go_wp2_with fail
    refine (more_any A B n n (by omega) _).mono ?_
    rintro e w1 ⟨rfl, hb1⟩
    have tr := (Has.at' (Has.new _ [.int .u64 0, .int .u64 0, .bool false] 120) (c := w.heap.size + 1 + 1) (by simp)).below hb1 (by go_size)
    have r0 := tr.cell 0 _ rfl; have r1 := tr.cell 1 _ rfl; have r2 := tr.cell 2 _ rfl; have rf := tr.free
    have hbel : Below w.heap.size w w1 := Below.trans (by go_grown) (hb1.mono (by go_size))
    go_wp2
    exact bodyPost_ret (v := .agg #[.int .u64 (wh (A + B)), .int .u64 (wl (A + B)), .bool n]) (by simp [results, Try.results94, go_sem, r0, r1, r2]) rfl ⟨rfl, hbel.trans (by go_grown)⟩
  · have hn' : (n == o) = false := by simpa using hn
    simp only [hn, if_false]
    clear hn
    rcases Nat.lt_or_ge A B with hAB | hAB
    · rw [if_pos hAB, if_pos hAB]
      go_enter Try.func94, Try.ntmps94
      go_wp2_with fail
      refine ((below_at A B n o (by omega) (by omega) _).1 hAB).mono ?_
      rintro e w1 ⟨rfl, hb1⟩
      have tr1 := (Has.at' (Has.new _ [.int .u64 0, .int .u64 0, .bool false] 120) (c := w.heap.size + 1 + 1) (by simp)).below hb1 (by go_size)
      have ta1 := ((((Has.new w (three A n) 120).old (by go_size)).old (by go_size))).below hb1 (by go_size)
      have tb1 := (Has.old (Has.at' (Has.new _ (three B o) 120) (c := w.heap.size + 1) (by simp)) (by go_size)).below hb1 (by go_size)
      have hbel1 : Below w.heap.size w w1 := Below.trans (by go_grown) (hb1.mono (by go_size))
      have a0 := ta1.cell 0 _ rfl; have a1 := ta1.cell 1 _ rfl; have a2 := ta1.cell 2 _ rfl
      have b0 := tb1.cell 0 _ rfl; have b1 := tb1.cell 1 _ rfl; have b2 := tb1.cell 2 _ rfl
      go_wp2_with fail
      refine (wless_any B A o n (by omega) (by omega) _).mono ?_
      rintro e w2 ⟨rfl, hb2⟩
      have tr := tr1.below hb2 (tr1.lt (by simp))
      have r0 := tr.cell 0 _ rfl; have r1 := tr.cell 1 _ rfl; have r2 := tr.cell 2 _ rfl; have rf := tr.free
      have hbel : Below w.heap.size w w2 := hbel1.trans (hb2.mono hbel1.size)
      go_wp2
      exact bodyPost_ret (v := .agg #[.int .u64 (wh (B - A)), .int .u64 (wl (B - A)), .bool o]) (by simp [results, Try.results94, go_sem, r0, r1, r2]) rfl ⟨rfl, hbel.trans (by go_grown)⟩
    · rw [if_neg (by omega), if_neg (by omega)]
      go_enter Try.func94, Try.ntmps94
      go_wp2_with fail
      refine ((below_at A B n o (by omega) (by omega) _).2 hAB).mono ?_
      rintro e w1 ⟨rfl, hb1⟩
      have tr1 := (Has.at' (Has.new _ [.int .u64 0, .int .u64 0, .bool false] 120) (c := w.heap.size + 1 + 1) (by simp)).below hb1 (by go_size)
      have ta1 := ((((Has.new w (three A n) 120).old (by go_size)).old (by go_size))).below hb1 (by go_size)
      have tb1 := (Has.old (Has.at' (Has.new _ (three B o) 120) (c := w.heap.size + 1) (by simp)) (by go_size)).below hb1 (by go_size)
      have hbel1 : Below w.heap.size w w1 := Below.trans (by go_grown) (hb1.mono (by go_size))
      have a0 := ta1.cell 0 _ rfl; have a1 := ta1.cell 1 _ rfl; have a2 := ta1.cell 2 _ rfl
      have b0 := tb1.cell 0 _ rfl; have b1 := tb1.cell 1 _ rfl; have b2 := tb1.cell 2 _ rfl
      go_wp2_with fail
      refine (wless_any A B n o (by omega) (by omega) _).mono ?_
      rintro e w2 ⟨rfl, hb2⟩
      have tr := tr1.below hb2 (tr1.lt (by simp))
      have r0 := tr.cell 0 _ rfl; have r1 := tr.cell 1 _ rfl; have r2 := tr.cell 2 _ rfl; have rf := tr.free
      have hbel : Below w.heap.size w w2 := hbel1.trans (hb2.mono hbel1.size)
      go_wp2
      exact bodyPost_ret (v := .agg #[.int .u64 (wh (A - B)), .int .u64 (wl (A - B)), .bool n]) (by simp [results, Try.results94, go_sem, r0, r1, r2]) rfl ⟨rfl, hbel.trans (by go_grown)⟩

end Go.Proofs.Ytdegpgonphgbcaa
