/-
  The document's Make, Neg, Floor, Ceil, Mul, and the law's large, for numbers of any size.
-/
import Derived.Test.YtaokenpdaiabgaaX
import Derived.Test.YtaokenpdaiabgaaT
namespace Go.Proofs.Ytaokenpdaiabgaa
open Go.RowKit

theorem red_same {a b c d : Int} (h1 : fN a b = fN c d) (h2 : fD a b = fD c d) : fA a b = fA c d ∧ fB a b = fB c d ∧ fE a b = fE c d := by
  have hf : fits a b = fits c d := by unfold fits; rw [h1, h2]
  unfold fA fB fE
  rw [hf, h1, h2]
  exact ⟨rfl, rfl, rfl⟩
theorem Red.of {a b c d : Int} {w w' : World} {e : Ending} (hb : b ≠ 0) (hd : d ≠ 0) (h : a * d = c * b) (r : Red a b w e w') : Red c d w e w' := by
  obtain ⟨h1, h2⟩ := fND_same hb hd h
  obtain ⟨e1, e2, e3⟩ := red_same h1 h2
  unfold Red at r ⊢
  rwa [e1, e2, e3] at r
set_option maxHeartbeats 2000000 in
theorem reduce_zero (n : Bool) (M : Nat) (hM : 0 < M) (w : World) :
    Calls Try.prog 44 #[.bool n, .agg #[.int .u64 (wh 0), .int .u64 (wl 0)], .agg #[.int .u64 (wh M), .int .u64 (wl M)]] w (Red (sv 0 n) M w) := by
  have e : sv 0 n = 0 := by unfold sv; cases n <;> simp
  have h1 := fND_eq (a := 0) (b := (M : Int)) (n := 0) (d := 1) (by omega) (by omega) (by decide) (by omega)
  have nm := named_eq h1.1 h1.2 (by omega) (by omega) (by omega)
  have NM := Lib.hid nm
  rw [wh0, wl0, e]
  clear nm h1 e
  go_enter Try.func44, Try.ntmps44
  go_wp2
  exact bodyPost_ret (v := .tuple #[.agg #[.int .i64 0, .int .i64 1], .int .i64 0]) (by simp [results, Try.results44, go_sem]) rfl (Red.at NM.out (by go_grown))
theorem reduce_any (n : Bool) (N M : Nat) (hN : N < 170141183460469231731687303715884105728) (hM0 : 0 < M) (hM : M < 170141183460469231731687303715884105728) (w : World) :
    Calls Try.prog 44 #[.bool n, .agg #[.int .u64 (wh N), .int .u64 (wl N)], .agg #[.int .u64 (wh M), .int .u64 (wl M)]] w (Red (sv N n) M w) := by
  rcases Nat.eq_zero_or_pos N with h | h
  · subst h; exact reduce_zero n M hM0 w
  · exact reduce_pos n N M h hN hM0 hM w

theorem sv_div (a b : Int) : sv a.natAbs (decide (a < 0) != decide (b < 0)) * b = a * (b.natAbs : Int) := by
  by_cases h1 : a < 0 <;> by_cases h2 : b < 0
  · rw [show (decide (a < 0) != decide (b < 0)) = false by simp [h1, h2]]
    show (a.natAbs : Int) * b = _
    rw [show (a.natAbs : Int) = -a by omega, show (b.natAbs : Int) = -b by omega, Int.neg_mul, Int.mul_neg]
  · rw [show (decide (a < 0) != decide (b < 0)) = true by simp [h1, h2]]
    show -(a.natAbs : Int) * b = _
    rw [show (a.natAbs : Int) = -a by omega, show (b.natAbs : Int) = b by omega, Int.neg_neg]
  · rw [show (decide (a < 0) != decide (b < 0)) = true by simp [h1, h2]]
    show -(a.natAbs : Int) * b = _
    rw [show (a.natAbs : Int) = a by omega, show (b.natAbs : Int) = -b by omega, Int.neg_mul, Int.mul_neg]
  · rw [show (decide (a < 0) != decide (b < 0)) = false by simp [h1, h2]]
    show (a.natAbs : Int) * b = _
    rw [show (a.natAbs : Int) = a by omega, show (b.natAbs : Int) = b by omega]
set_option maxHeartbeats 1000000 in
theorem rmake_any (a b : Int) (ha : -9223372036854775808 ≤ a) (ha' : a ≤ 9223372036854775807) (hb : -9223372036854775808 ≤ b) (hb' : b ≤ 9223372036854775807) (h0 : b ≠ 0) (w : World) :
    Calls Try.prog 19 #[.int .i64 a, .int .i64 b] w (Red a b w) := by
  have e1 := wh_small a.natAbs (by omega); have e2 := wh_small b.natAbs (by omega)
  have RD := fun w => reduce_any (decide (a < 0) != decide (b < 0)) a.natAbs b.natAbs (by omega) (by omega) (by omega) w
  rw [e1.1, e1.2, e2.1, e2.2] at RD
  have RD := Lib.hid RD
  have s1 := Lib.hid (fun w => size_any a ha ha' w); have s2 := Lib.hid (fun w => size_any b hb hb' w)
  have h1 : (b == 0) = false := by simpa using h0
  have H0 := Lib.hid h0
  clear e1 e2 h0
  go_enter Try.func19, Try.ntmps19
  go_wp2_with fail
  refine (s1.out _).mono ?_
  rintro e w' ⟨rfl, rfl⟩
  go_wp2_with fail
  refine (s2.out _).mono ?_
  rintro e w' ⟨rfl, rfl⟩
  go_wp2_with fail
  refine (RD.out _).mono ?_
  intro e w1 hr
  obtain ⟨rfl, hb1⟩ := Red.of (c := a) (d := b) (by have := H0.out; omega) H0.out (sv_div a b) hr
  have F1 := Fr.call hb1 (Fr.new (Fr.refl w) rfl [.int .i64 0, .int .i64 0] 24)
  have r0 := F1.h0.cell 0 _ rfl; have r1 := F1.h0.cell 1 _ rfl; have rf := F1.h0.free; have lr := F1.h0.lt (by simp)
  go_wp2
  exact bodyPost_ret (v := .tuple #[.agg #[.int .i64 (fA a b), .int .i64 (fB a b)], .int .i64 (fE a b)]) (by simp [results, Try.results19, go_sem, r0, r1]) rfl ⟨rfl, F1.below.trans (by go_grown)⟩
theorem rmake_zero (a : Int) (w : World) :
    Calls Try.prog 19 #[.int .i64 a, .int .i64 0] w fun e w' => e = .returned (.tuple #[.agg #[.int .i64 0, .int .i64 0], .int .i64 36]) ∧ Below w.heap.size w w' := by
  go_enter Try.func19, Try.ntmps19
  go_wp2
  exact bodyPost_ret (v := .tuple #[.agg #[.int .i64 0, .int .i64 0], .int .i64 36]) (by simp [results, Try.results19, go_sem]) rfl ⟨rfl, by go_grown⟩

theorem rneg_any (a b : Int) (ha : -9223372036854775807 ≤ a) (ha' : a ≤ 9223372036854775807) (w : World) :
    Calls Try.prog 51 #[.agg #[.int .i64 a, .int .i64 b]] w fun e w' => e = .returned (.agg #[.int .i64 (-a), .int .i64 b]) ∧ Below w.heap.size w w' := by
  have q : IntKind.i64.wrap (-a) = -a := IntWalk.i64_in _ (by omega)
  go_enter Try.func51, Try.ntmps51
  go_wp2
  exact bodyPost_ret (v := .agg #[.int .i64 (-a), .int .i64 b]) (by simp [results, Try.results51, go_sem]) rfl ⟨rfl, by go_grown⟩

theorem rfloor_any (a b : Int) (ha : -1152921504606846976 ≤ a) (ha' : a ≤ 1152921504606846976) (hb : 1 ≤ b) (hb' : b ≤ 1152921504606846976) (w : World) :
    Calls Try.prog 29 #[.agg #[.int .i64 a, .int .i64 b]] w fun e w' => e = .returned (.int .i64 (a / b)) ∧ Below w.heap.size w w' := by
  have hl := floor_law a b (by omega)
  have hd := tdiv_bd a b (by omega)
  have h0b : (b == 0) = false := by simp; omega
  by_cases h0 : a.tmod b < 0
  · have ha0 : a < 0 := by
      rcases (by omega : a < 0 ∨ 0 ≤ a) with h | h
      · exact h
      · have := Int.tmod_nonneg b h; omega
    have hq := Lib.hid (hl.2 (by omega) ha0)
    clear hl
    go_enter Try.func29, Try.ntmps29
    go_wp2
    all_goals go_returns
    all_goals exact ⟨ret_int hq.out, by go_grown⟩
  · have hq := Lib.hid (hl.1 (by
      rcases (by omega : a < 0 ∨ 0 ≤ a) with h | h
      · left
        have h1 : (-a).tmod b = -(a.tmod b) := Int.neg_tmod ..
        have h2 := Int.tmod_nonneg b (show 0 ≤ -a by omega)
        omega
      · exact .inr h))
    clear hl
    go_enter Try.func29, Try.ntmps29
    go_wp2
    all_goals go_returns
    all_goals first | exact ⟨ret_int hq.out, by go_grown⟩ | (have hz := hq.out; rw [Int.tdiv_eq_ediv_of_nonneg (by omega)] at hz; exact ⟨ret_int hz, by go_grown⟩)

theorem rceil_any (a b : Int) (ha : -1152921504606846976 ≤ a) (ha' : a ≤ 1152921504606846976) (hb : 1 ≤ b) (hb' : b ≤ 1152921504606846976) (w : World) :
    Calls Try.prog 30 #[.agg #[.int .i64 a, .int .i64 b]] w fun e w' => e = .returned (.int .i64 (-(-a / b))) ∧ Below w.heap.size w w' := by
  have N := Lib.hid (fun w => rneg_any a b (by omega) (by omega) w)
  have FL := Lib.hid (fun w => rfloor_any (-a) b (by omega) (by omega) hb hb' w)
  obtain ⟨q, hq⟩ : ∃ q, q = -a / b := ⟨_, rfl⟩
  rw [← hq] at FL ⊢
  have hq0 : -1152921504606846976 ≤ q ∧ q ≤ 1152921504606846976 := by
    rw [hq]
    exact ⟨(Int.le_ediv_iff_mul_le (by omega)).2 (by have := Int.mul_le_mul_of_nonneg_left hb (show (0 : Int) ≤ 1152921504606846976 by omega); omega), Int.ediv_le_of_le_mul (by omega) (by have := Int.mul_le_mul_of_nonneg_left hb (show (0 : Int) ≤ 1152921504606846976 by omega); omega)⟩
  obtain ⟨q0, q1⟩ := hq0
  have qq : IntKind.i64.wrap (-q) = -q := IntWalk.i64_in _ (by omega)
  clear hq
  go_enter Try.func30, Try.ntmps30
  go_wp2_with fail
  refine (N.out _).mono ?_
  rintro e w1 ⟨rfl, hb1⟩
  go_wp2_with fail
  refine (FL.out _).mono ?_
  rintro e w2 ⟨rfl, hb2⟩
  go_wp2
  go_returns
  exact ⟨rfl, (Fr.call hb2 (Fr.call hb1 (Fr.new (Fr.refl w) rfl [.int .i64 a, .int .i64 b] 24))).below⟩
end Go.Proofs.Ytaokenpdaiabgaa
