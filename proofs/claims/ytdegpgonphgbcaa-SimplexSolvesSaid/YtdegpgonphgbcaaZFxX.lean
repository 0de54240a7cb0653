/-
  timeboundref31.
  The document's Make.
  The document's Mul and Div.
  Which fractions of any two numbers are valid.
  Lists of fractions.
  Two variables that are made while numbers are mult.
-/
import Derived.Deep.DeepCutAuto
import Derived.Deep.RegionLaw
import Derived.Test.YtdegpgonphgbcaaZFxJ
import Derived.Test.YtdegpgonphgbcaaFxY
import Derived.Test.YtdegpgonphgbcaaZFxR
import Derived.Test.YtdegpgonphgbcaaZSxP
import Derived.Test.YtdegpgonphgbcaaZSyB
import Derived.Test.YtdegpgonphgbcaaDeck
namespace Go.Proofs.Ytdegpgonphgbcaa
open Go.RowKit
theorem wh_small (N : Nat) (h : N < 18446744073709551616) : wh N = 0 ∧ wl N = (N : Int) := by unfold wh wl; omega
def Red (a b : Int) (w : World) (e : Ending) (w' : World) : Prop := e = .returned (.tuple #[.agg #[.int .i64 (fA a b), .int .i64 (fB a b)], .int .i64 (fE a b)]) ∧ Below w.heap.size w w'
theorem Red.at {a b n d x : Int} {w w' : World} (h : fA a b = n ∧ fB a b = d ∧ fE a b = x) (hb : Below w.heap.size w w') : Red a b w (.returned (.tuple #[.agg #[.int .i64 n, .int .i64 d], .int .i64 x])) w' := by
  obtain ⟨rfl, rfl, rfl⟩ := h
  exact ⟨rfl, hb⟩
theorem unnamed {a b : Int} (h : fits a b = false) : fA a b = 0 ∧ fB a b = 0 ∧ fE a b = 4 := by
  unfold fA fB fE; rw [h]; exact ⟨rfl, rfl, rfl⟩
set_option maxHeartbeats 4000000 in
theorem reduce_pos (n : Bool) (N M : Nat) (hN0 : 0 < N) (hN : N < 170141183460469231731687303715884105728) (hM0 : 0 < M) (hM : M < 170141183460469231731687303715884105728) (w : World) :
    Calls Try.prog 49 #[.bool n, .agg #[.int .u64 (wh N), .int .u64 (wl N)], .agg #[.int .u64 (wh M), .int .u64 (wl M)]] w (Red (sv N n) M w) := by
  obtain ⟨g0, g1⟩ := quot_small N M hN hM hM0
  obtain ⟨p1, p2⟩ := sv_lowest N M n false hM0
  have hs : sv M false = (M : Int) := rfl
  rw [hs] at p1 p2
  have hcw := Lib.hid (fun w => gcd_any N M (by omega) hM w)
  have hn := Lib.hid (fun w => divide_any N (Nat.gcd N M) (by omega) g0 g1 w)
  have hd := Lib.hid (fun w => divide_any M (Nat.gcd N M) (by omega) g0 g1 w)
  have hz : ¬ (wh N = 0 ∧ wl N = 0) := fun h => by have := (two_zero N).1 h; omega
  have hsz : ((n && decide (0 < N)) != (false && decide (0 < M))) = n := by
    have : decide (0 < N) = true := by simpa using hN0
    rw [this]; cases n <;> rfl
  rw [hsz] at p1
  have hX : N / Nat.gcd N M < 340282366920938463463374607431768211456 := by have := Nat.div_le_self N (Nat.gcd N M); omega
  have hY : M / Nat.gcd N M < 340282366920938463463374607431768211456 := by have := Nat.div_le_self M (Nat.gcd N M); omega
  obtain ⟨X, eX⟩ : ∃ X, X = N / Nat.gcd N M := ⟨_, rfl⟩
  obtain ⟨Y, eY⟩ : ∃ Y, Y = M / Nat.gcd N M := ⟨_, rfl⟩
  obtain ⟨X', eX'⟩ : ∃ X, X = N % Nat.gcd N M := ⟨_, rfl⟩
  obtain ⟨Y', eY'⟩ : ∃ Y, Y = M % Nat.gcd N M := ⟨_, rfl⟩
  obtain ⟨G, eG⟩ : ∃ G, G = Nat.gcd N M := ⟨_, rfl⟩
  rw [← eX] at p1 hX; rw [← eY] at p2 hY
  rw [← eX, ← eX', ← eG] at hn
  rw [← eY, ← eY', ← eG] at hd
  rw [← eG] at hcw
  have P1 := Lib.hid p1; have P2 := Lib.hid p2
  clear eX eY eX' eY' eG g0 g1 p1 p2 hsz hs
  have F0 := Lib.hid (Fr.new (Fr.new (Fr.new (Fr.refl w) rfl [.int .u64 (wh N), .int .u64 (wl N)] 85) (by simp) [.int .u64 (wh M), .int .u64 (wl M)] 85) (by simp) [.int .i64 0, .int .i64 0] 31)
  go_enter Try.func49, Try.ntmps49
  go_upto_region 1 with fail
  obtain ⟨w0, hw0⟩ : ∃ w0, w0 = ((w.alloc (.cells #[.int .u64 (wh N), .int .u64 (wl N)] 85)).alloc (.cells #[.int .u64 (wh M), .int .u64 (wl M)] 85)).alloc (.cells #[.int .i64 0, .int .i64 0] 31) := ⟨_, rfl⟩
  have F1 := Lib.hid (show Fr w w0 [[.int .u64 (wh N), .int .u64 (wl N)], [.int .u64 (wh M), .int .u64 (wl M)], [.int .i64 0, .int .i64 0]] from by rw [hw0]; exact F0.out)
  rw [← hw0]
  clear hw0 F0
  have c0 := F1.out.h0.cell 0 _ rfl; have c1 := F1.out.h0.cell 1 _ rfl; have d0 := F1.out.h1.cell 0 _ rfl; have d1 := F1.out.h1.cell 1 _ rfl
  go_cut [16] (fun s16 wx => s16 = .bool false ∧ w0 = wx)
  case first =>
    by_cases h1 : wh N = 0
    · have h2 : (wh N == 0) = true := by simp [h1]
      have h3 : (wl N == 0) = false := by simp; exact fun h => hz ⟨h1, h⟩
      have h4 : ¬ wl N = 0 := fun h => hz ⟨h1, h⟩
      clear h1
      go_wp2
      go_meet
      exact ⟨rfl, rfl⟩
    · have h2 : (wh N == 0) = false := by simp [h1]
      go_wp2
      go_meet
      exact ⟨rfl, rfl⟩
  case rest =>
  obtain ⟨rfl, rfl⟩ := hcut
  go_wp2_with fail
  refine (hcw.out _).mono ?_
  rintro e w1 ⟨rfl, hb1⟩
  have F2 := Lib.hid (Fr.more (Fr.call hb1 F1.out) (.cells #[.int .u64 (wh G), .int .u64 (wl G)] 85))
  have XG := Lib.hid (Has.new w1 [.int .u64 (wh G), .int .u64 (wl G)] 85)
  clear c0 c1 d0 d1 F1 hb1 hcw
  have c0 := F2.out.h0.cell 0 _ rfl; have c1 := F2.out.h0.cell 1 _ rfl; have d0 := F2.out.h1.cell 0 _ rfl; have d1 := F2.out.h1.cell 1 _ rfl; have y0 := XG.out.cell 0 _ rfl; have y1 := XG.out.cell 1 _ rfl
  go_wp2_with fail
  refine (hn.out _).mono ?_
  rintro e w2 ⟨rfl, hb2⟩
  have F3 := Lib.hid (Fr.more (Fr.more (Fr.call hb2 F2.out) (.cells #[.int .u64 (wh X), .int .u64 (wl X)] 85)) (.cells #[.int .u64 (wh X'), .int .u64 (wl X')] 85))
  have XG2 := Lib.hid (((XG.out.below hb2 (by simp)).old (o := .cells #[.int .u64 (wh X), .int .u64 (wl X)] 85) (by have := hb2.size; simp at this; omega)).old (o := .cells #[.int .u64 (wh X'), .int .u64 (wl X')] 85) (by have := hb2.size; simp at this; simp; omega))
  have XX := Lib.hid ((Has.new w2 [.int .u64 (wh X), .int .u64 (wl X)] 85).old (o := .cells #[.int .u64 (wh X'), .int .u64 (wl X')] 85) (by simp))
  clear c0 c1 d0 d1 y0 y1 F2 XG hb2 hn
  have d0 := F3.out.h1.cell 0 _ rfl; have d1 := F3.out.h1.cell 1 _ rfl; have y0 := XG2.out.cell 0 _ rfl; have y1 := XG2.out.cell 1 _ rfl
  go_wp2_with fail
  refine (hd.out _).mono ?_
  rintro e w3 ⟨rfl, hb3⟩
  have F4 := Lib.hid (Fr.more (Fr.more (Fr.call hb3 F3.out) (.cells #[.int .u64 (wh Y), .int .u64 (wl Y)] 85)) (.cells #[.int .u64 (wh Y'), .int .u64 (wl Y')] 85))
  have XX2 := Lib.hid (((XX.out.below hb3 (XX.out.lt (by simp))).old (o := .cells #[.int .u64 (wh Y), .int .u64 (wl Y)] 85) (Nat.lt_of_lt_of_le (XX.out.lt (by simp)) hb3.size)).old (o := .cells #[.int .u64 (wh Y'), .int .u64 (wl Y')] 85) (Nat.lt_of_lt_of_le (XX.out.lt (by simp)) (by have := hb3.size; simp at this; simp; omega)))
  have XY := Lib.hid ((Has.new w3 [.int .u64 (wh Y), .int .u64 (wl Y)] 85).old (o := .cells #[.int .u64 (wh Y'), .int .u64 (wl Y')] 85) (by simp))
  clear d0 d1 y0 y1 F3 XG2 XX hb3 hd
  go_upto_region 6 with fail
  obtain ⟨w4, hw4⟩ : ∃ w4, w4 = (w3.alloc (.cells #[.int .u64 (wh Y), .int .u64 (wl Y)] 85)).alloc (.cells #[.int .u64 (wh Y'), .int .u64 (wl Y')] 85) := ⟨_, rfl⟩
  rw [← hw4] at F4 XX2 XY ⊢
  clear hw4
  have xb := wl_bd X; have yb := wl_bd Y; have xb2 := wh_bd X hX; have yb2 := wh_bd Y hY
  by_cases hfit : X ≤ 1152921504606846976 ∧ Y ≤ 1152921504606846976
  · obtain ⟨f1, f2⟩ := hfit
    have e1 := wh_small X (by omega); have e2 := wh_small Y (by omega)
    rw [e1.1, e1.2] at XX2
    rw [e2.1, e2.2] at XY
    clear e1 e2 xb yb xb2 yb2
    have x0 := XX2.out.cell 0 _ rfl; have x1 := XX2.out.cell 1 _ rfl; have y0 := XY.out.cell 0 _ rfl; have y1 := XY.out.cell 1 _ rfl
    have r0 := F4.out.h2.cell 0 _ rfl; have r1 := F4.out.h2.cell 1 _ rfl; have rf := F4.out.h2.free; have lr := F4.out.h2.lt (by simp)
    have q1 : ¬ (1152921504606846976 : Int) < (X : Int) := by omega
    have q2 : ¬ (1152921504606846976 : Int) < (Y : Int) := by omega
    have q3 : IntKind.i64.wrap (X : Int) = (X : Int) := IntWalk.i64_in _ (by omega)
    have q4 : IntKind.i64.wrap (Y : Int) = (Y : Int) := IntWalk.i64_in _ (by omega)
    have q5 : IntKind.i64.wrap (-(X : Int)) = -(X : Int) := IntWalk.i64_in _ (by omega)
    have q6 : ¬ 1152921504606846976 < X := by omega
    have q7 : ¬ 1152921504606846976 < Y := by omega
    cases n with
    | false =>
      go_wp2
      have RR := ((F4.out.h2.set0 (.int .i64 (X : Int))).set1 (.int .i64 (Y : Int))).old (o := .cells #[.int .i64 (X : Int), .int .i64 (Y : Int)] 31) (by simp; omega)
      have u0 := RR.cell 0 _ rfl; have u1 := RR.cell 1 _ rfl
      refine bodyPost_ret (v := .tuple #[.agg #[.int .i64 (X : Int), .int .i64 (Y : Int)], .int .i64 0]) (by simp [results, Try.results49, go_sem, u0, u1]) rfl (Red.at (named_eq (by rw [P1.out]; rfl) P2.out (by omega) (by omega) (by omega)) ?_)
      exact F4.out.below.trans (by go_grown)
    | true =>
      go_wp2
      have RR := ((F4.out.h2.set0 (.int .i64 (-(X : Int)))).set1 (.int .i64 (Y : Int))).old (o := .cells #[.int .i64 (-(X : Int)), .int .i64 (Y : Int)] 31) (by simp; omega)
      have u0 := RR.cell 0 _ rfl; have u1 := RR.cell 1 _ rfl
      refine bodyPost_ret (v := .tuple #[.agg #[.int .i64 (-(X : Int)), .int .i64 (Y : Int)], .int .i64 0]) (by simp [results, Try.results49, go_sem, u0, u1]) rfl (Red.at (named_eq (by rw [P1.out]; rfl) P2.out (by omega) (by omega) (by omega)) ?_)
      exact F4.out.below.trans (by go_grown)
  · have hnf : fits (sv N n) (M : Int) = false := by
      unfold fits
      rw [decide_eq_false_iff_not, P1.out, P2.out]
      intro h
      apply hfit
      cases n
      · simp at h; omega
      · simp at h; omega
    have HNF := Lib.hid hnf
    have xw := w_of X; have yw := w_of Y
    have x0 := XX2.out.cell 0 _ rfl; have x1 := XX2.out.cell 1 _ rfl; have y0 := XY.out.cell 0 _ rfl; have y1 := XY.out.cell 1 _ rfl
    have r0 := F4.out.h2.cell 0 _ rfl; have r1 := F4.out.h2.cell 1 _ rfl; have rf := F4.out.h2.free; have lr := F4.out.h2.lt (by simp)
    have FIN := Lib.hid (show ∀ wx, Below w.heap.size w4 wx → Red (sv N n) M w (.returned (.tuple #[.agg #[.int .i64 0, .int .i64 0], .int .i64 4])) wx from fun wx hb => Red.at (unnamed HNF.out) (F4.out.below.trans hb))
    clear hnf
    by_cases h1 : 0 < wh X
    · clear xw yw
      go_wp2
      exact bodyPost_ret (v := .tuple #[.agg #[.int .i64 0, .int .i64 0], .int .i64 4]) (by simp [results, Try.results49, go_sem, r0, r1]) rfl (FIN.out _ (by go_grown))
    · by_cases h2 : 0 < wh Y
      · clear xw yw
        go_wp2
        exact bodyPost_ret (v := .tuple #[.agg #[.int .i64 0, .int .i64 0], .int .i64 4]) (by simp [results, Try.results49, go_sem, r0, r1]) rfl (FIN.out _ (by go_grown))
      · by_cases h3 : 1152921504606846976 < wl X
        · clear xw yw
          go_wp2
          exact bodyPost_ret (v := .tuple #[.agg #[.int .i64 0, .int .i64 0], .int .i64 4]) (by simp [results, Try.results49, go_sem, r0, r1]) rfl (FIN.out _ (by go_grown))
        · have h4 : 1152921504606846976 < wl Y := by omega
          clear xw yw
          go_wp2
          exact bodyPost_ret (v := .tuple #[.agg #[.int .i64 0, .int .i64 0], .int .i64 4]) (by simp [results, Try.results49, go_sem, r0, r1]) rfl (FIN.out _ (by go_grown))
theorem red_same {a b c d : Int} (h1 : fN a b = fN c d) (h2 : fD a b = fD c d) : fA a b = fA c d ∧ fB a b = fB c d ∧ fE a b = fE c d := by
  have hf : fits a b = fits c d := by unfold fits; rw [h1, h2]
  unfold fA fB fE
  rw [hf, h1, h2]
  exact ⟨rfl, rfl, rfl⟩
theorem Red.of {a b c d : Int} {w w' : World} {e : Ending} (hb : b ≠ 0) (hd : d ≠ 0) (h : a * d = c * b) (r : Red a b w e w') : Red c d w e w' := by
  obtain ⟨h1, h2⟩ := fND_same hb hd h
  obtain ⟨e1, e2, e3⟩ := red_same h1 h2
  unfold Red at r ⊢
  rwa [e1, e2, e3] at r
set_option maxHeartbeats 2000000 in
theorem reduce_zero (n : Bool) (M : Nat) (hM : 0 < M) (w : World) :
    Calls Try.prog 49 #[.bool n, .agg #[.int .u64 (wh 0), .int .u64 (wl 0)], .agg #[.int .u64 (wh M), .int .u64 (wl M)]] w (Red (sv 0 n) M w) := by
  have e : sv 0 n = 0 := by unfold sv; cases n <;> simp
  have h1 := fND_eq (a := 0) (b := (M : Int)) (n := 0) (d := 1) (by omega) (by omega) (by decide) (by omega)
  have nm := named_eq h1.1 h1.2 (by omega) (by omega) (by omega)
  have NM := Lib.hid nm
  rw [wh0, wl0, e]
  clear nm h1 e
  go_enter Try.func49, Try.ntmps49
  go_wp2
  exact bodyPost_ret (v := .tuple #[.agg #[.int .i64 0, .int .i64 1], .int .i64 0]) (by simp [results, Try.results49, go_sem]) rfl (Red.at NM.out (by go_grown))
theorem reduce_any (n : Bool) (N M : Nat) (hN : N < 170141183460469231731687303715884105728) (hM0 : 0 < M) (hM : M < 170141183460469231731687303715884105728) (w : World) :
    Calls Try.prog 49 #[.bool n, .agg #[.int .u64 (wh N), .int .u64 (wl N)], .agg #[.int .u64 (wh M), .int .u64 (wl M)]] w (Red (sv N n) M w) := by
  rcases Nat.eq_zero_or_pos N with h | h
  · subst h; exact reduce_zero n M hM0 w
  · exact reduce_pos n N M h hN hM0 hM w
theorem sv_div (a b : Int) : sv a.natAbs (decide (a < 0) != decide (b < 0)) * b = a * (b.natAbs : Int) := by
  by_cases h1 : a < 0 <;> by_cases h2 : b < 0
  · rw [show (decide (a < 0) != decide (b < 0)) = false by simp [h1, h2]]
    show (a.natAbs : Int) * b = _
    rw [show (a.natAbs : Int) = -a by omega, show (b.natAbs : Int) = -b by omega, Int.neg_mul, Int.mul_neg]
  · rw [show (decide (a < 0) != decide (b < 0)) = true by simp [h1, h2]]
    show -(a.natAbs : Int) * b = _
    rw [show (a.natAbs : Int) = -a by omega, show (b.natAbs : Int) = b by omega, Int.neg_neg]
  · rw [show (decide (a < 0) != decide (b < 0)) = true by simp [h1, h2]]
    show -(a.natAbs : Int) * b = _
    rw [show (a.natAbs : Int) = a by omega, show (b.natAbs : Int) = -b by omega, Int.neg_mul, Int.mul_neg]
  · rw [show (decide (a < 0) != decide (b < 0)) = false by simp [h1, h2]]
    show (a.natAbs : Int) * b = _
    rw [show (a.natAbs : Int) = a by omega, show (b.natAbs : Int) = b by omega]
theorem rneg_any (a b : Int) (ha : -9223372036854775807 ≤ a) (ha' : a ≤ 9223372036854775807) (w : World) :
    Calls Try.prog 71 #[.agg #[.int .i64 a, .int .i64 b]] w fun e w' => e = .returned (.agg #[.int .i64 (-a), .int .i64 b]) ∧ Below w.heap.size w w' := by
  have q : IntKind.i64.wrap (-a) = -a := IntWalk.i64_in _ (by omega)
  go_enter Try.func71, Try.ntmps71
  go_wp2
  exact bodyPost_ret (v := .agg #[.int .i64 (-a), .int .i64 b]) (by simp [results, Try.results71, go_sem]) rfl ⟨rfl, by go_grown⟩
theorem big_mul {A B : Nat} (hA : A ≤ 1152921504606846976) (hB : B ≤ 1152921504606846976) : A * B ≤ 1329227995784915872903807060280344576 := Nat.mul_le_mul hA hB
set_option maxHeartbeats 2000000 in
theorem rmul_any (xn yn : Int) (xd yd : Nat) (hx : -1152921504606846976 ≤ xn) (hx1 : xn ≤ 1152921504606846976) (hy : -1152921504606846976 ≤ yn) (hy1 : yn ≤ 1152921504606846976) (kx : 1 ≤ xd) (kx1 : xd ≤ 1152921504606846976) (ky : 1 ≤ yd) (ky1 : yd ≤ 1152921504606846976) (w : World) :
    Calls Try.prog 23 #[.agg #[.int .i64 xn, .int .i64 (xd : Int)], .agg #[.int .i64 yn, .int .i64 (yd : Int)]] w (Red (xn * yn) ((xd : Int) * (yd : Int)) w) := by
  have b1 := big_mul (A := xn.natAbs) (B := yn.natAbs) (by omega) (by omega)
  have b2 := big_mul kx1 ky1
  have b3 := Nat.mul_pos (show 0 < xd by omega) (show 0 < yd by omega)
  have RD := Lib.hid (show ∀ w, Calls Try.prog 49 #[.bool (decide (xn < 0) != decide (yn < 0)), .agg #[.int .u64 (wh (xn.natAbs * yn.natAbs)), .int .u64 (wl (xn.natAbs * yn.natAbs))], .agg #[.int .u64 (wh (xd * yd)), .int .u64 (wl (xd * yd))]] w (Red (xn * yn) ((xd : Int) * (yd : Int)) w) from fun w => by
    have := reduce_any (decide (xn < 0) != decide (yn < 0)) (xn.natAbs * yn.natAbs) (xd * yd) (by omega) b3 (by omega) w
    rwa [sv_mul, Int.natCast_mul] at this)
  have s1 := Lib.hid (fun w => size_any xn (by omega) (by omega) w); have s2 := Lib.hid (fun w => size_any yn (by omega) (by omega) w)
  have m1 := Lib.hid (fun w => mul_any xn.natAbs yn.natAbs (by omega) (by omega) w); have m2 := Lib.hid (fun w => mul_any xd yd (by omega) (by omega) w)
  have q1 : IntKind.u64.wrap (xd : Int) = (xd : Int) := IntWalk.u64_in _ (by omega)
  have q2 : IntKind.u64.wrap (yd : Int) = (yd : Int) := IntWalk.u64_in _ (by omega)
  clear b1 b2 b3
  have F0 := Lib.hid (Fr.new (Fr.new (Fr.new (Fr.refl w) rfl [.int .i64 xn, .int .i64 (xd : Int)] 31) (by simp) [.int .i64 yn, .int .i64 (yd : Int)] 31) (by simp) [.int .i64 0, .int .i64 0] 31)
  go_enter Try.func23, Try.ntmps23
  go_upto_region 1 with fail
  obtain ⟨w0, hw0⟩ : ∃ w0, w0 = ((w.alloc (.cells #[.int .i64 xn, .int .i64 (xd : Int)] 31)).alloc (.cells #[.int .i64 yn, .int .i64 (yd : Int)] 31)).alloc (.cells #[.int .i64 0, .int .i64 0] 31) := ⟨_, rfl⟩
  have F1 := Lib.hid (show Fr w w0 [[.int .i64 xn, .int .i64 (xd : Int)], [.int .i64 yn, .int .i64 (yd : Int)], [.int .i64 0, .int .i64 0]] from by rw [hw0]; exact F0.out)
  rw [← hw0]
  clear hw0 F0
  have c0 := F1.out.h0.cell 0 _ rfl; have c1 := F1.out.h0.cell 1 _ rfl; have d0 := F1.out.h1.cell 0 _ rfl; have d1 := F1.out.h1.cell 1 _ rfl
  have FF := Lib.hid F1.out.drew
  have g0 := FF.out.h0.cell 0 _ rfl; have g1 := FF.out.h0.cell 1 _ rfl; have g2 := FF.out.h1.cell 0 _ rfl; have g3 := FF.out.h1.cell 1 _ rfl
  go_region_held3 (fun w' => w'.cell? ⟨w.heap.size, 0, none⟩ = some (.int .i64 xn) ∧ w'.cell? ⟨w.heap.size, 1, none⟩ = some (.int .i64 (xd : Int)) ∧ w'.cell? ⟨w.heap.size + 1, 0, none⟩ = some (.int .i64 yn) ∧ w'.cell? ⟨w.heap.size + 1, 1, none⟩ = some (.int .i64 (yd : Int))) (((try dsimp only); (try go_split_ands); (repeat' apply And.intro); all_goals (first | (with_reducible assumption) | (refine cell_later hb8 ?_; with_reducible assumption) | (refine cell_set (by omega) (cell_set (by omega) ?_); with_reducible assumption))))
    (first
      | (go_at_call 48; refine (size_any _ (by omega) (by omega) _).mono ?_; rintro e w' ⟨rfl, rfl⟩)
      | (go_at_call 47; with_reducible refine (m1.out _).mono ?_; rintro e w8 ⟨rfl, hb8⟩; have FF := Lib.hid (Fr.call hb8 FF.out))
      | (go_at_call 47; with_reducible refine (m2.out _).mono ?_; rintro e w8 ⟨rfl, hb8⟩; have FF := Lib.hid (Fr.call hb8 FF.out))
      | (go_at_call 49; refine (RD.out _).mono ?_; rintro e w8 ⟨rfl, hb8⟩; have FF := Lib.hid (Fr.call hb8 FF.out); have r0 := FF.out.h2.cell 0 _ rfl; have r1 := FF.out.h2.cell 1 _ rfl; have rf := FF.out.h2.free; have lr := FF.out.h2.lt (by simp)))
  all_goals
    go_wp2
    exact bodyPost_ret (v := .tuple #[.agg #[.int .i64 (fA (xn * yn) ((xd : Int) * (yd : Int))), .int .i64 (fB (xn * yn) ((xd : Int) * (yd : Int)))], .int .i64 (fE (xn * yn) ((xd : Int) * (yd : Int)))]) (by simp [results, Try.results23, go_sem, r0, r1]) rfl ⟨rfl, FF.out.below.trans (by go_grown)⟩
set_option maxHeartbeats 2000000 in
theorem rdiv_any (xn yn : Int) (xd yd : Nat) (hx : -1152921504606846976 ≤ xn) (hx1 : xn ≤ 1152921504606846976) (hy : -1152921504606846976 ≤ yn) (hy1 : yn ≤ 1152921504606846976) (kx : 1 ≤ xd) (kx1 : xd ≤ 1152921504606846976) (ky : 1 ≤ yd) (ky1 : yd ≤ 1152921504606846976) (hz : yn ≠ 0) (w : World) :
    Calls Try.prog 72 #[.agg #[.int .i64 xn, .int .i64 (xd : Int)], .agg #[.int .i64 yn, .int .i64 (yd : Int)]] w (Red (xn * (yd : Int)) ((xd : Int) * yn) w) := by
  have b1 := big_mul (A := xn.natAbs) (B := yd) (by omega) (by omega)
  have b2 := big_mul (A := xd) (B := yn.natAbs) kx1 (by omega)
  have b3 := Nat.mul_pos (show 0 < xd by omega) (show 0 < yn.natAbs by omega)
  have hdn : (xd : Int) * yn ≠ 0 := Int.mul_ne_zero (by omega) hz
  have RD := Lib.hid (show ∀ w, Calls Try.prog 49 #[.bool (decide (xn < 0) != decide (yn < 0)), .agg #[.int .u64 (wh (xn.natAbs * yd)), .int .u64 (wl (xn.natAbs * yd))], .agg #[.int .u64 (wh (xd * yn.natAbs)), .int .u64 (wl (xd * yn.natAbs))]] w (Red (xn * (yd : Int)) ((xd : Int) * yn) w) from fun w => by
    refine (reduce_any (decide (xn < 0) != decide (yn < 0)) (xn.natAbs * yd) (xd * yn.natAbs) (by omega) b3 (by omega) w).mono fun e w' hr => ?_
    refine Red.of (by omega) hdn ?_ hr
    have h1 := sv_div xn yn
    have h2 : sv (xn.natAbs * yd) (decide (xn < 0) != decide (yn < 0)) = sv xn.natAbs (decide (xn < 0) != decide (yn < 0)) * (yd : Int) := by
      unfold sv
      split
      · rw [Int.natCast_mul, Int.neg_mul]
      · rw [Int.natCast_mul]
    rw [h2, Int.natCast_mul]
    generalize sv xn.natAbs (decide (xn < 0) != decide (yn < 0)) = u at *
    generalize (yn.natAbs : Int) = v at *
    rw [Int.mul_assoc, Int.mul_assoc, Int.mul_left_comm (yd : Int) (xd : Int) yn, Int.mul_left_comm (yd : Int) (xd : Int) v, Int.mul_left_comm u, Int.mul_left_comm xn, Int.mul_left_comm u, Int.mul_left_comm xn, h1])
  have s1 := Lib.hid (fun w => size_any xn (by omega) (by omega) w); have s2 := Lib.hid (fun w => size_any yn (by omega) (by omega) w)
  have m1 := Lib.hid (fun w => mul_any xn.natAbs yd (by omega) (by omega) w); have m2 := Lib.hid (fun w => mul_any xd yn.natAbs (by omega) (by omega) w)
  have q1 : IntKind.u64.wrap (xd : Int) = (xd : Int) := IntWalk.u64_in _ (by omega)
  have q2 : IntKind.u64.wrap (yd : Int) = (yd : Int) := IntWalk.u64_in _ (by omega)
  have hzb : (yn == 0) = false := by simpa using hz
  clear b1 b2 b3 hdn
  have F0 := Lib.hid (Fr.new (Fr.new (Fr.new (Fr.refl w) rfl [.int .i64 xn, .int .i64 (xd : Int)] 31) (by simp) [.int .i64 yn, .int .i64 (yd : Int)] 31) (by simp) [.int .i64 0, .int .i64 0] 31)
  go_enter Try.func72, Try.ntmps72
  go_upto_region 1 with fail
  obtain ⟨w0, hw0⟩ : ∃ w0, w0 = ((w.alloc (.cells #[.int .i64 xn, .int .i64 (xd : Int)] 31)).alloc (.cells #[.int .i64 yn, .int .i64 (yd : Int)] 31)).alloc (.cells #[.int .i64 0, .int .i64 0] 31) := ⟨_, rfl⟩
  have F1 := Lib.hid (show Fr w w0 [[.int .i64 xn, .int .i64 (xd : Int)], [.int .i64 yn, .int .i64 (yd : Int)], [.int .i64 0, .int .i64 0]] from by rw [hw0]; exact F0.out)
  rw [← hw0]
  clear hw0 F0
  have c0 := F1.out.h0.cell 0 _ rfl; have c1 := F1.out.h0.cell 1 _ rfl; have d0 := F1.out.h1.cell 0 _ rfl; have d1 := F1.out.h1.cell 1 _ rfl
  go_upto_region 3 with fail
  have FF := Lib.hid F1.out.drew
  have g0 := FF.out.h0.cell 0 _ rfl; have g1 := FF.out.h0.cell 1 _ rfl; have g2 := FF.out.h1.cell 0 _ rfl; have g3 := FF.out.h1.cell 1 _ rfl
  go_region_held3 (fun w' => w'.cell? ⟨w.heap.size, 0, none⟩ = some (.int .i64 xn) ∧ w'.cell? ⟨w.heap.size, 1, none⟩ = some (.int .i64 (xd : Int)) ∧ w'.cell? ⟨w.heap.size + 1, 0, none⟩ = some (.int .i64 yn) ∧ w'.cell? ⟨w.heap.size + 1, 1, none⟩ = some (.int .i64 (yd : Int))) (((try dsimp only); (try go_split_ands); (repeat' apply And.intro); all_goals (first | (with_reducible assumption) | (refine cell_later hb8 ?_; with_reducible assumption) | (refine cell_set (by omega) (cell_set (by omega) ?_); with_reducible assumption))))
    (first
      | (go_at_call 48; refine (size_any _ (by omega) (by omega) _).mono ?_; rintro e w' ⟨rfl, rfl⟩)
      | (go_at_call 47; with_reducible refine (m1.out _).mono ?_; rintro e w8 ⟨rfl, hb8⟩; have FF := Lib.hid (Fr.call hb8 FF.out))
      | (go_at_call 47; with_reducible refine (m2.out _).mono ?_; rintro e w8 ⟨rfl, hb8⟩; have FF := Lib.hid (Fr.call hb8 FF.out))
      | (go_at_call 49; refine (RD.out _).mono ?_; rintro e w8 ⟨rfl, hb8⟩; have FF := Lib.hid (Fr.call hb8 FF.out); have r0 := FF.out.h2.cell 0 _ rfl; have r1 := FF.out.h2.cell 1 _ rfl; have rf := FF.out.h2.free; have lr := FF.out.h2.lt (by simp)))
  all_goals
    go_wp2
    exact bodyPost_ret (v := .tuple #[.agg #[.int .i64 (fA (xn * (yd : Int)) ((xd : Int) * yn)), .int .i64 (fB (xn * (yd : Int)) ((xd : Int) * yn))], .int .i64 (fE (xn * (yd : Int)) ((xd : Int) * yn))]) (by simp [results, Try.results72, go_sem, r0, r1]) rfl ⟨rfl, FF.out.below.trans (by go_grown)⟩
def BoolB (b : Bool) (w : World) (e : Ending) (w' : World) : Prop := e = .returned (.bool b) ∧ Below w.heap.size w w'
theorem fr_two (w : World) (a b : Int) : Fr w (w.alloc (.cells #[.int .i64 a, .int .i64 b] 31)) [[.int .i64 a, .int .i64 b]] := Fr.new (Fr.refl w) rfl [.int .i64 a, .int .i64 b] 31
theorem valid_out (a b : Int) (_ha : -9223372036854775808 ≤ a) (_ha' : a ≤ 9223372036854775807) (h : a < -1152921504606846976 ∨ 1152921504606846976 < a) (w : World) :
    Calls Try.prog 79 #[.agg #[.int .i64 a, .int .i64 b]] w (BoolB false w) := by
  have WN := Lib.hid (fun w => within_no a 1152921504606846976 (by omega) (by omega) h w)
  clear h
  go_enter Try.func79, Try.ntmps79
  go_wp2_with fail
  refine (WN.out _).mono ?_
  rintro e w' ⟨rfl, rfl⟩
  go_wp2
  go_returns
  exact ⟨rfl, (fr_two w a b).below⟩
theorem valid_den (a b : Int) (ha : -1152921504606846976 ≤ a) (ha' : a ≤ 1152921504606846976) (h : b < 1 ∨ 1152921504606846976 < b) (w : World) :
    Calls Try.prog 79 #[.agg #[.int .i64 a, .int .i64 b]] w (BoolB false w) := by
  have WN := Lib.hid (fun w => within_yes a 1152921504606846976 (by omega) (by omega) ha ha' w)
  rcases h with h | h
  · go_enter Try.func79, Try.ntmps79
    go_wp2_with fail
    refine (WN.out _).mono ?_
    rintro e w' ⟨rfl, rfl⟩
    go_wp2
    go_returns
    exact ⟨rfl, (fr_two w a b).below⟩
  · have h1 : 1 ≤ b := by omega
    go_enter Try.func79, Try.ntmps79
    go_wp2_with fail
    refine (WN.out _).mono ?_
    rintro e w' ⟨rfl, rfl⟩
    go_wp2
    go_returns
    exact ⟨rfl, (fr_two w a b).below⟩
theorem valid_gcd (a b : Int) (ha : -1152921504606846976 ≤ a) (ha' : a ≤ 1152921504606846976) (hb : 1 ≤ b) (hb' : b ≤ 1152921504606846976) (hg : ¬ Int.gcd a b = 1) (w : World) :
    Calls Try.prog 79 #[.agg #[.int .i64 a, .int .i64 b]] w (BoolB false w) := by
  have WN := Lib.hid (fun w => within_yes a 1152921504606846976 (by omega) (by omega) ha ha' w)
  have hgb : (((Int.gcd a b : Nat) : Int) == 1) = false := by simp; omega
  have CM := Lib.hid (fun x y e1 e2 w => common_at (x := x) (y := y) a b e1 e2 (by omega) (by omega) w)
  clear hg
  obtain ⟨g, hgg⟩ : ∃ g, g = Int.gcd a b := ⟨_, rfl⟩
  rw [← hgg] at hgb CM
  clear hgg
  go_enter Try.func79, Try.ntmps79
  go_wp2_with (first | (go_at_call 89; refine (WN.out _).mono ?_; rintro e w' ⟨rfl, rfl⟩) | (go_at_call 90; refine Calls.mono (CM.out _ _ (by omega) (by omega) _) ?_; rintro e w2 ⟨rfl, hb2⟩; have hbel := (Fr.call hb2 (fr_two w a b)).below))
  all_goals go_returns
  all_goals exact ⟨by first | rfl | simp [hgb], hbel⟩
theorem rvalid_out (a b : Int) (h : a < -1152921504606846976 ∨ 1152921504606846976 < a ∨ b < 1 ∨ 1152921504606846976 < b) (w : World) :
    Calls Try.prog 20 #[.agg #[.int .i64 a, .int .i64 b]] w (BoolB false w) := by
  by_cases h1 : a < -1152921504606846976
  · go_enter Try.func20, Try.ntmps20
    go_wp2
    go_returns
    exact ⟨rfl, (fr_two w a b).below⟩
  · by_cases h2 : 1152921504606846976 < a
    · go_enter Try.func20, Try.ntmps20
      go_wp2
      go_returns
      exact ⟨rfl, (fr_two w a b).below⟩
    · by_cases h3 : b < 1
      · go_enter Try.func20, Try.ntmps20
        go_wp2
        go_returns
        exact ⟨rfl, (fr_two w a b).below⟩
      · have h4 : 1152921504606846976 < b := by omega
        clear h
        go_enter Try.func20, Try.ntmps20
        go_wp2
        go_returns
        exact ⟨rfl, (fr_two w a b).below⟩
theorem rvalid_gcd (a b : Int) (ha : -1152921504606846976 ≤ a) (ha' : a ≤ 1152921504606846976) (hb : 1 ≤ b) (hb' : b ≤ 1152921504606846976) (hg : ¬ Int.gcd a b = 1) (w : World) :
    Calls Try.prog 20 #[.agg #[.int .i64 a, .int .i64 b]] w (BoolB false w) := by
  have hgl : Nat.gcd a.natAbs b.natAbs ≤ b.natAbs := Nat.gcd_le_right _ (by omega)
  have hg' : ¬ Nat.gcd a.natAbs b.natAbs = 1 := hg
  have GC := Lib.hid (fun l m e1 e2 w => gcd_at (l := l) (m := m) a.natAbs b.natAbs e1 e2 (by omega) (by omega) (by omega) w)
  obtain ⟨g, hgg⟩ : ∃ g, g = Nat.gcd a.natAbs b.natAbs := ⟨_, rfl⟩
  rw [← hgg] at hg' GC
  have hgb : ((g : Int) == 1) = false := by simp; omega
  have hgn : ¬ (g : Int) = 1 := by omega
  clear hg hgg hgl
  go_enter Try.func20, Try.ntmps20
  go_wp2
  go_region_held3 (fun w' => w'.cell? ⟨w.heap.size, 0, none⟩ = some (.int .i64 a) ∧ w'.cell? ⟨w.heap.size, 1, none⟩ = some (.int .i64 b)) (first | go_keep | (refine ⟨cell_later hb2 ?_, cell_later hb2 ?_⟩ <;> go_keep))
    (first | (go_at_call 48; refine (size_any _ (by omega) (by omega) _).mono ?_; rintro e w' ⟨rfl, rfl⟩) | (go_at_call 53; refine Calls.mono (GC.out _ _ (by omega) (by rw [IntWalk.u64_in _ (by omega)]; omega) _) ?_; rintro e w2 ⟨rfl, hb2⟩))
  go_wp2
  go_returns
  exact ⟨by simp [], (((Below.refl _ _).alloc (Nat.le_refl _) _).drew).trans (hb2.mono (by go_size))⟩
def ValB (t : Int × Int) : Bool := decide (-1152921504606846976 ≤ t.1 ∧ t.1 ≤ 1152921504606846976 ∧ 1 ≤ t.2 ∧ t.2 ≤ 1152921504606846976 ∧ Int.gcd t.1 t.2 = 1)
def In63 (t : Int × Int) : Prop := -9223372036854775808 ≤ t.1 ∧ t.1 ≤ 9223372036854775807
theorem valid_is (t : Int × Int) (h : In63 t) : (∀ w, Calls Try.prog 79 #[.agg #[.int .i64 t.1, .int .i64 t.2]] w (BoolB (ValB t) w)) ∧ (∀ w, Calls Try.prog 20 #[.agg #[.int .i64 t.1, .int .i64 t.2]] w (BoolB (ValB t) w)) := by
  obtain ⟨a, b⟩ := t
  obtain ⟨ha, ha'⟩ := h
  dsimp only at *
  by_cases h1 : a < -1152921504606846976 ∨ 1152921504606846976 < a
  · have e : ValB (a, b) = false := decide_eq_false (fun h => by dsimp only at h; omega)
    rw [e]
    exact ⟨valid_out a b ha ha' h1, rvalid_out a b (by omega)⟩
  · by_cases h2 : b < 1 ∨ 1152921504606846976 < b
    · have e : ValB (a, b) = false := decide_eq_false (fun h => by dsimp only at h; omega)
      rw [e]
      exact ⟨valid_den a b (by omega) (by omega) h2, rvalid_out a b (by omega)⟩
    · by_cases h3 : Int.gcd a b = 1
      · have e : ValB (a, b) = true := decide_eq_true ⟨by dsimp only; omega, by dsimp only; omega, by dsimp only; omega, by dsimp only; omega, h3⟩
        rw [e]
        exact ⟨valid_yes a b (by omega) (by omega) (by omega) (by omega) h3, rvalid_yes a b (by omega) (by omega) (by omega) (by omega) h3⟩
      · have e : ValB (a, b) = false := decide_eq_false (fun h => h3 h.2.2.2.2)
        rw [e]
        exact ⟨valid_gcd a b (by omega) (by omega) (by omega) (by omega) h3, rvalid_gcd a b (by omega) (by omega) (by omega) (by omega) h3⟩
def GoodP (l : List (Int × Int)) : Prop := ∀ t ∈ l, 0 ≤ t.1 ∧ ValB t = true
set_option maxRecDepth 100000 in
set_option maxHeartbeats 4000000 in
theorem natural_any (K : Nat → Prop) (l : List (Int × Int)) (h : ∀ t ∈ l, In63 t) (a : Option Addr) (n c : Nat) (m : Int) (w : World) (R : Row RTm 2 K w a n c l) :
    Calls Try.prog 45 #[.slice a n c, .int .i64 m] w (YesNo ((n : Int) = m ∧ GoodP l) w) := by
  have HR := Lib.hid R; have HL := Lib.hid R.hlen; have h6 := R.hsz; have HF := Lib.hid h
  clear R h
  go_enter Try.func45, Try.ntmps45
  go_wp2
  go_loopw [9] (fun i wr => ∃ k : Nat, k ≤ n ∧ i = .int .i64 k ∧ (∀ x, x ∈ l.take k → 0 ≤ x.1 ∧ ValB x = true) ∧ Below w.heap.size w wr) (fun i _ => n - (intOf i).toNat)
  case atStart => exact ⟨0, Nat.zero_le _, rfl, by simp, Below.refl _ _⟩
  case round =>
    obtain ⟨k, hk, rfl, hT, hb⟩ := hrel
    have HT := Lib.hid hT; have HB := Lib.hid hb
    clear hT hb
    by_cases hlt : k < n
    · obtain ⟨b, o, ⟨x, y⟩, rfl, hx, t0, t1, kb, lb⟩ := RTm.get (HR.out.keeps RTm.stays (fun y _ hl => HB.out.block y hl) HB.out.size) hlt
      dsimp only at t0 t1
      have HX := Lib.hid hx
      have CL := Lib.hid ((valid_is (x, y) (HF.out _ (List.mem_of_getElem? hx))).2)
      have hk1 : (k : Int) < (n : Int) := by omega
      obtain ⟨v, hv⟩ : ∃ v, v = ValB (x, y) := ⟨_, rfl⟩
      rw [← hv] at CL
      have HV := Lib.hid hv
      clear hx hv
      obtain ⟨wx, hwx⟩ : ∃ wx, wx = wr.alloc (.cells #[.int .i64 x, .int .i64 y] 31) := ⟨_, rfl⟩
      have BX := Lib.hid (show Below wr.heap.size wr wx by rw [hwx]; exact (Below.refl _ _).alloc (Nat.le_refl _) _)
      have YX := Lib.hid (show Blk wx wr.heap.size 31 [.int .i64 x, .int .i64 y] by rw [hwx]; exact Blk.new wr _ _)
      have HWX := Lib.hid hwx
      clear hwx
      go_upto_region 4 with fail
      rw [← HWX.out]
      have y0 := YX.out.cell (i := 0) rfl; have y1 := YX.out.cell (i := 1) rfl
      go_wp2_with fail
      refine (CL.out _).mono ?_
      rintro e w1 ⟨rfl, hb⟩
      have B1 := Lib.hid (HB.out.trans ((BX.out.trans (hb.mono BX.out.size)).mono HB.out.size))
      have Y1 := Lib.hid (YX.out.below hb YX.out.lt)
      clear hb y0 y1
      have y0 := Y1.out.cell (i := 0) rfl
      cases v with
      | false =>
        have NO := Lib.hid (show ¬ ((n : Int) = m ∧ GoodP l) from fun h => by have := (h.2 _ (List.mem_of_getElem? HX.out)).2; rw [← HV.out] at this; cases this)
        go_wp2
        go_ret
        exact no_ret NO.out B1.out rfl
      | true =>
        by_cases hneg : x < 0
        · have NO := Lib.hid (show ¬ ((n : Int) = m ∧ GoodP l) from fun h => by have := (h.2 _ (List.mem_of_getElem? HX.out)).1; dsimp only at this; omega)
          go_wp2
          go_ret
          exact no_ret NO.out B1.out rfl
        · have HT2 := Lib.hid (show ∀ y, y ∈ l.take (k + 1) → 0 ≤ y.1 ∧ ValB y = true from fun z hz => by
            rw [List.take_add_one, HX.out, List.mem_append] at hz
            rcases hz with h | h
            · exact HT.out z h
            · have e : z = (x, y) := by simpa using h
              subst e
              exact ⟨by dsimp only; omega, HV.out.symm⟩)
          go_wp2
          go_roundw
          case rel => exact ⟨k + 1, by omega, by go_num, HT2.out, B1.out⟩
          case measure => simp [intOf]; omega
    · obtain rfl : k = n := by omega
      have GP := Lib.hid (show GoodP l from fun x hx => HT.out x (by rw [List.take_of_length_le (by rw [HL.out]; exact Nat.le_refl _)]; exact hx))
      by_cases hm : (k : Int) = m
      · have YES := Lib.hid (show ((k : Int) = m ∧ GoodP l) from ⟨hm, GP.out⟩)
        have hmb : ((k : Int) == m) = true := by simpa using hm
        clear hm
        go_wp2
        go_ret
        exact yes_ret YES.out HB.out rfl
      · have NO := Lib.hid (show ¬ ((k : Int) = m ∧ GoodP l) from fun h => hm h.1)
        have hmb : ((k : Int) == m) = false := by simpa using hm
        clear hm
        go_wp2
        go_ret
        exact no_ret NO.out HB.out rfl
/-! ### Two variables that are made while numbers are multiplied -/
theorem Has.k_set {w : World} {b g k : Nat} {vs : List Value} {v : Value} (hne : b ≠ g) (h : Has w b vs) : Has (w.setCell ⟨g, k, none⟩ v) b vs := h.other hne
theorem Fr.k_set {w wr : World} {l : List (List Value)} {g k : Nat} {v : Value} (hg : w.heap.size + l.length ≤ g) (s : Fr w wr l) : Fr w (wr.setCell ⟨g, k, none⟩ v) l :=
  ⟨s.below.trans ((Below.refl _ _).setCell (by simp; omega) _), by simpa using s.size, fun i vs h => (s.has i vs h).other (by have := (List.getElem?_eq_some_iff.1 h).1; simp; omega)⟩
def TwoW (w : World) (l : List (List Value)) (A B : Nat) (s6 s7 : Value) (wx : World) : Prop :=
  ∃ bx by_ : Nat, s6 = .pointer (some ⟨bx, 0, none⟩) ∧ s7 = .pointer (some ⟨by_, 0, none⟩) ∧ Has wx bx [.int .u64 (wh A), .int .u64 (wl A)] ∧ Has wx by_ [.int .u64 (wh B), .int .u64 (wl B)] ∧ Fr w wx l ∧ w.heap.size + l.length ≤ bx ∧ w.heap.size + l.length ≤ by_ ∧ bx ≠ by_
theorem sv_scale (a : Nat) (b : Nat) (n : Bool) : sv (a * b) n = sv a n * (b : Int) := by
  unfold sv
  split
  · rw [Int.natCast_mul, Int.neg_mul]
  · rw [Int.natCast_mul]
theorem add_law (xn yn : Int) (xd yd : Nat) : sv (plN (xn.natAbs * yd) (yn.natAbs * xd) (decide (xn < 0)) (decide (yn < 0))) (plS (xn.natAbs * yd) (yn.natAbs * xd) (decide (xn < 0)) (decide (yn < 0))) = xn * (yd : Int) + yn * (xd : Int) := by
  rw [sv_plus, sv_scale, sv_scale, sv_abs, sv_abs]
end Go.Proofs.Ytdegpgonphgbcaa
