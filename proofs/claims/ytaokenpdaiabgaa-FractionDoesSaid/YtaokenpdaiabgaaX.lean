/-
  timeboundref31.reduce and Make: the fraction in lowest terms, or ErrLimit. Conditions of reduce: both sizes are less than 2^127 and not 0.
-/
import Derived.Test.YtaokenpdaiabgaaK
import Derived.Test.YtaokenpdaiabgaaY
import Derived.Deep.DeepCutAuto
namespace Go.Proofs.Ytaokenpdaiabgaa
open Go.RowKit

theorem wh_small (N : Nat) (h : N < 18446744073709551616) : wh N = 0 ∧ wl N = (N : Int) := by unfold wh wl; omega
def Red (a b : Int) (w : World) (e : Ending) (w' : World) : Prop := e = .returned (.tuple #[.agg #[.int .i64 (fA a b), .int .i64 (fB a b)], .int .i64 (fE a b)]) ∧ Below w.heap.size w w'
theorem Red.at {a b n d x : Int} {w w' : World} (h : fA a b = n ∧ fB a b = d ∧ fE a b = x) (hb : Below w.heap.size w w') : Red a b w (.returned (.tuple #[.agg #[.int .i64 n, .int .i64 d], .int .i64 x])) w' := by
  obtain ⟨rfl, rfl, rfl⟩ := h
  exact ⟨rfl, hb⟩
theorem unnamed {a b : Int} (h : fits a b = false) : fA a b = 0 ∧ fB a b = 0 ∧ fE a b = 4 := by
  unfold fA fB fE; rw [h]; exact ⟨rfl, rfl, rfl⟩

set_option maxHeartbeats 4000000 in
theorem reduce_pos (n : Bool) (N M : Nat) (hN0 : 0 < N) (hN : N < 170141183460469231731687303715884105728) (hM0 : 0 < M) (hM : M < 170141183460469231731687303715884105728) (w : World) :
    Calls Try.prog 44 #[.bool n, .agg #[.int .u64 (wh N), .int .u64 (wl N)], .agg #[.int .u64 (wh M), .int .u64 (wl M)]] w (Red (sv N n) M w) := by
  obtain ⟨g0, g1⟩ := quot_small N M hN hM hM0
  obtain ⟨p1, p2⟩ := sv_lowest N M n false hM0
  have hs : sv M false = (M : Int) := rfl
  rw [hs] at p1 p2
  have hcw := Lib.hid (fun w => gcd_any N M (by omega) hM w)
  have hn := Lib.hid (fun w => divide_any N (Nat.gcd N M) (by omega) g0 g1 w)
  have hd := Lib.hid (fun w => divide_any M (Nat.gcd N M) (by omega) g0 g1 w)
  have hz : ¬ (wh N = 0 ∧ wl N = 0) := fun h => by have := (two_zero N).1 h; omega
  have hsz : ((n && decide (0 < N)) != (false && decide (0 < M))) = n := by
    have : decide (0 < N) = true := by simpa using hN0
    rw [this]; cases n <;> rfl
  rw [hsz] at p1
  have hX : N / Nat.gcd N M < 340282366920938463463374607431768211456 := by have := Nat.div_le_self N (Nat.gcd N M); omega
  have hY : M / Nat.gcd N M < 340282366920938463463374607431768211456 := by have := Nat.div_le_self M (Nat.gcd N M); omega
  obtain ⟨X, eX⟩ : ∃ X, X = N / Nat.gcd N M := ⟨_, rfl⟩
  obtain ⟨Y, eY⟩ : ∃ Y, Y = M / Nat.gcd N M := ⟨_, rfl⟩
  obtain ⟨X', eX'⟩ : ∃ X, X = N % Nat.gcd N M := ⟨_, rfl⟩
  obtain ⟨Y', eY'⟩ : ∃ Y, Y = M % Nat.gcd N M := ⟨_, rfl⟩
  obtain ⟨G, eG⟩ : ∃ G, G = Nat.gcd N M := ⟨_, rfl⟩
  rw [← eX] at p1 hX; rw [← eY] at p2 hY
  rw [← eX, ← eX', ← eG] at hn
  rw [← eY, ← eY', ← eG] at hd
  rw [← eG] at hcw
  have P1 := Lib.hid p1; have P2 := Lib.hid p2
  clear eX eY eX' eY' eG g0 g1 p1 p2 hsz hs
  have F0 := Lib.hid (Fr.new (Fr.new (Fr.new (Fr.refl w) rfl [.int .u64 (wh N), .int .u64 (wl N)] 48) (by simp) [.int .u64 (wh M), .int .u64 (wl M)] 48) (by simp) [.int .i64 0, .int .i64 0] 24)
  go_enter Try.func44, Try.ntmps44
  go_upto_region 1 with fail
  obtain ⟨w0, hw0⟩ : ∃ w0, w0 = ((w.alloc (.cells #[.int .u64 (wh N), .int .u64 (wl N)] 48)).alloc (.cells #[.int .u64 (wh M), .int .u64 (wl M)] 48)).alloc (.cells #[.int .i64 0, .int .i64 0] 24) := ⟨_, rfl⟩
  have F1 := Lib.hid (show Fr w w0 [[.int .u64 (wh N), .int .u64 (wl N)], [.int .u64 (wh M), .int .u64 (wl M)], [.int .i64 0, .int .i64 0]] from by rw [hw0]; exact F0.out)
  rw [← hw0]
  clear hw0 F0
  have c0 := F1.out.h0.cell 0 _ rfl; have c1 := F1.out.h0.cell 1 _ rfl; have d0 := F1.out.h1.cell 0 _ rfl; have d1 := F1.out.h1.cell 1 _ rfl
  go_cut [16] (fun s16 wx => s16 = .bool false ∧ w0 = wx)
  case first =>
    by_cases h1 : wh N = 0
    · have h2 : (wh N == 0) = true := by simp [h1]
      have h3 : (wl N == 0) = false := by simp; exact fun h => hz ⟨h1, h⟩
      have h4 : ¬ wl N = 0 := fun h => hz ⟨h1, h⟩
      clear h1
      go_wp2
      go_meet
      exact ⟨rfl, rfl⟩
    · have h2 : (wh N == 0) = false := by simp [h1]
      go_wp2
      go_meet
      exact ⟨rfl, rfl⟩
  case rest =>
  obtain ⟨rfl, rfl⟩ := hcut
  go_wp2_with fail
  refine (hcw.out _).mono ?_
  rintro e w1 ⟨rfl, hb1⟩
  have F2 := Lib.hid (Fr.more (Fr.call hb1 F1.out) (.cells #[.int .u64 (wh G), .int .u64 (wl G)] 48))
  have XG := Lib.hid (Has.new w1 [.int .u64 (wh G), .int .u64 (wl G)] 48)
  clear c0 c1 d0 d1 F1 hb1 hcw
  have c0 := F2.out.h0.cell 0 _ rfl; have c1 := F2.out.h0.cell 1 _ rfl; have d0 := F2.out.h1.cell 0 _ rfl; have d1 := F2.out.h1.cell 1 _ rfl; have y0 := XG.out.cell 0 _ rfl; have y1 := XG.out.cell 1 _ rfl
  go_wp2_with fail
  refine (hn.out _).mono ?_
  rintro e w2 ⟨rfl, hb2⟩
  have F3 := Lib.hid (Fr.more (Fr.more (Fr.call hb2 F2.out) (.cells #[.int .u64 (wh X), .int .u64 (wl X)] 48)) (.cells #[.int .u64 (wh X'), .int .u64 (wl X')] 48))
  have XG2 := Lib.hid (((XG.out.below hb2 (by simp)).old (o := .cells #[.int .u64 (wh X), .int .u64 (wl X)] 48) (by have := hb2.size; simp at this; omega)).old (o := .cells #[.int .u64 (wh X'), .int .u64 (wl X')] 48) (by have := hb2.size; simp at this; simp; omega))
  have XX := Lib.hid ((Has.new w2 [.int .u64 (wh X), .int .u64 (wl X)] 48).old (o := .cells #[.int .u64 (wh X'), .int .u64 (wl X')] 48) (by simp))
  clear c0 c1 d0 d1 y0 y1 F2 XG hb2 hn
  have d0 := F3.out.h1.cell 0 _ rfl; have d1 := F3.out.h1.cell 1 _ rfl; have y0 := XG2.out.cell 0 _ rfl; have y1 := XG2.out.cell 1 _ rfl
  go_wp2_with fail
  refine (hd.out _).mono ?_
  rintro e w3 ⟨rfl, hb3⟩
  have F4 := Lib.hid (Fr.more (Fr.more (Fr.call hb3 F3.out) (.cells #[.int .u64 (wh Y), .int .u64 (wl Y)] 48)) (.cells #[.int .u64 (wh Y'), .int .u64 (wl Y')] 48))
  have XX2 := Lib.hid (((XX.out.below hb3 (XX.out.lt (by simp))).old (o := .cells #[.int .u64 (wh Y), .int .u64 (wl Y)] 48) (Nat.lt_of_lt_of_le (XX.out.lt (by simp)) hb3.size)).old (o := .cells #[.int .u64 (wh Y'), .int .u64 (wl Y')] 48) (Nat.lt_of_lt_of_le (XX.out.lt (by simp)) (by have := hb3.size; simp at this; simp; omega)))
  have XY := Lib.hid ((Has.new w3 [.int .u64 (wh Y), .int .u64 (wl Y)] 48).old (o := .cells #[.int .u64 (wh Y'), .int .u64 (wl Y')] 48) (by simp))
  clear d0 d1 y0 y1 F3 XG2 XX hb3 hd
  go_upto_region 6 with fail
  obtain ⟨w4, hw4⟩ : ∃ w4, w4 = (w3.alloc (.cells #[.int .u64 (wh Y), .int .u64 (wl Y)] 48)).alloc (.cells #[.int .u64 (wh Y'), .int .u64 (wl Y')] 48) := ⟨_, rfl⟩
  rw [← hw4] at F4 XX2 XY ⊢
  clear hw4
  have xb := wl_bd X; have yb := wl_bd Y; have xb2 := wh_bd X hX; have yb2 := wh_bd Y hY
  by_cases hfit : X ≤ 1152921504606846976 ∧ Y ≤ 1152921504606846976
  · obtain ⟨f1, f2⟩ := hfit
    have e1 := wh_small X (by omega); have e2 := wh_small Y (by omega)
    rw [e1.1, e1.2] at XX2
    rw [e2.1, e2.2] at XY
    clear e1 e2 xb yb xb2 yb2
    have x0 := XX2.out.cell 0 _ rfl; have x1 := XX2.out.cell 1 _ rfl; have y0 := XY.out.cell 0 _ rfl; have y1 := XY.out.cell 1 _ rfl
    have r0 := F4.out.h2.cell 0 _ rfl; have r1 := F4.out.h2.cell 1 _ rfl; have rf := F4.out.h2.free; have lr := F4.out.h2.lt (by simp)
    have q1 : ¬ (1152921504606846976 : Int) < (X : Int) := by omega
    have q2 : ¬ (1152921504606846976 : Int) < (Y : Int) := by omega
    have q3 : IntKind.i64.wrap (X : Int) = (X : Int) := IntWalk.i64_in _ (by omega)
    have q4 : IntKind.i64.wrap (Y : Int) = (Y : Int) := IntWalk.i64_in _ (by omega)
    have q5 : IntKind.i64.wrap (-(X : Int)) = -(X : Int) := IntWalk.i64_in _ (by omega)
    have q6 : ¬ 1152921504606846976 < X := by omega
    have q7 : ¬ 1152921504606846976 < Y := by omega
    cases n with
    | false =>
      go_wp2
      have RR := ((F4.out.h2.set0 (.int .i64 (X : Int))).set1 (.int .i64 (Y : Int))).old (o := .cells #[.int .i64 (X : Int), .int .i64 (Y : Int)] 24) (by simp; omega)
      have u0 := RR.cell 0 _ rfl; have u1 := RR.cell 1 _ rfl
      refine bodyPost_ret (v := .tuple #[.agg #[.int .i64 (X : Int), .int .i64 (Y : Int)], .int .i64 0]) (by simp [results, Try.results44, go_sem, u0, u1]) rfl (Red.at (named_eq (by rw [P1.out]; rfl) P2.out (by omega) (by omega) (by omega)) ?_)
      exact F4.out.below.trans (by go_grown)
    | true =>
      go_wp2
      have RR := ((F4.out.h2.set0 (.int .i64 (-(X : Int)))).set1 (.int .i64 (Y : Int))).old (o := .cells #[.int .i64 (-(X : Int)), .int .i64 (Y : Int)] 24) (by simp; omega)
      have u0 := RR.cell 0 _ rfl; have u1 := RR.cell 1 _ rfl
      refine bodyPost_ret (v := .tuple #[.agg #[.int .i64 (-(X : Int)), .int .i64 (Y : Int)], .int .i64 0]) (by simp [results, Try.results44, go_sem, u0, u1]) rfl (Red.at (named_eq (by rw [P1.out]; rfl) P2.out (by omega) (by omega) (by omega)) ?_)
      exact F4.out.below.trans (by go_grown)
  · have hnf : fits (sv N n) (M : Int) = false := by
      unfold fits
      rw [decide_eq_false_iff_not, P1.out, P2.out]
      intro h
      apply hfit
      cases n
      · simp at h; omega
      · simp at h; omega
    have HNF := Lib.hid hnf
    have xw := w_of X; have yw := w_of Y
    have x0 := XX2.out.cell 0 _ rfl; have x1 := XX2.out.cell 1 _ rfl; have y0 := XY.out.cell 0 _ rfl; have y1 := XY.out.cell 1 _ rfl
    have r0 := F4.out.h2.cell 0 _ rfl; have r1 := F4.out.h2.cell 1 _ rfl; have rf := F4.out.h2.free; have lr := F4.out.h2.lt (by simp)
    have FIN := Lib.hid (show ∀ wx, Below w.heap.size w4 wx → Red (sv N n) M w (.returned (.tuple #[.agg #[.int .i64 0, .int .i64 0], .int .i64 4])) wx from fun wx hb => Red.at (unnamed HNF.out) (F4.out.below.trans hb))
    clear hnf
    by_cases h1 : 0 < wh X
    · clear xw yw
      go_wp2
      exact bodyPost_ret (v := .tuple #[.agg #[.int .i64 0, .int .i64 0], .int .i64 4]) (by simp [results, Try.results44, go_sem, r0, r1]) rfl (FIN.out _ (by go_grown))
    · by_cases h2 : 0 < wh Y
      · clear xw yw
        go_wp2
        exact bodyPost_ret (v := .tuple #[.agg #[.int .i64 0, .int .i64 0], .int .i64 4]) (by simp [results, Try.results44, go_sem, r0, r1]) rfl (FIN.out _ (by go_grown))
      · by_cases h3 : 1152921504606846976 < wl X
        · clear xw yw
          go_wp2
          exact bodyPost_ret (v := .tuple #[.agg #[.int .i64 0, .int .i64 0], .int .i64 4]) (by simp [results, Try.results44, go_sem, r0, r1]) rfl (FIN.out _ (by go_grown))
        · have h4 : 1152921504606846976 < wl Y := by omega
          clear xw yw
          go_wp2
          exact bodyPost_ret (v := .tuple #[.agg #[.int .i64 0, .int .i64 0], .int .i64 4]) (by simp [results, Try.results44, go_sem, r0, r1]) rfl (FIN.out _ (by go_grown))

set_option maxHeartbeats 1000000 in
theorem rmake_pos (a b : Int) (ha : 1 ≤ a) (ha' : a ≤ 9223372036854775807) (hb : 1 ≤ b) (hb' : b ≤ 9223372036854775807) (w : World) :
    Calls Try.prog 19 #[.int .i64 a, .int .i64 b] w (Red a b w) := by
  obtain ⟨N, rfl⟩ := Int.eq_ofNat_of_zero_le (show 0 ≤ a by omega)
  obtain ⟨M, rfl⟩ := Int.eq_ofNat_of_zero_le (show 0 ≤ b by omega)
  have e1 := wh_small N (by omega); have e2 := wh_small M (by omega)
  have RD := fun w => reduce_pos false N M (by omega) (by omega) (by omega) (by omega) w
  rw [e1.1, e1.2, e2.1, e2.2] at RD
  have RD := Lib.hid (show ∀ w, Calls Try.prog 44 #[.bool false, .agg #[.int .u64 0, .int .u64 (N : Int)], .agg #[.int .u64 0, .int .u64 (M : Int)]] w (Red (N : Int) M w) from RD)
  have s1 := Lib.hid (fun w => size_any (N : Int) (by omega) (by omega) w); have s2 := Lib.hid (fun w => size_any (M : Int) (by omega) (by omega) w)
  have h0 : ((M : Int) == 0) = false := by simp; omega
  clear e1 e2
  go_enter Try.func19, Try.ntmps19
  go_wp2_with fail
  refine (s1.out _).mono ?_
  rintro e w' ⟨rfl, rfl⟩
  go_wp2_with fail
  refine (s2.out _).mono ?_
  rintro e w' ⟨rfl, rfl⟩
  go_wp2_with fail
  refine (RD.out _).mono ?_
  rintro e w1 ⟨rfl, hb1⟩
  have F1 := Fr.call hb1 (Fr.new (Fr.refl w) rfl [.int .i64 0, .int .i64 0] 24)
  have r0 := F1.h0.cell 0 _ rfl; have r1 := F1.h0.cell 1 _ rfl; have rf := F1.h0.free; have lr := F1.h0.lt (by simp)
  go_wp2
  exact bodyPost_ret (v := .tuple #[.agg #[.int .i64 (fA N M), .int .i64 (fB N M)], .int .i64 (fE N M)]) (by simp [results, Try.results19, go_sem, r0, r1]) rfl ⟨rfl, F1.below.trans (by go_grown)⟩
end Go.Proofs.Ytaokenpdaiabgaa
