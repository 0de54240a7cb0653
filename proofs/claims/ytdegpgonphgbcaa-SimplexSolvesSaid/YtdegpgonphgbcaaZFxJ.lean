/-
  fraction.
  fraction.
  fraction.
-/
import Derived.Test.YtdegpgonphgbcaaZFxH
namespace Go.Proofs.Ytdegpgonphgbcaa
open Go.RowKit
theorem sv_lowest (N M : Nat) (n m : Bool) (hM : 0 < M) :
    fN (sv N n) (sv M m) = (if (n && decide (0 < N)) != (m && decide (0 < M)) then -((N / Nat.gcd N M : Nat) : Int) else ((N / Nat.gcd N M : Nat) : Int)) ∧ fD (sv N n) (sv M m) = ((M / Nat.gcd N M : Nat) : Int) := by
  have hg : Int.gcd (sv N n) (sv M m) = Nat.gcd N M := by unfold Int.gcd; rw [sv_natAbs, sv_natAbs]
  have hM' : decide (0 < M) = true := by simpa using hM
  unfold fN fD
  rw [hg, sv_natAbs, hM']
  refine ⟨?_, by simp⟩
  have hneg : (-(N : Int)) / ((Nat.gcd N M : Nat) : Int) = -((N / Nat.gcd N M : Nat) : Int) := by
    rw [Int.neg_ediv_of_dvd (by exact Int.natCast_dvd_natCast.2 (Nat.gcd_dvd_left ..))]; simp
  have hpos : (N : Int) / ((Nat.gcd N M : Nat) : Int) = ((N / Nat.gcd N M : Nat) : Int) := by simp
  rcases Nat.lt_or_ge N 1 with h0 | h0
  · have : N = 0 := by omega
    subst this
    cases n <;> cases m <;> simp [sv]
  · have h0' : decide (0 < N) = true := by simp; omega
    rw [h0']
    cases n <;> cases m <;> simp [sv, hM] <;> first | exact hneg | exact hpos | (rw [if_neg (by omega)]; first | exact hneg | exact hpos)
theorem quot_small (N M : Nat) (_hN : N < 170141183460469231731687303715884105728) (hM : M < 170141183460469231731687303715884105728) (h : 0 < M) :
    0 < Nat.gcd N M ∧ Nat.gcd N M < 170141183460469231731687303715884105728 := by
  have h1 := Nat.gcd_pos_of_pos_right N h
  have h2 := Nat.gcd_le_right N h
  omega
theorem over_at (A B Q : Nat) (n o : Bool) (hQ : A / B = Q) (hA : A < 170141183460469231731687303715884105728) (hB0 : 0 < B) (hB : B < 170141183460469231731687303715884105728) (w : World) :
    (Q < 4611686018427387904 → Calls Try.prog 104 #[.agg #[.int .u64 (wh A), .int .u64 (wl A), .bool n], .agg #[.int .u64 (wh B), .int .u64 (wl B), .bool o]] w fun e w' => e = .returned (.tuple #[.int .i64 (Q : Int), .bool true]) ∧ Below w.heap.size w w') ∧
    (4611686018427387904 ≤ Q → Calls Try.prog 104 #[.agg #[.int .u64 (wh A), .int .u64 (wl A), .bool n], .agg #[.int .u64 (wh B), .int .u64 (wl B), .bool o]] w fun e w' => e = .returned (.tuple #[.int .i64 ((Q % 4611686018427387904 : Nat) : Int), .bool false]) ∧ Below w.heap.size w w') := by
  have h := over_any A B n o hA hB0 hB w
  rw [hQ] at h
  refine ⟨fun k => ?_, fun k => ?_⟩
  · rwa [decide_eq_true k, Nat.mod_eq_of_lt k] at h
  · rwa [decide_eq_false (by omega)] at h
set_option maxHeartbeats 2000000 in
theorem exact_any (a b : Int) (N M : Nat) (n m : Bool) (ea : sv N n = a) (eb : sv M m = b) (hN : N < 170141183460469231731687303715884105728) (hM : M < 170141183460469231731687303715884105728) (hM0 : 0 < M) (w : World) :
    Calls Try.prog 95 #[.agg #[.int .u64 (wh N), .int .u64 (wl N), .bool n], .agg #[.int .u64 (wh M), .int .u64 (wl M), .bool m]] w fun e w' => e = .returned (.tuple #[.agg #[.int .i64 (fA a b), .int .i64 (fB a b)], .int .i64 (fE a b)]) ∧ Below w.heap.size w w' := by
  obtain ⟨g0, g1⟩ := quot_small N M hN hM hM0
  have hb0 : b ≠ 0 := by rw [← eb]; unfold sv; cases m <;> simp <;> omega
  obtain ⟨p1, p2⟩ := sv_lowest N M n m hM0
  rw [ea, eb] at p1 p2
  have hcw := common_wide N M n m hN hM
  have ox := fun X hX => over_at N (Nat.gcd N M) X n false hX hN g0 g1
  have oy := fun Y hY => over_at M (Nat.gcd N M) Y m false hY hM g0 g1
  generalize N / Nat.gcd N M = X at *
  generalize M / Nat.gcd N M = Y at *
  replace ox := ox X rfl
  replace oy := oy Y rfl
  generalize Nat.gcd N M = G at *
  have P1 := Lib.hid p1; have P2 := Lib.hid p2
  have HB0 := Lib.hid hb0
  have CW := Lib.hid hcw; have OX := Lib.hid ox; have OY := Lib.hid oy
  clear p1 p2 ea eb hb0 hcw ox oy
  go_enter Try.func95, Try.ntmps95
  go_wp2_with fail
  refine (CW.out _).mono ?_
  rintro e w1 ⟨rfl, hb1⟩
  have tr1 := (Has.at' (Has.new _ [.int .i64 0, .int .i64 0] 31) (c := w.heap.size + 1 + 1) (by simp)).below hb1 (by go_size)
  have ta1 := ((((Has.new w (three N n) 120).old (by go_size)).old (by go_size))).below hb1 (by go_size)
  have tb1 := (Has.old (Has.at' (Has.new _ (three M m) 120) (c := w.heap.size + 1) (by simp)) (by go_size)).below hb1 (by go_size)
  have hbel1 : Below w.heap.size w w1 := Below.trans (by go_grown) (hb1.mono (by go_size))
  have z1 : w.heap.size + 3 ≤ w1.heap.size := by have := tr1.lt (by simp); omega
  have a0 := ta1.cell 0 _ rfl; have a1 := ta1.cell 1 _ rfl; have a2 := ta1.cell 2 _ rfl
  have l0 : w.heap.size < w1.heap.size := by omega
  have l1 : w.heap.size + 1 < w1.heap.size := by omega
  rcases Nat.lt_or_ge X 4611686018427387904 with kx | kx
  all_goals rcases Nat.lt_or_ge Y 4611686018427387904 with ky | ky
  all_goals go_wp2_with fail
  all_goals first
    | refine ((OX.out _).1 kx).mono ?_
    | refine ((OX.out _).2 kx).mono ?_
  all_goals
    rintro e w2 ⟨rfl, hb2⟩
    have tg2 := (Has.new w1 (three G false) 120).below hb2 (by go_size)
    have tr2 := (tr1.old (by go_size)).below hb2 (by go_size)
    have ta2 := (ta1.old (by go_size)).below hb2 (by go_size)
    have tb2 := (tb1.old (by go_size)).below hb2 (by go_size)
    have hbel2 : Below w.heap.size w w2 := (hbel1.alloc hbel1.size _).trans (hb2.mono (by go_size))
    have z2 : w1.heap.size + 1 ≤ w2.heap.size := by simpa using hb2.size
    have b0 := tb2.cell 0 _ rfl; have b1 := tb2.cell 1 _ rfl; have b2 := tb2.cell 2 _ rfl
    have c0 := tg2.cell 0 _ rfl; have c1 := tg2.cell 1 _ rfl; have c2 := tg2.cell 2 _ rfl
    go_wp2_with fail
  all_goals first
    | refine ((OY.out _).1 ky).mono ?_
    | refine ((OY.out _).2 ky).mono ?_
  all_goals
    rintro e w3 ⟨rfl, hb3⟩
    have tr3 := tr2.below hb3 (by omega)
    have ta3 := ta2.below hb3 (by omega)
    have tb3 := tb2.below hb3 (by omega)
    have hbel3 : Below w.heap.size w w3 := hbel2.trans (hb3.mono (by omega))
    have z3 : w2.heap.size ≤ w3.heap.size := hb3.size
    clear a0 a1 a2 b0 b1 b2 c0 c1 c2 tr1 ta1 tb1 tg2 tr2 ta2 tb2 hb1 hb2 hb3 hbel1 hbel2
    have a0 := ta3.cell 0 _ rfl; have a1 := ta3.cell 1 _ rfl; have a2 := ta3.cell 2 _ rfl
    have b0 := tb3.cell 0 _ rfl; have b1 := tb3.cell 1 _ rfl; have b2 := tb3.cell 2 _ rfl
    have r0 := tr3.cell 0 _ rfl; have r1 := tr3.cell 1 _ rfl; have rf := tr3.free
    go_wp2_with fail
  · have fr3 : Fr w w3 [three N n, three M m, [.int .i64 0, .int .i64 0]] := ⟨hbel3, by simp; omega, fun i vs h => by
      match i with
      | 0 => cases h; exact ta3
      | 1 => cases h; exact tb3
      | 2 => cases h; exact tr3⟩
    have fr3d := fr3.drew
    obtain ⟨sn, hsn⟩ : ∃ sn, sn = (n && decide (0 < N)) := ⟨_, rfl⟩
    obtain ⟨sm, hsm⟩ : ∃ sm, sm = (m && decide (0 < M)) := ⟨_, rfl⟩
    have n1 := negative_any N n
    have n2 := negative_any M m
    have hp1 := P1.out
    rw [← hsn, ← hsm] at hp1
    rw [← hsn] at n1
    rw [← hsm] at n2
    clear hsn hsm
    have HP1 := Lib.hid hp1
    have NEG1 := Lib.hid n1; have NEG2 := Lib.hid n2
    clear hp1 n1 n2
    cases sn <;> cases sm
    · go_region_held3 (fun w' => w'.cell? ⟨w.heap.size, 0, none⟩ = some (.int .u64 (wh N)) ∧ w'.cell? ⟨w.heap.size, 1, none⟩ = some (.int .u64 (wl N)) ∧ w'.cell? ⟨w.heap.size, 2, none⟩ = some (.bool n) ∧ w'.cell? ⟨w.heap.size + 1, 0, none⟩ = some (.int .u64 (wh M)) ∧ w'.cell? ⟨w.heap.size + 1, 1, none⟩ = some (.int .u64 (wl M)) ∧ w'.cell? ⟨w.heap.size + 1, 2, none⟩ = some (.bool m)) (first | go_keep | (refine ⟨cell_later hb4 ?_, cell_later hb4 ?_, cell_later hb4 ?_, cell_later hb4 ?_, cell_later hb4 ?_, cell_later hb4 ?_⟩ <;> go_keep))
        (first | (go_at_call 105; first | ((with_reducible refine (NEG1.out _).mono ?_); rintro e w4 ⟨rfl, hb4⟩; have fr4 := Fr.call hb4 (by assumption)) | ((with_reducible refine (NEG2.out _).mono ?_); rintro e w4 ⟨rfl, hb4⟩; have fr4 := Fr.call hb4 (by assumption))))
      clear a0 a1 a2 b0 b1 b2 r0 r1 rf tr3 ta3 tb3 hbel3 fr3 fr3d
      have tr4 := fr4.has 2 _ rfl
      have r0 := tr4.cell 0 _ rfl; have r1 := tr4.cell 1 _ rfl; have rf := tr4.free
      have HQ : Hid ((X : Int) = fN a b) := Lib.hid HP1.out.symm
      go_wp2_with fail
      refine Calls.mono (checked_at a b HB0.out HQ.out P2.out.symm _) ?_
      rintro e w5 ⟨rfl, hb5⟩
      have fr5 := Fr.call hb5 fr4
      have tr5 := fr5.has 2 _ rfl
      have q0 := tr5.cell 0 _ rfl; have q1 := tr5.cell 1 _ rfl; have qf := tr5.free
      go_wp2
      exact bodyPost_ret (v := .tuple #[.agg #[.int .i64 (fA a b), .int .i64 (fB a b)], .int .i64 (fE a b)]) (by simp [results, Try.results95, go_sem, q0, q1]) rfl ⟨rfl, fr5.below.trans (by go_grown)⟩
    · go_region_held3 (fun w' => w'.cell? ⟨w.heap.size, 0, none⟩ = some (.int .u64 (wh N)) ∧ w'.cell? ⟨w.heap.size, 1, none⟩ = some (.int .u64 (wl N)) ∧ w'.cell? ⟨w.heap.size, 2, none⟩ = some (.bool n) ∧ w'.cell? ⟨w.heap.size + 1, 0, none⟩ = some (.int .u64 (wh M)) ∧ w'.cell? ⟨w.heap.size + 1, 1, none⟩ = some (.int .u64 (wl M)) ∧ w'.cell? ⟨w.heap.size + 1, 2, none⟩ = some (.bool m)) (first | go_keep | (refine ⟨cell_later hb4 ?_, cell_later hb4 ?_, cell_later hb4 ?_, cell_later hb4 ?_, cell_later hb4 ?_, cell_later hb4 ?_⟩ <;> go_keep))
        (first | (go_at_call 105; first | ((with_reducible refine (NEG1.out _).mono ?_); rintro e w4 ⟨rfl, hb4⟩; have fr4 := Fr.call hb4 (by assumption)) | ((with_reducible refine (NEG2.out _).mono ?_); rintro e w4 ⟨rfl, hb4⟩; have fr4 := Fr.call hb4 (by assumption))))
      clear a0 a1 a2 b0 b1 b2 r0 r1 rf tr3 ta3 tb3 hbel3 fr3 fr3d
      have tr4 := fr4.has 2 _ rfl
      have r0 := tr4.cell 0 _ rfl; have r1 := tr4.cell 1 _ rfl; have rf := tr4.free
      have HQ : Hid (-(X : Int) = fN a b) := Lib.hid HP1.out.symm
      go_wp2_with fail
      refine Calls.mono (checked_at a b HB0.out HQ.out P2.out.symm _) ?_
      rintro e w5 ⟨rfl, hb5⟩
      have fr5 := Fr.call hb5 fr4
      have tr5 := fr5.has 2 _ rfl
      have q0 := tr5.cell 0 _ rfl; have q1 := tr5.cell 1 _ rfl; have qf := tr5.free
      go_wp2
      exact bodyPost_ret (v := .tuple #[.agg #[.int .i64 (fA a b), .int .i64 (fB a b)], .int .i64 (fE a b)]) (by simp [results, Try.results95, go_sem, q0, q1]) rfl ⟨rfl, fr5.below.trans (by go_grown)⟩
    · go_region_held3 (fun w' => w'.cell? ⟨w.heap.size, 0, none⟩ = some (.int .u64 (wh N)) ∧ w'.cell? ⟨w.heap.size, 1, none⟩ = some (.int .u64 (wl N)) ∧ w'.cell? ⟨w.heap.size, 2, none⟩ = some (.bool n) ∧ w'.cell? ⟨w.heap.size + 1, 0, none⟩ = some (.int .u64 (wh M)) ∧ w'.cell? ⟨w.heap.size + 1, 1, none⟩ = some (.int .u64 (wl M)) ∧ w'.cell? ⟨w.heap.size + 1, 2, none⟩ = some (.bool m)) (first | go_keep | (refine ⟨cell_later hb4 ?_, cell_later hb4 ?_, cell_later hb4 ?_, cell_later hb4 ?_, cell_later hb4 ?_, cell_later hb4 ?_⟩ <;> go_keep))
        (first | (go_at_call 105; first | ((with_reducible refine (NEG1.out _).mono ?_); rintro e w4 ⟨rfl, hb4⟩; have fr4 := Fr.call hb4 (by assumption)) | ((with_reducible refine (NEG2.out _).mono ?_); rintro e w4 ⟨rfl, hb4⟩; have fr4 := Fr.call hb4 (by assumption))))
      clear a0 a1 a2 b0 b1 b2 r0 r1 rf tr3 ta3 tb3 hbel3 fr3 fr3d
      have tr4 := fr4.has 2 _ rfl
      have r0 := tr4.cell 0 _ rfl; have r1 := tr4.cell 1 _ rfl; have rf := tr4.free
      have HQ : Hid (-(X : Int) = fN a b) := Lib.hid HP1.out.symm
      go_wp2_with fail
      refine Calls.mono (checked_at a b HB0.out HQ.out P2.out.symm _) ?_
      rintro e w5 ⟨rfl, hb5⟩
      have fr5 := Fr.call hb5 fr4
      have tr5 := fr5.has 2 _ rfl
      have q0 := tr5.cell 0 _ rfl; have q1 := tr5.cell 1 _ rfl; have qf := tr5.free
      go_wp2
      exact bodyPost_ret (v := .tuple #[.agg #[.int .i64 (fA a b), .int .i64 (fB a b)], .int .i64 (fE a b)]) (by simp [results, Try.results95, go_sem, q0, q1]) rfl ⟨rfl, fr5.below.trans (by go_grown)⟩
    · go_region_held3 (fun w' => w'.cell? ⟨w.heap.size, 0, none⟩ = some (.int .u64 (wh N)) ∧ w'.cell? ⟨w.heap.size, 1, none⟩ = some (.int .u64 (wl N)) ∧ w'.cell? ⟨w.heap.size, 2, none⟩ = some (.bool n) ∧ w'.cell? ⟨w.heap.size + 1, 0, none⟩ = some (.int .u64 (wh M)) ∧ w'.cell? ⟨w.heap.size + 1, 1, none⟩ = some (.int .u64 (wl M)) ∧ w'.cell? ⟨w.heap.size + 1, 2, none⟩ = some (.bool m)) (first | go_keep | (refine ⟨cell_later hb4 ?_, cell_later hb4 ?_, cell_later hb4 ?_, cell_later hb4 ?_, cell_later hb4 ?_, cell_later hb4 ?_⟩ <;> go_keep))
        (first | (go_at_call 105; first | ((with_reducible refine (NEG1.out _).mono ?_); rintro e w4 ⟨rfl, hb4⟩; have fr4 := Fr.call hb4 (by assumption)) | ((with_reducible refine (NEG2.out _).mono ?_); rintro e w4 ⟨rfl, hb4⟩; have fr4 := Fr.call hb4 (by assumption))))
      clear a0 a1 a2 b0 b1 b2 r0 r1 rf tr3 ta3 tb3 hbel3 fr3 fr3d
      have tr4 := fr4.has 2 _ rfl
      have r0 := tr4.cell 0 _ rfl; have r1 := tr4.cell 1 _ rfl; have rf := tr4.free
      have HQ : Hid ((X : Int) = fN a b) := Lib.hid HP1.out.symm
      go_wp2_with fail
      refine Calls.mono (checked_at a b HB0.out HQ.out P2.out.symm _) ?_
      rintro e w5 ⟨rfl, hb5⟩
      have fr5 := Fr.call hb5 fr4
      have tr5 := fr5.has 2 _ rfl
      have q0 := tr5.cell 0 _ rfl; have q1 := tr5.cell 1 _ rfl; have qf := tr5.free
      go_wp2
      exact bodyPost_ret (v := .tuple #[.agg #[.int .i64 (fA a b), .int .i64 (fB a b)], .int .i64 (fE a b)]) (by simp [results, Try.results95, go_sem, q0, q1]) rfl ⟨rfl, fr5.below.trans (by go_grown)⟩
  all_goals
    have hf : fits a b = false := by
      have h1 := P1.out; have h2 := P2.out
      unfold fits
      simp only [decide_eq_false_iff_not]
      rintro ⟨h3, h4, h5⟩
      rw [h2] at h5
      split at h1
      · rw [h1] at h3 h4; omega
      · rw [h1] at h3 h4; omega
    have e1 : fA a b = 0 := by unfold fA; rw [hf]; rfl
    have e2 : fB a b = 0 := by unfold fB; rw [hf]; rfl
    have e3 : fE a b = 4 := by unfold fE; rw [hf]; rfl
    exact bodyPost_ret (v := .tuple #[.agg #[.int .i64 0, .int .i64 0], .int .i64 4]) (by simp [results, Try.results95, go_sem, r0, r1]) rfl ⟨by rw [e1, e2, e3], hbel3.trans (by go_grown)⟩
theorem exact_at {a b : Int} (N M : Nat) (n m : Bool) (ea : sv N n = a) (eb : sv M m = b) (hN : N < 170141183460469231731687303715884105728) (hM : M < 170141183460469231731687303715884105728) (hM0 : 0 < M) (w : World) :
    Calls Try.prog 95 #[.agg #[.int .u64 (wh N), .int .u64 (wl N), .bool n], .agg #[.int .u64 (wh M), .int .u64 (wl M), .bool m]] w fun e w' => e = .returned (.tuple #[.agg #[.int .i64 (fA a b), .int .i64 (fB a b)], .int .i64 (fE a b)]) ∧ Below w.heap.size w w' := exact_any a b N M n m ea eb hN hM hM0 w
theorem easy_yes (xn xd yn yd : Int) (_hx : -1152921504606846976 ≤ xn) (_hx1 : xn ≤ 1152921504606846976) (_hy : -1152921504606846976 ≤ yn) (_hy1 : yn ≤ 1152921504606846976) (kx : 1 ≤ xd) (kx1 : xd ≤ 1152921504606846976) (ky : 1 ≤ yd) (ky1 : yd ≤ 1152921504606846976) (h : (-1073741824 ≤ xn ∧ xn ≤ 1073741824) ∧ (-1073741824 ≤ yn ∧ yn ≤ 1073741824) ∧ xd ≤ 1073741824 ∧ yd ≤ 1073741824) (w : World) :
    Calls Try.prog 91 #[.agg #[.int .i64 xn, .int .i64 xd], .agg #[.int .i64 yn, .int .i64 yd]] w fun e w' => e = .returned (.bool true) ∧ Below w.heap.size w w' := by
  have h1 : (xd != 0) = true := by simp; omega
  have h2 : (yd != 0) = true := by simp; omega
  obtain ⟨⟨a1, a2⟩, ⟨a3, a4⟩, a5, a6⟩ := h
  go_enter Try.func91, Try.ntmps91
  go_wp2_with (first | (go_at_call 89; refine (within_yes _ _ (by omega) (by omega) (by omega) (by omega) _).mono ?_; rintro e w' ⟨rfl, rfl⟩))
  go_returns
  exact ⟨rfl, by go_grown⟩
theorem easy_no (xn xd yn yd : Int) (hx : -1152921504606846976 ≤ xn) (hx1 : xn ≤ 1152921504606846976) (hy : -1152921504606846976 ≤ yn) (hy1 : yn ≤ 1152921504606846976) (kx : 1 ≤ xd) (kx1 : xd ≤ 1152921504606846976) (ky : 1 ≤ yd) (ky1 : yd ≤ 1152921504606846976) (h : ¬ ((-1073741824 ≤ xn ∧ xn ≤ 1073741824) ∧ (-1073741824 ≤ yn ∧ yn ≤ 1073741824) ∧ xd ≤ 1073741824 ∧ yd ≤ 1073741824)) (w : World) :
    Calls Try.prog 91 #[.agg #[.int .i64 xn, .int .i64 xd], .agg #[.int .i64 yn, .int .i64 yd]] w fun e w' => e = .returned (.bool false) ∧ Below w.heap.size w w' := by
  by_cases a : -1073741824 ≤ xn ∧ xn ≤ 1073741824
  · by_cases b : -1073741824 ≤ yn ∧ yn ≤ 1073741824
    · by_cases c : xd ≤ 1073741824
      · have d : 1073741824 < yd := by omega
        go_enter Try.func91, Try.ntmps91
        go_wp2_with fail
        refine (within_yes _ _ (by omega) (by omega) (by omega) (by omega) _).mono ?_; rintro e w' ⟨rfl, rfl⟩
        go_wp2_with fail
        refine (within_yes _ _ (by omega) (by omega) (by omega) (by omega) _).mono ?_; rintro e w' ⟨rfl, rfl⟩
        go_wp2_with fail
        refine (within_yes _ _ (by omega) (by omega) (by omega) (by omega) _).mono ?_; rintro e w' ⟨rfl, rfl⟩
        go_wp2_with fail
        refine (within_no _ _ (by omega) (by omega) (by omega) _).mono ?_; rintro e w' ⟨rfl, rfl⟩
        go_wp2
        go_returns
        exact ⟨rfl, by go_grown⟩
      · go_enter Try.func91, Try.ntmps91
        go_wp2_with fail
        refine (within_yes _ _ (by omega) (by omega) (by omega) (by omega) _).mono ?_; rintro e w' ⟨rfl, rfl⟩
        go_wp2_with fail
        refine (within_yes _ _ (by omega) (by omega) (by omega) (by omega) _).mono ?_; rintro e w' ⟨rfl, rfl⟩
        go_wp2_with fail
        refine (within_no _ _ (by omega) (by omega) (by omega) _).mono ?_; rintro e w' ⟨rfl, rfl⟩
        go_wp2
        go_returns
        exact ⟨rfl, by go_grown⟩
    · go_enter Try.func91, Try.ntmps91
      go_wp2_with fail
      refine (within_yes _ _ (by omega) (by omega) (by omega) (by omega) _).mono ?_; rintro e w' ⟨rfl, rfl⟩
      go_wp2_with fail
      refine (within_no _ _ (by omega) (by omega) (by omega) _).mono ?_; rintro e w' ⟨rfl, rfl⟩
      go_wp2
      go_returns
      exact ⟨rfl, by go_grown⟩
  · go_enter Try.func91, Try.ntmps91
    go_wp2_with fail
    refine (within_no _ _ (by omega) (by omega) (by omega) _).mono ?_; rintro e w' ⟨rfl, rfl⟩
    go_wp2
    go_returns
    exact ⟨rfl, by go_grown⟩
theorem mul_small {x y : Int} (h0 : -1073741824 ≤ x) (h1 : x ≤ 1073741824) (h2 : -1073741824 ≤ y) (h3 : y ≤ 1073741824) : -1152921504606846976 ≤ x * y ∧ x * y ≤ 1152921504606846976 := by
  have a1 := Int.mul_nonneg (a := 1073741824 - x) (b := 1073741824 - y) (by omega) (by omega)
  have a2 := Int.mul_nonneg (a := x + 1073741824) (b := y + 1073741824) (by omega) (by omega)
  have a4 := Int.mul_nonneg (a := 1073741824 - x) (b := y + 1073741824) (by omega) (by omega)
  have a5 := Int.mul_nonneg (a := x + 1073741824) (b := 1073741824 - y) (by omega) (by omega)
  have e1 : (1073741824 - x) * (1073741824 - y) = x * y - 1073741824 * x - 1073741824 * y + 1152921504606846976 := by grind
  have e2 : (x + 1073741824) * (y + 1073741824) = x * y + 1073741824 * x + 1073741824 * y + 1152921504606846976 := by grind
  have e4 : (1073741824 - x) * (y + 1073741824) = 1073741824 * y + 1152921504606846976 - x * y - 1073741824 * x := by grind
  have e5 : (x + 1073741824) * (1073741824 - y) = 1073741824 * x + 1152921504606846976 - x * y - 1073741824 * y := by grind
  omega
theorem product_named (a b : Int) (ha : -1152921504606846976 ≤ a) (ha' : a ≤ 1152921504606846976) (hb : -1152921504606846976 ≤ b) (hb' : b ≤ 1152921504606846976) :
    ∃ (P : Nat) (s : Bool), sv P s = a * b ∧ P < 1329227995784915872903807060280344577 ∧ (b ≠ 0 → a ≠ 0 → 0 < P) ∧ ∀ w, Calls Try.prog 96 #[.int .i64 a, .int .i64 b] w fun e w' => e = .returned (.agg #[.int .u64 (wh P), .int .u64 (wl P), .bool s]) ∧ Below w.heap.size w w' := by
  refine ⟨a.natAbs * b.natAbs, (decide (a < 0) != decide (b < 0)), sv_mul a b, ?_, fun h h' => Nat.mul_pos (by omega) (by omega), fun w => product_any a b (by omega) (by omega) (by omega) (by omega) w⟩
  have := Nat.mul_le_mul (show a.natAbs ≤ 1152921504606846976 by omega) (show b.natAbs ≤ 1152921504606846976 by omega)
  omega
theorem plus_named (A B : Nat) (n o : Bool) (hA : A < 1329227995784915872903807060280344577) (hB : B < 1329227995784915872903807060280344577) :
    ∃ (Q : Nat) (s : Bool), sv Q s = sv A n + sv B o ∧ Q < 170141183460469231731687303715884105728 ∧ ∀ w, Calls Try.prog 94 #[.agg #[.int .u64 (wh A), .int .u64 (wl A), .bool n], .agg #[.int .u64 (wh B), .int .u64 (wl B), .bool o]] w fun e w' => e = .returned (.agg #[.int .u64 (wh Q), .int .u64 (wl Q), .bool s]) ∧ Below w.heap.size w w' :=
  ⟨plN A B n o, plS A B n o, sv_plus A B n o, by unfold plN; (repeat' split) <;> omega, fun w => plus_any A B n o (by omega) (by omega) w⟩
set_option maxHeartbeats 2000000 in
theorem together_plus (xn xd yn yd : Int) (hx : -1152921504606846976 ≤ xn) (hx1 : xn ≤ 1152921504606846976) (hy : -1152921504606846976 ≤ yn) (hy1 : yn ≤ 1152921504606846976) (kx : 1 ≤ xd) (kx1 : xd ≤ 1152921504606846976) (ky : 1 ≤ yd) (ky1 : yd ≤ 1152921504606846976) (w : World) :
    Calls Try.prog 93 #[.agg #[.int .i64 xn, .int .i64 xd], .agg #[.int .i64 yn, .int .i64 yd], .func (.func 94) #[] #[]] w fun e w' => e = .returned (.tuple #[.agg #[.int .i64 (fA (xn * yd + yn * xd) (xd * yd)), .int .i64 (fB (xn * yd + yn * xd) (xd * yd))], .int .i64 (fE (xn * yd + yn * xd) (xd * yd))]) ∧ Below w.heap.size w w' := by
  obtain ⟨P1, s1, e1, b1, _, c1⟩ := product_named xn yd (by omega) (by omega) (by omega) (by omega)
  obtain ⟨P2, s2, e2, b2, _, c2⟩ := product_named yn xd (by omega) (by omega) (by omega) (by omega)
  obtain ⟨P3, s3, e3, b3, p3, c3⟩ := product_named xd yd (by omega) (by omega) (by omega) (by omega)
  obtain ⟨Q, q, e4, b4, c4⟩ := plus_named P1 P2 s1 s2 b1 b2
  have c5 := exact_at Q P3 q s3 (e4.trans (by rw [e1, e2])) e3 b4 (by omega) (p3 (by omega) (by omega))
  have C1 := Lib.hid c1; have C2 := Lib.hid c2; have C3 := Lib.hid c3; have C4 := Lib.hid c4; have C5 := Lib.hid c5
  clear c1 c2 c3 c4 c5 e1 e2 e3 e4 p3
  generalize fA (xn * yd + yn * xd) (xd * yd) = rA at *
  generalize fB (xn * yd + yn * xd) (xd * yd) = rB at *
  generalize fE (xn * yd + yn * xd) (xd * yd) = rE at *
  go_enter Try.func93, Try.ntmps93
  go_wp2_with fail
  have f0 : Fr w _ [[.int .i64 xn, .int .i64 xd], [.int .i64 yn, .int .i64 yd], [.int .i64 0, .int .i64 0]] := (Fr.new (Fr.new (Fr.new (Fr.refl w) rfl [.int .i64 xn, .int .i64 xd] 31) (by simp) [.int .i64 yn, .int .i64 yd] 31) (by simp) [.int .i64 0, .int .i64 0] 31).drew
  go_region_held3 (fun w' => w'.cell? ⟨w.heap.size, 0, none⟩ = some (.int .i64 xn) ∧ w'.cell? ⟨w.heap.size, 1, none⟩ = some (.int .i64 xd) ∧ w'.cell? ⟨w.heap.size + 1, 0, none⟩ = some (.int .i64 yn) ∧ w'.cell? ⟨w.heap.size + 1, 1, none⟩ = some (.int .i64 yd)) (((try dsimp only); (repeat' apply And.intro); all_goals (first | go_keep | (refine cell_later hb4 ?_; first | assumption | go_keep) | go_cell)))
    (first | (go_at_call 96; (with_reducible refine (C1.out _).mono ?_); rintro e w4 ⟨rfl, hb4⟩; have fr4 := Fr.call hb4 (by assumption); have t4 := fr4.h2; have q0 := t4.cell 0 _ rfl; have q1 := t4.cell 1 _ rfl; have qf := t4.free) | (go_at_call 96; (with_reducible refine (C2.out _).mono ?_); rintro e w4 ⟨rfl, hb4⟩; have fr4 := Fr.call hb4 (by assumption); have t4 := fr4.h2; have q0 := t4.cell 0 _ rfl; have q1 := t4.cell 1 _ rfl; have qf := t4.free) | (go_at_call 96; (with_reducible refine (C3.out _).mono ?_); rintro e w4 ⟨rfl, hb4⟩; have fr4 := Fr.call hb4 (by assumption); have t4 := fr4.h2; have q0 := t4.cell 0 _ rfl; have q1 := t4.cell 1 _ rfl; have qf := t4.free) | (go_at_call 94; (with_reducible refine (C4.out _).mono ?_); rintro e w4 ⟨rfl, hb4⟩; have fr4 := Fr.call hb4 (by assumption); have t4 := fr4.h2; have q0 := t4.cell 0 _ rfl; have q1 := t4.cell 1 _ rfl; have qf := t4.free) | (go_at_call 95; (with_reducible refine (C5.out _).mono ?_); rintro e w4 ⟨rfl, hb4⟩; have fr4 := Fr.call hb4 (by assumption); have t4 := fr4.h2; have q0 := t4.cell 0 _ rfl; have q1 := t4.cell 1 _ rfl; have qf := t4.free))
  go_wp2
  exact bodyPost_ret (v := .tuple #[.agg #[.int .i64 rA, .int .i64 rB], .int .i64 rE]) (by simp [results, Try.results93, go_sem, q0, q1]) rfl ⟨rfl, fr4.below.trans (by go_grown)⟩
set_option maxHeartbeats 2000000 in
theorem frac_add (xn xd yn yd : Int) (hx : -1152921504606846976 ≤ xn) (hx1 : xn ≤ 1152921504606846976) (hy : -1152921504606846976 ≤ yn) (hy1 : yn ≤ 1152921504606846976) (kx : 1 ≤ xd) (kx1 : xd ≤ 1152921504606846976) (ky : 1 ≤ yd) (ky1 : yd ≤ 1152921504606846976) (w : World) :
    Calls Try.prog 80 #[.agg #[.int .i64 xn, .int .i64 xd], .agg #[.int .i64 yn, .int .i64 yd]] w fun e w' => e = .returned (.tuple #[.agg #[.int .i64 (fA (xn * yd + yn * xd) (xd * yd)), .int .i64 (fB (xn * yd + yn * xd) (xd * yd))], .int .i64 (fE (xn * yd + yn * xd) (xd * yd))]) ∧ Below w.heap.size w w' := by
  have hx0 : (xd == 0) = false := by simp; omega
  have hy0 : (yd == 0) = false := by simp; omega
  have hp := Int.mul_pos (show 0 < xd by omega) (show 0 < yd by omega)
  by_cases h : (-1073741824 ≤ xn ∧ xn ≤ 1073741824) ∧ (-1073741824 ≤ yn ∧ yn ≤ 1073741824) ∧ xd ≤ 1073741824 ∧ yd ≤ 1073741824
  · obtain ⟨⟨a1, a2⟩, ⟨a3, a4⟩, a5, a6⟩ := h
    have m1 := mul_small (x := xn) (y := yd) (by omega) (by omega) (by omega) (by omega)
    have m2 := mul_small (x := yn) (y := xd) (by omega) (by omega) (by omega) (by omega)
    have m3 := mul_small (x := xd) (y := yd) (by omega) (by omega) (by omega) (by omega)
    have L := Lib.hid (lowest_any (xn * yd + yn * xd) (xd * yd) (by omega) (by omega) (by omega) (by omega) (by omega))
    have EY := Lib.hid (easy_yes xn xd yn yd hx hx1 hy hy1 kx kx1 ky ky1 ⟨⟨a1, a2⟩, ⟨a3, a4⟩, a5, a6⟩)
    generalize fA (xn * yd + yn * xd) (xd * yd) = rA at *
    generalize fB (xn * yd + yn * xd) (xd * yd) = rB at *
    generalize fE (xn * yd + yn * xd) (xd * yd) = rE at *
    go_enter Try.func80, Try.ntmps80
    go_wp2_with fail
    refine (EY.out _).mono ?_
    rintro e w1 ⟨rfl, hb1⟩
    have f0 : Fr w w1 [[.int .i64 xn, .int .i64 xd], [.int .i64 yn, .int .i64 yd], [.int .i64 0, .int .i64 0]] := Fr.call hb1 (Fr.new (Fr.new (Fr.new (Fr.refl w) rfl [.int .i64 xn, .int .i64 xd] 31) (by simp) [.int .i64 yn, .int .i64 yd] 31) (by simp) [.int .i64 0, .int .i64 0] 31)
    have ta := f0.h0; have tb := f0.h1
    have x0 := ta.cell 0 _ rfl; have x1 := ta.cell 1 _ rfl
    have y0 := tb.cell 0 _ rfl; have y1 := tb.cell 1 _ rfl
    go_wp2_with fail
    refine (L.out _).mono ?_
    rintro e w4 ⟨rfl, hb4⟩
    have fr4 := Fr.call hb4 f0
    have t4 := fr4.h2
    have q0 := t4.cell 0 _ rfl; have q1 := t4.cell 1 _ rfl; have qf := t4.free
    go_wp2
    exact bodyPost_ret (v := .tuple #[.agg #[.int .i64 rA, .int .i64 rB], .int .i64 rE]) (by simp [results, Try.results80, go_sem, q0, q1]) rfl ⟨rfl, fr4.below.trans (by go_grown)⟩
  · have TG := Lib.hid (together_plus xn xd yn yd hx hx1 hy hy1 kx kx1 ky ky1)
    have EN := Lib.hid (easy_no xn xd yn yd hx hx1 hy hy1 kx kx1 ky ky1 h)
    clear h
    generalize fA (xn * yd + yn * xd) (xd * yd) = rA at *
    generalize fB (xn * yd + yn * xd) (xd * yd) = rB at *
    generalize fE (xn * yd + yn * xd) (xd * yd) = rE at *
    go_enter Try.func80, Try.ntmps80
    go_wp2_with fail
    refine (EN.out _).mono ?_
    rintro e w1 ⟨rfl, hb1⟩
    have f0 : Fr w w1 [[.int .i64 xn, .int .i64 xd], [.int .i64 yn, .int .i64 yd], [.int .i64 0, .int .i64 0]] := Fr.call hb1 (Fr.new (Fr.new (Fr.new (Fr.refl w) rfl [.int .i64 xn, .int .i64 xd] 31) (by simp) [.int .i64 yn, .int .i64 yd] 31) (by simp) [.int .i64 0, .int .i64 0] 31)
    have ta := f0.h0; have tb := f0.h1
    have x0 := ta.cell 0 _ rfl; have x1 := ta.cell 1 _ rfl
    have y0 := tb.cell 0 _ rfl; have y1 := tb.cell 1 _ rfl
    go_wp2_with fail
    refine (TG.out _).mono ?_
    rintro e w4 ⟨rfl, hb4⟩
    have fr4 := Fr.call hb4 f0
    have t4 := fr4.h2
    have q0 := t4.cell 0 _ rfl; have q1 := t4.cell 1 _ rfl; have qf := t4.free
    go_wp2
    exact bodyPost_ret (v := .tuple #[.agg #[.int .i64 rA, .int .i64 rB], .int .i64 rE]) (by simp [results, Try.results80, go_sem, q0, q1]) rfl ⟨rfl, fr4.below.trans (by go_grown)⟩
set_option maxHeartbeats 2000000 in
theorem frac_mul (xn xd yn yd : Int) (hx : -1152921504606846976 ≤ xn) (hx1 : xn ≤ 1152921504606846976) (hy : -1152921504606846976 ≤ yn) (hy1 : yn ≤ 1152921504606846976) (kx : 1 ≤ xd) (kx1 : xd ≤ 1152921504606846976) (ky : 1 ≤ yd) (ky1 : yd ≤ 1152921504606846976)  (w : World) :
    Calls Try.prog 81 #[.agg #[.int .i64 xn, .int .i64 xd], .agg #[.int .i64 yn, .int .i64 yd]] w fun e w' => e = .returned (.tuple #[.agg #[.int .i64 (fA (xn * yn) (xd * yd)), .int .i64 (fB (xn * yn) (xd * yd))], .int .i64 (fE (xn * yn) (xd * yd))]) ∧ Below w.heap.size w w' := by
  have hx0 : (xd == 0) = false := by simp; omega
  have hy0 : (yd == 0) = false := by simp; omega
  have hp : xd * yd ≠ 0 := Int.mul_ne_zero (by omega) (by omega)
  by_cases h : (-1073741824 ≤ xn ∧ xn ≤ 1073741824) ∧ (-1073741824 ≤ yn ∧ yn ≤ 1073741824) ∧ xd ≤ 1073741824 ∧ yd ≤ 1073741824
  · obtain ⟨⟨a1, a2⟩, ⟨a3, a4⟩, a5, a6⟩ := h
    have m1 := mul_small (x := xn) (y := yn) (by omega) (by omega) (by omega) (by omega)
    have m2 := mul_small (x := xd) (y := yd) (by omega) (by omega) (by omega) (by omega)
    have L := Lib.hid (lowest_any (xn * yn) (xd * yd) (by omega) (by omega) (by omega) (by omega) hp)
    have EY := Lib.hid (easy_yes xn xd yn yd hx hx1 hy hy1 kx kx1 ky ky1 ⟨⟨a1, a2⟩, ⟨a3, a4⟩, a5, a6⟩)
    clear hp
    generalize fA (xn * yn) (xd * yd) = rA at *
    generalize fB (xn * yn) (xd * yd) = rB at *
    generalize fE (xn * yn) (xd * yd) = rE at *
    go_enter Try.func81, Try.ntmps81
    go_wp2_with fail
    refine (EY.out _).mono ?_
    rintro e w1 ⟨rfl, hb1⟩
    have f0 : Fr w w1 [[.int .i64 xn, .int .i64 xd], [.int .i64 yn, .int .i64 yd], [.int .i64 0, .int .i64 0]] := Fr.call hb1 (Fr.new (Fr.new (Fr.new (Fr.refl w) rfl [.int .i64 xn, .int .i64 xd] 31) (by simp) [.int .i64 yn, .int .i64 yd] 31) (by simp) [.int .i64 0, .int .i64 0] 31)
    have ta := f0.h0; have tb := f0.h1
    have x0 := ta.cell 0 _ rfl; have x1 := ta.cell 1 _ rfl
    have y0 := tb.cell 0 _ rfl; have y1 := tb.cell 1 _ rfl
    go_wp2_with fail
    refine (L.out _).mono ?_
    rintro e w4 ⟨rfl, hb4⟩
    have fr4 := Fr.call hb4 f0
    have t4 := fr4.h2
    have q0 := t4.cell 0 _ rfl; have q1 := t4.cell 1 _ rfl; have qf := t4.free
    go_wp2
    exact bodyPost_ret (v := .tuple #[.agg #[.int .i64 rA, .int .i64 rB], .int .i64 rE]) (by simp [results, Try.results81, go_sem, q0, q1]) rfl ⟨rfl, fr4.below.trans (by go_grown)⟩
  · have EN := Lib.hid (easy_no xn xd yn yd hx hx1 hy hy1 kx kx1 ky ky1 h)
    clear h
    obtain ⟨P1, s1, e1, b1, _, c1⟩ := product_named xn yn (by omega) (by omega) (by omega) (by omega)
    obtain ⟨P3, s3, e3, b3, p3, c3⟩ := product_named xd yd (by omega) (by omega) (by omega) (by omega)
    have c5 := exact_at P1 P3 s1 s3 e1 e3 (by omega) (by omega) (p3 (by omega) (by omega))
    have C1 := Lib.hid c1; have C3 := Lib.hid c3; have C5 := Lib.hid c5
    clear c1 c3 c5 e1 e3 p3 hp
    generalize fA (xn * yn) (xd * yd) = rA at *
    generalize fB (xn * yn) (xd * yd) = rB at *
    generalize fE (xn * yn) (xd * yd) = rE at *
    go_enter Try.func81, Try.ntmps81
    go_wp2_with fail
    refine (EN.out _).mono ?_
    rintro e w1 ⟨rfl, hb1⟩
    have f0 : Fr w w1 [[.int .i64 xn, .int .i64 xd], [.int .i64 yn, .int .i64 yd], [.int .i64 0, .int .i64 0]] := Fr.call hb1 (Fr.new (Fr.new (Fr.new (Fr.refl w) rfl [.int .i64 xn, .int .i64 xd] 31) (by simp) [.int .i64 yn, .int .i64 yd] 31) (by simp) [.int .i64 0, .int .i64 0] 31)
    have ta := f0.h0; have tb := f0.h1
    have x0 := ta.cell 0 _ rfl; have x1 := ta.cell 1 _ rfl
    have y0 := tb.cell 0 _ rfl; have y1 := tb.cell 1 _ rfl
    go_wp2_with fail
    have f0d := f0.drew
    go_region_held3 (fun w' => w'.cell? ⟨w.heap.size, 0, none⟩ = some (.int .i64 xn) ∧ w'.cell? ⟨w.heap.size, 1, none⟩ = some (.int .i64 xd) ∧ w'.cell? ⟨w.heap.size + 1, 0, none⟩ = some (.int .i64 yn) ∧ w'.cell? ⟨w.heap.size + 1, 1, none⟩ = some (.int .i64 yd)) (((try dsimp only); (repeat' apply And.intro); all_goals (first | go_keep | (refine cell_later hb4 ?_; first | assumption | go_keep) | go_cell)))
      (first | (go_at_call 96; (with_reducible refine (C1.out _).mono ?_); rintro e w4 ⟨rfl, hb4⟩; have fr4 := Fr.call hb4 (by assumption); have t4 := fr4.h2; have q0 := t4.cell 0 _ rfl; have q1 := t4.cell 1 _ rfl; have qf := t4.free) | (go_at_call 96; (with_reducible refine (C3.out _).mono ?_); rintro e w4 ⟨rfl, hb4⟩; have fr4 := Fr.call hb4 (by assumption); have t4 := fr4.h2; have q0 := t4.cell 0 _ rfl; have q1 := t4.cell 1 _ rfl; have qf := t4.free) | (go_at_call 95; (with_reducible refine (C5.out _).mono ?_); rintro e w4 ⟨rfl, hb4⟩; have fr4 := Fr.call hb4 (by assumption); have t4 := fr4.h2; have q0 := t4.cell 0 _ rfl; have q1 := t4.cell 1 _ rfl; have qf := t4.free))
    go_wp2
    exact bodyPost_ret (v := .tuple #[.agg #[.int .i64 rA, .int .i64 rB], .int .i64 rE]) (by simp [results, Try.results81, go_sem, q0, q1]) rfl ⟨rfl, fr4.below.trans (by go_grown)⟩
set_option maxHeartbeats 2000000 in
theorem frac_div (xn xd yn yd : Int) (hx : -1152921504606846976 ≤ xn) (hx1 : xn ≤ 1152921504606846976) (hy : -1152921504606846976 ≤ yn) (hy1 : yn ≤ 1152921504606846976) (kx : 1 ≤ xd) (kx1 : xd ≤ 1152921504606846976) (ky : 1 ≤ yd) (ky1 : yd ≤ 1152921504606846976) (hz : yn ≠ 0) (w : World) :
    Calls Try.prog 97 #[.agg #[.int .i64 xn, .int .i64 xd], .agg #[.int .i64 yn, .int .i64 yd]] w fun e w' => e = .returned (.tuple #[.agg #[.int .i64 (fA (xn * yd) (xd * yn)), .int .i64 (fB (xn * yd) (xd * yn))], .int .i64 (fE (xn * yd) (xd * yn))]) ∧ Below w.heap.size w w' := by
  have hx0 : (xd == 0) = false := by simp; omega
  have hy0 : (yd == 0) = false := by simp; omega
  have hz0 : (yn == 0) = false := by simpa using hz
  have hp : xd * yn ≠ 0 := Int.mul_ne_zero (by omega) hz
  by_cases h : (-1073741824 ≤ xn ∧ xn ≤ 1073741824) ∧ (-1073741824 ≤ yn ∧ yn ≤ 1073741824) ∧ xd ≤ 1073741824 ∧ yd ≤ 1073741824
  · obtain ⟨⟨a1, a2⟩, ⟨a3, a4⟩, a5, a6⟩ := h
    have m1 := mul_small (x := xn) (y := yd) (by omega) (by omega) (by omega) (by omega)
    have m2 := mul_small (x := xd) (y := yn) (by omega) (by omega) (by omega) (by omega)
    have L := Lib.hid (lowest_any (xn * yd) (xd * yn) (by omega) (by omega) (by omega) (by omega) hp)
    have EY := Lib.hid (easy_yes xn xd yn yd hx hx1 hy hy1 kx kx1 ky ky1 ⟨⟨a1, a2⟩, ⟨a3, a4⟩, a5, a6⟩)
    clear hp
    generalize fA (xn * yd) (xd * yn) = rA at *
    generalize fB (xn * yd) (xd * yn) = rB at *
    generalize fE (xn * yd) (xd * yn) = rE at *
    go_enter Try.func97, Try.ntmps97
    go_wp2_with fail
    refine (EY.out _).mono ?_
    rintro e w1 ⟨rfl, hb1⟩
    have f0 : Fr w w1 [[.int .i64 xn, .int .i64 xd], [.int .i64 yn, .int .i64 yd], [.int .i64 0, .int .i64 0]] := Fr.call hb1 (Fr.new (Fr.new (Fr.new (Fr.refl w) rfl [.int .i64 xn, .int .i64 xd] 31) (by simp) [.int .i64 yn, .int .i64 yd] 31) (by simp) [.int .i64 0, .int .i64 0] 31)
    have ta := f0.h0; have tb := f0.h1
    have x0 := ta.cell 0 _ rfl; have x1 := ta.cell 1 _ rfl
    have y0 := tb.cell 0 _ rfl; have y1 := tb.cell 1 _ rfl
    go_wp2_with fail
    refine (L.out _).mono ?_
    rintro e w4 ⟨rfl, hb4⟩
    have fr4 := Fr.call hb4 f0
    have t4 := fr4.h2
    have q0 := t4.cell 0 _ rfl; have q1 := t4.cell 1 _ rfl; have qf := t4.free
    go_wp2
    exact bodyPost_ret (v := .tuple #[.agg #[.int .i64 rA, .int .i64 rB], .int .i64 rE]) (by simp [results, Try.results97, go_sem, q0, q1]) rfl ⟨rfl, fr4.below.trans (by go_grown)⟩
  · have EN := Lib.hid (easy_no xn xd yn yd hx hx1 hy hy1 kx kx1 ky ky1 h)
    clear h
    obtain ⟨P1, s1, e1, b1, _, c1⟩ := product_named xn yd (by omega) (by omega) (by omega) (by omega)
    obtain ⟨P3, s3, e3, b3, p3, c3⟩ := product_named xd yn (by omega) (by omega) (by omega) (by omega)
    have c5 := exact_at P1 P3 s1 s3 e1 e3 (by omega) (by omega) (p3 hz (by omega))
    have C1 := Lib.hid c1; have C3 := Lib.hid c3; have C5 := Lib.hid c5
    clear c1 c3 c5 e1 e3 p3 hp
    generalize fA (xn * yd) (xd * yn) = rA at *
    generalize fB (xn * yd) (xd * yn) = rB at *
    generalize fE (xn * yd) (xd * yn) = rE at *
    go_enter Try.func97, Try.ntmps97
    go_wp2_with fail
    refine (EN.out _).mono ?_
    rintro e w1 ⟨rfl, hb1⟩
    have f0 : Fr w w1 [[.int .i64 xn, .int .i64 xd], [.int .i64 yn, .int .i64 yd], [.int .i64 0, .int .i64 0]] := Fr.call hb1 (Fr.new (Fr.new (Fr.new (Fr.refl w) rfl [.int .i64 xn, .int .i64 xd] 31) (by simp) [.int .i64 yn, .int .i64 yd] 31) (by simp) [.int .i64 0, .int .i64 0] 31)
    have ta := f0.h0; have tb := f0.h1
    have x0 := ta.cell 0 _ rfl; have x1 := ta.cell 1 _ rfl
    have y0 := tb.cell 0 _ rfl; have y1 := tb.cell 1 _ rfl
    go_wp2_with fail
    have f0d := f0.drew
    go_region_held3 (fun w' => w'.cell? ⟨w.heap.size, 0, none⟩ = some (.int .i64 xn) ∧ w'.cell? ⟨w.heap.size, 1, none⟩ = some (.int .i64 xd) ∧ w'.cell? ⟨w.heap.size + 1, 0, none⟩ = some (.int .i64 yn) ∧ w'.cell? ⟨w.heap.size + 1, 1, none⟩ = some (.int .i64 yd)) (((try dsimp only); (repeat' apply And.intro); all_goals (first | go_keep | (refine cell_later hb4 ?_; first | assumption | go_keep) | go_cell)))
      (first | (go_at_call 96; (with_reducible refine (C1.out _).mono ?_); rintro e w4 ⟨rfl, hb4⟩; have fr4 := Fr.call hb4 (by assumption); have t4 := fr4.h2; have q0 := t4.cell 0 _ rfl; have q1 := t4.cell 1 _ rfl; have qf := t4.free) | (go_at_call 96; (with_reducible refine (C3.out _).mono ?_); rintro e w4 ⟨rfl, hb4⟩; have fr4 := Fr.call hb4 (by assumption); have t4 := fr4.h2; have q0 := t4.cell 0 _ rfl; have q1 := t4.cell 1 _ rfl; have qf := t4.free) | (go_at_call 95; (with_reducible refine (C5.out _).mono ?_); rintro e w4 ⟨rfl, hb4⟩; have fr4 := Fr.call hb4 (by assumption); have t4 := fr4.h2; have q0 := t4.cell 0 _ rfl; have q1 := t4.cell 1 _ rfl; have qf := t4.free))
    go_wp2
    exact bodyPost_ret (v := .tuple #[.agg #[.int .i64 rA, .int .i64 rB], .int .i64 rE]) (by simp [results, Try.results97, go_sem, q0, q1]) rfl ⟨rfl, fr4.below.trans (by go_grown)⟩
end Go.Proofs.Ytdegpgonphgbcaa
