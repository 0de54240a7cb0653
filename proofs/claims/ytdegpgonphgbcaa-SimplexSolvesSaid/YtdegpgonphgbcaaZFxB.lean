/-
  The reference's division of 128-bit numbers (timeb.
  The reference's greatest common divisor and validi.
-/
import Derived.Lib.Hide
import Derived.Deep.LoopGhost
import Derived.Test.YtdegpgonphgbcaaZFxM
import Derived.Test.YtdegpgonphgbcaaHas
namespace Go.Proofs.Ytdegpgonphgbcaa
open Go.RowKit
theorem wh0 : wh 0 = 0 := rfl
theorem wl0 : wl 0 = 0 := rfl
def two (N : Nat) : List Value := [.int .u64 (wh N), .int .u64 (wl N)]
theorem up_odd (N : Nat) (h : N % 2 = 0) : bits .or .u64 (wl N) 1 = wl (N + 1) ∧ wh N = wh (N + 1) := by
  have := wl_bd N
  refine ⟨?_, by unfold wh; omega⟩
  rw [or_one_u64 _ (by omega) (by unfold wl; omega) (by omega)]
  unfold wl; omega
theorem less_at {h l g m : Int} (A B : Nat) (e1 : h = wh A) (e2 : l = wl A) (e3 : g = wh B) (e4 : m = wl B) (hA : A < 340282366920938463463374607431768211456) (hB : B < 340282366920938463463374607431768211456) (w : World) :
    (A < B → Calls Try.prog 51 #[.agg #[.int .u64 h, .int .u64 l], .agg #[.int .u64 g, .int .u64 m]] w fun e w' => e = .returned (.bool true) ∧ Below w.heap.size w w') ∧
    (B ≤ A → Calls Try.prog 51 #[.agg #[.int .u64 h, .int .u64 l], .agg #[.int .u64 g, .int .u64 m]] w fun e w' => e = .returned (.bool false) ∧ Below w.heap.size w w') := by
  subst e1 e2 e3 e4; have := less_any A B hA hB w
  refine ⟨fun h => ?_, fun h => ?_⟩
  · rwa [decide_eq_true h] at this
  · rwa [decide_eq_false (by omega)] at this
theorem sub_at {h l g m : Int} (A B : Nat) (e1 : h = wh A) (e2 : l = wl A) (e3 : g = wh B) (e4 : m = wl B) (hA : A < 340282366920938463463374607431768211456) (hB : B ≤ A) (w : World) :
    Calls Try.prog 52 #[.agg #[.int .u64 h, .int .u64 l], .agg #[.int .u64 g, .int .u64 m]] w fun e w' => e = .returned (.agg #[.int .u64 (wh (A - B)), .int .u64 (wl (A - B))]) ∧ Below w.heap.size w w' := by
  subst e1 e2 e3 e4; exact sub_any A B hA hB w
theorem bit_hi (A k : Nat) (hA : A < 340282366920938463463374607431768211456) : bits .and .u64 (wh A / 2 ^ k) 1 = ((A / 2 ^ (64 + k) % 2 : Nat) : Int) := by
  have h := wh_bd A hA
  have e : wh A / 2 ^ k = ((A / 2 ^ (64 + k) : Nat) : Int) := by
    unfold wh
    rw [Nat.pow_add, ← Nat.div_div_eq_div_mul]
    simp
  have h0 : 0 ≤ wh A / 2 ^ k := Int.ediv_nonneg h.1 (by exact Int.le_of_lt (Int.pow_pos (by decide)))
  have h1 : wh A / 2 ^ k ≤ wh A := Int.ediv_le_self _ h.1
  rw [and_one_u64 _ h0 (by omega), e]
  simp
theorem bit_lo (A k : Nat) (hk : k < 64) : bits .and .u64 (wl A / 2 ^ k) 1 = ((A / 2 ^ k % 2 : Nat) : Int) := by
  have h := wl_bd A
  have h0 : 0 ≤ wl A / 2 ^ k := Int.ediv_nonneg h.1 (by exact Int.le_of_lt (Int.pow_pos (by decide)))
  have h1 : wl A / 2 ^ k ≤ wl A := Int.ediv_le_self _ h.1
  rw [and_one_u64 _ h0 (by omega)]
  unfold wl
  have e : A % 18446744073709551616 / 2 ^ k % 2 = A / 2 ^ k % 2 := by
    have hp : (18446744073709551616 : Nat) = 2 ^ k * (2 * 2 ^ (63 - k)) := by
      rw [← Nat.pow_succ', ← Nat.pow_add, show k + (63 - k).succ = 64 by omega]
    rw [hp, Nat.mod_mul_right_div_self, Nat.mod_mul_right_mod]
  rw [← e]
  simp
theorem step_div (A k : Nat) : A / 2 ^ k = 2 * (A / 2 ^ (k + 1)) + A / 2 ^ k % 2 := by
  have : A / 2 ^ (k + 1) = A / 2 ^ k / 2 := by rw [Nat.pow_succ, Nat.div_div_eq_div_mul]
  rw [this]; omega
theorem step_lt (A B k b : Nat) (hB : 0 < B) (hb : b = A / 2 ^ k % 2) (h : 2 * (A / 2 ^ (k + 1) % B) + b < B) : A / 2 ^ k / B = 2 * (A / 2 ^ (k + 1) / B) ∧ A / 2 ^ k % B = 2 * (A / 2 ^ (k + 1) % B) + b := by
  have e := step_div A k
  rw [← hb] at e
  have d := Nat.div_add_mod (A / 2 ^ (k + 1)) B
  generalize A / 2 ^ (k + 1) = X at *
  rw [e]
  generalize hq : X / B = q at *
  generalize hr : X % B = r at *
  rw [← d, show 2 * (B * q + r) + b = (2 * r + b) + B * (2 * q) by grind]
  rw [Nat.add_mul_div_left _ _ hB, Nat.add_mul_mod_self_left, Nat.div_eq_of_lt h, Nat.mod_eq_of_lt h]
  omega
theorem step_ge (A B k b : Nat) (hB : 0 < B) (hb : b = A / 2 ^ k % 2) (h : B ≤ 2 * (A / 2 ^ (k + 1) % B) + b) : A / 2 ^ k / B = 2 * (A / 2 ^ (k + 1) / B) + 1 ∧ A / 2 ^ k % B = 2 * (A / 2 ^ (k + 1) % B) + b - B := by
  have e := step_div A k
  have hb2 : b < 2 := by rw [hb]; exact Nat.mod_lt _ (by decide)
  rw [← hb] at e
  have d := Nat.div_add_mod (A / 2 ^ (k + 1)) B
  have hr := Nat.mod_lt (A / 2 ^ (k + 1)) hB
  generalize A / 2 ^ (k + 1) = X at *
  rw [e]
  generalize hq : X / B = q at *
  generalize hr : X % B = r at *
  obtain ⟨s, hs⟩ : ∃ s, 2 * r + b = B + s := ⟨2 * r + b - B, by omega⟩
  have hs' : s < B := by omega
  rw [← d, show 2 * (B * q + r) + b = (2 * r + b) + B * (2 * q) by grind, hs, show B + s + B * (2 * q) = s + B * (2 * q + 1) by grind]
  rw [Nat.add_mul_div_left _ _ hB, Nat.add_mul_mod_self_left, Nat.div_eq_of_lt hs', Nat.mod_eq_of_lt hs']
  omega
set_option maxHeartbeats 4000000 in
theorem divide_any (A B : Nat) (hA : A < 340282366920938463463374607431768211456) (hB0 : 0 < B) (hB : B < 170141183460469231731687303715884105728) (w : World) :
    Calls Try.prog 73 #[.agg #[.int .u64 (wh A), .int .u64 (wl A)], .agg #[.int .u64 (wh B), .int .u64 (wl B)]] w fun e w' => e = .returned (.tuple #[.agg #[.int .u64 (wh (A / B)), .int .u64 (wl (A / B))], .agg #[.int .u64 (wh (A % B)), .int .u64 (wl (A % B))]]) ∧ Below w.heap.size w w' := by
  have h1 := wl_bd A
  have h2 := wh_bd A (by omega)
  have h3 := wl_bd B
  have h4 := wh_bd B (by omega)
  go_enter Try.func73, Try.ntmps73
  go_wp2
  go_loopw [8] (fun i wr => ∃ k : Nat, k ≤ 128 ∧ i = .int .i64 ((k : Int) - 1) ∧ Below w.heap.size w wr ∧ w.heap.size + 6 ≤ wr.heap.size ∧
     Has wr (w.heap.size) (two A) ∧ Has wr (w.heap.size + 1) (two B) ∧ Has wr (w.heap.size + 1 + 1) (two 0) ∧ Has wr (w.heap.size + 1 + 1 + 1) (two 0) ∧
     Has wr (w.heap.size + 1 + 1 + 1 + 1) (two (A / 2 ^ k / B)) ∧ Has wr (w.heap.size + 1 + 1 + 1 + 1 + 1) (two (A / 2 ^ k % B))) (fun i wr => (intOf i + 1).toNat)
  case atStart =>
    have e : A / 2 ^ 128 = 0 := by rw [Nat.div_eq_zero_iff_lt (by decide)]; exact hA
    refine ⟨128, by omega, rfl, by go_grown, by simp, ?_⟩
    rw [e, Nat.zero_div, Nat.zero_mod]
    refine ⟨?_, ?_, ?_, ?_, ?_, ?_⟩
    · exact (((((Has.new w (two A) 85).old (by go_size)).old (by go_size)).old (by go_size)).old (by go_size)).old (by go_size)
    · refine Has.old (Has.old (Has.old (Has.old ?_ (by go_size)) (by go_size)) (by go_size)) (by go_size)
      exact (Has.new (w.alloc _) (two B) 85).at' (by simp)
    · refine Has.old (Has.old (Has.old ?_ (by go_size)) (by go_size)) (by go_size)
      exact (Has.new _ (two 0) 85).at' (by simp)
    · refine Has.old (Has.old ?_ (by go_size)) (by go_size)
      exact (Has.new _ (two 0) 85).at' (by simp)
    · refine Has.old ?_ (by go_size)
      exact (Has.new _ (two 0) 85).at' (by simp)
    · exact (Has.new _ (two 0) 85).at' (by simp)
  case round =>
    obtain ⟨k, hk, rfl, hbel, hsz, tA, tB, t0, t1, tq, tr⟩ := hrel
    have a1 := tA.cell 0 _ rfl; have a2 := tA.cell 1 _ rfl
    have q1 := tq.cell 0 _ rfl; have q2 := tq.cell 1 _ rfl
    have r1 := tr.cell 0 _ rfl; have r2 := tr.cell 1 _ rfl
    rcases Nat.lt_or_ge k 1 with hk0 | hk0
    · have e : A / 2 ^ k = A := by rw [show k = 0 by omega]; simp
      rw [e] at q1 q2 r1 r2
      clear e
      have s1 := t0.cell 0 _ rfl; have s2 := t0.cell 1 _ rfl; have s3 := t0.free
      have p1 := t1.cell 0 _ rfl; have p2 := t1.cell 1 _ rfl; have p3 := t1.free
      go_wp2
      go_region
      all_goals go_wp2
      all_goals exact bodyPost_ret (v := .tuple #[.agg #[.int .u64 (wh (A / B)), .int .u64 (wl (A / B))], .agg #[.int .u64 (wh (A % B)), .int .u64 (wl (A % B))]]) (by simp [results, Try.results73, go_sem, s1, s2, p1, p2]) rfl ⟨rfl, by go_grown⟩
    · obtain ⟨m, rfl⟩ : ∃ m, k = m + 1 := ⟨k - 1, by omega⟩
      obtain ⟨Q, hQ⟩ : ∃ Q, Q = A / 2 ^ (m + 1) / B := ⟨_, rfl⟩
      obtain ⟨R, hR⟩ : ∃ R, R = A / 2 ^ (m + 1) % B := ⟨_, rfl⟩
      rw [← hQ] at tq q1 q2
      rw [← hR] at tr r1 r2
      have hRB : R < B := by rw [hR]; exact Nat.mod_lt _ hB0
      have hQB : Q < 170141183460469231731687303715884105728 := by
        rw [hQ]
        refine Nat.lt_of_le_of_lt (Nat.div_le_self _ _) ?_
        rw [Nat.div_lt_iff_lt_mul (Nat.two_pow_pos _), Nat.pow_succ]
        have := Nat.two_pow_pos m
        omega
      have hlt : ∀ b, b = A / 2 ^ m % 2 → 2 * R + b < B → A / 2 ^ m / B = 2 * Q ∧ A / 2 ^ m % B = 2 * R + b := by rw [hQ, hR]; exact fun b => step_lt A B m b hB0
      have hge : ∀ b, b = A / 2 ^ m % 2 → B ≤ 2 * R + b → A / 2 ^ m / B = 2 * Q + 1 ∧ A / 2 ^ m % B = 2 * R + b - B := by rw [hQ, hR]; exact fun b => step_ge A B m b hB0
      clear hQ hR
      go_wp2_with fail
      refine (double_any R (by omega) _).mono ?_
      rintro e w1 ⟨rfl, hb1⟩
      have z1 : wr.heap.size ≤ w1.heap.size := hb1.size
      have tA1 := tA.below hb1 (by omega)
      have tB1 := tB.below hb1 (by omega)
      have t01 := t0.below hb1 (by omega)
      have t11 := t1.below hb1 (by omega)
      have tr1 := tr.below hb1 (by omega)
      have tq1 := tq.below hb1 (by omega)
      clear a1 a2 q1 q2 r1 r2 tA tB t0 t1 tr tq
      have a1 := tA1.cell 0 _ rfl; have a2 := tA1.cell 1 _ rfl
      have r1 := tr1.cell 0 _ rfl; have r2 := tr1.cell 1 _ rfl; have r3 := tr1.free
      have q1 := tq1.cell 0 _ rfl; have q2 := tq1.cell 1 _ rfl
      obtain ⟨up1, up2⟩ := up_odd (2 * R) (by omega)
      have upd : ∀ b, b < 2 → 1 ≤ b → [Value.int .u64 (wh (2 * R)), Value.int .u64 (bits .or .u64 (wl (2 * R)) 1)] = two (2 * R + b) := by
        intro b x y
        rw [show b = 1 by omega, up1, up2]; rfl
      clear up1 up2
      obtain ⟨b, hb⟩ : ∃ b, b = A / 2 ^ m % 2 := ⟨_, rfl⟩
      have hb2 : b < 2 := by omega
      have hlt' := hlt b hb; have hge' := hge b hb
      clear hlt hge
      obtain ⟨q, hq⟩ : ∃ q, q = A / 2 ^ m / B := ⟨_, rfl⟩
      obtain ⟨r, hr⟩ : ∃ r, r = A / 2 ^ m % B := ⟨_, rfl⟩
      rw [← hq, ← hr] at hlt' hge'
      have HB : Hid (b = A / 2 ^ m % 2) := Lib.hid hb
      have HQ : Hid (q = A / 2 ^ m / B) := Lib.hid hq
      have HR : Hid (r = A / 2 ^ m % B) := Lib.hid hr
      have HU := Lib.hid upd
      have HL := Lib.hid hlt'
      have HG := Lib.hid hge'
      clear hb hq hr upd hlt' hge'
      rcases Nat.lt_or_ge m 64 with hm | hm
      all_goals rcases Nat.lt_or_ge b 1 with hb0 | hb0
      · have hbit : (bits .and .u64 (wl A / 2 ^ m) 1 == 1) = false := by rw [bit_lo A m hm, ← HB.out, show b = 0 by omega]; rfl
        go_wp2_with fail
        clear hbit
        refine (double_any Q (by omega) _).mono ?_
        rintro e w2 ⟨rfl, hb3⟩
        have tr2 : Has w2 (w.heap.size + 1 + 1 + 1 + 1 + 1) (two (2 * R + b)) := by
          rw [show b = 0 by omega]
          exact ((tr1.set0 _).set1 _).below hb3 (by go_size)
        have tq2 := ((tq1.other (by go_size)).other (by go_size)).below hb3 (by go_size)
        have tA2 := ((tA1.other (by go_size)).other (by go_size)).below hb3 (by go_size)
        have tB2 := ((tB1.other (by go_size)).other (by go_size)).below hb3 (by go_size)
        have t02 := ((t01.other (by go_size)).other (by go_size)).below hb3 (by go_size)
        have t12 := ((t11.other (by go_size)).other (by go_size)).below hb3 (by go_size)
        have hbel2 : Below w.heap.size w w2 := (((hbel.trans (hb1.mono (by omega))).setCell (by go_size) _).setCell (by go_size) _).trans (hb3.mono (by go_size))
        have z2 : w1.heap.size ≤ w2.heap.size := by simpa using hb3.size
        clear a1 a2 q1 q2 r1 r2 r3
        have a1 := tA2.cell 0 _ rfl; have a2 := tA2.cell 1 _ rfl
        have b1 := tB2.cell 0 _ rfl; have b2 := tB2.cell 1 _ rfl
        have r1 := tr2.cell 0 _ rfl; have r2 := tr2.cell 1 _ rfl; have r3 := tr2.free
        have q1 := tq2.cell 0 _ rfl; have q2 := tq2.cell 1 _ rfl; have q3 := tq2.free
        rcases Nat.lt_or_ge (2 * R + b) B with hc | hc
        · go_wp2_with fail
          refine ((less_at (2 * R + b) B rfl rfl rfl rfl (by omega) (by omega) _).1 hc).mono ?_
          rintro e w3 ⟨rfl, hb4⟩
          have z3 : w2.heap.size ≤ w3.heap.size := by simpa using hb4.size
          go_wp2_with fail
          go_roundw
          case rel =>
            obtain ⟨e1, e2⟩ := HL.out hc
            rw [HQ.out] at e1; rw [HR.out] at e2
            refine ⟨m, by omega, by go_num, (((hbel2.setCell (by go_size) _).setCell (by go_size) _).trans (hb4.mono (by go_size))), by omega, ?_⟩
            rw [e1, e2]
            exact ⟨((tA2.other (by go_size)).other (by go_size)).below hb4 (by go_size), ((tB2.other (by go_size)).other (by go_size)).below hb4 (by go_size),
              ((t02.other (by go_size)).other (by go_size)).below hb4 (by go_size), ((t12.other (by go_size)).other (by go_size)).below hb4 (by go_size),
              ((tq2.set0 _).set1 _).below hb4 (by go_size), ((tr2.other (by go_size)).other (by go_size)).below hb4 (by go_size)⟩
          case measure => first | (simp [intOf]; omega) | (simp [intOf]; done)
        · go_wp2_with fail
          refine ((less_at (2 * R + b) B rfl rfl rfl rfl (by omega) (by omega) _).2 hc).mono ?_
          rintro e w3 ⟨rfl, hb4⟩
          have z3 : w2.heap.size ≤ w3.heap.size := by simpa using hb4.size
          have tA3 := ((tA2.other (by go_size)).other (by go_size)).below hb4 (by go_size)
          have tB3 := ((tB2.other (by go_size)).other (by go_size)).below hb4 (by go_size)
          have t03 := ((t02.other (by go_size)).other (by go_size)).below hb4 (by go_size)
          have t13 := ((t12.other (by go_size)).other (by go_size)).below hb4 (by go_size)
          have tq3 := ((tq2.set0 (.int .u64 (wh (2 * Q)))).set1 (.int .u64 (wl (2 * Q)))).below hb4 (by go_size)
          have tr3 := ((tr2.other (by go_size)).other (by go_size)).below hb4 (by go_size)
          have hbel3 := (((hbel2.setCell (by go_size) (.int .u64 (wh (2 * Q)))).setCell (by go_size) (.int .u64 (wl (2 * Q)))).trans (hb4.mono (by go_size)))
          clear a1 a2 b1 b2 r1 r2 r3 q1 q2 q3 tA2 tB2 t02 t12 tq2 tr2 hbel2
          have b1 := tB3.cell 0 _ rfl; have b2 := tB3.cell 1 _ rfl
          have r1 := tr3.cell 0 _ rfl; have r2 := tr3.cell 1 _ rfl; have r3 := tr3.free
          have q1 := tq3.cell 0 _ rfl; have q2 := tq3.cell 1 _ rfl; have q3 := tq3.free
          go_wp2_with fail
          refine (sub_at (2 * R + b) B rfl rfl rfl rfl (by omega) hc _).mono ?_
          rintro e w4 ⟨rfl, hb5⟩
          have z4 : w3.heap.size ≤ w4.heap.size := by simpa using hb5.size
          have tA4 := tA3.below hb5 (by go_size)
          have tB4 := tB3.below hb5 (by go_size)
          have t04 := t03.below hb5 (by go_size)
          have t14 := t13.below hb5 (by go_size)
          have tq4 := tq3.below hb5 (by go_size)
          have tr4 := tr3.below hb5 (by go_size)
          have hbel4 := hbel3.trans (hb5.mono (by go_size))
          clear b1 b2 r1 r2 r3 q1 q2 q3 tA3 tB3 t03 t13 tq3 tr3 hbel3
          have r1 := tr4.cell 0 _ rfl; have r2 := tr4.cell 1 _ rfl; have r3 := tr4.free
          have q1 := tq4.cell 0 _ rfl; have q2 := tq4.cell 1 _ rfl; have q3 := tq4.free
          go_wp2
          go_roundw
          case rel =>
            obtain ⟨e1, e2⟩ := HG.out hc
            rw [HQ.out] at e1; rw [HR.out] at e2
            refine ⟨m, by omega, by go_num, ((hbel4.setCell (by go_size) _).setCell (by go_size) _).setCell (by go_size) _, by go_size, ?_⟩
            rw [e1, e2]
            obtain ⟨u1, u2⟩ := up_odd (2 * Q) (by omega)
            exact ⟨((tA4.other (by go_size)).other (by go_size)).other (by go_size), ((tB4.other (by go_size)).other (by go_size)).other (by go_size),
              ((t04.other (by go_size)).other (by go_size)).other (by go_size), ((t14.other (by go_size)).other (by go_size)).other (by go_size),
              (((tq4.other (by go_size)).other (by go_size)).set1 _).at (by rw [u1, u2]; rfl), ((tr4.set0 _).set1 _).other (by go_size)⟩
          case measure => first | (simp [intOf]; omega) | (simp [intOf]; done)
      · have hbit : (bits .and .u64 (wl A / 2 ^ m) 1 == 1) = true := by rw [bit_lo A m hm, ← HB.out, show b = 1 by omega]; rfl
        go_wp2_with fail
        clear hbit
        refine (double_any Q (by omega) _).mono ?_
        rintro e w2 ⟨rfl, hb3⟩
        have tr2 : Has w2 (w.heap.size + 1 + 1 + 1 + 1 + 1) (two (2 * R + b)) := by
          rw [← HU.out b hb2 hb0]
          exact (((tr1.set0 _).set1 _).set1 _).below hb3 (by go_size)
        have tq2 := (((tq1.other (by go_size)).other (by go_size)).other (by go_size)).below hb3 (by go_size)
        have tA2 := (((tA1.other (by go_size)).other (by go_size)).other (by go_size)).below hb3 (by go_size)
        have tB2 := (((tB1.other (by go_size)).other (by go_size)).other (by go_size)).below hb3 (by go_size)
        have t02 := (((t01.other (by go_size)).other (by go_size)).other (by go_size)).below hb3 (by go_size)
        have t12 := (((t11.other (by go_size)).other (by go_size)).other (by go_size)).below hb3 (by go_size)
        have hbel2 : Below w.heap.size w w2 := ((((hbel.trans (hb1.mono (by omega))).setCell (by go_size) _).setCell (by go_size) _).setCell (by go_size) _).trans (hb3.mono (by go_size))
        have z2 : w1.heap.size ≤ w2.heap.size := by simpa using hb3.size
        clear a1 a2 q1 q2 r1 r2 r3
        have a1 := tA2.cell 0 _ rfl; have a2 := tA2.cell 1 _ rfl
        have b1 := tB2.cell 0 _ rfl; have b2 := tB2.cell 1 _ rfl
        have r1 := tr2.cell 0 _ rfl; have r2 := tr2.cell 1 _ rfl; have r3 := tr2.free
        have q1 := tq2.cell 0 _ rfl; have q2 := tq2.cell 1 _ rfl; have q3 := tq2.free
        rcases Nat.lt_or_ge (2 * R + b) B with hc | hc
        · go_wp2_with fail
          refine ((less_at (2 * R + b) B rfl rfl rfl rfl (by omega) (by omega) _).1 hc).mono ?_
          rintro e w3 ⟨rfl, hb4⟩
          have z3 : w2.heap.size ≤ w3.heap.size := by simpa using hb4.size
          go_wp2_with fail
          go_roundw
          case rel =>
            obtain ⟨e1, e2⟩ := HL.out hc
            rw [HQ.out] at e1; rw [HR.out] at e2
            refine ⟨m, by omega, by go_num, (((hbel2.setCell (by go_size) _).setCell (by go_size) _).trans (hb4.mono (by go_size))), by omega, ?_⟩
            rw [e1, e2]
            exact ⟨((tA2.other (by go_size)).other (by go_size)).below hb4 (by go_size), ((tB2.other (by go_size)).other (by go_size)).below hb4 (by go_size),
              ((t02.other (by go_size)).other (by go_size)).below hb4 (by go_size), ((t12.other (by go_size)).other (by go_size)).below hb4 (by go_size),
              ((tq2.set0 _).set1 _).below hb4 (by go_size), ((tr2.other (by go_size)).other (by go_size)).below hb4 (by go_size)⟩
          case measure => first | (simp [intOf]; omega) | (simp [intOf]; done)
        · go_wp2_with fail
          refine ((less_at (2 * R + b) B rfl rfl rfl rfl (by omega) (by omega) _).2 hc).mono ?_
          rintro e w3 ⟨rfl, hb4⟩
          have z3 : w2.heap.size ≤ w3.heap.size := by simpa using hb4.size
          have tA3 := ((tA2.other (by go_size)).other (by go_size)).below hb4 (by go_size)
          have tB3 := ((tB2.other (by go_size)).other (by go_size)).below hb4 (by go_size)
          have t03 := ((t02.other (by go_size)).other (by go_size)).below hb4 (by go_size)
          have t13 := ((t12.other (by go_size)).other (by go_size)).below hb4 (by go_size)
          have tq3 := ((tq2.set0 (.int .u64 (wh (2 * Q)))).set1 (.int .u64 (wl (2 * Q)))).below hb4 (by go_size)
          have tr3 := ((tr2.other (by go_size)).other (by go_size)).below hb4 (by go_size)
          have hbel3 := (((hbel2.setCell (by go_size) (.int .u64 (wh (2 * Q)))).setCell (by go_size) (.int .u64 (wl (2 * Q)))).trans (hb4.mono (by go_size)))
          clear a1 a2 b1 b2 r1 r2 r3 q1 q2 q3 tA2 tB2 t02 t12 tq2 tr2 hbel2
          have b1 := tB3.cell 0 _ rfl; have b2 := tB3.cell 1 _ rfl
          have r1 := tr3.cell 0 _ rfl; have r2 := tr3.cell 1 _ rfl; have r3 := tr3.free
          have q1 := tq3.cell 0 _ rfl; have q2 := tq3.cell 1 _ rfl; have q3 := tq3.free
          go_wp2_with fail
          refine (sub_at (2 * R + b) B rfl rfl rfl rfl (by omega) hc _).mono ?_
          rintro e w4 ⟨rfl, hb5⟩
          have z4 : w3.heap.size ≤ w4.heap.size := by simpa using hb5.size
          have tA4 := tA3.below hb5 (by go_size)
          have tB4 := tB3.below hb5 (by go_size)
          have t04 := t03.below hb5 (by go_size)
          have t14 := t13.below hb5 (by go_size)
          have tq4 := tq3.below hb5 (by go_size)
          have tr4 := tr3.below hb5 (by go_size)
          have hbel4 := hbel3.trans (hb5.mono (by go_size))
          clear b1 b2 r1 r2 r3 q1 q2 q3 tA3 tB3 t03 t13 tq3 tr3 hbel3
          have r1 := tr4.cell 0 _ rfl; have r2 := tr4.cell 1 _ rfl; have r3 := tr4.free
          have q1 := tq4.cell 0 _ rfl; have q2 := tq4.cell 1 _ rfl; have q3 := tq4.free
          go_wp2
          go_roundw
          case rel =>
            obtain ⟨e1, e2⟩ := HG.out hc
            rw [HQ.out] at e1; rw [HR.out] at e2
            refine ⟨m, by omega, by go_num, ((hbel4.setCell (by go_size) _).setCell (by go_size) _).setCell (by go_size) _, by go_size, ?_⟩
            rw [e1, e2]
            obtain ⟨u1, u2⟩ := up_odd (2 * Q) (by omega)
            exact ⟨((tA4.other (by go_size)).other (by go_size)).other (by go_size), ((tB4.other (by go_size)).other (by go_size)).other (by go_size),
              ((t04.other (by go_size)).other (by go_size)).other (by go_size), ((t14.other (by go_size)).other (by go_size)).other (by go_size),
              (((tq4.other (by go_size)).other (by go_size)).set1 _).at (by rw [u1, u2]; rfl), ((tr4.set0 _).set1 _).other (by go_size)⟩
          case measure => first | (simp [intOf]; omega) | (simp [intOf]; done)
      · obtain ⟨m', rfl⟩ : ∃ m', m = 64 + m' := ⟨m - 64, by omega⟩
        have hbit : (bits .and .u64 (wh A / 2 ^ m') 1 == 1) = false := by rw [bit_hi A m' hA, ← HB.out, show b = 0 by omega]; rfl
        go_wp2_with fail
        clear hbit
        refine (double_any Q (by omega) _).mono ?_
        rintro e w2 ⟨rfl, hb3⟩
        have tr2 : Has w2 (w.heap.size + 1 + 1 + 1 + 1 + 1) (two (2 * R + b)) := by
          rw [show b = 0 by omega]
          exact ((tr1.set0 _).set1 _).below hb3 (by go_size)
        have tq2 := ((tq1.other (by go_size)).other (by go_size)).below hb3 (by go_size)
        have tA2 := ((tA1.other (by go_size)).other (by go_size)).below hb3 (by go_size)
        have tB2 := ((tB1.other (by go_size)).other (by go_size)).below hb3 (by go_size)
        have t02 := ((t01.other (by go_size)).other (by go_size)).below hb3 (by go_size)
        have t12 := ((t11.other (by go_size)).other (by go_size)).below hb3 (by go_size)
        have hbel2 : Below w.heap.size w w2 := (((hbel.trans (hb1.mono (by omega))).setCell (by go_size) _).setCell (by go_size) _).trans (hb3.mono (by go_size))
        have z2 : w1.heap.size ≤ w2.heap.size := by simpa using hb3.size
        clear a1 a2 q1 q2 r1 r2 r3
        have a1 := tA2.cell 0 _ rfl; have a2 := tA2.cell 1 _ rfl
        have b1 := tB2.cell 0 _ rfl; have b2 := tB2.cell 1 _ rfl
        have r1 := tr2.cell 0 _ rfl; have r2 := tr2.cell 1 _ rfl; have r3 := tr2.free
        have q1 := tq2.cell 0 _ rfl; have q2 := tq2.cell 1 _ rfl; have q3 := tq2.free
        rcases Nat.lt_or_ge (2 * R + b) B with hc | hc
        · go_wp2_with fail
          refine ((less_at (2 * R + b) B rfl rfl rfl rfl (by omega) (by omega) _).1 hc).mono ?_
          rintro e w3 ⟨rfl, hb4⟩
          have z3 : w2.heap.size ≤ w3.heap.size := by simpa using hb4.size
          go_wp2_with fail
          go_roundw
          case rel =>
            obtain ⟨e1, e2⟩ := HL.out hc
            rw [HQ.out] at e1; rw [HR.out] at e2
            refine ⟨64 + m', by omega, by go_num, (((hbel2.setCell (by go_size) _).setCell (by go_size) _).trans (hb4.mono (by go_size))), by omega, ?_⟩
            rw [e1, e2]
            exact ⟨((tA2.other (by go_size)).other (by go_size)).below hb4 (by go_size), ((tB2.other (by go_size)).other (by go_size)).below hb4 (by go_size),
              ((t02.other (by go_size)).other (by go_size)).below hb4 (by go_size), ((t12.other (by go_size)).other (by go_size)).below hb4 (by go_size),
              ((tq2.set0 _).set1 _).below hb4 (by go_size), ((tr2.other (by go_size)).other (by go_size)).below hb4 (by go_size)⟩
          case measure => first | (simp [intOf]; omega) | (simp [intOf]; done)
        · go_wp2_with fail
          refine ((less_at (2 * R + b) B rfl rfl rfl rfl (by omega) (by omega) _).2 hc).mono ?_
          rintro e w3 ⟨rfl, hb4⟩
          have z3 : w2.heap.size ≤ w3.heap.size := by simpa using hb4.size
          have tA3 := ((tA2.other (by go_size)).other (by go_size)).below hb4 (by go_size)
          have tB3 := ((tB2.other (by go_size)).other (by go_size)).below hb4 (by go_size)
          have t03 := ((t02.other (by go_size)).other (by go_size)).below hb4 (by go_size)
          have t13 := ((t12.other (by go_size)).other (by go_size)).below hb4 (by go_size)
          have tq3 := ((tq2.set0 (.int .u64 (wh (2 * Q)))).set1 (.int .u64 (wl (2 * Q)))).below hb4 (by go_size)
          have tr3 := ((tr2.other (by go_size)).other (by go_size)).below hb4 (by go_size)
          have hbel3 := (((hbel2.setCell (by go_size) (.int .u64 (wh (2 * Q)))).setCell (by go_size) (.int .u64 (wl (2 * Q)))).trans (hb4.mono (by go_size)))
          clear a1 a2 b1 b2 r1 r2 r3 q1 q2 q3 tA2 tB2 t02 t12 tq2 tr2 hbel2
          have b1 := tB3.cell 0 _ rfl; have b2 := tB3.cell 1 _ rfl
          have r1 := tr3.cell 0 _ rfl; have r2 := tr3.cell 1 _ rfl; have r3 := tr3.free
          have q1 := tq3.cell 0 _ rfl; have q2 := tq3.cell 1 _ rfl; have q3 := tq3.free
          go_wp2_with fail
          refine (sub_at (2 * R + b) B rfl rfl rfl rfl (by omega) hc _).mono ?_
          rintro e w4 ⟨rfl, hb5⟩
          have z4 : w3.heap.size ≤ w4.heap.size := by simpa using hb5.size
          have tA4 := tA3.below hb5 (by go_size)
          have tB4 := tB3.below hb5 (by go_size)
          have t04 := t03.below hb5 (by go_size)
          have t14 := t13.below hb5 (by go_size)
          have tq4 := tq3.below hb5 (by go_size)
          have tr4 := tr3.below hb5 (by go_size)
          have hbel4 := hbel3.trans (hb5.mono (by go_size))
          clear b1 b2 r1 r2 r3 q1 q2 q3 tA3 tB3 t03 t13 tq3 tr3 hbel3
          have r1 := tr4.cell 0 _ rfl; have r2 := tr4.cell 1 _ rfl; have r3 := tr4.free
          have q1 := tq4.cell 0 _ rfl; have q2 := tq4.cell 1 _ rfl; have q3 := tq4.free
          go_wp2
          go_roundw
          case rel =>
            obtain ⟨e1, e2⟩ := HG.out hc
            rw [HQ.out] at e1; rw [HR.out] at e2
            refine ⟨64 + m', by omega, by go_num, ((hbel4.setCell (by go_size) _).setCell (by go_size) _).setCell (by go_size) _, by go_size, ?_⟩
            rw [e1, e2]
            obtain ⟨u1, u2⟩ := up_odd (2 * Q) (by omega)
            exact ⟨((tA4.other (by go_size)).other (by go_size)).other (by go_size), ((tB4.other (by go_size)).other (by go_size)).other (by go_size),
              ((t04.other (by go_size)).other (by go_size)).other (by go_size), ((t14.other (by go_size)).other (by go_size)).other (by go_size),
              (((tq4.other (by go_size)).other (by go_size)).set1 _).at (by rw [u1, u2]; rfl), ((tr4.set0 _).set1 _).other (by go_size)⟩
          case measure => first | (simp [intOf]; omega) | (simp [intOf]; done)
      · obtain ⟨m', rfl⟩ : ∃ m', m = 64 + m' := ⟨m - 64, by omega⟩
        have hbit : (bits .and .u64 (wh A / 2 ^ m') 1 == 1) = true := by rw [bit_hi A m' hA, ← HB.out, show b = 1 by omega]; rfl
        go_wp2_with fail
        clear hbit
        refine (double_any Q (by omega) _).mono ?_
        rintro e w2 ⟨rfl, hb3⟩
        have tr2 : Has w2 (w.heap.size + 1 + 1 + 1 + 1 + 1) (two (2 * R + b)) := by
          rw [← HU.out b hb2 hb0]
          exact (((tr1.set0 _).set1 _).set1 _).below hb3 (by go_size)
        have tq2 := (((tq1.other (by go_size)).other (by go_size)).other (by go_size)).below hb3 (by go_size)
        have tA2 := (((tA1.other (by go_size)).other (by go_size)).other (by go_size)).below hb3 (by go_size)
        have tB2 := (((tB1.other (by go_size)).other (by go_size)).other (by go_size)).below hb3 (by go_size)
        have t02 := (((t01.other (by go_size)).other (by go_size)).other (by go_size)).below hb3 (by go_size)
        have t12 := (((t11.other (by go_size)).other (by go_size)).other (by go_size)).below hb3 (by go_size)
        have hbel2 : Below w.heap.size w w2 := ((((hbel.trans (hb1.mono (by omega))).setCell (by go_size) _).setCell (by go_size) _).setCell (by go_size) _).trans (hb3.mono (by go_size))
        have z2 : w1.heap.size ≤ w2.heap.size := by simpa using hb3.size
        clear a1 a2 q1 q2 r1 r2 r3
        have a1 := tA2.cell 0 _ rfl; have a2 := tA2.cell 1 _ rfl
        have b1 := tB2.cell 0 _ rfl; have b2 := tB2.cell 1 _ rfl
        have r1 := tr2.cell 0 _ rfl; have r2 := tr2.cell 1 _ rfl; have r3 := tr2.free
        have q1 := tq2.cell 0 _ rfl; have q2 := tq2.cell 1 _ rfl; have q3 := tq2.free
        rcases Nat.lt_or_ge (2 * R + b) B with hc | hc
        · go_wp2_with fail
          refine ((less_at (2 * R + b) B rfl rfl rfl rfl (by omega) (by omega) _).1 hc).mono ?_
          rintro e w3 ⟨rfl, hb4⟩
          have z3 : w2.heap.size ≤ w3.heap.size := by simpa using hb4.size
          go_wp2_with fail
          go_roundw
          case rel =>
            obtain ⟨e1, e2⟩ := HL.out hc
            rw [HQ.out] at e1; rw [HR.out] at e2
            refine ⟨64 + m', by omega, by go_num, (((hbel2.setCell (by go_size) _).setCell (by go_size) _).trans (hb4.mono (by go_size))), by omega, ?_⟩
            rw [e1, e2]
            exact ⟨((tA2.other (by go_size)).other (by go_size)).below hb4 (by go_size), ((tB2.other (by go_size)).other (by go_size)).below hb4 (by go_size),
              ((t02.other (by go_size)).other (by go_size)).below hb4 (by go_size), ((t12.other (by go_size)).other (by go_size)).below hb4 (by go_size),
              ((tq2.set0 _).set1 _).below hb4 (by go_size), ((tr2.other (by go_size)).other (by go_size)).below hb4 (by go_size)⟩
          case measure => first | (simp [intOf]; omega) | (simp [intOf]; done)
        · go_wp2_with fail
          refine ((less_at (2 * R + b) B rfl rfl rfl rfl (by omega) (by omega) _).2 hc).mono ?_
          rintro e w3 ⟨rfl, hb4⟩
          have z3 : w2.heap.size ≤ w3.heap.size := by simpa using hb4.size
          have tA3 := ((tA2.other (by go_size)).other (by go_size)).below hb4 (by go_size)
          have tB3 := ((tB2.other (by go_size)).other (by go_size)).below hb4 (by go_size)
          have t03 := ((t02.other (by go_size)).other (by go_size)).below hb4 (by go_size)
          have t13 := ((t12.other (by go_size)).other (by go_size)).below hb4 (by go_size)
          have tq3 := ((tq2.set0 (.int .u64 (wh (2 * Q)))).set1 (.int .u64 (wl (2 * Q)))).below hb4 (by go_size)
          have tr3 := ((tr2.other (by go_size)).other (by go_size)).below hb4 (by go_size)
          have hbel3 := (((hbel2.setCell (by go_size) (.int .u64 (wh (2 * Q)))).setCell (by go_size) (.int .u64 (wl (2 * Q)))).trans (hb4.mono (by go_size)))
          clear a1 a2 b1 b2 r1 r2 r3 q1 q2 q3 tA2 tB2 t02 t12 tq2 tr2 hbel2
          have b1 := tB3.cell 0 _ rfl; have b2 := tB3.cell 1 _ rfl
          have r1 := tr3.cell 0 _ rfl; have r2 := tr3.cell 1 _ rfl; have r3 := tr3.free
          have q1 := tq3.cell 0 _ rfl; have q2 := tq3.cell 1 _ rfl; have q3 := tq3.free
          go_wp2_with fail
          refine (sub_at (2 * R + b) B rfl rfl rfl rfl (by omega) hc _).mono ?_
          rintro e w4 ⟨rfl, hb5⟩
          have z4 : w3.heap.size ≤ w4.heap.size := by simpa using hb5.size
          have tA4 := tA3.below hb5 (by go_size)
          have tB4 := tB3.below hb5 (by go_size)
          have t04 := t03.below hb5 (by go_size)
          have t14 := t13.below hb5 (by go_size)
          have tq4 := tq3.below hb5 (by go_size)
          have tr4 := tr3.below hb5 (by go_size)
          have hbel4 := hbel3.trans (hb5.mono (by go_size))
          clear b1 b2 r1 r2 r3 q1 q2 q3 tA3 tB3 t03 t13 tq3 tr3 hbel3
          have r1 := tr4.cell 0 _ rfl; have r2 := tr4.cell 1 _ rfl; have r3 := tr4.free
          have q1 := tq4.cell 0 _ rfl; have q2 := tq4.cell 1 _ rfl; have q3 := tq4.free
          go_wp2
          go_roundw
          case rel =>
            obtain ⟨e1, e2⟩ := HG.out hc
            rw [HQ.out] at e1; rw [HR.out] at e2
            refine ⟨64 + m', by omega, by go_num, ((hbel4.setCell (by go_size) _).setCell (by go_size) _).setCell (by go_size) _, by go_size, ?_⟩
            rw [e1, e2]
            obtain ⟨u1, u2⟩ := up_odd (2 * Q) (by omega)
            exact ⟨((tA4.other (by go_size)).other (by go_size)).other (by go_size), ((tB4.other (by go_size)).other (by go_size)).other (by go_size),
              ((t04.other (by go_size)).other (by go_size)).other (by go_size), ((t14.other (by go_size)).other (by go_size)).other (by go_size),
              (((tq4.other (by go_size)).other (by go_size)).set1 _).at (by rw [u1, u2]; rfl), ((tr4.set0 _).set1 _).other (by go_size)⟩
          case measure => first | (simp [intOf]; omega) | (simp [intOf]; done)
theorem two_zero (N : Nat) : (wh N = 0 ∧ wl N = 0) ↔ N = 0 := by unfold wh wl; omega
theorem divide_at {h l g m : Int} (A B : Nat) (e1 : h = wh A) (e2 : l = wl A) (e3 : g = wh B) (e4 : m = wl B) (hA : A < 340282366920938463463374607431768211456) (hB0 : 0 < B) (hB : B < 170141183460469231731687303715884105728) (w : World) :
    Calls Try.prog 73 #[.agg #[.int .u64 h, .int .u64 l], .agg #[.int .u64 g, .int .u64 m]] w fun e w' => e = .returned (.tuple #[.agg #[.int .u64 (wh (A / B)), .int .u64 (wl (A / B))], .agg #[.int .u64 (wh (A % B)), .int .u64 (wl (A % B))]]) ∧ Below w.heap.size w w' := by
  subst e1 e2 e3 e4; exact divide_any A B hA hB0 hB w
set_option maxHeartbeats 1000000 in
theorem gcd_any (A B : Nat) (hA : A < 340282366920938463463374607431768211456) (hB : B < 170141183460469231731687303715884105728) (w : World) :
    Calls Try.prog 53 #[.agg #[.int .u64 (wh A), .int .u64 (wl A)], .agg #[.int .u64 (wh B), .int .u64 (wl B)]] w fun e w' => e = .returned (.agg #[.int .u64 (wh (Nat.gcd A B)), .int .u64 (wl (Nat.gcd A B))]) ∧ Below w.heap.size w w' := by
  go_enter Try.func53, Try.ntmps53
  go_wp2
  go_loopg [] (B + 1) (fun k wr => ∃ X Y : Nat, k = Y + 1 ∧ Nat.gcd X Y = Nat.gcd A B ∧ X < 340282366920938463463374607431768211456 ∧ Y < 170141183460469231731687303715884105728 ∧ Below w.heap.size w wr ∧ w.heap.size + 3 ≤ wr.heap.size ∧
     Has wr (w.heap.size) (two X) ∧ Has wr (w.heap.size + 1) (two Y) ∧ Has wr (w.heap.size + 1 + 1) (two 0))
  case atStart =>
    refine ⟨A, B, rfl, rfl, hA, hB, by go_grown, by go_size, ?_, ?_, ?_⟩
    · exact ((Has.new w (two A) 85).old (by go_size)).old (by go_size)
    · exact Has.old ((Has.new (w.alloc _) (two B) 85).at' (by simp)) (by go_size)
    · exact (Has.new _ (two 0) 85).at' (by simp)
  case round =>
    obtain ⟨X, Y, rfl, hg, hX, hY, hbel, hsz, tX, tY, t0⟩ := hrel
    have x1 := tX.cell 0 _ rfl; have x2 := tX.cell 1 _ rfl; have x3 := tX.free
    have y1 := tY.cell 0 _ rfl; have y2 := tY.cell 1 _ rfl; have y3 := tY.free
    have G := Lib.hid hg
    clear hg
    rcases Nat.lt_or_ge Y 1 with hc | hc
    · have s1 := t0.cell 0 _ rfl; have s2 := t0.cell 1 _ rfl; have s3 := t0.free
      obtain rfl : Y = 0 := by omega
      rw [wh0] at y1
      rw [wl0] at y2
      go_wp2
      all_goals exact bodyPost_ret (v := .agg #[.int .u64 (wh X), .int .u64 (wl X)]) (by simp [results, Try.results53, go_sem, s1, s2]) rfl ⟨by rw [← G.out, Nat.gcd_zero_right], by go_grown⟩
    · have hw : (Y : Int) ≤ wh Y * 18446744073709551616 + wl Y := by have := w_of Y; omega
      go_wp2_with fail
      all_goals refine (divide_at X Y (by first | rfl | omega) (by first | rfl | omega) (by first | rfl | omega) (by first | rfl | omega) hX hc hY _).mono ?_
      all_goals rintro e w1 ⟨rfl, hb1⟩
      all_goals have z1 : wr.heap.size ≤ w1.heap.size := by simpa using hb1.size
      all_goals have tX1 := tX.below hb1 (by go_size)
      all_goals have tY1 := tY.below hb1 (by go_size)
      all_goals have t01 := t0.below hb1 (by go_size)
      all_goals have hbel1 := hbel.trans (hb1.mono (by go_size))
      all_goals clear x1 x2 x3 y1 y2 y3
      all_goals have x1 := tX1.cell 0 _ rfl
      all_goals have x2 := tX1.cell 1 _ rfl
      all_goals have x3 := tX1.free
      all_goals have y1 := tY1.cell 0 _ rfl
      all_goals have y2 := tY1.cell 1 _ rfl
      all_goals have y3 := tY1.free
      all_goals have l0 : w.heap.size < w1.heap.size := by omega
      all_goals have l1 : w.heap.size + 1 < w1.heap.size := by omega
      all_goals have l2 : w.heap.size + 1 + 1 < w1.heap.size := by omega
      all_goals have s1 := t01.cell 0 _ rfl
      all_goals have s2 := t01.cell 1 _ rfl
      all_goals have s3 := t01.free
      all_goals go_wp2_with fail
      all_goals go_region
      all_goals go_wp2
      all_goals go_roundg (X % Y + 1)
      all_goals first | (case measure => have := Nat.mod_lt X hc; omega) | skip
      all_goals
        refine ⟨Y, X % Y, rfl, ?_, by omega, by have := Nat.mod_lt X hc; omega, ?_, by go_size, ?_, ?_, ?_⟩
        · rw [← G.out, Nat.gcd_comm Y, ← Nat.gcd_rec, Nat.gcd_comm]
        · exact hbel1.trans (by go_grown)
        · exact Has.mk2 (by go_cell) (by go_cell) (by intro o; go_cell)
        · exact Has.mk2 (by go_cell) (by go_cell) (by intro o; go_cell)
        · exact Has.mk2 (by go_cell) (by go_cell) (by intro o; go_cell)
end Go.Proofs.Ytdegpgonphgbcaa
