/-
  wide.Number.Over: the quotient of two 128-bit sizes, and whether it has at most 62 bits. Conditions: both are less than 2^127, the divisor is not 0.
-/
import Derived.Deep.DeepCutAuto
import Derived.Test.YtdegpgonphgbcaaFxG
namespace Go.Proofs.Ytdegpgonphgbcaa
open Go.RowKit

theorem or_bit (N b : Nat) (h : N % 2 = 0) (hb : b < 2) : bits .or .u64 (wl N) (b : Int) = wl (N + b) ∧ wh N = wh (N + b) := by
  have := wl_bd N
  refine ⟨?_, by unfold wh; omega⟩
  rw [or_u64 (wl N) (b : Int) 1 (by omega) (by unfold wl; omega) (by omega) (by omega) (by omega) (by omega)]
  unfold wl; omega
theorem ret_ib {a a' : Int} {b b' : Bool} {k : IntKind} (h1 : a = a') (h2 : b = b') : Ending.returned (.tuple #[.int k a, .bool b]) = .returned (.tuple #[.int k a', .bool b']) := by rw [h1, h2]
theorem mask62 (N : Nat) : bits .and .u64 (wl N) 4611686018427387903 = ((N % 4611686018427387904 : Nat) : Int) := by
  have h2 := wl_bd N
  have h3 := and_mask_u64 (wl N) 62 (by omega) (by omega) (by omega)
  rw [show (2 : Int) ^ 62 - 1 = 4611686018427387903 from rfl, show (2 : Int) ^ 62 = 4611686018427387904 from rfl] at h3
  rw [h3]; unfold wl; omega
theorem below_ot {h l : Int} (A B : Nat) (n o : Bool) (e1 : h = wh A) (e : l = wl A) (hA : A < 340282366920938463463374607431768211456) (hB : B < 340282366920938463463374607431768211456) (w : World) :
    (A < B → Calls Try.prog 101 #[.agg #[.int .u64 h, .int .u64 l, .bool n], .agg #[.int .u64 (wh B), .int .u64 (wl B), .bool o]] w fun e w' => e = .returned (.bool true) ∧ Below w.heap.size w w') ∧
    (B ≤ A → Calls Try.prog 101 #[.agg #[.int .u64 h, .int .u64 l, .bool n], .agg #[.int .u64 (wh B), .int .u64 (wl B), .bool o]] w fun e w' => e = .returned (.bool false) ∧ Below w.heap.size w w') := by
  subst e1 e; exact below_at A B n o hA hB w

/-- What stays at the head of Over's loop. -/
structure Ov (w wr : World) (A B R Q : Nat) (n m : Bool) : Prop where
  below : Below w.heap.size w wr
  size : w.heap.size + 4 ≤ wr.heap.size
  a : Has wr w.heap.size (three A n)
  b : Has wr (w.heap.size + 1) (three B m)
  r : Has wr (w.heap.size + 1 + 1) (three R false)
  q : Has wr (w.heap.size + 1 + 1 + 1) (three Q false)
theorem Ov.call {w wr w1 : World} {A B R Q : Nat} {n m : Bool} (hb : Below wr.heap.size wr w1) (s : Ov w wr A B R Q n m) : Ov w w1 A B R Q n m :=
  have h := s.size
  ⟨s.below.trans (hb.mono (by omega)), Nat.le_trans s.size hb.size, s.a.below hb (by omega), s.b.below hb (by omega), s.r.below hb (by omega), s.q.below hb (by omega)⟩
theorem Ov.drew {w wr : World} {A B R Q : Nat} {n m : Bool} (s : Ov w wr A B R Q n m) : Ov w wr.drew A B R Q n m := ⟨s.below.drew, s.size, s.a.drew, s.b.drew, s.r.drew, s.q.drew⟩
theorem Ov.setR {w wr : World} {A B R Q : Nat} {n m : Bool} (s : Ov w wr A B R Q n m) (Z : Nat) : Ov w (((wr.setCell ⟨w.heap.size + 1 + 1, 0, none⟩ (.int .u64 (wh Z))).setCell ⟨w.heap.size + 1 + 1, 1, none⟩ (.int .u64 (wl Z))).setCell ⟨w.heap.size + 1 + 1, 2, none⟩ (.bool false)) A B Z Q n m :=
  ⟨((s.below.setCell (by go_size) _).setCell (by go_size) _).setCell (by go_size) _, by simpa using s.size,
    ((s.a.other (by go_size)).other (by go_size)).other (by go_size), ((s.b.other (by go_size)).other (by go_size)).other (by go_size), ((s.r.set0 _).set1 _).set2 _, ((s.q.other (by go_size)).other (by go_size)).other (by go_size)⟩
theorem Ov.setQ {w wr : World} {A B R Q : Nat} {n m : Bool} (s : Ov w wr A B R Q n m) (Z : Nat) : Ov w (((wr.setCell ⟨w.heap.size + 1 + 1 + 1, 0, none⟩ (.int .u64 (wh Z))).setCell ⟨w.heap.size + 1 + 1 + 1, 1, none⟩ (.int .u64 (wl Z))).setCell ⟨w.heap.size + 1 + 1 + 1, 2, none⟩ (.bool false)) A B R Z n m :=
  ⟨((s.below.setCell (by go_size) _).setCell (by go_size) _).setCell (by go_size) _, by simpa using s.size,
    ((s.a.other (by go_size)).other (by go_size)).other (by go_size), ((s.b.other (by go_size)).other (by go_size)).other (by go_size), ((s.r.other (by go_size)).other (by go_size)).other (by go_size), ((s.q.set0 _).set1 _).set2 _⟩
theorem Ov.lowR {w wr : World} {A B R Q : Nat} {n m : Bool} (s : Ov w wr A B R Q n m) (Z : Nat) (e : wh R = wh Z) : Ov w (wr.setCell ⟨w.heap.size + 1 + 1, 1, none⟩ (.int .u64 (wl Z))) A B Z Q n m :=
  ⟨s.below.setCell (by go_size) _, by simpa using s.size, s.a.other (by go_size), s.b.other (by go_size), (s.r.set1 _).at (by rw [e]; rfl), s.q.other (by go_size)⟩
theorem Ov.lowQ {w wr : World} {A B R Q : Nat} {n m : Bool} (s : Ov w wr A B R Q n m) (Z : Nat) (e : wh Q = wh Z) : Ov w (wr.setCell ⟨w.heap.size + 1 + 1 + 1, 1, none⟩ (.int .u64 (wl Z))) A B R Z n m :=
  ⟨s.below.setCell (by go_size) _, by simpa using s.size, s.a.other (by go_size), s.b.other (by go_size), s.r.other (by go_size), (s.q.set1 _).at (by rw [e]; rfl)⟩

set_option maxHeartbeats 4000000 in
theorem over_any (A B : Nat) (n o : Bool) (hA : A < 170141183460469231731687303715884105728) (hB0 : 0 < B) (hB : B < 170141183460469231731687303715884105728) (w : World) :
    Calls Try.prog 104 #[.agg #[.int .u64 (wh A), .int .u64 (wl A), .bool n], .agg #[.int .u64 (wh B), .int .u64 (wl B), .bool o]] w fun e w' => e = .returned (.tuple #[.int .i64 ((A / B % 4611686018427387904 : Nat) : Int), .bool (decide (A / B < 4611686018427387904))]) ∧ Below w.heap.size w w' := by
  go_enter Try.func104, Try.ntmps104
  go_wp2_with fail
  refine ((zero_at B o _).2 hB0).mono ?_
  rintro e w1 ⟨rfl, hb1⟩
  have s1 : Ov w w1 A B 0 0 n o := by
    refine Ov.call hb1 ?_
    exact ⟨by go_grown, by go_size, Has.mk3 (by go_cell) (by go_cell) (by go_cell) (by intro o; go_cell), Has.mk3 (by go_cell) (by go_cell) (by go_cell) (by intro o; go_cell),
      (Has.mk3 (x := .int .u64 0) (y := .int .u64 0) (by go_cell) (by go_cell) (by go_cell) (by intro o; go_cell)).at rfl, (Has.mk3 (x := .int .u64 0) (y := .int .u64 0) (by go_cell) (by go_cell) (by go_cell) (by intro o; go_cell)).at rfl⟩
  go_wp2_with fail
  go_loopg [8] 129 (fun g i wr => ∃ k : Nat, g = k + 1 ∧ k ≤ 128 ∧ i = .int .i64 ((k : Int) - 1) ∧ Ov w wr A B (A / 2 ^ k % B) (A / 2 ^ k / B) n o)
  case atStart =>
    have e : A / 2 ^ 128 = 0 := by rw [Nat.div_eq_zero_iff_lt (by decide)]; omega
    refine ⟨128, rfl, by omega, rfl, ?_⟩
    rw [e, Nat.zero_div, Nat.zero_mod]
    exact s1
  case round =>
    obtain ⟨k, rfl, hk, rfl, s2⟩ := hrel
    rcases Nat.lt_or_ge k 1 with hk0 | hk0
    · have e : A / 2 ^ k = A := by rw [show k = 0 by omega]; simp
      rw [e] at s2
      clear e
      have pa0 := (s2.a).cell 0 _ rfl; have pa1 := (s2.a).cell 1 _ rfl; have pa2 := (s2.a).cell 2 _ rfl; have pb0 := (s2.b).cell 0 _ rfl; have pb1 := (s2.b).cell 1 _ rfl; have pb2 := (s2.b).cell 2 _ rfl; have pr0 := (s2.r).cell 0 _ rfl; have pr1 := (s2.r).cell 1 _ rfl; have pr2 := (s2.r).cell 2 _ rfl; have pq0 := (s2.q).cell 0 _ rfl; have pq1 := (s2.q).cell 1 _ rfl; have pq2 := (s2.q).cell 2 _ rfl; have prf := (s2.r).free; have pqf := (s2.q).free
      have hl : (A / B < 4611686018427387904) ↔ (wh (A / B) = 0 ∧ wl (A / B) < 4611686018427387904) := by generalize A / B = T; unfold wh wl; omega
      have HL := Lib.hid hl
      have HM := Lib.hid (mask62 (A / B))
      clear hl
      by_cases hz : wh (A / B) = 0
      · have hz1 : (wh (A / B) == 0) = true := by simpa using hz
        have HZ := Lib.hid hz
        clear hz
        go_wp2
        go_quiet (fail)
        go_wp2
        go_returns
        refine ⟨ret_ib ?_ ?_, ?_⟩
        · rw [HM.out]; exact IntWalk.wrap64_in _ (by omega)
        · have hz := HZ.out
          have hL := HL.out
          rw [Bool.eq_iff_iff]; simp; omega
        · exact below_drewN s2.below _
      · have hz1 : (wh (A / B) == 0) = false := by simpa using hz
        have HZ := Lib.hid hz
        clear hz
        go_wp2
        go_quiet (fail)
        go_wp2
        go_returns
        refine ⟨ret_ib ?_ ?_, ?_⟩
        · rw [HM.out]; exact IntWalk.wrap64_in _ (by omega)
        · have hz := HZ.out
          have hL := HL.out
          symm; simp; omega
        · exact below_drewN s2.below _
    · obtain ⟨m, rfl⟩ : ∃ m, k = m + 1 := ⟨k - 1, by omega⟩
      obtain ⟨Q, hQ⟩ : ∃ Q, Q = A / 2 ^ (m + 1) / B := ⟨_, rfl⟩
      obtain ⟨R, hR⟩ : ∃ R, R = A / 2 ^ (m + 1) % B := ⟨_, rfl⟩
      obtain ⟨b, hb⟩ : ∃ b, b = A / 2 ^ m % 2 := ⟨_, rfl⟩
      have hb2 : b < 2 := by omega
      rw [← hQ, ← hR] at s2
      have hRB : R < B := by rw [hR]; exact Nat.mod_lt _ hB0
      have hQB : Q < 170141183460469231731687303715884105728 := by
        rw [hQ]
        refine Nat.lt_of_le_of_lt (Nat.div_le_self _ _) ?_
        exact Nat.lt_of_le_of_lt (Nat.div_le_self _ _) hA
      have hlt : 2 * R + b < B → A / 2 ^ m / B = 2 * Q ∧ A / 2 ^ m % B = 2 * R + b := by rw [hQ, hR]; exact step_lt A B m b hB0 hb
      have hge : B ≤ 2 * R + b → A / 2 ^ m / B = 2 * Q + 1 ∧ A / 2 ^ m % B = 2 * R + b - B := by rw [hQ, hR]; exact step_ge A B m b hB0 hb
      clear hQ hR
      have HL := Lib.hid hlt; have HG := Lib.hid hge; have HB := Lib.hid hb
      have HO := Lib.hid (or_bit (2 * R) b (by omega) hb2)
      clear hlt hge hb
      have s2d := s2.drew
      have pa0 := (s2.a).cell 0 _ rfl; have pa1 := (s2.a).cell 1 _ rfl; have pa2 := (s2.a).cell 2 _ rfl; have pb0 := (s2.b).cell 0 _ rfl; have pb1 := (s2.b).cell 1 _ rfl; have pb2 := (s2.b).cell 2 _ rfl; have pr0 := (s2.r).cell 0 _ rfl; have pr1 := (s2.r).cell 1 _ rfl; have pr2 := (s2.r).cell 2 _ rfl; have pq0 := (s2.q).cell 0 _ rfl; have pq1 := (s2.q).cell 1 _ rfl; have pq2 := (s2.q).cell 2 _ rfl; have prf := (s2.r).free; have pqf := (s2.q).free
      go_wp2_with fail
      go_cut [8] (fun i wc => i = .int .i64 (m : Int) ∧ Ov w wc A B (2 * R) (2 * Q) n o)
      case first =>
        go_region_with (go_at_call 112; refine (twice_any _ _ (by omega) _).mono ?_; rintro e w3 ⟨rfl, hb3⟩; have s3 := Ov.call hb3 (by assumption); have ra0 := (s3.a).cell 0 _ rfl; have ra1 := (s3.a).cell 1 _ rfl; have ra2 := (s3.a).cell 2 _ rfl; have rb0 := (s3.b).cell 0 _ rfl; have rb1 := (s3.b).cell 1 _ rfl; have rb2 := (s3.b).cell 2 _ rfl; have rr0 := (s3.r).cell 0 _ rfl; have rr1 := (s3.r).cell 1 _ rfl; have rr2 := (s3.r).cell 2 _ rfl; have rq0 := (s3.q).cell 0 _ rfl; have rq1 := (s3.q).cell 1 _ rfl; have rq2 := (s3.q).cell 2 _ rfl; have rrf := (s3.r).free; have rqf := (s3.q).free)
        all_goals (go_wp2_with fail; go_meet; exact ⟨by go_num, Ov.setQ (Ov.setR s3 (2 * R)) (2 * Q)⟩)
      case rest =>
        obtain ⟨rfl, s4⟩ := hcut
        obtain ⟨HO1, HO2⟩ := HO.out
        have s5 := Ov.lowR s4 (2 * R + b) HO2
        have HO3 := Lib.hid HO2
        clear HO2
        clear pa0 pa1 pa2 pb0 pb1 pb2 pr0 pr1 pr2 pq0 pq1 pq2 prf pqf s2 s2d
        have pa0 := (s4.a).cell 0 _ rfl; have pa1 := (s4.a).cell 1 _ rfl; have pa2 := (s4.a).cell 2 _ rfl; have pb0 := (s4.b).cell 0 _ rfl; have pb1 := (s4.b).cell 1 _ rfl; have pb2 := (s4.b).cell 2 _ rfl; have pr0 := (s4.r).cell 0 _ rfl; have pr1 := (s4.r).cell 1 _ rfl; have pr2 := (s4.r).cell 2 _ rfl; have pq0 := (s4.q).cell 0 _ rfl; have pq1 := (s4.q).cell 1 _ rfl; have pq2 := (s4.q).cell 2 _ rfl; have prf := (s4.r).free; have pqf := (s4.q).free
        rcases Nat.lt_or_ge m 64 with hm | hm
        · have hbit : bits .and .u64 (wl A / 2 ^ m) 1 = (b : Int) := by rw [bit_lo A m hm, ← HB.out]
          go_wp2_with fail
          clear hbit
          rcases Nat.lt_or_ge (2 * R + b) B with hc | hc
          · refine ((below_ot (2 * R + b) B false o HO3.out rfl (by omega) (by omega) _).1 hc).mono ?_
            rintro e w5 ⟨rfl, hb5⟩
            have s6 := Ov.call hb5 s5
            go_wp2_with fail
            go_roundg (m + 1)
            case measure => omega
            case rel =>
              obtain ⟨e1, e2⟩ := HL.out hc
              refine ⟨m, rfl, by omega, by go_num, ?_⟩
              rw [e1, e2]
              exact s6
          · refine ((below_ot (2 * R + b) B false o HO3.out rfl (by omega) (by omega) _).2 hc).mono ?_
            rintro e w5 ⟨rfl, hb5⟩
            have s6 := Ov.call hb5 s5
            clear pa0 pa1 pa2 pb0 pb1 pb2 pr0 pr1 pr2 pq0 pq1 pq2 prf pqf s4 s5 hb5
            have pa0 := (s6.a).cell 0 _ rfl; have pa1 := (s6.a).cell 1 _ rfl; have pa2 := (s6.a).cell 2 _ rfl; have pb0 := (s6.b).cell 0 _ rfl; have pb1 := (s6.b).cell 1 _ rfl; have pb2 := (s6.b).cell 2 _ rfl; have pr0 := (s6.r).cell 0 _ rfl; have pr1 := (s6.r).cell 1 _ rfl; have pr2 := (s6.r).cell 2 _ rfl; have pq0 := (s6.q).cell 0 _ rfl; have pq1 := (s6.q).cell 1 _ rfl; have pq2 := (s6.q).cell 2 _ rfl; have prf := (s6.r).free; have pqf := (s6.q).free
            go_wp2_with fail
            refine (wless_any (2 * R + b) B false o (by omega) (by omega) _).mono ?_
            rintro e w6 ⟨rfl, hb6⟩
            have s7 := Ov.call hb6 s6
            clear pa0 pa1 pa2 pb0 pb1 pb2 pr0 pr1 pr2 pq0 pq1 pq2 prf pqf s6 hb6
            have pa0 := (s7.a).cell 0 _ rfl; have pa1 := (s7.a).cell 1 _ rfl; have pa2 := (s7.a).cell 2 _ rfl; have pb0 := (s7.b).cell 0 _ rfl; have pb1 := (s7.b).cell 1 _ rfl; have pb2 := (s7.b).cell 2 _ rfl; have pr0 := (s7.r).cell 0 _ rfl; have pr1 := (s7.r).cell 1 _ rfl; have pr2 := (s7.r).cell 2 _ rfl; have pq0 := (s7.q).cell 0 _ rfl; have pq1 := (s7.q).cell 1 _ rfl; have pq2 := (s7.q).cell 2 _ rfl; have prf := (s7.r).free; have pqf := (s7.q).free
            go_wp2
            go_roundg (m + 1)
            case measure => omega
            case rel =>
              obtain ⟨e1, e2⟩ := HG.out hc
              obtain ⟨u1, u2⟩ := up_odd (2 * Q) (by omega)
              refine ⟨m, rfl, by omega, by go_num, ?_⟩
              rw [e1, e2, u1]
              exact Ov.lowQ (Ov.setR s7 _) _ u2
        · have hbit : bits .and .u64 (wh A / 2 ^ (m - 64)) 1 = (b : Int) := by rw [bit_hi A (m - 64) (by omega), show 64 + (m - 64) = m by omega, ← HB.out]
          go_wp2_with fail
          clear hbit
          rcases Nat.lt_or_ge (2 * R + b) B with hc | hc
          · refine ((below_ot (2 * R + b) B false o HO3.out rfl (by omega) (by omega) _).1 hc).mono ?_
            rintro e w5 ⟨rfl, hb5⟩
            have s6 := Ov.call hb5 s5
            go_wp2_with fail
            go_roundg (m + 1)
            case measure => omega
            case rel =>
              obtain ⟨e1, e2⟩ := HL.out hc
              refine ⟨m, rfl, by omega, by go_num, ?_⟩
              rw [e1, e2]
              exact s6
          · refine ((below_ot (2 * R + b) B false o HO3.out rfl (by omega) (by omega) _).2 hc).mono ?_
            rintro e w5 ⟨rfl, hb5⟩
            have s6 := Ov.call hb5 s5
            clear pa0 pa1 pa2 pb0 pb1 pb2 pr0 pr1 pr2 pq0 pq1 pq2 prf pqf s4 s5 hb5
            have pa0 := (s6.a).cell 0 _ rfl; have pa1 := (s6.a).cell 1 _ rfl; have pa2 := (s6.a).cell 2 _ rfl; have pb0 := (s6.b).cell 0 _ rfl; have pb1 := (s6.b).cell 1 _ rfl; have pb2 := (s6.b).cell 2 _ rfl; have pr0 := (s6.r).cell 0 _ rfl; have pr1 := (s6.r).cell 1 _ rfl; have pr2 := (s6.r).cell 2 _ rfl; have pq0 := (s6.q).cell 0 _ rfl; have pq1 := (s6.q).cell 1 _ rfl; have pq2 := (s6.q).cell 2 _ rfl; have prf := (s6.r).free; have pqf := (s6.q).free
            go_wp2_with fail
            refine (wless_any (2 * R + b) B false o (by omega) (by omega) _).mono ?_
            rintro e w6 ⟨rfl, hb6⟩
            have s7 := Ov.call hb6 s6
            clear pa0 pa1 pa2 pb0 pb1 pb2 pr0 pr1 pr2 pq0 pq1 pq2 prf pqf s6 hb6
            have pa0 := (s7.a).cell 0 _ rfl; have pa1 := (s7.a).cell 1 _ rfl; have pa2 := (s7.a).cell 2 _ rfl; have pb0 := (s7.b).cell 0 _ rfl; have pb1 := (s7.b).cell 1 _ rfl; have pb2 := (s7.b).cell 2 _ rfl; have pr0 := (s7.r).cell 0 _ rfl; have pr1 := (s7.r).cell 1 _ rfl; have pr2 := (s7.r).cell 2 _ rfl; have pq0 := (s7.q).cell 0 _ rfl; have pq1 := (s7.q).cell 1 _ rfl; have pq2 := (s7.q).cell 2 _ rfl; have prf := (s7.r).free; have pqf := (s7.q).free
            go_wp2
            go_roundg (m + 1)
            case measure => omega
            case rel =>
              obtain ⟨e1, e2⟩ := HG.out hc
              obtain ⟨u1, u2⟩ := up_odd (2 * Q) (by omega)
              refine ⟨m, rfl, by omega, by go_num, ?_⟩
              rw [e1, e2, u1]
              exact Ov.lowQ (Ov.setR s7 _) _ u2
end Go.Proofs.Ytdegpgonphgbcaa
