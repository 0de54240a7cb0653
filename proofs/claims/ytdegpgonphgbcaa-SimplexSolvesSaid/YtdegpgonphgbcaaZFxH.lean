/-
  wide.
  The program's own fractions of numbers up to 2^62.
  fraction.
-/
import Derived.Deep.DeepCutAuto
import Derived.Deep.RegionWith
import Derived.Test.YtdegpgonphgbcaaFxG
import Derived.Test.YtdegpgonphgbcaaZFxB
import Derived.Test.YtdegpgonphgbcaaZFxN
namespace Go.Proofs.Ytdegpgonphgbcaa
open Go.RowKit
theorem or_bit (N b : Nat) (h : N % 2 = 0) (hb : b < 2) : bits .or .u64 (wl N) (b : Int) = wl (N + b) ∧ wh N = wh (N + b) := by
  have := wl_bd N
  refine ⟨?_, by unfold wh; omega⟩
  rw [or_u64 (wl N) (b : Int) 1 (by omega) (by unfold wl; omega) (by omega) (by omega) (by omega) (by omega)]
  unfold wl; omega
theorem ret_ib {a a' : Int} {b b' : Bool} {k : IntKind} (h1 : a = a') (h2 : b = b') : Ending.returned (.tuple #[.int k a, .bool b]) = .returned (.tuple #[.int k a', .bool b']) := by rw [h1, h2]
theorem mask62 (N : Nat) : bits .and .u64 (wl N) 4611686018427387903 = ((N % 4611686018427387904 : Nat) : Int) := by
  have h2 := wl_bd N
  have h3 := and_mask_u64 (wl N) 62 (by omega) (by omega) (by omega)
  rw [show (2 : Int) ^ 62 - 1 = 4611686018427387903 from rfl, show (2 : Int) ^ 62 = 4611686018427387904 from rfl] at h3
  rw [h3]; unfold wl; omega
theorem below_ot {h l : Int} (A B : Nat) (n o : Bool) (e1 : h = wh A) (e : l = wl A) (hA : A < 340282366920938463463374607431768211456) (hB : B < 340282366920938463463374607431768211456) (w : World) :
    (A < B → Calls Try.prog 101 #[.agg #[.int .u64 h, .int .u64 l, .bool n], .agg #[.int .u64 (wh B), .int .u64 (wl B), .bool o]] w fun e w' => e = .returned (.bool true) ∧ Below w.heap.size w w') ∧
    (B ≤ A → Calls Try.prog 101 #[.agg #[.int .u64 h, .int .u64 l, .bool n], .agg #[.int .u64 (wh B), .int .u64 (wl B), .bool o]] w fun e w' => e = .returned (.bool false) ∧ Below w.heap.size w w') := by
  subst e1 e; exact below_at A B n o hA hB w
structure Ov (w wr : World) (A B R Q : Nat) (n m : Bool) : Prop where
  below : Below w.heap.size w wr
  size : w.heap.size + 4 ≤ wr.heap.size
  a : Has wr w.heap.size (three A n)
  b : Has wr (w.heap.size + 1) (three B m)
  r : Has wr (w.heap.size + 1 + 1) (three R false)
  q : Has wr (w.heap.size + 1 + 1 + 1) (three Q false)
theorem Ov.call {w wr w1 : World} {A B R Q : Nat} {n m : Bool} (hb : Below wr.heap.size wr w1) (s : Ov w wr A B R Q n m) : Ov w w1 A B R Q n m :=
  have h := s.size
  ⟨s.below.trans (hb.mono (by omega)), Nat.le_trans s.size hb.size, s.a.below hb (by omega), s.b.below hb (by omega), s.r.below hb (by omega), s.q.below hb (by omega)⟩
theorem Ov.drew {w wr : World} {A B R Q : Nat} {n m : Bool} (s : Ov w wr A B R Q n m) : Ov w wr.drew A B R Q n m := ⟨s.below.drew, s.size, s.a.drew, s.b.drew, s.r.drew, s.q.drew⟩
theorem Ov.setR {w wr : World} {A B R Q : Nat} {n m : Bool} (s : Ov w wr A B R Q n m) (Z : Nat) : Ov w (((wr.setCell ⟨w.heap.size + 1 + 1, 0, none⟩ (.int .u64 (wh Z))).setCell ⟨w.heap.size + 1 + 1, 1, none⟩ (.int .u64 (wl Z))).setCell ⟨w.heap.size + 1 + 1, 2, none⟩ (.bool false)) A B Z Q n m :=
  ⟨((s.below.setCell (by go_size) _).setCell (by go_size) _).setCell (by go_size) _, by simpa using s.size,
    ((s.a.other (by go_size)).other (by go_size)).other (by go_size), ((s.b.other (by go_size)).other (by go_size)).other (by go_size), ((s.r.set0 _).set1 _).set2 _, ((s.q.other (by go_size)).other (by go_size)).other (by go_size)⟩
theorem Ov.setQ {w wr : World} {A B R Q : Nat} {n m : Bool} (s : Ov w wr A B R Q n m) (Z : Nat) : Ov w (((wr.setCell ⟨w.heap.size + 1 + 1 + 1, 0, none⟩ (.int .u64 (wh Z))).setCell ⟨w.heap.size + 1 + 1 + 1, 1, none⟩ (.int .u64 (wl Z))).setCell ⟨w.heap.size + 1 + 1 + 1, 2, none⟩ (.bool false)) A B R Z n m :=
  ⟨((s.below.setCell (by go_size) _).setCell (by go_size) _).setCell (by go_size) _, by simpa using s.size,
    ((s.a.other (by go_size)).other (by go_size)).other (by go_size), ((s.b.other (by go_size)).other (by go_size)).other (by go_size), ((s.r.other (by go_size)).other (by go_size)).other (by go_size), ((s.q.set0 _).set1 _).set2 _⟩
theorem Ov.lowR {w wr : World} {A B R Q : Nat} {n m : Bool} (s : Ov w wr A B R Q n m) (Z : Nat) (e : wh R = wh Z) : Ov w (wr.setCell ⟨w.heap.size + 1 + 1, 1, none⟩ (.int .u64 (wl Z))) A B Z Q n m :=
  ⟨s.below.setCell (by go_size) _, by simpa using s.size, s.a.other (by go_size), s.b.other (by go_size), (s.r.set1 _).at (by rw [e]; rfl), s.q.other (by go_size)⟩
theorem Ov.lowQ {w wr : World} {A B R Q : Nat} {n m : Bool} (s : Ov w wr A B R Q n m) (Z : Nat) (e : wh Q = wh Z) : Ov w (wr.setCell ⟨w.heap.size + 1 + 1 + 1, 1, none⟩ (.int .u64 (wl Z))) A B R Z n m :=
  ⟨s.below.setCell (by go_size) _, by simpa using s.size, s.a.other (by go_size), s.b.other (by go_size), s.r.other (by go_size), (s.q.set1 _).at (by rw [e]; rfl)⟩
set_option maxHeartbeats 4000000 in
theorem over_any (A B : Nat) (n o : Bool) (hA : A < 170141183460469231731687303715884105728) (hB0 : 0 < B) (hB : B < 170141183460469231731687303715884105728) (w : World) :
    Calls Try.prog 104 #[.agg #[.int .u64 (wh A), .int .u64 (wl A), .bool n], .agg #[.int .u64 (wh B), .int .u64 (wl B), .bool o]] w fun e w' => e = .returned (.tuple #[.int .i64 ((A / B % 4611686018427387904 : Nat) : Int), .bool (decide (A / B < 4611686018427387904))]) ∧ Below w.heap.size w w' := by
  go_enter Try.func104, Try.ntmps104
  go_wp2_with fail
  refine ((zero_at B o _).2 hB0).mono ?_
  rintro e w1 ⟨rfl, hb1⟩
  have s1 : Ov w w1 A B 0 0 n o := by
    refine Ov.call hb1 ?_
    exact ⟨by go_grown, by go_size, Has.mk3 (by go_cell) (by go_cell) (by go_cell) (by intro o; go_cell), Has.mk3 (by go_cell) (by go_cell) (by go_cell) (by intro o; go_cell),
      (Has.mk3 (x := .int .u64 0) (y := .int .u64 0) (by go_cell) (by go_cell) (by go_cell) (by intro o; go_cell)).at rfl, (Has.mk3 (x := .int .u64 0) (y := .int .u64 0) (by go_cell) (by go_cell) (by go_cell) (by intro o; go_cell)).at rfl⟩
  go_wp2_with fail
  go_loopg [8] 129 (fun g i wr => ∃ k : Nat, g = k + 1 ∧ k ≤ 128 ∧ i = .int .i64 ((k : Int) - 1) ∧ Ov w wr A B (A / 2 ^ k % B) (A / 2 ^ k / B) n o)
  case atStart =>
    have e : A / 2 ^ 128 = 0 := by rw [Nat.div_eq_zero_iff_lt (by decide)]; omega
    refine ⟨128, rfl, by omega, rfl, ?_⟩
    rw [e, Nat.zero_div, Nat.zero_mod]
    exact s1
  case round =>
    obtain ⟨k, rfl, hk, rfl, s2⟩ := hrel
    rcases Nat.lt_or_ge k 1 with hk0 | hk0
    · have e : A / 2 ^ k = A := by rw [show k = 0 by omega]; simp
      rw [e] at s2
      clear e
      have pa0 := (s2.a).cell 0 _ rfl; have pa1 := (s2.a).cell 1 _ rfl; have pa2 := (s2.a).cell 2 _ rfl; have pb0 := (s2.b).cell 0 _ rfl; have pb1 := (s2.b).cell 1 _ rfl; have pb2 := (s2.b).cell 2 _ rfl; have pr0 := (s2.r).cell 0 _ rfl; have pr1 := (s2.r).cell 1 _ rfl; have pr2 := (s2.r).cell 2 _ rfl; have pq0 := (s2.q).cell 0 _ rfl; have pq1 := (s2.q).cell 1 _ rfl; have pq2 := (s2.q).cell 2 _ rfl; have prf := (s2.r).free; have pqf := (s2.q).free
      have hl : (A / B < 4611686018427387904) ↔ (wh (A / B) = 0 ∧ wl (A / B) < 4611686018427387904) := by generalize A / B = T; unfold wh wl; omega
      have HL := Lib.hid hl
      have HM := Lib.hid (mask62 (A / B))
      clear hl
      by_cases hz : wh (A / B) = 0
      · have hz1 : (wh (A / B) == 0) = true := by simpa using hz
        have HZ := Lib.hid hz
        clear hz
        go_wp2
        go_quiet (fail)
        go_wp2
        go_returns
        refine ⟨ret_ib ?_ ?_, ?_⟩
        · rw [HM.out]; exact IntWalk.wrap64_in _ (by omega)
        · have hz := HZ.out
          have hL := HL.out
          rw [Bool.eq_iff_iff]; simp; omega
        · exact below_drewN s2.below _
      · have hz1 : (wh (A / B) == 0) = false := by simpa using hz
        have HZ := Lib.hid hz
        clear hz
        go_wp2
        go_quiet (fail)
        go_wp2
        go_returns
        refine ⟨ret_ib ?_ ?_, ?_⟩
        · rw [HM.out]; exact IntWalk.wrap64_in _ (by omega)
        · have hz := HZ.out
          have hL := HL.out
          symm; simp; omega
        · exact below_drewN s2.below _
    · obtain ⟨m, rfl⟩ : ∃ m, k = m + 1 := ⟨k - 1, by omega⟩
      obtain ⟨Q, hQ⟩ : ∃ Q, Q = A / 2 ^ (m + 1) / B := ⟨_, rfl⟩
      obtain ⟨R, hR⟩ : ∃ R, R = A / 2 ^ (m + 1) % B := ⟨_, rfl⟩
      obtain ⟨b, hb⟩ : ∃ b, b = A / 2 ^ m % 2 := ⟨_, rfl⟩
      have hb2 : b < 2 := by omega
      rw [← hQ, ← hR] at s2
      have hRB : R < B := by rw [hR]; exact Nat.mod_lt _ hB0
      have hQB : Q < 170141183460469231731687303715884105728 := by
        rw [hQ]
        refine Nat.lt_of_le_of_lt (Nat.div_le_self _ _) ?_
        exact Nat.lt_of_le_of_lt (Nat.div_le_self _ _) hA
      have hlt : 2 * R + b < B → A / 2 ^ m / B = 2 * Q ∧ A / 2 ^ m % B = 2 * R + b := by rw [hQ, hR]; exact step_lt A B m b hB0 hb
      have hge : B ≤ 2 * R + b → A / 2 ^ m / B = 2 * Q + 1 ∧ A / 2 ^ m % B = 2 * R + b - B := by rw [hQ, hR]; exact step_ge A B m b hB0 hb
      clear hQ hR
      have HL := Lib.hid hlt; have HG := Lib.hid hge; have HB := Lib.hid hb
      have HO := Lib.hid (or_bit (2 * R) b (by omega) hb2)
      clear hlt hge hb
      have s2d := s2.drew
      have pa0 := (s2.a).cell 0 _ rfl; have pa1 := (s2.a).cell 1 _ rfl; have pa2 := (s2.a).cell 2 _ rfl; have pb0 := (s2.b).cell 0 _ rfl; have pb1 := (s2.b).cell 1 _ rfl; have pb2 := (s2.b).cell 2 _ rfl; have pr0 := (s2.r).cell 0 _ rfl; have pr1 := (s2.r).cell 1 _ rfl; have pr2 := (s2.r).cell 2 _ rfl; have pq0 := (s2.q).cell 0 _ rfl; have pq1 := (s2.q).cell 1 _ rfl; have pq2 := (s2.q).cell 2 _ rfl; have prf := (s2.r).free; have pqf := (s2.q).free
      go_wp2_with fail
      go_cut [8] (fun i wc => i = .int .i64 (m : Int) ∧ Ov w wc A B (2 * R) (2 * Q) n o)
      case first =>
        go_region_with (go_at_call 112; refine (twice_any _ _ (by omega) _).mono ?_; rintro e w3 ⟨rfl, hb3⟩; have s3 := Ov.call hb3 (by assumption); have ra0 := (s3.a).cell 0 _ rfl; have ra1 := (s3.a).cell 1 _ rfl; have ra2 := (s3.a).cell 2 _ rfl; have rb0 := (s3.b).cell 0 _ rfl; have rb1 := (s3.b).cell 1 _ rfl; have rb2 := (s3.b).cell 2 _ rfl; have rr0 := (s3.r).cell 0 _ rfl; have rr1 := (s3.r).cell 1 _ rfl; have rr2 := (s3.r).cell 2 _ rfl; have rq0 := (s3.q).cell 0 _ rfl; have rq1 := (s3.q).cell 1 _ rfl; have rq2 := (s3.q).cell 2 _ rfl; have rrf := (s3.r).free; have rqf := (s3.q).free)
        all_goals (go_wp2_with fail; go_meet; exact ⟨by go_num, Ov.setQ (Ov.setR s3 (2 * R)) (2 * Q)⟩)
      case rest =>
        obtain ⟨rfl, s4⟩ := hcut
        obtain ⟨HO1, HO2⟩ := HO.out
        have s5 := Ov.lowR s4 (2 * R + b) HO2
        have HO3 := Lib.hid HO2
        clear HO2
        clear pa0 pa1 pa2 pb0 pb1 pb2 pr0 pr1 pr2 pq0 pq1 pq2 prf pqf s2 s2d
        have pa0 := (s4.a).cell 0 _ rfl; have pa1 := (s4.a).cell 1 _ rfl; have pa2 := (s4.a).cell 2 _ rfl; have pb0 := (s4.b).cell 0 _ rfl; have pb1 := (s4.b).cell 1 _ rfl; have pb2 := (s4.b).cell 2 _ rfl; have pr0 := (s4.r).cell 0 _ rfl; have pr1 := (s4.r).cell 1 _ rfl; have pr2 := (s4.r).cell 2 _ rfl; have pq0 := (s4.q).cell 0 _ rfl; have pq1 := (s4.q).cell 1 _ rfl; have pq2 := (s4.q).cell 2 _ rfl; have prf := (s4.r).free; have pqf := (s4.q).free
        rcases Nat.lt_or_ge m 64 with hm | hm
        · have hbit : bits .and .u64 (wl A / 2 ^ m) 1 = (b : Int) := by rw [bit_lo A m hm, ← HB.out]
          go_wp2_with fail
          clear hbit
          rcases Nat.lt_or_ge (2 * R + b) B with hc | hc
          · refine ((below_ot (2 * R + b) B false o HO3.out rfl (by omega) (by omega) _).1 hc).mono ?_
            rintro e w5 ⟨rfl, hb5⟩
            have s6 := Ov.call hb5 s5
            go_wp2_with fail
            go_roundg (m + 1)
            case measure => omega
            case rel =>
              obtain ⟨e1, e2⟩ := HL.out hc
              refine ⟨m, rfl, by omega, by go_num, ?_⟩
              rw [e1, e2]
              exact s6
          · refine ((below_ot (2 * R + b) B false o HO3.out rfl (by omega) (by omega) _).2 hc).mono ?_
            rintro e w5 ⟨rfl, hb5⟩
            have s6 := Ov.call hb5 s5
            clear pa0 pa1 pa2 pb0 pb1 pb2 pr0 pr1 pr2 pq0 pq1 pq2 prf pqf s4 s5 hb5
            have pa0 := (s6.a).cell 0 _ rfl; have pa1 := (s6.a).cell 1 _ rfl; have pa2 := (s6.a).cell 2 _ rfl; have pb0 := (s6.b).cell 0 _ rfl; have pb1 := (s6.b).cell 1 _ rfl; have pb2 := (s6.b).cell 2 _ rfl; have pr0 := (s6.r).cell 0 _ rfl; have pr1 := (s6.r).cell 1 _ rfl; have pr2 := (s6.r).cell 2 _ rfl; have pq0 := (s6.q).cell 0 _ rfl; have pq1 := (s6.q).cell 1 _ rfl; have pq2 := (s6.q).cell 2 _ rfl; have prf := (s6.r).free; have pqf := (s6.q).free
            go_wp2_with fail
            refine (wless_any (2 * R + b) B false o (by omega) (by omega) _).mono ?_
            rintro e w6 ⟨rfl, hb6⟩
            have s7 := Ov.call hb6 s6
            clear pa0 pa1 pa2 pb0 pb1 pb2 pr0 pr1 pr2 pq0 pq1 pq2 prf pqf s6 hb6
            have pa0 := (s7.a).cell 0 _ rfl; have pa1 := (s7.a).cell 1 _ rfl; have pa2 := (s7.a).cell 2 _ rfl; have pb0 := (s7.b).cell 0 _ rfl; have pb1 := (s7.b).cell 1 _ rfl; have pb2 := (s7.b).cell 2 _ rfl; have pr0 := (s7.r).cell 0 _ rfl; have pr1 := (s7.r).cell 1 _ rfl; have pr2 := (s7.r).cell 2 _ rfl; have pq0 := (s7.q).cell 0 _ rfl; have pq1 := (s7.q).cell 1 _ rfl; have pq2 := (s7.q).cell 2 _ rfl; have prf := (s7.r).free; have pqf := (s7.q).free
            go_wp2
            go_roundg (m + 1)
            case measure => omega
            case rel =>
              obtain ⟨e1, e2⟩ := HG.out hc
              obtain ⟨u1, u2⟩ := up_odd (2 * Q) (by omega)
              refine ⟨m, rfl, by omega, by go_num, ?_⟩
              rw [e1, e2, u1]
              exact Ov.lowQ (Ov.setR s7 _) _ u2
        · have hbit : bits .and .u64 (wh A / 2 ^ (m - 64)) 1 = (b : Int) := by rw [bit_hi A (m - 64) (by omega), show 64 + (m - 64) = m by omega, ← HB.out]
          go_wp2_with fail
          clear hbit
          rcases Nat.lt_or_ge (2 * R + b) B with hc | hc
          · refine ((below_ot (2 * R + b) B false o HO3.out rfl (by omega) (by omega) _).1 hc).mono ?_
            rintro e w5 ⟨rfl, hb5⟩
            have s6 := Ov.call hb5 s5
            go_wp2_with fail
            go_roundg (m + 1)
            case measure => omega
            case rel =>
              obtain ⟨e1, e2⟩ := HL.out hc
              refine ⟨m, rfl, by omega, by go_num, ?_⟩
              rw [e1, e2]
              exact s6
          · refine ((below_ot (2 * R + b) B false o HO3.out rfl (by omega) (by omega) _).2 hc).mono ?_
            rintro e w5 ⟨rfl, hb5⟩
            have s6 := Ov.call hb5 s5
            clear pa0 pa1 pa2 pb0 pb1 pb2 pr0 pr1 pr2 pq0 pq1 pq2 prf pqf s4 s5 hb5
            have pa0 := (s6.a).cell 0 _ rfl; have pa1 := (s6.a).cell 1 _ rfl; have pa2 := (s6.a).cell 2 _ rfl; have pb0 := (s6.b).cell 0 _ rfl; have pb1 := (s6.b).cell 1 _ rfl; have pb2 := (s6.b).cell 2 _ rfl; have pr0 := (s6.r).cell 0 _ rfl; have pr1 := (s6.r).cell 1 _ rfl; have pr2 := (s6.r).cell 2 _ rfl; have pq0 := (s6.q).cell 0 _ rfl; have pq1 := (s6.q).cell 1 _ rfl; have pq2 := (s6.q).cell 2 _ rfl; have prf := (s6.r).free; have pqf := (s6.q).free
            go_wp2_with fail
            refine (wless_any (2 * R + b) B false o (by omega) (by omega) _).mono ?_
            rintro e w6 ⟨rfl, hb6⟩
            have s7 := Ov.call hb6 s6
            clear pa0 pa1 pa2 pb0 pb1 pb2 pr0 pr1 pr2 pq0 pq1 pq2 prf pqf s6 hb6
            have pa0 := (s7.a).cell 0 _ rfl; have pa1 := (s7.a).cell 1 _ rfl; have pa2 := (s7.a).cell 2 _ rfl; have pb0 := (s7.b).cell 0 _ rfl; have pb1 := (s7.b).cell 1 _ rfl; have pb2 := (s7.b).cell 2 _ rfl; have pr0 := (s7.r).cell 0 _ rfl; have pr1 := (s7.r).cell 1 _ rfl; have pr2 := (s7.r).cell 2 _ rfl; have pq0 := (s7.q).cell 0 _ rfl; have pq1 := (s7.q).cell 1 _ rfl; have pq2 := (s7.q).cell 2 _ rfl; have prf := (s7.r).free; have pqf := (s7.q).free
            go_wp2
            go_roundg (m + 1)
            case measure => omega
            case rel =>
              obtain ⟨e1, e2⟩ := HG.out hc
              obtain ⟨u1, u2⟩ := up_odd (2 * Q) (by omega)
              refine ⟨m, rfl, by omega, by go_num, ?_⟩
              rw [e1, e2, u1]
              exact Ov.lowQ (Ov.setR s7 _) _ u2
theorem within_yes (n m : Int) (h0 : 0 ≤ m) (h1 : m ≤ 4611686018427387904) (hn : -m ≤ n) (hn' : n ≤ m) (w : World) :
    Calls Try.prog 89 #[.int .i64 n, .int .i64 m] w fun e w' => e = .returned (.bool true) ∧ w = w' := by
  go_enter Try.func89, Try.ntmps89
  go_wp2
  go_ret
  simp []
theorem within_no (n m : Int) (h0 : 0 ≤ m) (h1 : m ≤ 4611686018427387904) (hn : n < -m ∨ m < n) (w : World) :
    Calls Try.prog 89 #[.int .i64 n, .int .i64 m] w fun e w' => e = .returned (.bool false) ∧ w = w' := by
  rcases hn with hn | hn
  · go_enter Try.func89, Try.ntmps89
    go_wp2
    go_ret
    exact ⟨rfl, rfl⟩
  · go_enter Try.func89, Try.ntmps89
    go_wp2
    go_ret
    simp; omega
theorem checked_yes (n m : Int) (h0 : -1152921504606846976 ≤ n) (h1 : n ≤ 1152921504606846976) (hn : 0 ≤ m) (hn' : m ≤ 1152921504606846976) (w : World) :
    Calls Try.prog 99 #[.agg #[.int .i64 n, .int .i64 m]] w fun e w' => e = .returned (.tuple #[.agg #[.int .i64 n, .int .i64 m], .int .i64 0]) ∧ Below w.heap.size w w' := by
  go_enter Try.func99, Try.ntmps99
  go_wp2_with (go_at_call 89; refine (within_yes _ _ (by omega) (by omega) (by omega) (by omega) _).mono ?_; rintro e w' ⟨rfl, rfl⟩)
  go_returns
  exact ⟨rfl, by go_grown⟩
theorem checked_no (n m : Int) (h0 : n < -1152921504606846976 ∨ 1152921504606846976 < n ∨ 1152921504606846976 < m) (w : World) :
    Calls Try.prog 99 #[.agg #[.int .i64 n, .int .i64 m]] w fun e w' => e = .returned (.tuple #[.agg #[.int .i64 0, .int .i64 0], .int .i64 4]) ∧ Below w.heap.size w w' := by
  by_cases hn : n < -1152921504606846976 ∨ 1152921504606846976 < n
  · go_enter Try.func99, Try.ntmps99
    go_wp2_with (go_at_call 89; refine (within_no _ _ (by omega) (by omega) (by omega) _).mono ?_; rintro e w' ⟨rfl, rfl⟩)
    go_returns
    exact ⟨rfl, by go_grown⟩
  · have hm : 1152921504606846976 < m := by omega
    go_enter Try.func99, Try.ntmps99
    go_wp2_with (go_at_call 89; refine (within_yes _ _ (by omega) (by omega) (by omega) (by omega) _).mono ?_; rintro e w' ⟨rfl, rfl⟩)
    go_returns
    exact ⟨rfl, by go_grown⟩
theorem common_any (A B : Nat) (h1 : A ≤ 9223372036854775807) (h2 : B ≤ 9223372036854775807) (w : World) :
    Calls Try.prog 90 #[.int .i64 A, .int .i64 B] w fun e w' => e = .returned (.int .i64 (Nat.gcd A B : Nat)) ∧ Below w.heap.size w w' := by
  go_enter Try.func90, Try.ntmps90
  go_wp2
  go_loopg [0, 1] (B + 1) (fun k a b wr => ∃ X Y : Nat, k = Y + 1 ∧ a = .int .i64 X ∧ b = .int .i64 Y ∧ Nat.gcd X Y = Nat.gcd A B ∧ X ≤ 9223372036854775807 ∧ Y ≤ 9223372036854775807 ∧ Below w.heap.size w wr)
  case atStart => exact ⟨A, B, rfl, rfl, rfl, rfl, h1, h2, by go_grown⟩
  case round =>
    obtain ⟨X, Y, rfl, rfl, rfl, hg, hX, hY, hbel⟩ := hrel
    have G := Lib.hid hg
    clear hg
    rcases Nat.lt_or_ge Y 1 with hc | hc
    · have hc' : ((Y : Int) != 0) = false := by simp; omega
      go_wp2
      go_ret
      exact ⟨ret_int (by rw [← G.out, show Y = 0 by omega, Nat.gcd_zero_right]), hbel⟩
    · have hc' : ((Y : Int) != 0) = true := by simp; omega
      go_wp2
      go_region
      all_goals go_wp2
      all_goals go_roundg (X % Y + 1)
      all_goals first | (case measure => have := Nat.mod_lt X hc; omega) | skip
      exact ⟨Y, X % Y, rfl, rfl, rfl, by rw [← G.out, Nat.gcd_comm Y, ← Nat.gcd_rec, Nat.gcd_comm], hY, by have := Nat.mod_lt X hc; omega, hbel.drew⟩
theorem common_at {x y : Int} (a b : Int) (e1 : x = (a.natAbs : Int)) (e2 : y = (b.natAbs : Int)) (h1 : a.natAbs ≤ 9223372036854775807) (h2 : b.natAbs ≤ 9223372036854775807) (w : World) :
    Calls Try.prog 90 #[.int .i64 x, .int .i64 y] w fun e w' => e = .returned (.int .i64 (Int.gcd a b : Nat)) ∧ Below w.heap.size w w' := by
  subst e1 e2; exact common_any _ _ h1 h2 w
theorem checked_at {x y : Int} (a b : Int) (h : b ≠ 0) (e1 : x = fN a b) (e2 : y = fD a b) (w : World) :
    Calls Try.prog 99 #[.agg #[.int .i64 x, .int .i64 y]] w fun e w' => e = .returned (.tuple #[.agg #[.int .i64 (fA a b), .int .i64 (fB a b)], .int .i64 (fE a b)]) ∧ Below w.heap.size w w' := by
  subst e1 e2
  have h3 := fD_pos (a := a) h
  by_cases hf : fits a b = true
  · have hf' := hf
    simp only [fits, decide_eq_true_eq] at hf'
    unfold fA fB fE
    simp only [hf, if_true]
    exact checked_yes _ _ hf'.1 hf'.2.1 (by omega) hf'.2.2 w
  · have hf' := hf
    simp only [fits, decide_eq_true_eq] at hf'
    unfold fA fB fE
    simp only [hf]
    exact checked_no _ _ (by omega) w
set_option maxHeartbeats 1000000 in
theorem lowest_any (a b : Int) (ha : -4611686018427387904 ≤ a) (ha' : a ≤ 4611686018427387904) (hb : -4611686018427387904 ≤ b) (hb' : b ≤ 4611686018427387904) (h0 : b ≠ 0) (w : World) :
    Calls Try.prog 92 #[.int .i64 a, .int .i64 b] w fun e w' => e = .returned (.tuple #[.agg #[.int .i64 (fA a b), .int .i64 (fB a b)], .int .i64 (fE a b)]) ∧ Below w.heap.size w w' := by
  have hg := gcd_pos (a := a) h0
  have hN := fN_le (a := a) h0
  have hD := fD_le (a := a) h0
  have hD0 := fD_pos (a := a) h0
  by_cases hs : b < 0
  · go_enter Try.func92, Try.ntmps92
    go_wp2_with fail
    all_goals refine (common_at a b (by omega) (by omega) (by omega) (by omega) _).mono ?_
    all_goals rintro e w1 ⟨rfl, hb1⟩
    all_goals have l0 : w.heap.size < w1.heap.size := by have := hb1.size; simp at this; omega
    all_goals have c1 : Has w1 w.heap.size [.int .i64 0, .int .i64 0] := (Has.new w [.int .i64 0, .int .i64 0] 31).below hb1 (by go_size)
    all_goals have hbel : Below w.heap.size w w1 := ((Below.refl _ _).alloc (by go_size) _).trans (hb1.mono (by go_size))
    all_goals go_wp2_with fail
    all_goals go_region_with (go_at_call 99; go_must (refine Calls.mono (checked_at a b h0 (by rw [fN_neg hs]; exact IntWalk.i64_in _ (by omega)) (by rw [fD_neg hs]; exact IntWalk.i64_in _ (by omega)) _) ?_; rintro e w2 ⟨rfl, hb2⟩; have l1 : w.heap.size < w2.heap.size := Nat.lt_of_lt_of_le l0 hb2.size; have c2 := (c1.drew.below hb2 (by go_size)).cell 0 _ rfl; have c3 := (c1.drew.below hb2 (by go_size)).cell 1 _ rfl; have c4 := (c1.drew.below hb2 (by go_size)).free; have hbel2 := hbel.drew.trans (hb2.mono (by go_size))))
    all_goals go_wp2
    all_goals exact bodyPost_ret (v := .tuple #[.agg #[.int .i64 (fA a b), .int .i64 (fB a b)], .int .i64 (fE a b)]) (by simp [results, Try.results92, go_sem, c2, c3]) rfl ⟨rfl, by go_grown⟩
  · have hs' : 0 < b := by omega
    go_enter Try.func92, Try.ntmps92
    go_wp2_with fail
    all_goals refine (common_at a b (by omega) (by omega) (by omega) (by omega) _).mono ?_
    all_goals rintro e w1 ⟨rfl, hb1⟩
    all_goals have l0 : w.heap.size < w1.heap.size := by have := hb1.size; simp at this; omega
    all_goals have c1 : Has w1 w.heap.size [.int .i64 0, .int .i64 0] := (Has.new w [.int .i64 0, .int .i64 0] 31).below hb1 (by go_size)
    all_goals have hbel : Below w.heap.size w w1 := ((Below.refl _ _).alloc (by go_size) _).trans (hb1.mono (by go_size))
    all_goals go_wp2_with fail
    all_goals go_region_with (go_at_call 99; go_must (refine Calls.mono (checked_at a b h0 (by first | exact fN_nonneg hs' | (rw [fN_nonneg hs']; exact IntWalk.i64_in _ (by omega))) (by first | exact fD_nonneg hs' | (rw [fD_nonneg' hs']; exact IntWalk.i64_in _ (by omega))) _) ?_; rintro e w2 ⟨rfl, hb2⟩; have l1 : w.heap.size < w2.heap.size := Nat.lt_of_lt_of_le l0 hb2.size; have c2 := (c1.drew.below hb2 (by go_size)).cell 0 _ rfl; have c3 := (c1.drew.below hb2 (by go_size)).cell 1 _ rfl; have c4 := (c1.drew.below hb2 (by go_size)).free; have hbel2 := hbel.drew.trans (hb2.mono (by go_size))))
    all_goals go_wp2
    all_goals exact bodyPost_ret (v := .tuple #[.agg #[.int .i64 (fA a b), .int .i64 (fB a b)], .int .i64 (fE a b)]) (by simp [results, Try.results92, go_sem, c2, c3]) rfl ⟨rfl, by go_grown⟩
theorem valid_yes (a b : Int) (ha : -1152921504606846976 ≤ a) (ha' : a ≤ 1152921504606846976) (hb : 1 ≤ b) (hb' : b ≤ 1152921504606846976) (hg : Int.gcd a b = 1) (w : World) :
    Calls Try.prog 79 #[.agg #[.int .i64 a, .int .i64 b]] w fun e w' => e = .returned (.bool true) ∧ Below w.heap.size w w' := by
  have G := Lib.hid hg
  clear hg
  go_enter Try.func79, Try.ntmps79
  go_wp2_with (first | (go_at_call 89; refine (within_yes _ _ (by omega) (by omega) (by omega) (by omega) _).mono ?_; rintro e w' ⟨rfl, rfl⟩) | (go_at_call 90; refine Calls.mono (common_at a b (by omega) (by omega) (by omega) (by omega) _) ?_; rw [G.out]; rintro e w2 ⟨rfl, hb2⟩; have hbel := ((Below.refl w.heap.size w).alloc (Nat.le_refl _) _).trans (hb2.mono (by go_size))))
  all_goals go_returns
  all_goals exact ⟨by simp, by go_grown⟩
theorem gcd_at {l m : Int} (A B : Nat) (e2 : l = (A : Int)) (e4 : m = (B : Int)) (hA : A < 18446744073709551616) (hB : B < 18446744073709551616) (hg : Nat.gcd A B < 18446744073709551616) (w : World) :
    Calls Try.prog 53 #[.agg #[.int .u64 0, .int .u64 l], .agg #[.int .u64 0, .int .u64 m]] w fun e w' => e = .returned (.agg #[.int .u64 0, .int .u64 (Nat.gcd A B : Nat)]) ∧ Below w.heap.size w w' := by
  have h := gcd_any A B (by omega) (by omega) w
  have z1 : wh A = 0 := by unfold wh; omega
  have z2 : wh B = 0 := by unfold wh; omega
  have z3 : wl A = A := by unfold wl; omega
  have z4 : wl B = B := by unfold wl; omega
  have z5 : wh (Nat.gcd A B) = 0 := by unfold wh; omega
  have z6 : wl (Nat.gcd A B) = (Nat.gcd A B : Nat) := by unfold wl; omega
  rw [z1, z2, z3, z4, z5, z6] at h
  subst e2 e4
  exact h
theorem rvalid_yes (a b : Int) (ha : -1152921504606846976 ≤ a) (ha' : a ≤ 1152921504606846976) (hb : 1 ≤ b) (hb' : b ≤ 1152921504606846976) (hg : Int.gcd a b = 1) (w : World) :
    Calls Try.prog 20 #[.agg #[.int .i64 a, .int .i64 b]] w fun e w' => e = .returned (.bool true) ∧ Below w.heap.size w w' := by
  have G : Hid (Nat.gcd a.natAbs b.natAbs = 1) := Lib.hid hg
  clear hg
  go_enter Try.func20, Try.ntmps20
  go_wp2
  go_region_held3 (fun w' => w'.cell? ⟨w.heap.size, 0, none⟩ = some (.int .i64 a) ∧ w'.cell? ⟨w.heap.size, 1, none⟩ = some (.int .i64 b)) (first | go_keep | (refine ⟨cell_later hb2 ?_, cell_later hb2 ?_⟩ <;> go_keep))
    (first | (go_at_call 48; refine (size_any _ (by omega) (by omega) _).mono ?_; rintro e w' ⟨rfl, rfl⟩) | (go_at_call 53; refine Calls.mono (gcd_at a.natAbs b.natAbs (by omega) (by rw [IntWalk.u64_in _ (by omega)]; omega) (by omega) (by omega) (by rw [G.out]; omega) _) ?_; rw [G.out]; rintro e w2 ⟨rfl, hb2⟩))
  go_wp2
  go_returns
  exact ⟨rfl, (((Below.refl _ _).alloc (Nat.le_refl _) _).drew).trans (hb2.mono (by go_size))⟩
theorem product_any (a b : Int) (ha : -9223372036854775808 ≤ a) (ha' : a ≤ 9223372036854775807) (hb : -9223372036854775808 ≤ b) (hb' : b ≤ 9223372036854775807) (w : World) :
    Calls Try.prog 96 #[.int .i64 a, .int .i64 b] w fun e w' => e = .returned (.agg #[.int .u64 (wh (a.natAbs * b.natAbs)), .int .u64 (wl (a.natAbs * b.natAbs)), .bool (decide (a < 0) != decide (b < 0))]) ∧ Below w.heap.size w w' := by
  go_enter Try.func96, Try.ntmps96
  go_wp2_with (first | (go_at_call 106; refine (wsize_any _ (by omega) (by omega) _).mono ?_; rintro e w' ⟨rfl, rfl⟩) | (go_at_call 83; refine (mul64_any _ _ (by omega) (by omega) _).mono ?_; rintro e w' ⟨rfl, rfl⟩))
  go_returns
  exact ⟨rfl, by go_grown⟩
theorem negative_any (N : Nat) (n : Bool) (w : World) :
    Calls Try.prog 105 #[.agg #[.int .u64 (wh N), .int .u64 (wl N), .bool n]] w fun e w' => e = .returned (.bool (n && decide (0 < N))) ∧ Below w.heap.size w w' := by
  cases n
  · go_enter Try.func105, Try.ntmps105
    go_wp2
    go_returns
    exact ⟨rfl, by go_grown⟩
  · rcases Nat.lt_or_ge N 1 with h | h
    · go_enter Try.func105, Try.ntmps105
      go_wp2_with (go_at_call 109; refine ((zero_at N true _).1 (by omega)).mono ?_; rintro e w1 ⟨rfl, hb1⟩; have hbel := ((Below.refl w.heap.size w).alloc (Nat.le_refl _) _).trans (hb1.mono (by go_size)))
      go_returns
      exact ⟨by rw [decide_eq_false (by omega)]; rfl, hbel⟩
    · go_enter Try.func105, Try.ntmps105
      go_wp2_with (go_at_call 109; refine ((zero_at N true _).2 (by omega)).mono ?_; rintro e w1 ⟨rfl, hb1⟩; have hbel := ((Below.refl w.heap.size w).alloc (Nat.le_refl _) _).trans (hb1.mono (by go_size)))
      go_returns
      exact ⟨by rw [decide_eq_true (by omega)]; rfl, hbel⟩
def plN (A B : Nat) (n o : Bool) : Nat := if n = o then A + B else if A < B then B - A else A - B
def plS (A B : Nat) (n o : Bool) : Bool := if n = o then n else if A < B then o else n
def sv (N : Nat) (n : Bool) : Int := if n then -(N : Int) else N
theorem sv_plus (A B : Nat) (n o : Bool) : sv (plN A B n o) (plS A B n o) = sv A n + sv B o := by
  unfold sv plN plS
  cases n <;> cases o <;> simp <;> (repeat' split) <;> omega
theorem sv_abs (a : Int) : sv a.natAbs (decide (a < 0)) = a := by unfold sv; by_cases h : a < 0 <;> simp [h] <;> omega
theorem sv_mul (a b : Int) : sv (a.natAbs * b.natAbs) (decide (a < 0) != decide (b < 0)) = a * b := by
  unfold sv
  have e : ((a.natAbs * b.natAbs : Nat) : Int) = (a.natAbs : Int) * (b.natAbs : Int) := by simp
  rw [e]
  by_cases h : a < 0 <;> by_cases k : b < 0 <;> simp [h, k]
  · rw [show (a.natAbs : Int) = -a by omega, show (b.natAbs : Int) = -b by omega]; grind
  · rw [show (a.natAbs : Int) = -a by omega, show (b.natAbs : Int) = b by omega]; grind
  · rw [show (a.natAbs : Int) = a by omega, show (b.natAbs : Int) = -b by omega]; grind
  · rw [show (a.natAbs : Int) = a by omega, show (b.natAbs : Int) = b by omega]
theorem sv_natAbs (N : Nat) (n : Bool) : (sv N n).natAbs = N := by unfold sv; cases n <;> simp
theorem plus_any (A B : Nat) (n o : Bool) (hA : A < 170141183460469231731687303715884105728) (hB : B < 170141183460469231731687303715884105728) (w : World) :
    Calls Try.prog 94 #[.agg #[.int .u64 (wh A), .int .u64 (wl A), .bool n], .agg #[.int .u64 (wh B), .int .u64 (wl B), .bool o]] w fun e w' => e = .returned (.agg #[.int .u64 (wh (plN A B n o)), .int .u64 (wl (plN A B n o)), .bool (plS A B n o)]) ∧ Below w.heap.size w w' := by
  unfold plN plS
  by_cases hn : n = o
  · subst hn
    simp only [if_true]
    go_enter Try.func94, Try.ntmps94
    go_wp2_with fail
    refine (more_any A B n n (by omega) _).mono ?_
    rintro e w1 ⟨rfl, hb1⟩
    have tr := (Has.at' (Has.new _ [.int .u64 0, .int .u64 0, .bool false] 120) (c := w.heap.size + 1 + 1) (by simp)).below hb1 (by go_size)
    have r0 := tr.cell 0 _ rfl; have r1 := tr.cell 1 _ rfl; have r2 := tr.cell 2 _ rfl; have rf := tr.free
    have hbel : Below w.heap.size w w1 := Below.trans (by go_grown) (hb1.mono (by go_size))
    go_wp2
    exact bodyPost_ret (v := .agg #[.int .u64 (wh (A + B)), .int .u64 (wl (A + B)), .bool n]) (by simp [results, Try.results94, go_sem, r0, r1, r2]) rfl ⟨rfl, hbel.trans (by go_grown)⟩
  · have hn' : (n == o) = false := by simpa using hn
    simp only [hn, if_false]
    clear hn
    rcases Nat.lt_or_ge A B with hAB | hAB
    · rw [if_pos hAB, if_pos hAB]
      go_enter Try.func94, Try.ntmps94
      go_wp2_with fail
      refine ((below_at A B n o (by omega) (by omega) _).1 hAB).mono ?_
      rintro e w1 ⟨rfl, hb1⟩
      have tr1 := (Has.at' (Has.new _ [.int .u64 0, .int .u64 0, .bool false] 120) (c := w.heap.size + 1 + 1) (by simp)).below hb1 (by go_size)
      have ta1 := ((((Has.new w (three A n) 120).old (by go_size)).old (by go_size))).below hb1 (by go_size)
      have tb1 := (Has.old (Has.at' (Has.new _ (three B o) 120) (c := w.heap.size + 1) (by simp)) (by go_size)).below hb1 (by go_size)
      have hbel1 : Below w.heap.size w w1 := Below.trans (by go_grown) (hb1.mono (by go_size))
      have a0 := ta1.cell 0 _ rfl; have a1 := ta1.cell 1 _ rfl; have a2 := ta1.cell 2 _ rfl
      have b0 := tb1.cell 0 _ rfl; have b1 := tb1.cell 1 _ rfl; have b2 := tb1.cell 2 _ rfl
      go_wp2_with fail
      refine (wless_any B A o n (by omega) (by omega) _).mono ?_
      rintro e w2 ⟨rfl, hb2⟩
      have tr := tr1.below hb2 (tr1.lt (by simp))
      have r0 := tr.cell 0 _ rfl; have r1 := tr.cell 1 _ rfl; have r2 := tr.cell 2 _ rfl; have rf := tr.free
      have hbel : Below w.heap.size w w2 := hbel1.trans (hb2.mono hbel1.size)
      go_wp2
      exact bodyPost_ret (v := .agg #[.int .u64 (wh (B - A)), .int .u64 (wl (B - A)), .bool o]) (by simp [results, Try.results94, go_sem, r0, r1, r2]) rfl ⟨rfl, hbel.trans (by go_grown)⟩
    · rw [if_neg (by omega), if_neg (by omega)]
      go_enter Try.func94, Try.ntmps94
      go_wp2_with fail
      refine ((below_at A B n o (by omega) (by omega) _).2 hAB).mono ?_
      rintro e w1 ⟨rfl, hb1⟩
      have tr1 := (Has.at' (Has.new _ [.int .u64 0, .int .u64 0, .bool false] 120) (c := w.heap.size + 1 + 1) (by simp)).below hb1 (by go_size)
      have ta1 := ((((Has.new w (three A n) 120).old (by go_size)).old (by go_size))).below hb1 (by go_size)
      have tb1 := (Has.old (Has.at' (Has.new _ (three B o) 120) (c := w.heap.size + 1) (by simp)) (by go_size)).below hb1 (by go_size)
      have hbel1 : Below w.heap.size w w1 := Below.trans (by go_grown) (hb1.mono (by go_size))
      have a0 := ta1.cell 0 _ rfl; have a1 := ta1.cell 1 _ rfl; have a2 := ta1.cell 2 _ rfl
      have b0 := tb1.cell 0 _ rfl; have b1 := tb1.cell 1 _ rfl; have b2 := tb1.cell 2 _ rfl
      go_wp2_with fail
      refine (wless_any A B n o (by omega) (by omega) _).mono ?_
      rintro e w2 ⟨rfl, hb2⟩
      have tr := tr1.below hb2 (tr1.lt (by simp))
      have r0 := tr.cell 0 _ rfl; have r1 := tr.cell 1 _ rfl; have r2 := tr.cell 2 _ rfl; have rf := tr.free
      have hbel : Below w.heap.size w w2 := hbel1.trans (hb2.mono hbel1.size)
      go_wp2
      exact bodyPost_ret (v := .agg #[.int .u64 (wh (A - B)), .int .u64 (wl (A - B)), .bool n]) (by simp [results, Try.results94, go_sem, r0, r1, r2]) rfl ⟨rfl, hbel.trans (by go_grown)⟩
end Go.Proofs.Ytdegpgonphgbcaa
