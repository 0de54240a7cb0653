/-
  wide.
-/
import Derived.Test.YtdegpgonphgbcaaZFxB
namespace Go.Proofs.Ytdegpgonphgbcaa
open Go.RowKit
def three (N : Nat) (n : Bool) : List Value := [.int .u64 (wh N), .int .u64 (wl N), .bool n]
/-! ### Plain arithmetic of the binary algorithm -/
theorem half_lt {X : Nat} (h : X % 2 = 0) (h0 : 0 < X) : X / 2 < X ∧ 0 < X / 2 := by omega
theorem gcd_half_left {X Y : Nat} (hx : X % 2 = 0) (hy : Y % 2 = 1) : Nat.gcd (X / 2) Y = Nat.gcd X Y := by
  have e : X = 2 * (X / 2) := by omega
  have c : Nat.Coprime 2 Y := by
    unfold Nat.Coprime; rw [Nat.gcd_rec, hy]; rfl
  conv => rhs; rw [e]
  exact (Nat.Coprime.gcd_mul_left_cancel _ c).symm
theorem gcd_half_right {X Y : Nat} (hx : X % 2 = 1) (hy : Y % 2 = 0) : Nat.gcd X (Y / 2) = Nat.gcd X Y := by
  rw [Nat.gcd_comm, gcd_half_left hy hx, Nat.gcd_comm]
theorem gcd_less {X Y : Nat} (h : X ≤ Y) : Nat.gcd X (Y - X) = Nat.gcd X Y := by
  have := Nat.gcd_sub_self_right h
  exact this
theorem gcd_both {X Y t A B : Nat} (hA : A = X * 2 ^ t) (hB : B = Y * 2 ^ t) : Nat.gcd A B = Nat.gcd X Y * 2 ^ t := by
  rw [hA, hB, Nat.gcd_mul_right]
theorem even_at {l : Int} (A : Nat) (n : Bool) (e : l = wl A) (w : World) :
    (A % 2 = 0 → Calls Try.prog 110 #[.agg #[.int .u64 (wh A), .int .u64 l, .bool n]] w fun e w' => e = .returned (.bool true) ∧ Below w.heap.size w w') ∧
    (A % 2 = 1 → Calls Try.prog 110 #[.agg #[.int .u64 (wh A), .int .u64 l, .bool n]] w fun e w' => e = .returned (.bool false) ∧ Below w.heap.size w w') := by
  subst e; have := even_any A n w
  refine ⟨fun h => ?_, fun h => ?_⟩
  · rwa [decide_eq_true h] at this
  · rwa [decide_eq_false (by omega)] at this
theorem zero_at (A : Nat) (n : Bool) (w : World) :
    (A = 0 → Calls Try.prog 109 #[.agg #[.int .u64 (wh A), .int .u64 (wl A), .bool n]] w fun e w' => e = .returned (.bool true) ∧ Below w.heap.size w w') ∧
    (0 < A → Calls Try.prog 109 #[.agg #[.int .u64 (wh A), .int .u64 (wl A), .bool n]] w fun e w' => e = .returned (.bool false) ∧ Below w.heap.size w w') := by
  have := zero_any A n w
  refine ⟨fun h => ?_, fun h => ?_⟩
  · rwa [decide_eq_true h] at this
  · rwa [decide_eq_false (by omega)] at this
theorem below_at (A B : Nat) (n o : Bool) (hA : A < 340282366920938463463374607431768211456) (hB : B < 340282366920938463463374607431768211456) (w : World) :
    (A < B → Calls Try.prog 101 #[.agg #[.int .u64 (wh A), .int .u64 (wl A), .bool n], .agg #[.int .u64 (wh B), .int .u64 (wl B), .bool o]] w fun e w' => e = .returned (.bool true) ∧ Below w.heap.size w w') ∧
    (B ≤ A → Calls Try.prog 101 #[.agg #[.int .u64 (wh A), .int .u64 (wl A), .bool n], .agg #[.int .u64 (wh B), .int .u64 (wl B), .bool o]] w fun e w' => e = .returned (.bool false) ∧ Below w.heap.size w w') := by
  have := below_any A B n o hA hB w
  refine ⟨fun h => ?_, fun h => ?_⟩
  · rwa [decide_eq_true h] at this
  · rwa [decide_eq_false (by omega)] at this
structure St (w wr : World) (X Y : Nat) : Prop where
  below : Below w.heap.size w wr
  size : w.heap.size + 3 ≤ wr.heap.size
  a : Has wr w.heap.size (three X false)
  b : Has wr (w.heap.size + 1) (three Y false)
  r : Has wr (w.heap.size + 1 + 1) (three 0 false)
theorem St.call {w wr w1 : World} {X Y : Nat} (hb : Below wr.heap.size wr w1) (s : St w wr X Y) : St w w1 X Y :=
  have h := s.size
  ⟨s.below.trans (hb.mono (by omega)), Nat.le_trans s.size hb.size, s.a.below hb (by omega), s.b.below hb (by omega), s.r.below hb (by omega)⟩
theorem St.drew {w wr : World} {X Y : Nat} (s : St w wr X Y) : St w wr.drew X Y := ⟨s.below.drew, s.size, s.a.drew, s.b.drew, s.r.drew⟩
theorem St.setA {w wr : World} {X Y : Nat} (s : St w wr X Y) (Z : Nat) : St w (((wr.setCell ⟨w.heap.size, 0, none⟩ (.int .u64 (wh Z))).setCell ⟨w.heap.size, 1, none⟩ (.int .u64 (wl Z))).setCell ⟨w.heap.size, 2, none⟩ (.bool false)) Z Y :=
  ⟨((s.below.setCell (Nat.le_refl _) _).setCell (Nat.le_refl _) _).setCell (Nat.le_refl _) _, by simpa using s.size,
    ((s.a.set0 _).set1 _).set2 _, ((s.b.other (by simp)).other (by simp)).other (by simp), ((s.r.other (by go_size)).other (by go_size)).other (by go_size)⟩
theorem St.setB {w wr : World} {X Y : Nat} (s : St w wr X Y) (Z : Nat) : St w (((wr.setCell ⟨w.heap.size + 1, 0, none⟩ (.int .u64 (wh Z))).setCell ⟨w.heap.size + 1, 1, none⟩ (.int .u64 (wl Z))).setCell ⟨w.heap.size + 1, 2, none⟩ (.bool false)) X Z :=
  ⟨((s.below.setCell (by simp) _).setCell (by simp) _).setCell (by simp) _, by simpa using s.size,
    ((s.a.other (by simp)).other (by simp)).other (by simp), ((s.b.set0 _).set1 _).set2 _, ((s.r.other (by go_size)).other (by go_size)).other (by go_size)⟩
set_option maxHeartbeats 4000000 in
theorem common_wide (A B : Nat) (n m : Bool) (hA : A < 170141183460469231731687303715884105728) (hB : B < 170141183460469231731687303715884105728) (w : World) :
    Calls Try.prog 103 #[.agg #[.int .u64 (wh A), .int .u64 (wl A), .bool n], .agg #[.int .u64 (wh B), .int .u64 (wl B), .bool m]] w fun e w' => e = .returned (.agg #[.int .u64 (wh (Nat.gcd A B)), .int .u64 (wl (Nat.gcd A B)), .bool false]) ∧ Below w.heap.size w w' := by
  go_enter Try.func103, Try.ntmps103
  go_wp2_with fail
  rcases Nat.lt_or_ge A 1 with hA0 | hA0
  · refine ((zero_at A false _).1 (by omega)).mono ?_
    rintro e w1 ⟨rfl, hb1⟩
    have s1 : St w w1 A B := by
      refine St.call hb1 ?_
      exact ⟨by go_grown, by go_size, Has.mk3 (by go_cell) (by go_cell) (by go_cell) (by intro o; go_cell), Has.mk3 (by go_cell) (by go_cell) (by go_cell) (by intro o; go_cell), (Has.mk3 (x := .int .u64 0) (y := .int .u64 0) (by go_cell) (by go_cell) (by go_cell) (by intro o; go_cell)).at rfl⟩
    have pa0 := (s1.a).cell 0 _ rfl; have pa1 := (s1.a).cell 1 _ rfl; have pa2 := (s1.a).cell 2 _ rfl; have pb0 := (s1.b).cell 0 _ rfl; have pb1 := (s1.b).cell 1 _ rfl; have pb2 := (s1.b).cell 2 _ rfl; have paf := (s1.a).free; have pbf := (s1.b).free; have pr0 := (s1.r).cell 0 _ rfl; have pr1 := (s1.r).cell 1 _ rfl; have pr2 := (s1.r).cell 2 _ rfl; have prf := (s1.r).free
    go_wp2
    exact bodyPost_ret (v := .agg #[.int .u64 (wh B), .int .u64 (wl B), .bool false]) (by simp [results, Try.results103, go_sem, pr0, pr1, pr2]) rfl ⟨by rw [show A = 0 by omega, Nat.gcd_zero_left], s1.below.trans (by go_grown)⟩
  · refine ((zero_at A false _).2 (by omega)).mono ?_
    rintro e w1 ⟨rfl, hb1⟩
    have s1 : St w w1 A B := by
      refine St.call hb1 ?_
      exact ⟨by go_grown, by go_size, Has.mk3 (by go_cell) (by go_cell) (by go_cell) (by intro o; go_cell), Has.mk3 (by go_cell) (by go_cell) (by go_cell) (by intro o; go_cell), (Has.mk3 (x := .int .u64 0) (y := .int .u64 0) (by go_cell) (by go_cell) (by go_cell) (by intro o; go_cell)).at rfl⟩
    clear hb1
    have pa0 := (s1.a).cell 0 _ rfl; have pa1 := (s1.a).cell 1 _ rfl; have pa2 := (s1.a).cell 2 _ rfl; have pb0 := (s1.b).cell 0 _ rfl; have pb1 := (s1.b).cell 1 _ rfl; have pb2 := (s1.b).cell 2 _ rfl; have paf := (s1.a).free; have pbf := (s1.b).free; have pr0 := (s1.r).cell 0 _ rfl; have pr1 := (s1.r).cell 1 _ rfl; have pr2 := (s1.r).cell 2 _ rfl; have prf := (s1.r).free
    go_wp2_with fail
    rcases Nat.lt_or_ge B 1 with hB0 | hB0
    · refine ((zero_at B false _).1 (by omega)).mono ?_
      rintro e w2 ⟨rfl, hb2⟩
      have s2 := St.call hb2 s1
      have qa0 := (s2.a).cell 0 _ rfl; have qa1 := (s2.a).cell 1 _ rfl; have qa2 := (s2.a).cell 2 _ rfl; have qb0 := (s2.b).cell 0 _ rfl; have qb1 := (s2.b).cell 1 _ rfl; have qb2 := (s2.b).cell 2 _ rfl; have qaf := (s2.a).free; have qbf := (s2.b).free; have qr0 := (s2.r).cell 0 _ rfl; have qr1 := (s2.r).cell 1 _ rfl; have qr2 := (s2.r).cell 2 _ rfl; have qrf := (s2.r).free
      go_wp2
      exact bodyPost_ret (v := .agg #[.int .u64 (wh A), .int .u64 (wl A), .bool false]) (by simp [results, Try.results103, go_sem, qr0, qr1, qr2]) rfl ⟨by rw [show B = 0 by omega, Nat.gcd_zero_right], s2.below.trans (by go_grown)⟩
    · refine ((zero_at B false _).2 (by omega)).mono ?_
      rintro e w2 ⟨rfl, hb2⟩
      have s2 := St.call hb2 s1
      clear pa0 pb0 pa1 pb1 pa2 pb2 paf pbf pr0 pr1 pr2 prf hb2 s1
      go_wp2_with fail
      go_loopg [5] (A + 1) (fun k c wr => ∃ X Y t : Nat, k = X + 1 ∧ c = .int .i64 t ∧ t ≤ 127 ∧ 0 < X ∧ 0 < Y ∧ A = X * 2 ^ t ∧ B = Y * 2 ^ t ∧ St w wr X Y)
      case atStart => exact ⟨A, B, 0, rfl, rfl, by omega, hA0, hB0, by simp, by simp, s2⟩
      case round =>
        obtain ⟨X, Y, t, rfl, rfl, ht, hX, hY, eA, eB, s3⟩ := hrel
        have EA := Lib.hid eA; have EB := Lib.hid eB
        have lX : X < 170141183460469231731687303715884105728 := by have := Nat.le_mul_of_pos_right X (Nat.two_pow_pos t); omega
        have lY : Y < 170141183460469231731687303715884105728 := by have := Nat.le_mul_of_pos_right Y (Nat.two_pow_pos t); omega
        clear eA eB
        have pa0 := (s3.a).cell 0 _ rfl; have pa1 := (s3.a).cell 1 _ rfl; have pa2 := (s3.a).cell 2 _ rfl; have pb0 := (s3.b).cell 0 _ rfl; have pb1 := (s3.b).cell 1 _ rfl; have pb2 := (s3.b).cell 2 _ rfl; have paf := (s3.a).free; have pbf := (s3.b).free
        rcases Nat.mod_two_eq_zero_or_one X with pX | pX
        · have PX := Lib.hid pX
          have x2 : X / 2 < X ∧ 0 < X / 2 := half_lt pX hX
          clear pX
          go_wp2_with fail
          refine ((even_at X false rfl _).1 PX.out).mono ?_
          rintro e w3 ⟨rfl, hb3⟩
          have s4 := St.call hb3 s3
          clear pa0 pb0 pa1 pb1 pa2 pb2 paf pbf hb3 s3
          have pa0 := (s4.a).cell 0 _ rfl; have pa1 := (s4.a).cell 1 _ rfl; have pa2 := (s4.a).cell 2 _ rfl; have pb0 := (s4.b).cell 0 _ rfl; have pb1 := (s4.b).cell 1 _ rfl; have pb2 := (s4.b).cell 2 _ rfl; have paf := (s4.a).free; have pbf := (s4.b).free
          rcases Nat.mod_two_eq_zero_or_one Y with pY | pY
          · have PY := Lib.hid pY
            have y2 : Y / 2 < Y ∧ 0 < Y / 2 := half_lt pY hY
            clear pY
            go_wp2_with fail
            refine ((even_at Y false rfl _).1 PY.out).mono ?_
            rintro e w4 ⟨rfl, hb4⟩
            have s5 := St.call hb4 s4
            have s5d := s5.drew
            clear pa0 pb0 pa1 pb1 pa2 pb2 paf pbf hb4 s4
            have pa0 := (s5.a).cell 0 _ rfl; have pa1 := (s5.a).cell 1 _ rfl; have pa2 := (s5.a).cell 2 _ rfl; have pb0 := (s5.b).cell 0 _ rfl; have pb1 := (s5.b).cell 1 _ rfl; have pb2 := (s5.b).cell 2 _ rfl; have paf := (s5.a).free; have pbf := (s5.b).free
            have ht' : t + 1 ≤ 127 := by
              have h1 := EA.out
              have h2 : 2 ^ (t + 1) ≤ A := by
                rw [h1, Nat.pow_succ, Nat.mul_comm]
                exact Nat.mul_le_mul (by omega) (Nat.le_refl _)
              rcases Nat.lt_or_ge 127 (t + 1) with h3 | h3
              · have := Nat.pow_le_pow_right (n := 2) (by decide) h3
                have : (2 : Nat) ^ 127 ≤ 2 ^ (t + 1) := Nat.pow_le_pow_right (by decide) (by omega)
                omega
              · exact h3
            go_wp2_with fail
            go_region_with (go_at_call 111; refine (half_any _ _ (by omega) _).mono ?_; rintro e w5 ⟨rfl, hb5⟩; have s6 := St.call hb5 (by assumption); have ra0 := (s6.a).cell 0 _ rfl; have ra1 := (s6.a).cell 1 _ rfl; have ra2 := (s6.a).cell 2 _ rfl; have rb0 := (s6.b).cell 0 _ rfl; have rb1 := (s6.b).cell 1 _ rfl; have rb2 := (s6.b).cell 2 _ rfl; have raf := (s6.a).free; have rbf := (s6.b).free)
            all_goals have st1 : t + 1 ≤ 127 := ht'
            all_goals go_wp2
            all_goals go_roundg (X / 2 + 1)
            all_goals first | (case measure => omega) | skip
            all_goals refine ⟨X / 2, Y / 2, t + 1, rfl, by rw [IntWalk.i64_in _ (by omega)]; go_num, ht', x2.2, y2.2, ?_, ?_, ?_⟩
            all_goals first | (have h1 := EA.out; have h2 := PX.out; rw [Nat.pow_succ, Nat.mul_comm _ 2, ← Nat.mul_assoc, show X / 2 * 2 = X by omega]; exact h1) | (have h1 := EB.out; have h2 := PY.out; rw [Nat.pow_succ, Nat.mul_comm _ 2, ← Nat.mul_assoc, show Y / 2 * 2 = Y by omega]; exact h1) | skip
            all_goals exact St.setB (St.setA (X := X) (Y := Y) (by assumption) _) _
          · have HO : Hid (X % 2 = 1 ∨ Y % 2 = 1) := Lib.hid (.inr pY)
            have PY := Lib.hid pY
            clear pY
            go_wp2_with fail
            refine ((even_at Y false rfl _).2 PY.out).mono ?_
            rintro e w4 ⟨rfl, hb4⟩
            have s5 := St.call hb4 s4
            go_wp2_with fail
            have HG := Lib.hid (show Nat.gcd X Y * 2 ^ t = Nat.gcd A B from (gcd_both EA.out EB.out).symm)
            go_loopg [] (X + 1) (fun k wr => ∃ Z : Nat, k = Z + 1 ∧ 0 < Z ∧ Z < 170141183460469231731687303715884105728 ∧ (Z % 2 = 1 ∨ Y % 2 = 1) ∧ Nat.gcd Z Y = Nat.gcd X Y ∧ St w wr Z Y)
            case atStart => exact ⟨X, rfl, hX, lX, HO.out, rfl, s5⟩
            case round =>
              obtain ⟨Z, rfl, hZ, lZ, hO, hg, s6⟩ := hrel
              have HO2 := Lib.hid hO; have HG2 := Lib.hid hg
              clear hO hg
              clear pa0 pb0 pa1 pb1 pa2 pb2 paf pbf
              have pa0 := (s6.a).cell 0 _ rfl; have pa1 := (s6.a).cell 1 _ rfl; have pa2 := (s6.a).cell 2 _ rfl; have pb0 := (s6.b).cell 0 _ rfl; have pb1 := (s6.b).cell 1 _ rfl; have pb2 := (s6.b).cell 2 _ rfl; have paf := (s6.a).free; have pbf := (s6.b).free
              rcases Nat.mod_two_eq_zero_or_one Z with pZ | pZ
              · have PZ := Lib.hid pZ
                have z2 : Z / 2 < Z ∧ 0 < Z / 2 := half_lt pZ hZ
                clear pZ
                go_wp2_with fail
                refine ((even_at Z false rfl _).1 PZ.out).mono ?_
                rintro e w7 ⟨rfl, hb7⟩
                have s7 := St.call hb7 s6
                clear pa0 pb0 pa1 pb1 pa2 pb2 paf pbf hb7 s6
                have pa0 := (s7.a).cell 0 _ rfl; have pa1 := (s7.a).cell 1 _ rfl; have pa2 := (s7.a).cell 2 _ rfl; have pb0 := (s7.b).cell 0 _ rfl; have pb1 := (s7.b).cell 1 _ rfl; have pb2 := (s7.b).cell 2 _ rfl; have paf := (s7.a).free; have pbf := (s7.b).free
                go_wp2_with fail
                refine (half_any Z false (by omega) _).mono ?_
                rintro e w8 ⟨rfl, hb8⟩
                have s8 := St.call hb8 s7
                clear pa0 pb0 pa1 pb1 pa2 pb2 paf pbf hb8 s7
                have pa0 := (s8.a).cell 0 _ rfl; have pa1 := (s8.a).cell 1 _ rfl; have pa2 := (s8.a).cell 2 _ rfl; have pb0 := (s8.b).cell 0 _ rfl; have pb1 := (s8.b).cell 1 _ rfl; have pb2 := (s8.b).cell 2 _ rfl; have paf := (s8.a).free; have pbf := (s8.b).free
                go_wp2
                go_roundg (Z / 2 + 1)
                case measure => omega
                case rel =>
                  have pz := PZ.out
                  refine ⟨Z / 2, rfl, z2.2, by omega, ?_, ?_, St.setA s8 _⟩
                  · rcases HO2.out with h | h
                    · omega
                    · exact .inr h
                  · rw [← HG2.out]
                    rcases HO2.out with h | h
                    · omega
                    · exact gcd_half_left pz h
              · have PZ := Lib.hid pZ
                clear pZ
                go_wp2_with fail
                refine ((even_at Z false rfl _).2 PZ.out).mono ?_
                rintro e w7 ⟨rfl, hb7⟩
                have s7 := St.call hb7 s6
                clear pa0 pb0 pa1 pb1 pa2 pb2 paf pbf hb7 s6
                go_wp2_with fail
                go_loopg [] (Z + Y + 1) (fun k wr => ∃ U V : Nat, k = U + V + 1 ∧ 0 < U ∧ U % 2 = 1 ∧ U < 170141183460469231731687303715884105728 ∧ V < 170141183460469231731687303715884105728 ∧ Nat.gcd U V = Nat.gcd X Y ∧ St w wr U V)
                case atStart => exact ⟨Z, Y, rfl, hZ, PZ.out, lZ, lY, HG2.out, s7⟩
                case round =>
                  obtain ⟨wo, rfl⟩ : ∃ wo : World, wo = wr := ⟨_, rfl⟩
                  obtain ⟨U, V, rfl, hU, hU1, lU, lV, hg, s8⟩ := hrel
                  have HU := Lib.hid hU1; have HG3 := Lib.hid hg
                  clear hU1 hg
                  have pa0 := (s8.a).cell 0 _ rfl; have pa1 := (s8.a).cell 1 _ rfl; have pa2 := (s8.a).cell 2 _ rfl; have pb0 := (s8.b).cell 0 _ rfl; have pb1 := (s8.b).cell 1 _ rfl; have pb2 := (s8.b).cell 2 _ rfl; have paf := (s8.a).free; have pbf := (s8.b).free
                  rcases Nat.lt_or_ge V 1 with hV | hV
                  · go_wp2_with fail
                    refine ((zero_at V false _).1 (by omega)).mono ?_
                    rintro e w9 ⟨rfl, hb9⟩
                    have s9 := St.call hb9 s8
                    clear pa0 pb0 pa1 pb1 pa2 pb2 paf pbf hb9 s8
                    go_wp2_with fail
                    go_loopg [46] (t + 1) (fun k c wr => ∃ j : Nat, j ≤ t ∧ k = t - j + 1 ∧ c = .int .i64 j ∧ St w wr (U * 2 ^ j) V)
                    case atStart => exact ⟨0, by omega, rfl, rfl, by simpa using s9⟩
                    case round =>
                      obtain ⟨j, hj, rfl, rfl, s10⟩ := hrel
                      have fin : U * 2 ^ t = Nat.gcd A B := by rw [← HG.out, ← HG3.out, show V = 0 by omega, Nat.gcd_zero_right]
                      have hle : U * 2 ^ j ≤ U * 2 ^ t := Nat.mul_le_mul (Nat.le_refl _) (Nat.pow_le_pow_right (by decide) hj)
                      have hgl : Nat.gcd A B ≤ A := Nat.gcd_le_left _ hA0
                      have hbd : U * 2 ^ j < 170141183460469231731687303715884105728 := by omega
                      have FIN := Lib.hid fin
                      clear fin hle hgl
                      have pa0 := (s10.a).cell 0 _ rfl; have pa1 := (s10.a).cell 1 _ rfl; have pa2 := (s10.a).cell 2 _ rfl; have pb0 := (s10.b).cell 0 _ rfl; have pb1 := (s10.b).cell 1 _ rfl; have pb2 := (s10.b).cell 2 _ rfl; have paf := (s10.a).free; have pbf := (s10.b).free
                      rcases Nat.lt_or_ge j t with hjt | hjt
                      · go_wp2_with fail
                        refine (twice_any (U * 2 ^ j) false hbd _).mono ?_
                        rintro e w11 ⟨rfl, hb11⟩
                        have s11 := St.call hb11 s10
                        clear pa0 pb0 pa1 pb1 pa2 pb2 paf pbf hb11 s10
                        have pa0 := (s11.a).cell 0 _ rfl; have pa1 := (s11.a).cell 1 _ rfl; have pa2 := (s11.a).cell 2 _ rfl; have pb0 := (s11.b).cell 0 _ rfl; have pb1 := (s11.b).cell 1 _ rfl; have pb2 := (s11.b).cell 2 _ rfl; have paf := (s11.a).free; have pbf := (s11.b).free
                        go_wp2
                        go_roundg (t - (j + 1) + 1)
                        case measure => omega
                        case rel =>
                          refine ⟨j + 1, hjt, rfl, by go_num, ?_⟩
                          have e : U * 2 ^ (j + 1) = 2 * (U * 2 ^ j) := by rw [Nat.pow_succ]; grind
                          rw [e]
                          exact St.setA s11 _
                      · have pr0 := (s10.r).cell 0 _ rfl; have pr1 := (s10.r).cell 1 _ rfl; have pr2 := (s10.r).cell 2 _ rfl; have prf := (s10.r).free
                        go_wp2
                        exact bodyPost_ret (v := .agg #[.int .u64 (wh (U * 2 ^ j)), .int .u64 (wl (U * 2 ^ j)), .bool false]) (by simp [results, Try.results103, go_sem, pr0, pr1, pr2]) rfl ⟨by rw [← FIN.out, show j = t by omega], s10.below.trans (by go_grown)⟩
                  · go_wp2_with fail
                    refine ((zero_at V false _).2 (by omega)).mono ?_
                    rintro e w9 ⟨rfl, hb9⟩
                    have s9 := St.call hb9 s8
                    clear pa0 pb0 pa1 pb1 pa2 pb2 paf pbf hb9 s8
                    go_wp2_with fail
                    go_loopg [] (V + 1) (fun k wr => ∃ S : Nat, k = S + 1 ∧ 0 < S ∧ S ≤ V ∧ Nat.gcd U S = Nat.gcd X Y ∧ St w wr U S)
                    case atStart => exact ⟨V, rfl, hV, Nat.le_refl _, HG3.out, s9⟩
                    case round =>
                      obtain ⟨S, rfl, hS, lS, hg, s10⟩ := hrel
                      have HG4 := Lib.hid hg
                      clear hg
                      have pa0 := (s10.a).cell 0 _ rfl; have pa1 := (s10.a).cell 1 _ rfl; have pa2 := (s10.a).cell 2 _ rfl; have pb0 := (s10.b).cell 0 _ rfl; have pb1 := (s10.b).cell 1 _ rfl; have pb2 := (s10.b).cell 2 _ rfl; have paf := (s10.a).free; have pbf := (s10.b).free
                      rcases Nat.mod_two_eq_zero_or_one S with pS | pS
                      · have PS := Lib.hid pS
                        have z2 : S / 2 < S ∧ 0 < S / 2 := half_lt pS hS
                        clear pS
                        go_wp2_with fail
                        refine ((even_at S false rfl _).1 PS.out).mono ?_
                        rintro e w11 ⟨rfl, hb11⟩
                        have s11 := St.call hb11 s10
                        clear pa0 pb0 pa1 pb1 pa2 pb2 paf pbf hb11 s10
                        have pa0 := (s11.a).cell 0 _ rfl; have pa1 := (s11.a).cell 1 _ rfl; have pa2 := (s11.a).cell 2 _ rfl; have pb0 := (s11.b).cell 0 _ rfl; have pb1 := (s11.b).cell 1 _ rfl; have pb2 := (s11.b).cell 2 _ rfl; have paf := (s11.a).free; have pbf := (s11.b).free
                        go_wp2_with fail
                        refine (half_any S false (by omega) _).mono ?_
                        rintro e w12 ⟨rfl, hb12⟩
                        have s12 := St.call hb12 s11
                        clear pa0 pb0 pa1 pb1 pa2 pb2 paf pbf hb12 s11
                        have pa0 := (s12.a).cell 0 _ rfl; have pa1 := (s12.a).cell 1 _ rfl; have pa2 := (s12.a).cell 2 _ rfl; have pb0 := (s12.b).cell 0 _ rfl; have pb1 := (s12.b).cell 1 _ rfl; have pb2 := (s12.b).cell 2 _ rfl; have paf := (s12.a).free; have pbf := (s12.b).free
                        go_wp2
                        go_roundg (S / 2 + 1)
                        case measure => omega
                        case rel => exact ⟨S / 2, rfl, z2.2, by omega, by rw [gcd_half_right HU.out PS.out]; exact HG4.out, St.setB s12 _⟩
                      · have PS := Lib.hid pS
                        clear pS
                        go_wp2_with fail
                        refine ((even_at S false rfl _).2 PS.out).mono ?_
                        rintro e w11 ⟨rfl, hb11⟩
                        have s11 := St.call hb11 s10
                        clear pa0 pb0 pa1 pb1 pa2 pb2 paf pbf hb11 s10
                        have pa0 := (s11.a).cell 0 _ rfl; have pa1 := (s11.a).cell 1 _ rfl; have pa2 := (s11.a).cell 2 _ rfl; have pb0 := (s11.b).cell 0 _ rfl; have pb1 := (s11.b).cell 1 _ rfl; have pb2 := (s11.b).cell 2 _ rfl; have paf := (s11.a).free; have pbf := (s11.b).free
                        go_wp2_with fail
                        rcases Nat.lt_or_ge S U with hSU | hSU
                        · refine ((below_at S U false false (by omega) (by omega) _).1 hSU).mono ?_
                          rintro e w12 ⟨rfl, hb12⟩
                          have s12 := St.call hb12 s11
                          clear pa0 pb0 pa1 pb1 pa2 pb2 paf pbf hb12 s11
                          have pa0 := (s12.a).cell 0 _ rfl; have pa1 := (s12.a).cell 1 _ rfl; have pa2 := (s12.a).cell 2 _ rfl; have pb0 := (s12.b).cell 0 _ rfl; have pb1 := (s12.b).cell 1 _ rfl; have pb2 := (s12.b).cell 2 _ rfl; have paf := (s12.a).free; have pbf := (s12.b).free
                          go_wp2_with fail
                          refine (wless_any U S false false (by omega) (by omega) _).mono ?_
                          rintro e w13 ⟨rfl, hb13⟩
                          have s13 := St.call hb13 (St.setB (St.setA s12 S) U)
                          clear pa0 pb0 pa1 pb1 pa2 pb2 paf pbf hb13 s12
                          have pa0 := (s13.a).cell 0 _ rfl; have pa1 := (s13.a).cell 1 _ rfl; have pa2 := (s13.a).cell 2 _ rfl; have pb0 := (s13.b).cell 0 _ rfl; have pb1 := (s13.b).cell 1 _ rfl; have pb2 := (s13.b).cell 2 _ rfl; have paf := (s13.a).free; have pbf := (s13.b).free
                          go_wp2
                          go_roundg (S + (U - S) + 1)
                          case measure => omega
                          case rel => exact ⟨S, U - S, rfl, hS, PS.out, by omega, by omega, by rw [gcd_less (by omega), Nat.gcd_comm]; exact HG4.out, St.setB s13 _⟩
                        · refine ((below_at S U false false (by omega) (by omega) _).2 hSU).mono ?_
                          rintro e w12 ⟨rfl, hb12⟩
                          have s12 := St.call hb12 s11
                          clear pa0 pb0 pa1 pb1 pa2 pb2 paf pbf hb12 s11
                          have pa0 := (s12.a).cell 0 _ rfl; have pa1 := (s12.a).cell 1 _ rfl; have pa2 := (s12.a).cell 2 _ rfl; have pb0 := (s12.b).cell 0 _ rfl; have pb1 := (s12.b).cell 1 _ rfl; have pb2 := (s12.b).cell 2 _ rfl; have paf := (s12.a).free; have pbf := (s12.b).free
                          go_wp2_with fail
                          refine (wless_any S U false false (by omega) (by omega) _).mono ?_
                          rintro e w13 ⟨rfl, hb13⟩
                          have s13 := St.call hb13 s12
                          clear pa0 pb0 pa1 pb1 pa2 pb2 paf pbf hb13 s12
                          have pa0 := (s13.a).cell 0 _ rfl; have pa1 := (s13.a).cell 1 _ rfl; have pa2 := (s13.a).cell 2 _ rfl; have pb0 := (s13.b).cell 0 _ rfl; have pb1 := (s13.b).cell 1 _ rfl; have pb2 := (s13.b).cell 2 _ rfl; have paf := (s13.a).free; have pbf := (s13.b).free
                          go_wp2
                          go_roundg (U + (S - U) + 1)
                          case measure => omega
                          case rel => exact ⟨U, S - U, rfl, hU, HU.out, lU, by omega, by rw [gcd_less (by omega)]; exact HG4.out, St.setB s13 _⟩
        · have HO : Hid (X % 2 = 1 ∨ Y % 2 = 1) := Lib.hid (.inl pX)
          have PX := Lib.hid pX
          clear pX
          go_wp2_with fail
          refine ((even_at X false rfl _).2 PX.out).mono ?_
          rintro e w3 ⟨rfl, hb3⟩
          have s5 := St.call hb3 s3
          go_wp2_with fail
          have HG := Lib.hid (show Nat.gcd X Y * 2 ^ t = Nat.gcd A B from (gcd_both EA.out EB.out).symm)
          go_loopg [] (X + 1) (fun k wr => ∃ Z : Nat, k = Z + 1 ∧ 0 < Z ∧ Z < 170141183460469231731687303715884105728 ∧ (Z % 2 = 1 ∨ Y % 2 = 1) ∧ Nat.gcd Z Y = Nat.gcd X Y ∧ St w wr Z Y)
          case atStart => exact ⟨X, rfl, hX, lX, HO.out, rfl, s5⟩
          case round =>
            obtain ⟨Z, rfl, hZ, lZ, hO, hg, s6⟩ := hrel
            have HO2 := Lib.hid hO; have HG2 := Lib.hid hg
            clear hO hg
            clear pa0 pb0 pa1 pb1 pa2 pb2 paf pbf
            have pa0 := (s6.a).cell 0 _ rfl; have pa1 := (s6.a).cell 1 _ rfl; have pa2 := (s6.a).cell 2 _ rfl; have pb0 := (s6.b).cell 0 _ rfl; have pb1 := (s6.b).cell 1 _ rfl; have pb2 := (s6.b).cell 2 _ rfl; have paf := (s6.a).free; have pbf := (s6.b).free
            rcases Nat.mod_two_eq_zero_or_one Z with pZ | pZ
            · have PZ := Lib.hid pZ
              have z2 : Z / 2 < Z ∧ 0 < Z / 2 := half_lt pZ hZ
              clear pZ
              go_wp2_with fail
              refine ((even_at Z false rfl _).1 PZ.out).mono ?_
              rintro e w7 ⟨rfl, hb7⟩
              have s7 := St.call hb7 s6
              clear pa0 pb0 pa1 pb1 pa2 pb2 paf pbf hb7 s6
              have pa0 := (s7.a).cell 0 _ rfl; have pa1 := (s7.a).cell 1 _ rfl; have pa2 := (s7.a).cell 2 _ rfl; have pb0 := (s7.b).cell 0 _ rfl; have pb1 := (s7.b).cell 1 _ rfl; have pb2 := (s7.b).cell 2 _ rfl; have paf := (s7.a).free; have pbf := (s7.b).free
              go_wp2_with fail
              refine (half_any Z false (by omega) _).mono ?_
              rintro e w8 ⟨rfl, hb8⟩
              have s8 := St.call hb8 s7
              clear pa0 pb0 pa1 pb1 pa2 pb2 paf pbf hb8 s7
              have pa0 := (s8.a).cell 0 _ rfl; have pa1 := (s8.a).cell 1 _ rfl; have pa2 := (s8.a).cell 2 _ rfl; have pb0 := (s8.b).cell 0 _ rfl; have pb1 := (s8.b).cell 1 _ rfl; have pb2 := (s8.b).cell 2 _ rfl; have paf := (s8.a).free; have pbf := (s8.b).free
              go_wp2
              go_roundg (Z / 2 + 1)
              case measure => omega
              case rel =>
                have pz := PZ.out
                refine ⟨Z / 2, rfl, z2.2, by omega, ?_, ?_, St.setA s8 _⟩
                · rcases HO2.out with h | h
                  · omega
                  · exact .inr h
                · rw [← HG2.out]
                  rcases HO2.out with h | h
                  · omega
                  · exact gcd_half_left pz h
            · have PZ := Lib.hid pZ
              clear pZ
              go_wp2_with fail
              refine ((even_at Z false rfl _).2 PZ.out).mono ?_
              rintro e w7 ⟨rfl, hb7⟩
              have s7 := St.call hb7 s6
              clear pa0 pb0 pa1 pb1 pa2 pb2 paf pbf hb7 s6
              go_wp2_with fail
              go_loopg [] (Z + Y + 1) (fun k wr => ∃ U V : Nat, k = U + V + 1 ∧ 0 < U ∧ U % 2 = 1 ∧ U < 170141183460469231731687303715884105728 ∧ V < 170141183460469231731687303715884105728 ∧ Nat.gcd U V = Nat.gcd X Y ∧ St w wr U V)
              case atStart => exact ⟨Z, Y, rfl, hZ, PZ.out, lZ, lY, HG2.out, s7⟩
              case round =>
                obtain ⟨wo, rfl⟩ : ∃ wo : World, wo = wr := ⟨_, rfl⟩
                obtain ⟨U, V, rfl, hU, hU1, lU, lV, hg, s8⟩ := hrel
                have HU := Lib.hid hU1; have HG3 := Lib.hid hg
                clear hU1 hg
                have pa0 := (s8.a).cell 0 _ rfl; have pa1 := (s8.a).cell 1 _ rfl; have pa2 := (s8.a).cell 2 _ rfl; have pb0 := (s8.b).cell 0 _ rfl; have pb1 := (s8.b).cell 1 _ rfl; have pb2 := (s8.b).cell 2 _ rfl; have paf := (s8.a).free; have pbf := (s8.b).free
                rcases Nat.lt_or_ge V 1 with hV | hV
                · go_wp2_with fail
                  refine ((zero_at V false _).1 (by omega)).mono ?_
                  rintro e w9 ⟨rfl, hb9⟩
                  have s9 := St.call hb9 s8
                  clear pa0 pb0 pa1 pb1 pa2 pb2 paf pbf hb9 s8
                  go_wp2_with fail
                  go_loopg [46] (t + 1) (fun k c wr => ∃ j : Nat, j ≤ t ∧ k = t - j + 1 ∧ c = .int .i64 j ∧ St w wr (U * 2 ^ j) V)
                  case atStart => exact ⟨0, by omega, rfl, rfl, by simpa using s9⟩
                  case round =>
                    obtain ⟨j, hj, rfl, rfl, s10⟩ := hrel
                    have fin : U * 2 ^ t = Nat.gcd A B := by rw [← HG.out, ← HG3.out, show V = 0 by omega, Nat.gcd_zero_right]
                    have hle : U * 2 ^ j ≤ U * 2 ^ t := Nat.mul_le_mul (Nat.le_refl _) (Nat.pow_le_pow_right (by decide) hj)
                    have hgl : Nat.gcd A B ≤ A := Nat.gcd_le_left _ hA0
                    have hbd : U * 2 ^ j < 170141183460469231731687303715884105728 := by omega
                    have FIN := Lib.hid fin
                    clear fin hle hgl
                    have pa0 := (s10.a).cell 0 _ rfl; have pa1 := (s10.a).cell 1 _ rfl; have pa2 := (s10.a).cell 2 _ rfl; have pb0 := (s10.b).cell 0 _ rfl; have pb1 := (s10.b).cell 1 _ rfl; have pb2 := (s10.b).cell 2 _ rfl; have paf := (s10.a).free; have pbf := (s10.b).free
                    rcases Nat.lt_or_ge j t with hjt | hjt
                    · go_wp2_with fail
                      refine (twice_any (U * 2 ^ j) false hbd _).mono ?_
                      rintro e w11 ⟨rfl, hb11⟩
                      have s11 := St.call hb11 s10
                      clear pa0 pb0 pa1 pb1 pa2 pb2 paf pbf hb11 s10
                      have pa0 := (s11.a).cell 0 _ rfl; have pa1 := (s11.a).cell 1 _ rfl; have pa2 := (s11.a).cell 2 _ rfl; have pb0 := (s11.b).cell 0 _ rfl; have pb1 := (s11.b).cell 1 _ rfl; have pb2 := (s11.b).cell 2 _ rfl; have paf := (s11.a).free; have pbf := (s11.b).free
                      go_wp2
                      go_roundg (t - (j + 1) + 1)
                      case measure => omega
                      case rel =>
                        refine ⟨j + 1, hjt, rfl, by go_num, ?_⟩
                        have e : U * 2 ^ (j + 1) = 2 * (U * 2 ^ j) := by rw [Nat.pow_succ]; grind
                        rw [e]
                        exact St.setA s11 _
                    · have pr0 := (s10.r).cell 0 _ rfl; have pr1 := (s10.r).cell 1 _ rfl; have pr2 := (s10.r).cell 2 _ rfl; have prf := (s10.r).free
                      go_wp2
                      exact bodyPost_ret (v := .agg #[.int .u64 (wh (U * 2 ^ j)), .int .u64 (wl (U * 2 ^ j)), .bool false]) (by simp [results, Try.results103, go_sem, pr0, pr1, pr2]) rfl ⟨by rw [← FIN.out, show j = t by omega], s10.below.trans (by go_grown)⟩
                · go_wp2_with fail
                  refine ((zero_at V false _).2 (by omega)).mono ?_
                  rintro e w9 ⟨rfl, hb9⟩
                  have s9 := St.call hb9 s8
                  clear pa0 pb0 pa1 pb1 pa2 pb2 paf pbf hb9 s8
                  go_wp2_with fail
                  go_loopg [] (V + 1) (fun k wr => ∃ S : Nat, k = S + 1 ∧ 0 < S ∧ S ≤ V ∧ Nat.gcd U S = Nat.gcd X Y ∧ St w wr U S)
                  case atStart => exact ⟨V, rfl, hV, Nat.le_refl _, HG3.out, s9⟩
                  case round =>
                    obtain ⟨S, rfl, hS, lS, hg, s10⟩ := hrel
                    have HG4 := Lib.hid hg
                    clear hg
                    have pa0 := (s10.a).cell 0 _ rfl; have pa1 := (s10.a).cell 1 _ rfl; have pa2 := (s10.a).cell 2 _ rfl; have pb0 := (s10.b).cell 0 _ rfl; have pb1 := (s10.b).cell 1 _ rfl; have pb2 := (s10.b).cell 2 _ rfl; have paf := (s10.a).free; have pbf := (s10.b).free
                    rcases Nat.mod_two_eq_zero_or_one S with pS | pS
                    · have PS := Lib.hid pS
                      have z2 : S / 2 < S ∧ 0 < S / 2 := half_lt pS hS
                      clear pS
                      go_wp2_with fail
                      refine ((even_at S false rfl _).1 PS.out).mono ?_
                      rintro e w11 ⟨rfl, hb11⟩
                      have s11 := St.call hb11 s10
                      clear pa0 pb0 pa1 pb1 pa2 pb2 paf pbf hb11 s10
                      have pa0 := (s11.a).cell 0 _ rfl; have pa1 := (s11.a).cell 1 _ rfl; have pa2 := (s11.a).cell 2 _ rfl; have pb0 := (s11.b).cell 0 _ rfl; have pb1 := (s11.b).cell 1 _ rfl; have pb2 := (s11.b).cell 2 _ rfl; have paf := (s11.a).free; have pbf := (s11.b).free
                      go_wp2_with fail
                      refine (half_any S false (by omega) _).mono ?_
                      rintro e w12 ⟨rfl, hb12⟩
                      have s12 := St.call hb12 s11
                      clear pa0 pb0 pa1 pb1 pa2 pb2 paf pbf hb12 s11
                      have pa0 := (s12.a).cell 0 _ rfl; have pa1 := (s12.a).cell 1 _ rfl; have pa2 := (s12.a).cell 2 _ rfl; have pb0 := (s12.b).cell 0 _ rfl; have pb1 := (s12.b).cell 1 _ rfl; have pb2 := (s12.b).cell 2 _ rfl; have paf := (s12.a).free; have pbf := (s12.b).free
                      go_wp2
                      go_roundg (S / 2 + 1)
                      case measure => omega
                      case rel => exact ⟨S / 2, rfl, z2.2, by omega, by rw [gcd_half_right HU.out PS.out]; exact HG4.out, St.setB s12 _⟩
                    · have PS := Lib.hid pS
                      clear pS
                      go_wp2_with fail
                      refine ((even_at S false rfl _).2 PS.out).mono ?_
                      rintro e w11 ⟨rfl, hb11⟩
                      have s11 := St.call hb11 s10
                      clear pa0 pb0 pa1 pb1 pa2 pb2 paf pbf hb11 s10
                      have pa0 := (s11.a).cell 0 _ rfl; have pa1 := (s11.a).cell 1 _ rfl; have pa2 := (s11.a).cell 2 _ rfl; have pb0 := (s11.b).cell 0 _ rfl; have pb1 := (s11.b).cell 1 _ rfl; have pb2 := (s11.b).cell 2 _ rfl; have paf := (s11.a).free; have pbf := (s11.b).free
                      go_wp2_with fail
                      rcases Nat.lt_or_ge S U with hSU | hSU
                      · refine ((below_at S U false false (by omega) (by omega) _).1 hSU).mono ?_
                        rintro e w12 ⟨rfl, hb12⟩
                        have s12 := St.call hb12 s11
                        clear pa0 pb0 pa1 pb1 pa2 pb2 paf pbf hb12 s11
                        have pa0 := (s12.a).cell 0 _ rfl; have pa1 := (s12.a).cell 1 _ rfl; have pa2 := (s12.a).cell 2 _ rfl; have pb0 := (s12.b).cell 0 _ rfl; have pb1 := (s12.b).cell 1 _ rfl; have pb2 := (s12.b).cell 2 _ rfl; have paf := (s12.a).free; have pbf := (s12.b).free
                        go_wp2_with fail
                        refine (wless_any U S false false (by omega) (by omega) _).mono ?_
                        rintro e w13 ⟨rfl, hb13⟩
                        have s13 := St.call hb13 (St.setB (St.setA s12 S) U)
                        clear pa0 pb0 pa1 pb1 pa2 pb2 paf pbf hb13 s12
                        have pa0 := (s13.a).cell 0 _ rfl; have pa1 := (s13.a).cell 1 _ rfl; have pa2 := (s13.a).cell 2 _ rfl; have pb0 := (s13.b).cell 0 _ rfl; have pb1 := (s13.b).cell 1 _ rfl; have pb2 := (s13.b).cell 2 _ rfl; have paf := (s13.a).free; have pbf := (s13.b).free
                        go_wp2
                        go_roundg (S + (U - S) + 1)
                        case measure => omega
                        case rel => exact ⟨S, U - S, rfl, hS, PS.out, by omega, by omega, by rw [gcd_less (by omega), Nat.gcd_comm]; exact HG4.out, St.setB s13 _⟩
                      · refine ((below_at S U false false (by omega) (by omega) _).2 hSU).mono ?_
                        rintro e w12 ⟨rfl, hb12⟩
                        have s12 := St.call hb12 s11
                        clear pa0 pb0 pa1 pb1 pa2 pb2 paf pbf hb12 s11
                        have pa0 := (s12.a).cell 0 _ rfl; have pa1 := (s12.a).cell 1 _ rfl; have pa2 := (s12.a).cell 2 _ rfl; have pb0 := (s12.b).cell 0 _ rfl; have pb1 := (s12.b).cell 1 _ rfl; have pb2 := (s12.b).cell 2 _ rfl; have paf := (s12.a).free; have pbf := (s12.b).free
                        go_wp2_with fail
                        refine (wless_any S U false false (by omega) (by omega) _).mono ?_
                        rintro e w13 ⟨rfl, hb13⟩
                        have s13 := St.call hb13 s12
                        clear pa0 pb0 pa1 pb1 pa2 pb2 paf pbf hb13 s12
                        have pa0 := (s13.a).cell 0 _ rfl; have pa1 := (s13.a).cell 1 _ rfl; have pa2 := (s13.a).cell 2 _ rfl; have pb0 := (s13.b).cell 0 _ rfl; have pb1 := (s13.b).cell 1 _ rfl; have pb2 := (s13.b).cell 2 _ rfl; have paf := (s13.a).free; have pbf := (s13.b).free
                        go_wp2
                        go_roundg (U + (S - U) + 1)
                        case measure => omega
                        case rel => exact ⟨U, S - U, rfl, hU, HU.out, lU, by omega, by rw [gcd_less (by omega)]; exact HG4.out, St.setB s13 _⟩
end Go.Proofs.Ytdegpgonphgbcaa
