/-
  Words and operators from a deck (timeboundmake.Word, Op).
-/
import Derived.Test.YtonbmijhbbodnaaZImG
import Derived.Test.YtonbmijhbbodnaaDeck
namespace Go.Proofs.Ytonbmijhbbodnaa
open Go.RowKit

def WordTaken (d : Nat) (w : World) (e : Ending) (w' : World) : Prop := ∃ r : Int, e = .returned (.int .i64 r) ∧ Wd r ∧ Deck w' d ∧ But d w w'
def OpTaken (d : Nat) (w : World) (e : Ending) (w' : World) : Prop := ∃ r : Int, e = .returned (.int .i64 r) ∧ 1 ≤ r ∧ r ≤ 14 ∧ Deck w' d ∧ But d w w'
theorem shl_wd (r : Int) (h0 : 0 ≤ r) (h1 : r < 31) : (1 : Int) ≤ 2 ^ r.toNat ∧ (2 : Int) ^ r.toNat < 2147483648 := by
  obtain ⟨n, rfl⟩ := Int.eq_ofNat_of_zero_le h0
  have hn : n < 31 := by omega
  rw [Int.toNat_natCast]
  have h := Nat.pow_le_pow_right (n := 2) (by omega) (show n ≤ 30 by omega)
  have h2 := Nat.one_le_two_pow (n := n)
  have e : (2 : Int) ^ n = ((2 ^ n : Nat) : Int) := by simp
  rw [e]
  omega
set_option maxHeartbeats 2000000 in
theorem dop_any (d : Nat) (w : World) (hd : Deck w d) : Calls Try.prog 34 #[.pointer (some ⟨d, 0, none⟩)] w (OpTaken d w) := by
  have HD := Lib.hid hd
  clear hd
  go_enter Try.func34, Try.ntmps34
  go_wp2_with fail
  refine (next_any d 14 (by omega) (by omega) w HD.out).mono ?_
  rintro e w1 ⟨r, rfl, r0, r1, hd1, hb1⟩
  go_wp2
  go_ret
  exact ⟨1 + r, rfl, by omega, by omega, hd1, hb1⟩
set_option maxHeartbeats 4000000 in
theorem dword_any (d : Nat) (w : World) (hd : Deck w d) : Calls Try.prog 13 #[.pointer (some ⟨d, 0, none⟩)] w (WordTaken d w) := by
  have HD := Lib.hid hd
  clear hd
  go_enter Try.func13, Try.ntmps13
  go_wp2_with fail
  refine (next_any d 8 (by omega) (by omega) w HD.out).mono ?_
  rintro e w1 ⟨r, rfl, r0, r1, hd1, hb1⟩
  have H1 := Lib.hid hd1; have B1 := Lib.hid hb1
  clear hd1 hb1 HD
  rcases (show r = 0 ∨ r = 1 ∨ r = 2 ∨ r = 3 ∨ 4 ≤ r by omega) with rfl | rfl | rfl | rfl | h4
  · go_wp2_with fail
    refine (next_any d 20 (by omega) (by omega) w1 H1.out).mono ?_
    rintro e w2 ⟨q, rfl, q0, q1, hd2, hb2⟩
    go_wp2
    go_ret
    exact ⟨-q, rfl, by unfold Wd; omega, hd2, B1.out.trans hb2⟩
  · go_wp2_with fail
    refine (next_any d 5 (by omega) (by omega) w1 H1.out).mono ?_
    rintro e w2 ⟨q, rfl, q0, q1, hd2, hb2⟩
    go_wp2
    go_ret
    exact ⟨2147483647 - q, rfl, by unfold Wd; omega, hd2, B1.out.trans hb2⟩
  · go_wp2_with fail
    refine (next_any d 5 (by omega) (by omega) w1 H1.out).mono ?_
    rintro e w2 ⟨q, rfl, q0, q1, hd2, hb2⟩
    go_wp2
    go_ret
    exact ⟨-2147483648 + q, rfl, by unfold Wd; omega, hd2, B1.out.trans hb2⟩
  · go_wp2_with fail
    refine (next_any d 31 (by omega) (by omega) w1 H1.out).mono ?_
    rintro e w2 ⟨q, rfl, q0, q1, hd2, hb2⟩
    have hs := Lib.hid (shl_wd q q0 q1)
    go_wp2
    go_ret
    have he : wrap64 (2 ^ q.toNat) = 2 ^ q.toNat := by have := hs.out; unfold wrap64; omega
    exact ⟨2 ^ q.toNat, by show Ending.returned (.int .i64 (wrap64 (2 ^ q.toNat))) = _; rw [he], by have := hs.out; unfold Wd; omega, hd2, B1.out.trans hb2⟩
  · have e0 : (r == 0) = false := by simp; omega
    have e1 : (r == 1) = false := by simp; omega
    have e2 : (r == 2) = false := by simp; omega
    have e3 : (r == 3) = false := by simp; omega
    go_wp2_with fail
    refine (next_any d 20 (by omega) (by omega) w1 H1.out).mono ?_
    rintro e w2 ⟨q, rfl, q0, q1, hd2, hb2⟩
    go_wp2
    go_ret
    exact ⟨q, rfl, by unfold Wd; omega, hd2, B1.out.trans hb2⟩
end Go.Proofs.Ytonbmijhbbodnaa
