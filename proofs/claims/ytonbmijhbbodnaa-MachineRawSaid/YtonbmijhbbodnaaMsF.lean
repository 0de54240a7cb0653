/-
  The program's operations on words (word.Do). (printed by mkMsF.py)
-/
import Derived.Outline
import Derived.Laws.EntriesVeiled
import Derived.Test.YtonbmijhbbodnaaZImG
import Derived.Test.YtonbmijhbbodnaaZInE
namespace Go.Proofs.Ytonbmijhbbodnaa
open Go.RowKit

theorem wrap_all2 (n : Int) : wrap64 (wrap32 (n % 4294967296)) = w32 n := by unfold wrap64 wrap32 w32; omega
theorem and31 (n : Int) : bits .and .i64 n 31 = n % 32 := by
  have h31 : (BitVec.ofInt 64 31).toNat = 2 ^ 5 - 1 := by decide
  have key : (BitVec.ofInt 64 n &&& BitVec.ofInt 64 31).toNat = (n % ((2 ^ 64 : Nat) : Int)).toNat % 2 ^ 5 := by
    rw [BitVec.toNat_and, BitVec.toNat_ofInt, h31, Nat.and_two_pow_sub_one_eq_mod]
  show IntKind.i64.wrap ((BitVec.ofInt 64 n &&& BitVec.ofInt 64 31).toNat : Nat) = n % 32
  rw [key, IntKind.wrap_i64]
  omega
theorem u64_small {m : Int} (h0 : 0 ≤ m) (h1 : m < 32) : IntKind.u64.wrap m = m := by
  have : IntKind.u64.wrap m = m % 18446744073709551616 := by simp [IntKind.wrap, IntKind.bits, IntKind.signed]
  rw [this]; omega
theorem wrapg_any (n : Int) (w : World) : Calls Try.prog 52 #[.int .i64 n] w fun e w' => e = .returned (.int .i64 (w32 n)) ∧ w = w' := by
  go_enter Try.func52, Try.ntmps52
  go_wp2
  go_ret
  exact ⟨by show Ending.returned (.int .i64 (wrap64 (wrap32 (n % 4294967296)))) = _; rw [wrap_all2], rfl⟩
theorem mtruth_any (b : Bool) (w : World) : Calls Try.prog 130 #[.bool b] w fun e w' => e = .returned (.int .i64 (if b then 1 else 0)) ∧ w = w' := by
  cases b
  all_goals
    go_enter Try.func130, Try.ntmps130
    go_wp2
    go_ret
    exact ⟨rfl, rfl⟩
abbrev OPS : Value := .agg #[.func (.func 119) #[] #[], .func (.func 120) #[] #[], .func (.func 121) #[] #[], .func (.func 122) #[] #[], .func (.func 123) #[] #[], .func (.func 124) #[] #[], .func (.func 125) #[] #[], .func (.func 126) #[] #[], .func (.func 127) #[] #[], .func (.func 128) #[] #[], .func (.func 129) #[] #[], .func (.func 131) #[] #[], .func (.func 132) #[] #[], .func (.func 133) #[] #[]]
set_option maxHeartbeats 4000000 in
theorem mops_any (w : World) : Calls Try.prog 93 #[] w fun e w' => e = .returned OPS ∧ Below w.heap.size w w' := by
  have F0 := Lib.hid (Fm.new (Fm.start Non w) rfl (OPS.cells.toList) 137)
  go_enter Try.func93, Try.ntmps93
  go_wp2
  refine bodyPost_ret (v := OPS) (by simp [results, Try.results93, go_sem]) rfl ⟨rfl, ?_⟩
  exact (Below.refl _ _).alloc (Nat.le_refl _) _
def MDoRet (op x y : Int) (w : World) (e : Ending) (w' : World) : Prop := e = .returned (.tuple #[.int .i64 (doI op x y), .int .i64 0]) ∧ Below w.heap.size w w'
theorem wrapx {n : Int} (h : w32 n = n) (w : World) : Calls Try.prog 52 #[.int .i64 n] w fun e w' => e = .returned (.int .i64 n) ∧ w = w' := by
  have := wrapg_any n w
  rwa [h] at this
set_option maxHeartbeats 2000000 in
theorem mop1 (x y : Int) (hx : Wd x) (hy : Wd y) (w : World) : Calls Try.prog 119 #[.int .i64 x, .int .i64 y] w fun e w' => e = .returned (.int .i64 (doA 1 x y)) ∧ w = w' := by
  have hx0 := hx.1; have hx1 := hx.2; have hy0 := hy.1; have hy1 := hy.2
  clear hx hy
  go_enter Try.func119, Try.ntmps119
  go_wp2
  go_ret
  exact ⟨by simp [doA], rfl⟩
set_option maxHeartbeats 2000000 in
theorem mop2 (x y : Int) (hx : Wd x) (hy : Wd y) (w : World) : Calls Try.prog 120 #[.int .i64 x, .int .i64 y] w fun e w' => e = .returned (.int .i64 (doA 2 x y)) ∧ w = w' := by
  have hx0 := hx.1; have hx1 := hx.2; have hy0 := hy.1; have hy1 := hy.2
  clear hx hy
  go_enter Try.func120, Try.ntmps120
  go_wp2
  go_ret
  exact ⟨by simp [doA], rfl⟩
set_option maxHeartbeats 2000000 in
theorem mop3 (x y : Int) (hx : Wd x) (hy : Wd y) (w : World) : Calls Try.prog 121 #[.int .i64 x, .int .i64 y] w fun e w' => e = .returned (.int .i64 (doA 3 x y)) ∧ w = w' := by
  have hx0 := hx.1; have hx1 := hx.2; have hy0 := hy.1; have hy1 := hy.2
  clear hx hy
  go_enter Try.func121, Try.ntmps121
  go_wp2
  go_ret
  exact ⟨by simp [doA], rfl⟩
set_option maxHeartbeats 2000000 in
theorem mop4 (x y : Int) (hx : Wd x) (hy : Wd y) (w : World) : Calls Try.prog 122 #[.int .i64 x, .int .i64 y] w fun e w' => e = .returned (.int .i64 (doA 4 x y)) ∧ w = w' := by
  have hx0 := hx.1; have hx1 := hx.2; have hy0 := hy.1; have hy1 := hy.2
  clear hx hy
  by_cases hz : y = 0
  · subst hz
    go_enter Try.func122, Try.ntmps122
    go_wp2
    go_ret
    exact ⟨by simp [doA], rfl⟩
  · have HZ := Lib.hid hz
    have h0 : (y == 0) = false := by simpa using hz
    have h1 : (y != 0) = true := by simpa using hz
    go_enter Try.func122, Try.ntmps122
    go_wp2
    go_ret
    exact ⟨by simp [doA, HZ.out], rfl⟩
set_option maxHeartbeats 2000000 in
theorem mop5 (x y : Int) (hx : Wd x) (hy : Wd y) (w : World) : Calls Try.prog 123 #[.int .i64 x, .int .i64 y] w fun e w' => e = .returned (.int .i64 (doA 5 x y)) ∧ w = w' := by
  have hx0 := hx.1; have hx1 := hx.2; have hy0 := hy.1; have hy1 := hy.2
  clear hx hy
  by_cases hz : y = 0
  · subst hz
    go_enter Try.func123, Try.ntmps123
    go_wp2
    go_ret
    exact ⟨by simp [doA], rfl⟩
  · have HZ := Lib.hid hz
    have h0 : (y == 0) = false := by simpa using hz
    have h1 : (y != 0) = true := by simpa using hz
    go_enter Try.func123, Try.ntmps123
    go_wp2
    go_ret
    exact ⟨by simp [doA, HZ.out], rfl⟩
set_option maxHeartbeats 2000000 in
theorem mop6 (x y : Int) (hx : Wd x) (hy : Wd y) (w : World) : Calls Try.prog 124 #[.int .i64 x, .int .i64 y] w fun e w' => e = .returned (.int .i64 (doA 6 x y)) ∧ w = w' := by
  have hx0 := hx.1; have hx1 := hx.2; have hy0 := hy.1; have hy1 := hy.2
  clear hx hy
  go_enter Try.func124, Try.ntmps124
  go_wp2
  go_ret
  exact ⟨by simp [doA], rfl⟩
set_option maxHeartbeats 2000000 in
theorem mop7 (x y : Int) (hx : Wd x) (hy : Wd y) (w : World) : Calls Try.prog 125 #[.int .i64 x, .int .i64 y] w fun e w' => e = .returned (.int .i64 (doA 7 x y)) ∧ w = w' := by
  have hx0 := hx.1; have hx1 := hx.2; have hy0 := hy.1; have hy1 := hy.2
  clear hx hy
  go_enter Try.func125, Try.ntmps125
  go_wp2
  go_ret
  exact ⟨by simp [doA], rfl⟩
set_option maxHeartbeats 2000000 in
theorem mop8 (x y : Int) (hx : Wd x) (hy : Wd y) (w : World) : Calls Try.prog 126 #[.int .i64 x, .int .i64 y] w fun e w' => e = .returned (.int .i64 (doA 8 x y)) ∧ w = w' := by
  have hx0 := hx.1; have hx1 := hx.2; have hy0 := hy.1; have hy1 := hy.2
  clear hx hy
  go_enter Try.func126, Try.ntmps126
  go_wp2
  go_ret
  exact ⟨by simp [doA], rfl⟩
set_option maxHeartbeats 2000000 in
theorem mop9 (x y : Int) (hx : Wd x) (hy : Wd y) (w : World) : Calls Try.prog 127 #[.int .i64 x, .int .i64 y] w fun e w' => e = .returned (.int .i64 (doA 9 x y)) ∧ w = w' := by
  have hx0 := hx.1; have hx1 := hx.2; have hy0 := hy.1; have hy1 := hy.2
  clear hx hy
  obtain ⟨m, hm⟩ : ∃ m : Int, m = bits .and .i64 y 31 := ⟨_, rfl⟩
  have m0 : 0 ≤ m := by rw [hm, and31]; omega
  have m1 : m < 32 := by rw [hm, and31]; omega
  have HM := Lib.hid hm
  have HU := Lib.hid (u64_small m0 m1)
  have hm2 := hm.symm
  clear hm
  go_enter Try.func127, Try.ntmps127
  go_wp2
  go_ret
  exact ⟨by simp [doA, ← HM.out, HU.out, show min m.toNat 64 = m.toNat by omega], rfl⟩
set_option maxHeartbeats 2000000 in
theorem mop10 (x y : Int) (hx : Wd x) (hy : Wd y) (w : World) : Calls Try.prog 128 #[.int .i64 x, .int .i64 y] w fun e w' => e = .returned (.int .i64 (doA 10 x y)) ∧ w = w' := by
  have hx0 := hx.1; have hx1 := hx.2; have hy0 := hy.1; have hy1 := hy.2
  clear hx hy
  obtain ⟨m, hm⟩ : ∃ m : Int, m = bits .and .i64 y 31 := ⟨_, rfl⟩
  have m0 : 0 ≤ m := by rw [hm, and31]; omega
  have m1 : m < 32 := by rw [hm, and31]; omega
  have HM := Lib.hid hm
  have HU := Lib.hid (u64_small m0 m1)
  have hm2 := hm.symm
  clear hm
  go_enter Try.func128, Try.ntmps128
  go_wp2
  go_ret
  exact ⟨by simp [doA, ← HM.out, HU.out, show min m.toNat 64 = m.toNat by omega], rfl⟩
set_option maxHeartbeats 2000000 in
theorem mop11 (x y : Int) (hx : Wd x) (hy : Wd y) (w : World) : Calls Try.prog 129 #[.int .i64 x, .int .i64 y] w fun e w' => e = .returned (.int .i64 (doA 11 x y)) ∧ w = w' := by
  have hx0 := hx.1; have hx1 := hx.2; have hy0 := hy.1; have hy1 := hy.2
  clear hx hy
  go_enter Try.func129, Try.ntmps129
  go_wp2_with fail
  refine (mtruth_any (decide (x < y)) _).mono ?_
  rintro e w1 ⟨rfl, rfl⟩
  obtain ⟨t, ht⟩ : ∃ t : Int, t = (if (decide (x < y)) then 1 else 0) := ⟨_, rfl⟩
  rw [← ht]
  have HT := Lib.hid ht
  clear ht
  go_wp2
  go_ret
  exact ⟨by simp [doA, HT.out], rfl⟩
set_option maxHeartbeats 2000000 in
theorem mop12 (x y : Int) (hx : Wd x) (hy : Wd y) (w : World) : Calls Try.prog 131 #[.int .i64 x, .int .i64 y] w fun e w' => e = .returned (.int .i64 (doA 12 x y)) ∧ w = w' := by
  have hx0 := hx.1; have hx1 := hx.2; have hy0 := hy.1; have hy1 := hy.2
  clear hx hy
  go_enter Try.func131, Try.ntmps131
  go_wp2_with fail
  refine (mtruth_any (decide (x ≤ y)) _).mono ?_
  rintro e w1 ⟨rfl, rfl⟩
  obtain ⟨t, ht⟩ : ∃ t : Int, t = (if (decide (x ≤ y)) then 1 else 0) := ⟨_, rfl⟩
  rw [← ht]
  have HT := Lib.hid ht
  clear ht
  go_wp2
  go_ret
  exact ⟨by simp [doA, HT.out], rfl⟩
set_option maxHeartbeats 2000000 in
theorem mop13 (x y : Int) (hx : Wd x) (hy : Wd y) (w : World) : Calls Try.prog 132 #[.int .i64 x, .int .i64 y] w fun e w' => e = .returned (.int .i64 (doA 13 x y)) ∧ w = w' := by
  have hx0 := hx.1; have hx1 := hx.2; have hy0 := hy.1; have hy1 := hy.2
  clear hx hy
  go_enter Try.func132, Try.ntmps132
  go_wp2_with fail
  refine (mtruth_any (x == y) _).mono ?_
  rintro e w1 ⟨rfl, rfl⟩
  obtain ⟨t, ht⟩ : ∃ t : Int, t = (if (x == y) then 1 else 0) := ⟨_, rfl⟩
  rw [← ht]
  have HT := Lib.hid ht
  clear ht
  go_wp2
  go_ret
  exact ⟨by simp [doA, HT.out], rfl⟩
set_option maxHeartbeats 2000000 in
theorem mop14 (x y : Int) (hx : Wd x) (hy : Wd y) (w : World) : Calls Try.prog 133 #[.int .i64 x, .int .i64 y] w fun e w' => e = .returned (.int .i64 (doA 14 x y)) ∧ w = w' := by
  have hx0 := hx.1; have hx1 := hx.2; have hy0 := hy.1; have hy1 := hy.2
  clear hx hy
  go_enter Try.func133, Try.ntmps133
  go_wp2_with fail
  refine (mtruth_any (x != y) _).mono ?_
  rintro e w1 ⟨rfl, rfl⟩
  obtain ⟨t, ht⟩ : ∃ t : Int, t = (if (x != y) then 1 else 0) := ⟨_, rfl⟩
  rw [← ht]
  have HT := Lib.hid ht
  clear ht
  go_wp2
  go_ret
  exact ⟨by simp [doA, HT.out], rfl⟩
set_option maxRecDepth 100000 in
set_option maxHeartbeats 4000000 in
theorem mdo1 (x y : Int) (hx : Wd x) (hy : Wd y) (w : World) : Calls Try.prog 69 #[.int .i64 1, .int .i64 x, .int .i64 y] w (MDoRet 1 x y w) := by
  have HX := Lib.hid (w32_id hx); have HY := Lib.hid (w32_id hy)
  have C := Lib.hid (mop1 x y hx hy)
  clear hx hy
  have i0 : ∀ w : World, (Instr.index 137 OPS (.int .i64 0)).run Try.prog w = .ok (.func (.func 119) #[] #[]) w := fun _ => by kernel_rfl
  go_enter Try.func69, Try.ntmps69
  go_wp2_with fail
  refine (known_any 1 _).mono ?_
  rintro e w1 ⟨rfl, hw1⟩
  subst hw1
  rw [show opB 1 = true from by decide]
  go_wp2
  refine wp_region_below (by kernel_rfl) (by kernel_rfl) ?_
  repeat (go_big_quiet_step ((first | (go_at_call 93; (with_reducible exact calls_below _ (mops_any _))) | (go_at_call 119; (with_reducible exact calls_same _ (C.out _))) | (go_at_call 52; (first | (with_reducible exact calls_same _ (wrapx HX.out _)) | (with_reducible exact calls_same _ (wrapx HY.out _)) | (with_reducible exact calls_same _ (wrapg_any _ _)))))))
  refine wpQuiet_nil ?_
  rintro w' ⟨s, rfl⟩
  obtain ⟨w7, ok7⟩ := s
  go_wp2
  exact bodyPost_ret (v := .tuple #[.int .i64 (w32 (doA 1 x y)), .int .i64 0]) (by simp [results, Try.results69, go_sem]) rfl ⟨rfl, ok7⟩
set_option maxRecDepth 100000 in
set_option maxHeartbeats 4000000 in
theorem mdo2 (x y : Int) (hx : Wd x) (hy : Wd y) (w : World) : Calls Try.prog 69 #[.int .i64 2, .int .i64 x, .int .i64 y] w (MDoRet 2 x y w) := by
  have HX := Lib.hid (w32_id hx); have HY := Lib.hid (w32_id hy)
  have C := Lib.hid (mop2 x y hx hy)
  clear hx hy
  have i0 : ∀ w : World, (Instr.index 137 OPS (.int .i64 1)).run Try.prog w = .ok (.func (.func 120) #[] #[]) w := fun _ => by kernel_rfl
  go_enter Try.func69, Try.ntmps69
  go_wp2_with fail
  refine (known_any 2 _).mono ?_
  rintro e w1 ⟨rfl, hw1⟩
  subst hw1
  rw [show opB 2 = true from by decide]
  go_wp2
  refine wp_region_below (by kernel_rfl) (by kernel_rfl) ?_
  repeat (go_big_quiet_step ((first | (go_at_call 93; (with_reducible exact calls_below _ (mops_any _))) | (go_at_call 120; (with_reducible exact calls_same _ (C.out _))) | (go_at_call 52; (first | (with_reducible exact calls_same _ (wrapx HX.out _)) | (with_reducible exact calls_same _ (wrapx HY.out _)) | (with_reducible exact calls_same _ (wrapg_any _ _)))))))
  refine wpQuiet_nil ?_
  rintro w' ⟨s, rfl⟩
  obtain ⟨w7, ok7⟩ := s
  go_wp2
  exact bodyPost_ret (v := .tuple #[.int .i64 (w32 (doA 2 x y)), .int .i64 0]) (by simp [results, Try.results69, go_sem]) rfl ⟨rfl, ok7⟩
set_option maxRecDepth 100000 in
set_option maxHeartbeats 4000000 in
theorem mdo3 (x y : Int) (hx : Wd x) (hy : Wd y) (w : World) : Calls Try.prog 69 #[.int .i64 3, .int .i64 x, .int .i64 y] w (MDoRet 3 x y w) := by
  have HX := Lib.hid (w32_id hx); have HY := Lib.hid (w32_id hy)
  have C := Lib.hid (mop3 x y hx hy)
  clear hx hy
  have i0 : ∀ w : World, (Instr.index 137 OPS (.int .i64 2)).run Try.prog w = .ok (.func (.func 121) #[] #[]) w := fun _ => by kernel_rfl
  go_enter Try.func69, Try.ntmps69
  go_wp2_with fail
  refine (known_any 3 _).mono ?_
  rintro e w1 ⟨rfl, hw1⟩
  subst hw1
  rw [show opB 3 = true from by decide]
  go_wp2
  refine wp_region_below (by kernel_rfl) (by kernel_rfl) ?_
  repeat (go_big_quiet_step ((first | (go_at_call 93; (with_reducible exact calls_below _ (mops_any _))) | (go_at_call 121; (with_reducible exact calls_same _ (C.out _))) | (go_at_call 52; (first | (with_reducible exact calls_same _ (wrapx HX.out _)) | (with_reducible exact calls_same _ (wrapx HY.out _)) | (with_reducible exact calls_same _ (wrapg_any _ _)))))))
  refine wpQuiet_nil ?_
  rintro w' ⟨s, rfl⟩
  obtain ⟨w7, ok7⟩ := s
  go_wp2
  exact bodyPost_ret (v := .tuple #[.int .i64 (w32 (doA 3 x y)), .int .i64 0]) (by simp [results, Try.results69, go_sem]) rfl ⟨rfl, ok7⟩
set_option maxRecDepth 100000 in
set_option maxHeartbeats 4000000 in
theorem mdo4 (x y : Int) (hx : Wd x) (hy : Wd y) (w : World) : Calls Try.prog 69 #[.int .i64 4, .int .i64 x, .int .i64 y] w (MDoRet 4 x y w) := by
  have HX := Lib.hid (w32_id hx); have HY := Lib.hid (w32_id hy)
  have C := Lib.hid (mop4 x y hx hy)
  clear hx hy
  have i0 : ∀ w : World, (Instr.index 137 OPS (.int .i64 3)).run Try.prog w = .ok (.func (.func 122) #[] #[]) w := fun _ => by kernel_rfl
  go_enter Try.func69, Try.ntmps69
  go_wp2_with fail
  refine (known_any 4 _).mono ?_
  rintro e w1 ⟨rfl, hw1⟩
  subst hw1
  rw [show opB 4 = true from by decide]
  go_wp2
  refine wp_region_below (by kernel_rfl) (by kernel_rfl) ?_
  repeat (go_big_quiet_step ((first | (go_at_call 93; (with_reducible exact calls_below _ (mops_any _))) | (go_at_call 122; (with_reducible exact calls_same _ (C.out _))) | (go_at_call 52; (first | (with_reducible exact calls_same _ (wrapx HX.out _)) | (with_reducible exact calls_same _ (wrapx HY.out _)) | (with_reducible exact calls_same _ (wrapg_any _ _)))))))
  refine wpQuiet_nil ?_
  rintro w' ⟨s, rfl⟩
  obtain ⟨w7, ok7⟩ := s
  go_wp2
  exact bodyPost_ret (v := .tuple #[.int .i64 (w32 (doA 4 x y)), .int .i64 0]) (by simp [results, Try.results69, go_sem]) rfl ⟨rfl, ok7⟩
set_option maxRecDepth 100000 in
set_option maxHeartbeats 4000000 in
theorem mdo5 (x y : Int) (hx : Wd x) (hy : Wd y) (w : World) : Calls Try.prog 69 #[.int .i64 5, .int .i64 x, .int .i64 y] w (MDoRet 5 x y w) := by
  have HX := Lib.hid (w32_id hx); have HY := Lib.hid (w32_id hy)
  have C := Lib.hid (mop5 x y hx hy)
  clear hx hy
  have i0 : ∀ w : World, (Instr.index 137 OPS (.int .i64 4)).run Try.prog w = .ok (.func (.func 123) #[] #[]) w := fun _ => by kernel_rfl
  go_enter Try.func69, Try.ntmps69
  go_wp2_with fail
  refine (known_any 5 _).mono ?_
  rintro e w1 ⟨rfl, hw1⟩
  subst hw1
  rw [show opB 5 = true from by decide]
  go_wp2
  refine wp_region_below (by kernel_rfl) (by kernel_rfl) ?_
  repeat (go_big_quiet_step ((first | (go_at_call 93; (with_reducible exact calls_below _ (mops_any _))) | (go_at_call 123; (with_reducible exact calls_same _ (C.out _))) | (go_at_call 52; (first | (with_reducible exact calls_same _ (wrapx HX.out _)) | (with_reducible exact calls_same _ (wrapx HY.out _)) | (with_reducible exact calls_same _ (wrapg_any _ _)))))))
  refine wpQuiet_nil ?_
  rintro w' ⟨s, rfl⟩
  obtain ⟨w7, ok7⟩ := s
  go_wp2
  exact bodyPost_ret (v := .tuple #[.int .i64 (w32 (doA 5 x y)), .int .i64 0]) (by simp [results, Try.results69, go_sem]) rfl ⟨rfl, ok7⟩
set_option maxRecDepth 100000 in
set_option maxHeartbeats 4000000 in
theorem mdo6 (x y : Int) (hx : Wd x) (hy : Wd y) (w : World) : Calls Try.prog 69 #[.int .i64 6, .int .i64 x, .int .i64 y] w (MDoRet 6 x y w) := by
  have HX := Lib.hid (w32_id hx); have HY := Lib.hid (w32_id hy)
  have C := Lib.hid (mop6 x y hx hy)
  clear hx hy
  have i0 : ∀ w : World, (Instr.index 137 OPS (.int .i64 5)).run Try.prog w = .ok (.func (.func 124) #[] #[]) w := fun _ => by kernel_rfl
  go_enter Try.func69, Try.ntmps69
  go_wp2_with fail
  refine (known_any 6 _).mono ?_
  rintro e w1 ⟨rfl, hw1⟩
  subst hw1
  rw [show opB 6 = true from by decide]
  go_wp2
  refine wp_region_below (by kernel_rfl) (by kernel_rfl) ?_
  repeat (go_big_quiet_step ((first | (go_at_call 93; (with_reducible exact calls_below _ (mops_any _))) | (go_at_call 124; (with_reducible exact calls_same _ (C.out _))) | (go_at_call 52; (first | (with_reducible exact calls_same _ (wrapx HX.out _)) | (with_reducible exact calls_same _ (wrapx HY.out _)) | (with_reducible exact calls_same _ (wrapg_any _ _)))))))
  refine wpQuiet_nil ?_
  rintro w' ⟨s, rfl⟩
  obtain ⟨w7, ok7⟩ := s
  go_wp2
  exact bodyPost_ret (v := .tuple #[.int .i64 (w32 (doA 6 x y)), .int .i64 0]) (by simp [results, Try.results69, go_sem]) rfl ⟨rfl, ok7⟩
set_option maxRecDepth 100000 in
set_option maxHeartbeats 4000000 in
theorem mdo7 (x y : Int) (hx : Wd x) (hy : Wd y) (w : World) : Calls Try.prog 69 #[.int .i64 7, .int .i64 x, .int .i64 y] w (MDoRet 7 x y w) := by
  have HX := Lib.hid (w32_id hx); have HY := Lib.hid (w32_id hy)
  have C := Lib.hid (mop7 x y hx hy)
  clear hx hy
  have i0 : ∀ w : World, (Instr.index 137 OPS (.int .i64 6)).run Try.prog w = .ok (.func (.func 125) #[] #[]) w := fun _ => by kernel_rfl
  go_enter Try.func69, Try.ntmps69
  go_wp2_with fail
  refine (known_any 7 _).mono ?_
  rintro e w1 ⟨rfl, hw1⟩
  subst hw1
  rw [show opB 7 = true from by decide]
  go_wp2
  refine wp_region_below (by kernel_rfl) (by kernel_rfl) ?_
  repeat (go_big_quiet_step ((first | (go_at_call 93; (with_reducible exact calls_below _ (mops_any _))) | (go_at_call 125; (with_reducible exact calls_same _ (C.out _))) | (go_at_call 52; (first | (with_reducible exact calls_same _ (wrapx HX.out _)) | (with_reducible exact calls_same _ (wrapx HY.out _)) | (with_reducible exact calls_same _ (wrapg_any _ _)))))))
  refine wpQuiet_nil ?_
  rintro w' ⟨s, rfl⟩
  obtain ⟨w7, ok7⟩ := s
  go_wp2
  exact bodyPost_ret (v := .tuple #[.int .i64 (w32 (doA 7 x y)), .int .i64 0]) (by simp [results, Try.results69, go_sem]) rfl ⟨rfl, ok7⟩
set_option maxRecDepth 100000 in
set_option maxHeartbeats 4000000 in
theorem mdo8 (x y : Int) (hx : Wd x) (hy : Wd y) (w : World) : Calls Try.prog 69 #[.int .i64 8, .int .i64 x, .int .i64 y] w (MDoRet 8 x y w) := by
  have HX := Lib.hid (w32_id hx); have HY := Lib.hid (w32_id hy)
  have C := Lib.hid (mop8 x y hx hy)
  clear hx hy
  have i0 : ∀ w : World, (Instr.index 137 OPS (.int .i64 7)).run Try.prog w = .ok (.func (.func 126) #[] #[]) w := fun _ => by kernel_rfl
  go_enter Try.func69, Try.ntmps69
  go_wp2_with fail
  refine (known_any 8 _).mono ?_
  rintro e w1 ⟨rfl, hw1⟩
  subst hw1
  rw [show opB 8 = true from by decide]
  go_wp2
  refine wp_region_below (by kernel_rfl) (by kernel_rfl) ?_
  repeat (go_big_quiet_step ((first | (go_at_call 93; (with_reducible exact calls_below _ (mops_any _))) | (go_at_call 126; (with_reducible exact calls_same _ (C.out _))) | (go_at_call 52; (first | (with_reducible exact calls_same _ (wrapx HX.out _)) | (with_reducible exact calls_same _ (wrapx HY.out _)) | (with_reducible exact calls_same _ (wrapg_any _ _)))))))
  refine wpQuiet_nil ?_
  rintro w' ⟨s, rfl⟩
  obtain ⟨w7, ok7⟩ := s
  go_wp2
  exact bodyPost_ret (v := .tuple #[.int .i64 (w32 (doA 8 x y)), .int .i64 0]) (by simp [results, Try.results69, go_sem]) rfl ⟨rfl, ok7⟩
set_option maxRecDepth 100000 in
set_option maxHeartbeats 4000000 in
theorem mdo9 (x y : Int) (hx : Wd x) (hy : Wd y) (w : World) : Calls Try.prog 69 #[.int .i64 9, .int .i64 x, .int .i64 y] w (MDoRet 9 x y w) := by
  have HX := Lib.hid (w32_id hx); have HY := Lib.hid (w32_id hy)
  have C := Lib.hid (mop9 x y hx hy)
  clear hx hy
  have i0 : ∀ w : World, (Instr.index 137 OPS (.int .i64 8)).run Try.prog w = .ok (.func (.func 127) #[] #[]) w := fun _ => by kernel_rfl
  go_enter Try.func69, Try.ntmps69
  go_wp2_with fail
  refine (known_any 9 _).mono ?_
  rintro e w1 ⟨rfl, hw1⟩
  subst hw1
  rw [show opB 9 = true from by decide]
  go_wp2
  refine wp_region_below (by kernel_rfl) (by kernel_rfl) ?_
  repeat (go_big_quiet_step ((first | (go_at_call 93; (with_reducible exact calls_below _ (mops_any _))) | (go_at_call 127; (with_reducible exact calls_same _ (C.out _))) | (go_at_call 52; (first | (with_reducible exact calls_same _ (wrapx HX.out _)) | (with_reducible exact calls_same _ (wrapx HY.out _)) | (with_reducible exact calls_same _ (wrapg_any _ _)))))))
  refine wpQuiet_nil ?_
  rintro w' ⟨s, rfl⟩
  obtain ⟨w7, ok7⟩ := s
  go_wp2
  exact bodyPost_ret (v := .tuple #[.int .i64 (w32 (doA 9 x y)), .int .i64 0]) (by simp [results, Try.results69, go_sem]) rfl ⟨rfl, ok7⟩
set_option maxRecDepth 100000 in
set_option maxHeartbeats 4000000 in
theorem mdo10 (x y : Int) (hx : Wd x) (hy : Wd y) (w : World) : Calls Try.prog 69 #[.int .i64 10, .int .i64 x, .int .i64 y] w (MDoRet 10 x y w) := by
  have HX := Lib.hid (w32_id hx); have HY := Lib.hid (w32_id hy)
  have C := Lib.hid (mop10 x y hx hy)
  clear hx hy
  have i0 : ∀ w : World, (Instr.index 137 OPS (.int .i64 9)).run Try.prog w = .ok (.func (.func 128) #[] #[]) w := fun _ => by kernel_rfl
  go_enter Try.func69, Try.ntmps69
  go_wp2_with fail
  refine (known_any 10 _).mono ?_
  rintro e w1 ⟨rfl, hw1⟩
  subst hw1
  rw [show opB 10 = true from by decide]
  go_wp2
  refine wp_region_below (by kernel_rfl) (by kernel_rfl) ?_
  repeat (go_big_quiet_step ((first | (go_at_call 93; (with_reducible exact calls_below _ (mops_any _))) | (go_at_call 128; (with_reducible exact calls_same _ (C.out _))) | (go_at_call 52; (first | (with_reducible exact calls_same _ (wrapx HX.out _)) | (with_reducible exact calls_same _ (wrapx HY.out _)) | (with_reducible exact calls_same _ (wrapg_any _ _)))))))
  refine wpQuiet_nil ?_
  rintro w' ⟨s, rfl⟩
  obtain ⟨w7, ok7⟩ := s
  go_wp2
  exact bodyPost_ret (v := .tuple #[.int .i64 (w32 (doA 10 x y)), .int .i64 0]) (by simp [results, Try.results69, go_sem]) rfl ⟨rfl, ok7⟩
set_option maxRecDepth 100000 in
set_option maxHeartbeats 4000000 in
theorem mdo11 (x y : Int) (hx : Wd x) (hy : Wd y) (w : World) : Calls Try.prog 69 #[.int .i64 11, .int .i64 x, .int .i64 y] w (MDoRet 11 x y w) := by
  have HX := Lib.hid (w32_id hx); have HY := Lib.hid (w32_id hy)
  have C := Lib.hid (mop11 x y hx hy)
  clear hx hy
  have i0 : ∀ w : World, (Instr.index 137 OPS (.int .i64 10)).run Try.prog w = .ok (.func (.func 129) #[] #[]) w := fun _ => by kernel_rfl
  go_enter Try.func69, Try.ntmps69
  go_wp2_with fail
  refine (known_any 11 _).mono ?_
  rintro e w1 ⟨rfl, hw1⟩
  subst hw1
  rw [show opB 11 = true from by decide]
  go_wp2
  refine wp_region_below (by kernel_rfl) (by kernel_rfl) ?_
  repeat (go_big_quiet_step ((first | (go_at_call 93; (with_reducible exact calls_below _ (mops_any _))) | (go_at_call 129; (with_reducible exact calls_same _ (C.out _))) | (go_at_call 52; (first | (with_reducible exact calls_same _ (wrapx HX.out _)) | (with_reducible exact calls_same _ (wrapx HY.out _)) | (with_reducible exact calls_same _ (wrapg_any _ _)))))))
  refine wpQuiet_nil ?_
  rintro w' ⟨s, rfl⟩
  obtain ⟨w7, ok7⟩ := s
  go_wp2
  exact bodyPost_ret (v := .tuple #[.int .i64 (w32 (doA 11 x y)), .int .i64 0]) (by simp [results, Try.results69, go_sem]) rfl ⟨rfl, ok7⟩
set_option maxRecDepth 100000 in
set_option maxHeartbeats 4000000 in
theorem mdo12 (x y : Int) (hx : Wd x) (hy : Wd y) (w : World) : Calls Try.prog 69 #[.int .i64 12, .int .i64 x, .int .i64 y] w (MDoRet 12 x y w) := by
  have HX := Lib.hid (w32_id hx); have HY := Lib.hid (w32_id hy)
  have C := Lib.hid (mop12 x y hx hy)
  clear hx hy
  have i0 : ∀ w : World, (Instr.index 137 OPS (.int .i64 11)).run Try.prog w = .ok (.func (.func 131) #[] #[]) w := fun _ => by kernel_rfl
  go_enter Try.func69, Try.ntmps69
  go_wp2_with fail
  refine (known_any 12 _).mono ?_
  rintro e w1 ⟨rfl, hw1⟩
  subst hw1
  rw [show opB 12 = true from by decide]
  go_wp2
  refine wp_region_below (by kernel_rfl) (by kernel_rfl) ?_
  repeat (go_big_quiet_step ((first | (go_at_call 93; (with_reducible exact calls_below _ (mops_any _))) | (go_at_call 131; (with_reducible exact calls_same _ (C.out _))) | (go_at_call 52; (first | (with_reducible exact calls_same _ (wrapx HX.out _)) | (with_reducible exact calls_same _ (wrapx HY.out _)) | (with_reducible exact calls_same _ (wrapg_any _ _)))))))
  refine wpQuiet_nil ?_
  rintro w' ⟨s, rfl⟩
  obtain ⟨w7, ok7⟩ := s
  go_wp2
  exact bodyPost_ret (v := .tuple #[.int .i64 (w32 (doA 12 x y)), .int .i64 0]) (by simp [results, Try.results69, go_sem]) rfl ⟨rfl, ok7⟩
set_option maxRecDepth 100000 in
set_option maxHeartbeats 4000000 in
theorem mdo13 (x y : Int) (hx : Wd x) (hy : Wd y) (w : World) : Calls Try.prog 69 #[.int .i64 13, .int .i64 x, .int .i64 y] w (MDoRet 13 x y w) := by
  have HX := Lib.hid (w32_id hx); have HY := Lib.hid (w32_id hy)
  have C := Lib.hid (mop13 x y hx hy)
  clear hx hy
  have i0 : ∀ w : World, (Instr.index 137 OPS (.int .i64 12)).run Try.prog w = .ok (.func (.func 132) #[] #[]) w := fun _ => by kernel_rfl
  go_enter Try.func69, Try.ntmps69
  go_wp2_with fail
  refine (known_any 13 _).mono ?_
  rintro e w1 ⟨rfl, hw1⟩
  subst hw1
  rw [show opB 13 = true from by decide]
  go_wp2
  refine wp_region_below (by kernel_rfl) (by kernel_rfl) ?_
  repeat (go_big_quiet_step ((first | (go_at_call 93; (with_reducible exact calls_below _ (mops_any _))) | (go_at_call 132; (with_reducible exact calls_same _ (C.out _))) | (go_at_call 52; (first | (with_reducible exact calls_same _ (wrapx HX.out _)) | (with_reducible exact calls_same _ (wrapx HY.out _)) | (with_reducible exact calls_same _ (wrapg_any _ _)))))))
  refine wpQuiet_nil ?_
  rintro w' ⟨s, rfl⟩
  obtain ⟨w7, ok7⟩ := s
  go_wp2
  exact bodyPost_ret (v := .tuple #[.int .i64 (w32 (doA 13 x y)), .int .i64 0]) (by simp [results, Try.results69, go_sem]) rfl ⟨rfl, ok7⟩
set_option maxRecDepth 100000 in
set_option maxHeartbeats 4000000 in
theorem mdo14 (x y : Int) (hx : Wd x) (hy : Wd y) (w : World) : Calls Try.prog 69 #[.int .i64 14, .int .i64 x, .int .i64 y] w (MDoRet 14 x y w) := by
  have HX := Lib.hid (w32_id hx); have HY := Lib.hid (w32_id hy)
  have C := Lib.hid (mop14 x y hx hy)
  clear hx hy
  have i0 : ∀ w : World, (Instr.index 137 OPS (.int .i64 13)).run Try.prog w = .ok (.func (.func 133) #[] #[]) w := fun _ => by kernel_rfl
  go_enter Try.func69, Try.ntmps69
  go_wp2_with fail
  refine (known_any 14 _).mono ?_
  rintro e w1 ⟨rfl, hw1⟩
  subst hw1
  rw [show opB 14 = true from by decide]
  go_wp2
  refine wp_region_below (by kernel_rfl) (by kernel_rfl) ?_
  repeat (go_big_quiet_step ((first | (go_at_call 93; (with_reducible exact calls_below _ (mops_any _))) | (go_at_call 133; (with_reducible exact calls_same _ (C.out _))) | (go_at_call 52; (first | (with_reducible exact calls_same _ (wrapx HX.out _)) | (with_reducible exact calls_same _ (wrapx HY.out _)) | (with_reducible exact calls_same _ (wrapg_any _ _)))))))
  refine wpQuiet_nil ?_
  rintro w' ⟨s, rfl⟩
  obtain ⟨w7, ok7⟩ := s
  go_wp2
  exact bodyPost_ret (v := .tuple #[.int .i64 (w32 (doA 14 x y)), .int .i64 0]) (by simp [results, Try.results69, go_sem]) rfl ⟨rfl, ok7⟩
theorem mdo_any (op x y : Int) (hx : Wd x) (hy : Wd y) (ho : opB op = true) (w : World) : Calls Try.prog 69 #[.int .i64 op, .int .i64 x, .int .i64 y] w (MDoRet op x y w) := by
  have : 1 ≤ op ∧ op ≤ 14 := by simp [opB] at ho; omega
  rcases (show op = 1 ∨ op = 2 ∨ op = 3 ∨ op = 4 ∨ op = 5 ∨ op = 6 ∨ op = 7 ∨ op = 8 ∨ op = 9 ∨ op = 10 ∨ op = 11 ∨ op = 12 ∨ op = 13 ∨ op = 14 by omega) with rfl | rfl | rfl | rfl | rfl | rfl | rfl | rfl | rfl | rfl | rfl | rfl | rfl | rfl
  · exact mdo1 x y hx hy w
  · exact mdo2 x y hx hy w
  · exact mdo3 x y hx hy w
  · exact mdo4 x y hx hy w
  · exact mdo5 x y hx hy w
  · exact mdo6 x y hx hy w
  · exact mdo7 x y hx hy w
  · exact mdo8 x y hx hy w
  · exact mdo9 x y hx hy w
  · exact mdo10 x y hx hy w
  · exact mdo11 x y hx hy w
  · exact mdo12 x y hx hy w
  · exact mdo13 x y hx hy w
  · exact mdo14 x y hx hy w
end Go.Proofs.Ytonbmijhbbodnaa
