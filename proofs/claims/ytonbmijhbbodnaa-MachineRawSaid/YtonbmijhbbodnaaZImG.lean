/-
  The document's operations on words. (printed by mkImG.py)
  A region that draws its order, whose operations read what was there and call functions that may make memory but hand back plain values: one walk in the order of the text serves every order.
-/
import Derived.Deep.QuietTactic
import Derived.BigQuiet
import Derived.Test.YtonbmijhbbodnaaZInE
import Derived.Test.YtonbmijhbbodnaaHas
namespace Go.Proofs.Ytonbmijhbbodnaa
open Go.RowKit

theorem wrap_all (n : Int) : wrap64 (wrap32 (IntKind.u64.wrap n % 4294967296)) = w32 n := by
  have : IntKind.u64.wrap n = n % 18446744073709551616 := by simp [IntKind.wrap, IntKind.bits, IntKind.signed]
  rw [this]
  unfold wrap64 wrap32 w32
  omega
theorem rwrapg_any (n : Int) (w : World) : Calls Try.prog 81 #[.int .i64 n] w fun e w' => e = .returned (.int .i64 (w32 n)) ∧ w' = w := by
  go_enter Try.func81, Try.ntmps81
  go_wp2
  go_ret
  exact ⟨by rw [← wrap_all n]; rfl, rfl⟩
theorem rtruth_any (b : Bool) (w : World) : Calls Try.prog 98 #[.bool b] w fun e w' => e = .returned (.int .i64 (if b then 1 else 0)) ∧ w' = w := by
  cases b
  all_goals
    go_enter Try.func98, Try.ntmps98
    go_wp2
    go_ret
    exact ⟨rfl, rfl⟩
def Wd (z : Int) : Prop := -2147483648 ≤ z ∧ z < 2147483648
theorem w32_wd (n : Int) : Wd (w32 n) := by unfold Wd w32; omega
theorem w32_id {n : Int} (h : Wd n) : w32 n = n := by unfold Wd at h; unfold w32; omega
/-- What is wrapped in the end. -/
def doA (op x y : Int) : Int :=
  if op = 1 then x + y else
  if op = 2 then x - y else
  if op = 3 then wrap64 (x * y) else
  if op = 4 then (if y = 0 then 0 else wrap64 (x.tdiv y)) else
  if op = 5 then (if y = 0 then 0 else x.tmod y) else
  if op = 6 then bits .and .i64 x y else
  if op = 7 then bits .or .i64 x y else
  if op = 8 then bits .xor .i64 x y else
  if op = 9 then wrap64 (x * 2 ^ min (IntKind.u64.wrap (bits .and .i64 y 31)).toNat 64) else
  if op = 10 then x / 2 ^ min (IntKind.u64.wrap (bits .and .i64 y 31)).toNat 64 else
  if op = 11 then (if decide (x < y) then 1 else 0) else
  if op = 12 then (if decide (x ≤ y) then 1 else 0) else
  if op = 13 then (if (x == y) then 1 else 0) else
  if op = 14 then (if (x != y) then 1 else 0) else 0
def doI (op x y : Int) : Int := w32 (doA op x y)
def DoRet (op x y : Int) (w : World) (e : Ending) (w' : World) : Prop := e = .returned (.tuple #[.int .i64 (doI op x y), .int .i64 0]) ∧ w' = w
set_option maxRecDepth 100000 in
set_option maxHeartbeats 4000000 in
theorem rdo1 (x y : Int) (hx : Wd x) (hy : Wd y) (w : World) : Calls Try.prog 76 #[.int .i64 1, .int .i64 x, .int .i64 y] w (DoRet 1 x y w) := by
  have hx0 := hx.1; have hx1 := hx.2; have hy0 := hy.1; have hy1 := hy.2
  have HX := Lib.hid (w32_id hx); have HY := Lib.hid (w32_id hy)
  clear hx hy
  go_enter Try.func76, Try.ntmps76
  go_wp2_with fail
  refine (rwrapg_any x _).mono ?_
  rintro e w1 ⟨rfl, hw1⟩
  subst hw1
  rw [HX.out]
  go_wp2_with fail
  refine (rwrapg_any y _).mono ?_
  rintro e w1 ⟨rfl, hw1⟩
  subst hw1
  rw [HY.out]
  go_wp2_with fail
  refine (rwrapg_any (x + y) _).mono ?_
  rintro e w1 ⟨rfl, hw1⟩
  subst hw1
  go_wp2
  exact bodyPost_ret (v := .tuple #[.int .i64 (w32 (x + y)), .int .i64 0]) (by simp [results, Try.results76, go_sem]) rfl ⟨by simp [doI, doA], rfl⟩
set_option maxRecDepth 100000 in
set_option maxHeartbeats 4000000 in
theorem rdo2 (x y : Int) (hx : Wd x) (hy : Wd y) (w : World) : Calls Try.prog 76 #[.int .i64 2, .int .i64 x, .int .i64 y] w (DoRet 2 x y w) := by
  have hx0 := hx.1; have hx1 := hx.2; have hy0 := hy.1; have hy1 := hy.2
  have HX := Lib.hid (w32_id hx); have HY := Lib.hid (w32_id hy)
  clear hx hy
  go_enter Try.func76, Try.ntmps76
  go_wp2_with fail
  refine (rwrapg_any x _).mono ?_
  rintro e w1 ⟨rfl, hw1⟩
  subst hw1
  rw [HX.out]
  go_wp2_with fail
  refine (rwrapg_any y _).mono ?_
  rintro e w1 ⟨rfl, hw1⟩
  subst hw1
  rw [HY.out]
  go_wp2_with fail
  refine (rwrapg_any (x - y) _).mono ?_
  rintro e w1 ⟨rfl, hw1⟩
  subst hw1
  go_wp2
  exact bodyPost_ret (v := .tuple #[.int .i64 (w32 (x - y)), .int .i64 0]) (by simp [results, Try.results76, go_sem]) rfl ⟨by simp [doI, doA], rfl⟩
set_option maxRecDepth 100000 in
set_option maxHeartbeats 4000000 in
theorem rdo3 (x y : Int) (hx : Wd x) (hy : Wd y) (w : World) : Calls Try.prog 76 #[.int .i64 3, .int .i64 x, .int .i64 y] w (DoRet 3 x y w) := by
  have hx0 := hx.1; have hx1 := hx.2; have hy0 := hy.1; have hy1 := hy.2
  have HX := Lib.hid (w32_id hx); have HY := Lib.hid (w32_id hy)
  clear hx hy
  go_enter Try.func76, Try.ntmps76
  go_wp2_with fail
  refine (rwrapg_any x _).mono ?_
  rintro e w1 ⟨rfl, hw1⟩
  subst hw1
  rw [HX.out]
  go_wp2_with fail
  refine (rwrapg_any y _).mono ?_
  rintro e w1 ⟨rfl, hw1⟩
  subst hw1
  rw [HY.out]
  go_wp2_with fail
  refine (rwrapg_any (wrap64 (x * y)) _).mono ?_
  rintro e w1 ⟨rfl, hw1⟩
  subst hw1
  go_wp2
  exact bodyPost_ret (v := .tuple #[.int .i64 (w32 (wrap64 (x * y))), .int .i64 0]) (by simp [results, Try.results76, go_sem]) rfl ⟨by simp [doI, doA], rfl⟩
set_option maxRecDepth 100000 in
set_option maxHeartbeats 4000000 in
theorem rdo6 (x y : Int) (hx : Wd x) (hy : Wd y) (w : World) : Calls Try.prog 76 #[.int .i64 6, .int .i64 x, .int .i64 y] w (DoRet 6 x y w) := by
  have hx0 := hx.1; have hx1 := hx.2; have hy0 := hy.1; have hy1 := hy.2
  have HX := Lib.hid (w32_id hx); have HY := Lib.hid (w32_id hy)
  clear hx hy
  go_enter Try.func76, Try.ntmps76
  go_wp2_with fail
  refine (rwrapg_any x _).mono ?_
  rintro e w1 ⟨rfl, hw1⟩
  subst hw1
  rw [HX.out]
  go_wp2_with fail
  refine (rwrapg_any y _).mono ?_
  rintro e w1 ⟨rfl, hw1⟩
  subst hw1
  rw [HY.out]
  go_wp2_with fail
  refine (rwrapg_any (bits .and .i64 x y) _).mono ?_
  rintro e w1 ⟨rfl, hw1⟩
  subst hw1
  go_wp2
  exact bodyPost_ret (v := .tuple #[.int .i64 (w32 (bits .and .i64 x y)), .int .i64 0]) (by simp [results, Try.results76, go_sem]) rfl ⟨by simp [doI, doA], rfl⟩
set_option maxRecDepth 100000 in
set_option maxHeartbeats 4000000 in
theorem rdo7 (x y : Int) (hx : Wd x) (hy : Wd y) (w : World) : Calls Try.prog 76 #[.int .i64 7, .int .i64 x, .int .i64 y] w (DoRet 7 x y w) := by
  have hx0 := hx.1; have hx1 := hx.2; have hy0 := hy.1; have hy1 := hy.2
  have HX := Lib.hid (w32_id hx); have HY := Lib.hid (w32_id hy)
  clear hx hy
  go_enter Try.func76, Try.ntmps76
  go_wp2_with fail
  refine (rwrapg_any x _).mono ?_
  rintro e w1 ⟨rfl, hw1⟩
  subst hw1
  rw [HX.out]
  go_wp2_with fail
  refine (rwrapg_any y _).mono ?_
  rintro e w1 ⟨rfl, hw1⟩
  subst hw1
  rw [HY.out]
  go_wp2_with fail
  refine (rwrapg_any (bits .or .i64 x y) _).mono ?_
  rintro e w1 ⟨rfl, hw1⟩
  subst hw1
  go_wp2
  exact bodyPost_ret (v := .tuple #[.int .i64 (w32 (bits .or .i64 x y)), .int .i64 0]) (by simp [results, Try.results76, go_sem]) rfl ⟨by simp [doI, doA], rfl⟩
set_option maxRecDepth 100000 in
set_option maxHeartbeats 4000000 in
theorem rdo8 (x y : Int) (hx : Wd x) (hy : Wd y) (w : World) : Calls Try.prog 76 #[.int .i64 8, .int .i64 x, .int .i64 y] w (DoRet 8 x y w) := by
  have hx0 := hx.1; have hx1 := hx.2; have hy0 := hy.1; have hy1 := hy.2
  have HX := Lib.hid (w32_id hx); have HY := Lib.hid (w32_id hy)
  clear hx hy
  go_enter Try.func76, Try.ntmps76
  go_wp2_with fail
  refine (rwrapg_any x _).mono ?_
  rintro e w1 ⟨rfl, hw1⟩
  subst hw1
  rw [HX.out]
  go_wp2_with fail
  refine (rwrapg_any y _).mono ?_
  rintro e w1 ⟨rfl, hw1⟩
  subst hw1
  rw [HY.out]
  go_wp2_with fail
  refine (rwrapg_any (bits .xor .i64 x y) _).mono ?_
  rintro e w1 ⟨rfl, hw1⟩
  subst hw1
  go_wp2
  exact bodyPost_ret (v := .tuple #[.int .i64 (w32 (bits .xor .i64 x y)), .int .i64 0]) (by simp [results, Try.results76, go_sem]) rfl ⟨by simp [doI, doA], rfl⟩
set_option maxRecDepth 100000 in
set_option maxHeartbeats 4000000 in
theorem rdo9 (x y : Int) (hx : Wd x) (hy : Wd y) (w : World) : Calls Try.prog 76 #[.int .i64 9, .int .i64 x, .int .i64 y] w (DoRet 9 x y w) := by
  have hx0 := hx.1; have hx1 := hx.2; have hy0 := hy.1; have hy1 := hy.2
  have HX := Lib.hid (w32_id hx); have HY := Lib.hid (w32_id hy)
  clear hx hy
  go_enter Try.func76, Try.ntmps76
  go_wp2_with fail
  refine (rwrapg_any x _).mono ?_
  rintro e w1 ⟨rfl, hw1⟩
  subst hw1
  rw [HX.out]
  go_wp2_with fail
  refine (rwrapg_any y _).mono ?_
  rintro e w1 ⟨rfl, hw1⟩
  subst hw1
  rw [HY.out]
  go_wp2_with fail
  refine (rwrapg_any (wrap64 (x * 2 ^ min (IntKind.u64.wrap (bits .and .i64 y 31)).toNat 64)) _).mono ?_
  rintro e w1 ⟨rfl, hw1⟩
  subst hw1
  go_wp2
  exact bodyPost_ret (v := .tuple #[.int .i64 (w32 (wrap64 (x * 2 ^ min (IntKind.u64.wrap (bits .and .i64 y 31)).toNat 64))), .int .i64 0]) (by simp [results, Try.results76, go_sem]) rfl ⟨by simp [doI, doA], rfl⟩
set_option maxRecDepth 100000 in
set_option maxHeartbeats 4000000 in
theorem rdo10 (x y : Int) (hx : Wd x) (hy : Wd y) (w : World) : Calls Try.prog 76 #[.int .i64 10, .int .i64 x, .int .i64 y] w (DoRet 10 x y w) := by
  have hx0 := hx.1; have hx1 := hx.2; have hy0 := hy.1; have hy1 := hy.2
  have HX := Lib.hid (w32_id hx); have HY := Lib.hid (w32_id hy)
  clear hx hy
  go_enter Try.func76, Try.ntmps76
  go_wp2_with fail
  refine (rwrapg_any x _).mono ?_
  rintro e w1 ⟨rfl, hw1⟩
  subst hw1
  rw [HX.out]
  go_wp2_with fail
  refine (rwrapg_any y _).mono ?_
  rintro e w1 ⟨rfl, hw1⟩
  subst hw1
  rw [HY.out]
  go_wp2_with fail
  refine (rwrapg_any (x / 2 ^ min (IntKind.u64.wrap (bits .and .i64 y 31)).toNat 64) _).mono ?_
  rintro e w1 ⟨rfl, hw1⟩
  subst hw1
  go_wp2
  exact bodyPost_ret (v := .tuple #[.int .i64 (w32 (x / 2 ^ min (IntKind.u64.wrap (bits .and .i64 y 31)).toNat 64)), .int .i64 0]) (by simp [results, Try.results76, go_sem]) rfl ⟨by simp [doI, doA], rfl⟩
set_option maxRecDepth 100000 in
set_option maxHeartbeats 4000000 in
theorem rdo11 (x y : Int) (hx : Wd x) (hy : Wd y) (w : World) : Calls Try.prog 76 #[.int .i64 11, .int .i64 x, .int .i64 y] w (DoRet 11 x y w) := by
  have hx0 := hx.1; have hx1 := hx.2; have hy0 := hy.1; have hy1 := hy.2
  have HX := Lib.hid (w32_id hx); have HY := Lib.hid (w32_id hy)
  clear hx hy
  go_enter Try.func76, Try.ntmps76
  go_wp2_with fail
  refine (rwrapg_any x _).mono ?_
  rintro e w1 ⟨rfl, hw1⟩
  subst hw1
  rw [HX.out]
  go_wp2_with fail
  refine (rwrapg_any y _).mono ?_
  rintro e w1 ⟨rfl, hw1⟩
  subst hw1
  rw [HY.out]
  go_wp2_with fail
  refine (rtruth_any (decide (x < y)) _).mono ?_
  rintro e w1 ⟨rfl, hw1⟩
  subst hw1
  obtain ⟨t, ht⟩ : ∃ t : Int, t = (if (decide (x < y)) then 1 else 0) := ⟨_, rfl⟩
  rw [← ht]
  have HT := Lib.hid ht
  clear ht
  go_wp2_with fail
  refine (rwrapg_any t _).mono ?_
  rintro e w1 ⟨rfl, hw1⟩
  subst hw1
  go_wp2
  exact bodyPost_ret (v := .tuple #[.int .i64 (w32 (t)), .int .i64 0]) (by simp [results, Try.results76, go_sem]) rfl ⟨by simp [doI, doA, HT.out], rfl⟩
set_option maxRecDepth 100000 in
set_option maxHeartbeats 4000000 in
theorem rdo12 (x y : Int) (hx : Wd x) (hy : Wd y) (w : World) : Calls Try.prog 76 #[.int .i64 12, .int .i64 x, .int .i64 y] w (DoRet 12 x y w) := by
  have hx0 := hx.1; have hx1 := hx.2; have hy0 := hy.1; have hy1 := hy.2
  have HX := Lib.hid (w32_id hx); have HY := Lib.hid (w32_id hy)
  clear hx hy
  go_enter Try.func76, Try.ntmps76
  go_wp2_with fail
  refine (rwrapg_any x _).mono ?_
  rintro e w1 ⟨rfl, hw1⟩
  subst hw1
  rw [HX.out]
  go_wp2_with fail
  refine (rwrapg_any y _).mono ?_
  rintro e w1 ⟨rfl, hw1⟩
  subst hw1
  rw [HY.out]
  go_wp2_with fail
  refine (rtruth_any (decide (x ≤ y)) _).mono ?_
  rintro e w1 ⟨rfl, hw1⟩
  subst hw1
  obtain ⟨t, ht⟩ : ∃ t : Int, t = (if (decide (x ≤ y)) then 1 else 0) := ⟨_, rfl⟩
  rw [← ht]
  have HT := Lib.hid ht
  clear ht
  go_wp2_with fail
  refine (rwrapg_any t _).mono ?_
  rintro e w1 ⟨rfl, hw1⟩
  subst hw1
  go_wp2
  exact bodyPost_ret (v := .tuple #[.int .i64 (w32 (t)), .int .i64 0]) (by simp [results, Try.results76, go_sem]) rfl ⟨by simp [doI, doA, HT.out], rfl⟩
set_option maxRecDepth 100000 in
set_option maxHeartbeats 4000000 in
theorem rdo13 (x y : Int) (hx : Wd x) (hy : Wd y) (w : World) : Calls Try.prog 76 #[.int .i64 13, .int .i64 x, .int .i64 y] w (DoRet 13 x y w) := by
  have hx0 := hx.1; have hx1 := hx.2; have hy0 := hy.1; have hy1 := hy.2
  have HX := Lib.hid (w32_id hx); have HY := Lib.hid (w32_id hy)
  clear hx hy
  go_enter Try.func76, Try.ntmps76
  go_wp2_with fail
  refine (rwrapg_any x _).mono ?_
  rintro e w1 ⟨rfl, hw1⟩
  subst hw1
  rw [HX.out]
  go_wp2_with fail
  refine (rwrapg_any y _).mono ?_
  rintro e w1 ⟨rfl, hw1⟩
  subst hw1
  rw [HY.out]
  go_wp2_with fail
  refine (rtruth_any (x == y) _).mono ?_
  rintro e w1 ⟨rfl, hw1⟩
  subst hw1
  obtain ⟨t, ht⟩ : ∃ t : Int, t = (if (x == y) then 1 else 0) := ⟨_, rfl⟩
  rw [← ht]
  have HT := Lib.hid ht
  clear ht
  go_wp2_with fail
  refine (rwrapg_any t _).mono ?_
  rintro e w1 ⟨rfl, hw1⟩
  subst hw1
  go_wp2
  exact bodyPost_ret (v := .tuple #[.int .i64 (w32 (t)), .int .i64 0]) (by simp [results, Try.results76, go_sem]) rfl ⟨by simp [doI, doA, HT.out], rfl⟩
set_option maxRecDepth 100000 in
set_option maxHeartbeats 4000000 in
theorem rdo14 (x y : Int) (hx : Wd x) (hy : Wd y) (w : World) : Calls Try.prog 76 #[.int .i64 14, .int .i64 x, .int .i64 y] w (DoRet 14 x y w) := by
  have hx0 := hx.1; have hx1 := hx.2; have hy0 := hy.1; have hy1 := hy.2
  have HX := Lib.hid (w32_id hx); have HY := Lib.hid (w32_id hy)
  clear hx hy
  go_enter Try.func76, Try.ntmps76
  go_wp2_with fail
  refine (rwrapg_any x _).mono ?_
  rintro e w1 ⟨rfl, hw1⟩
  subst hw1
  rw [HX.out]
  go_wp2_with fail
  refine (rwrapg_any y _).mono ?_
  rintro e w1 ⟨rfl, hw1⟩
  subst hw1
  rw [HY.out]
  go_wp2_with fail
  refine (rtruth_any (x != y) _).mono ?_
  rintro e w1 ⟨rfl, hw1⟩
  subst hw1
  obtain ⟨t, ht⟩ : ∃ t : Int, t = (if (x != y) then 1 else 0) := ⟨_, rfl⟩
  rw [← ht]
  have HT := Lib.hid ht
  clear ht
  go_wp2_with fail
  refine (rwrapg_any t _).mono ?_
  rintro e w1 ⟨rfl, hw1⟩
  subst hw1
  go_wp2
  exact bodyPost_ret (v := .tuple #[.int .i64 (w32 (t)), .int .i64 0]) (by simp [results, Try.results76, go_sem]) rfl ⟨by simp [doI, doA, HT.out], rfl⟩
set_option maxRecDepth 100000 in
set_option maxHeartbeats 4000000 in
theorem rdo4z (x y : Int) (hz : y = 0) (hx : Wd x) (hy : Wd y) (w : World) : Calls Try.prog 76 #[.int .i64 4, .int .i64 x, .int .i64 y] w (DoRet 4 x y w) := by
  have hx0 := hx.1; have hx1 := hx.2; have hy0 := hy.1; have hy1 := hy.2
  have HX := Lib.hid (w32_id hx); have HY := Lib.hid (w32_id hy)
  clear hx hy
  subst hz
  go_enter Try.func76, Try.ntmps76
  go_wp2_with fail
  refine (rwrapg_any x _).mono ?_
  rintro e w1 ⟨rfl, hw1⟩
  subst hw1
  rw [HX.out]
  go_wp2_with fail
  refine (rwrapg_any 0 _).mono ?_
  rintro e w1 ⟨rfl, hw1⟩
  subst hw1
  rw [HY.out]
  go_wp2_with fail
  refine (rwrapg_any 0 _).mono ?_
  rintro e w1 ⟨rfl, hw1⟩
  subst hw1
  go_wp2
  exact bodyPost_ret (v := .tuple #[.int .i64 (w32 (0)), .int .i64 0]) (by simp [results, Try.results76, go_sem]) rfl ⟨by simp [doI, doA], rfl⟩
set_option maxRecDepth 100000 in
set_option maxHeartbeats 4000000 in
theorem rdo4n (x y : Int) (hz : ¬ y = 0) (hx : Wd x) (hy : Wd y) (w : World) : Calls Try.prog 76 #[.int .i64 4, .int .i64 x, .int .i64 y] w (DoRet 4 x y w) := by
  have hx0 := hx.1; have hx1 := hx.2; have hy0 := hy.1; have hy1 := hy.2
  have HX := Lib.hid (w32_id hx); have HY := Lib.hid (w32_id hy)
  have HZ := Lib.hid hz
  have h0 : (y == 0) = false := by simpa using hz
  clear hx hy
  go_enter Try.func76, Try.ntmps76
  go_wp2_with fail
  refine (rwrapg_any x _).mono ?_
  rintro e w1 ⟨rfl, hw1⟩
  subst hw1
  rw [HX.out]
  go_wp2_with fail
  refine (rwrapg_any y _).mono ?_
  rintro e w1 ⟨rfl, hw1⟩
  subst hw1
  rw [HY.out]
  go_wp2_with fail
  refine (rwrapg_any (wrap64 (x.tdiv y)) _).mono ?_
  rintro e w1 ⟨rfl, hw1⟩
  subst hw1
  go_wp2
  exact bodyPost_ret (v := .tuple #[.int .i64 (w32 (wrap64 (x.tdiv y))), .int .i64 0]) (by simp [results, Try.results76, go_sem]) rfl ⟨by simp [doI, doA, HZ.out], rfl⟩
set_option maxRecDepth 100000 in
set_option maxHeartbeats 4000000 in
theorem rdo5z (x y : Int) (hz : y = 0) (hx : Wd x) (hy : Wd y) (w : World) : Calls Try.prog 76 #[.int .i64 5, .int .i64 x, .int .i64 y] w (DoRet 5 x y w) := by
  have hx0 := hx.1; have hx1 := hx.2; have hy0 := hy.1; have hy1 := hy.2
  have HX := Lib.hid (w32_id hx); have HY := Lib.hid (w32_id hy)
  clear hx hy
  subst hz
  go_enter Try.func76, Try.ntmps76
  go_wp2_with fail
  refine (rwrapg_any x _).mono ?_
  rintro e w1 ⟨rfl, hw1⟩
  subst hw1
  rw [HX.out]
  go_wp2_with fail
  refine (rwrapg_any 0 _).mono ?_
  rintro e w1 ⟨rfl, hw1⟩
  subst hw1
  rw [HY.out]
  go_wp2_with fail
  refine (rwrapg_any 0 _).mono ?_
  rintro e w1 ⟨rfl, hw1⟩
  subst hw1
  go_wp2
  exact bodyPost_ret (v := .tuple #[.int .i64 (w32 (0)), .int .i64 0]) (by simp [results, Try.results76, go_sem]) rfl ⟨by simp [doI, doA], rfl⟩
set_option maxRecDepth 100000 in
set_option maxHeartbeats 4000000 in
theorem rdo5n (x y : Int) (hz : ¬ y = 0) (hx : Wd x) (hy : Wd y) (w : World) : Calls Try.prog 76 #[.int .i64 5, .int .i64 x, .int .i64 y] w (DoRet 5 x y w) := by
  have hx0 := hx.1; have hx1 := hx.2; have hy0 := hy.1; have hy1 := hy.2
  have HX := Lib.hid (w32_id hx); have HY := Lib.hid (w32_id hy)
  have HZ := Lib.hid hz
  have h0 : (y == 0) = false := by simpa using hz
  clear hx hy
  go_enter Try.func76, Try.ntmps76
  go_wp2_with fail
  refine (rwrapg_any x _).mono ?_
  rintro e w1 ⟨rfl, hw1⟩
  subst hw1
  rw [HX.out]
  go_wp2_with fail
  refine (rwrapg_any y _).mono ?_
  rintro e w1 ⟨rfl, hw1⟩
  subst hw1
  rw [HY.out]
  go_wp2_with fail
  refine (rwrapg_any (x.tmod y) _).mono ?_
  rintro e w1 ⟨rfl, hw1⟩
  subst hw1
  go_wp2
  exact bodyPost_ret (v := .tuple #[.int .i64 (w32 (x.tmod y)), .int .i64 0]) (by simp [results, Try.results76, go_sem]) rfl ⟨by simp [doI, doA, HZ.out], rfl⟩
theorem rdo_any (op x y : Int) (hx : Wd x) (hy : Wd y) (ho : opB op = true) (w : World) : Calls Try.prog 76 #[.int .i64 op, .int .i64 x, .int .i64 y] w (DoRet op x y w) := by
  have h : op = 1 ∨ op = 2 ∨ op = 3 ∨ op = 4 ∨ op = 5 ∨ op = 6 ∨ op = 7 ∨ op = 8 ∨ op = 9 ∨ op = 10 ∨ op = 11 ∨ op = 12 ∨ op = 13 ∨ op = 14 := by
    simp [opB] at ho
    omega
  rcases h with rfl | rfl | rfl | rfl | rfl | rfl | rfl | rfl | rfl | rfl | rfl | rfl | rfl | rfl
  · exact rdo1 x y hx hy w
  · exact rdo2 x y hx hy w
  · exact rdo3 x y hx hy w
  · by_cases hz : y = 0
    · exact rdo4z x y hz hx hy w
    · exact rdo4n x y hz hx hy w
  · by_cases hz : y = 0
    · exact rdo5z x y hz hx hy w
    · exact rdo5n x y hz hx hy w
  · exact rdo6 x y hx hy w
  · exact rdo7 x y hx hy w
  · exact rdo8 x y hx hy w
  · exact rdo9 x y hx hy w
  · exact rdo10 x y hx hy w
  · exact rdo11 x y hx hy w
  · exact rdo12 x y hx hy w
  · exact rdo13 x y hx hy w
  · exact rdo14 x y hx hy w

/-- A world in which all that was in W is as it was. -/
structure BelowW (W : World) where
  world : World
  ok : Below W.heap.size W world
instance belowW_nonempty (W : World) : Nonempty (BelowW W) := ⟨⟨W, Below.refl _ _⟩⟩

theorem wp_region_below {P : Program} {id : Nat} {Q : Exit → Act → World → Prop} {a : Act} {w : World} {l : List Oper} (hm : P.follows .mixedOrders = true) (hB : Region.lexB .any l.toArray = true)
    (h : wpQuiet P l.toArray (fun w' => ∃ s : BelowW w, w' = s.world) (fun a' => ∀ w', (∃ s : BelowW w, w' = s.world) → Q .normal a' w') l a) : (Code.region id l.toArray true).wp P Q a w :=
  wp_region_quiet (C := fun w' => ∃ s : BelowW w, w' = s.world) hm hB ⟨⟨w.drew, (Below.refl _ _).drew⟩, rfl⟩ (by simpa using h)

theorem calls_below {P : Program} {f : FuncId} {args : Array Value} {W : World} {v : Value} (s : BelowW W)
    (h : Calls P f args s.world fun e w' => e = .returned v ∧ Below s.world.heap.size s.world w') : Calls P f args s.world fun e w'' => e = .returned v ∧ ∃ t : BelowW W, w'' = t.world :=
  h.mono fun _ w' ⟨he, hb⟩ => ⟨he, ⟨w', s.ok.trans (hb.mono s.ok.size)⟩, rfl⟩
theorem calls_same {P : Program} {f : FuncId} {args : Array Value} {W : World} {v : Value} (s : BelowW W)
    (h : Calls P f args s.world fun e w' => e = .returned v ∧ s.world = w') : Calls P f args s.world fun e w'' => e = .returned v ∧ ∃ t : BelowW W, w'' = t.world :=
  h.mono fun _ _ ⟨he, hb⟩ => ⟨he, s, hb.symm⟩
theorem Has.every {W : World} {b : Nat} {vs : List Value} (h : Has W b vs) (hb : b < W.heap.size) (s : BelowW W) : Has s.world b vs := h.below s.ok hb
end Go.Proofs.Ytonbmijhbbodnaa
