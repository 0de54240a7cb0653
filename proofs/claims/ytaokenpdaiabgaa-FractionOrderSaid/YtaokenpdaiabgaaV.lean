/-
  timeboundlaw31.FractionOrder returns true, whatever its list of integers is. No condition.
-/
import Derived.Test.YtaokenpdaiabgaaU
import Derived.Test.YtaokenpdaiabgaaW
namespace Go.Proofs.Ytaokenpdaiabgaa
open Go.RowKit

set_option maxRecDepth 100000 in
set_option maxHeartbeats 2500000 in
theorem order_law (a0 : Option Addr) (len0 cap0 : Nat) (z0 : List Int) (w : World) (w0 : IsRow .i64 w a0 len0 cap0 z0) :
    Calls Try.prog 4 #[.slice a0 len0 cap0] w fun e w' => e = .returned (.bool true) ∧ Below w.heap.size w w' := by
  go_enter Try.func4, Try.ntmps4
  go_wp2_with fail
  refine (new_any a0 len0 cap0 z0 _ w0).mono ?_
  rintro e w1 ⟨rfl, hd1, hb1⟩
  have HD1 := Lib.hid hd1
  clear hd1
  go_wp2_with fail
  refine (frac_any _ _ HD1.out).mono ?_
  rintro e w2 ⟨xn, xd, rfl, x2, x3, x4, x5, x6, hd2, bu2⟩
  have HD2 := Lib.hid hd2; have HX := Lib.hid (Low.mk x2 x3 x4 x5 x6)
  clear hd2 x2 x3 x4 x5 x6
  go_wp2_with fail
  refine (frac_any _ _ HD2.out).mono ?_
  rintro e w3 ⟨yn, yd, rfl, x2, x3, x4, x5, x6, hd3, bu3⟩
  have HD3 := Lib.hid hd3; have HY := Lib.hid (Low.mk x2 x3 x4 x5 x6)
  clear hd3 x2 x3 x4 x5 x6
  go_wp2_with fail
  refine (frac_any _ _ HD3.out).mono ?_
  rintro e w4 ⟨zn, zd, rfl, x2, x3, x4, x5, x6, hd4, bu4⟩
  have HZ := Lib.hid (Low.mk x2 x3 x4 x5 x6)
  clear hd4 x2 x3 x4 x5 x6
  have bel4 : Below w.heap.size w w4 := ((((But.of_below hb1).trans bu2).trans bu3).trans bu4).below (Nat.le_refl _)
  have z4 : w.heap.size ≤ w4.heap.size := bel4.size
  clear hb1 bu2 bu3 bu4 HD1 HD2 HD3

  obtain ⟨an, ad, la, ea, ca⟩ := add_low HX.out HZ.out (by omega) (by omega) (by omega) (by omega) (by omega) (by omega)
  obtain ⟨bn, bd, lb, eb, cb⟩ := add_low HY.out HZ.out (by omega) (by omega) (by omega) (by omega) (by omega) (by omega)
  have hpl := order_plain HX.out HY.out HZ.out la ea lb eb
  have hfb := floor_bd HX.out

  have cxy := cmp_any xn xd yn yd (by have := HX.out.n0; omega) (by have := HX.out.n1; omega) (by have := HY.out.n0; omega) (by have := HY.out.n1; omega) HX.out.d0 (by have := HX.out.d1; omega) HY.out.d0 (by have := HY.out.d1; omega)
  have cyx := cmp_any yn yd xn xd (by have := HY.out.n0; omega) (by have := HY.out.n1; omega) (by have := HX.out.n0; omega) (by have := HX.out.n1; omega) HY.out.d0 (by have := HY.out.d1; omega) HX.out.d0 (by have := HX.out.d1; omega)
  have cab := cmp_any an ad bn bd (by have := la.n0; omega) (by have := la.n1; omega) (by have := lb.n0; omega) (by have := lb.n1; omega) la.d0 (by have := la.d1; omega) lb.d0 (by have := lb.d1; omega)
  have cyz := cmp_any yn yd zn zd (by have := HY.out.n0; omega) (by have := HY.out.n1; omega) (by have := HZ.out.n0; omega) (by have := HZ.out.n1; omega) HY.out.d0 (by have := HY.out.d1; omega) HZ.out.d0 (by have := HZ.out.d1; omega)
  have cxz := cmp_any xn xd zn zd (by have := HX.out.n0; omega) (by have := HX.out.n1; omega) (by have := HZ.out.n0; omega) (by have := HZ.out.n1; omega) HX.out.d0 (by have := HX.out.d1; omega) HZ.out.d0 (by have := HZ.out.d1; omega)
  have cfl := floor_any xn xd (by have := HX.out.n0; omega) (by have := HX.out.n1; omega) HX.out.d0 (by have := HX.out.d1; omega)
  have ccl := ceil_any xn xd (by have := HX.out.n0; omega) (by have := HX.out.n1; omega) HX.out.d0 (by have := HX.out.d1; omega)
  rw [cmpI_neg (xn * yd) (yn * xd)] at cyx
  rw [hpl.1] at cab
  have h3 := cmpI_three (xn * yd) (yn * xd)
  have h3' := cmpI_three (yn * zd) (zn * yd)
  have h3'' := cmpI_three (xn * zd) (zn * xd)
  have hpl' := hpl.2
  clear hpl ea eb la lb
  generalize cmpI (xn * yd) (yn * xd) = c at *
  generalize cmpI (yn * zd) (zn * yd) = c2 at *
  generalize cmpI (xn * zd) (zn * xd) = c3 at *
  generalize xn / xd = fl at *
  generalize -(-xn / xd) = cl at *
  rcases h3 with rfl | rfl | rfl
  · rw [show -(-1 : Int) = 1 from rfl] at cyx
    have CA := Lib.hid ca; have CB := Lib.hid cb; have CXY := Lib.hid cxy; have CYX := Lib.hid cyx; have CAB := Lib.hid cab; have CYZ := Lib.hid cyz; have CXZ := Lib.hid cxz; have CFL := Lib.hid cfl; have CCL := Lib.hid ccl
    have HP := Lib.hid hpl'; have HF := Lib.hid hfb
    clear ca cb cxy cyx cab cyz cxz cfl ccl hpl' hfb
    by_cases hxy : xn = yn
    · subst hxy
      have hxd : (xd == yd) = false := by simp; intro h; exact absurd (HP.out.2.1 rfl h) (by omega)
      go_wp2_with fail
      refine (CA.out _).mono ?_
      rintro e w5 ⟨rfl, hb5⟩
      have f5 : Fr w4 w5 [[.int .i64 xn, .int .i64 xd], [.int .i64 xn, .int .i64 yd], [.int .i64 zn, .int .i64 zd]] := Fr.call hb5 (Fr.new (Fr.new (Fr.new (Fr.refl w4) rfl [.int .i64 xn, .int .i64 xd] 24) (by simp) [.int .i64 xn, .int .i64 yd] 24) (by simp) [.int .i64 zn, .int .i64 zd] 24)
      have tx := f5.h0; have ty := f5.h1; have tz := f5.h2
      have x0 := tx.cell 0 _ rfl; have x1 := tx.cell 1 _ rfl; have lx := tx.lt (by simp); have y0 := ty.cell 0 _ rfl; have y1 := ty.cell 1 _ rfl; have ly := ty.lt (by simp); have z0 := tz.cell 0 _ rfl; have z1 := tz.cell 1 _ rfl; have lz := tz.lt (by simp)
      go_wp2_with fail
      refine (CB.out _).mono ?_
      rintro e w6 ⟨rfl, hb6⟩
      have f6 := Fr.call hb6 (f5.more (.cells #[.int .i64 an, .int .i64 ad] 24))
      have ta := (Has.new w5 [.int .i64 an, .int .i64 ad] 24).below hb6 (by go_size)
      clear tx ty tz x0 x1 lx y0 y1 ly z0 z1 lz f5
      have tx := f6.h0; have ty := f6.h1; have tz := f6.h2
      have x0 := tx.cell 0 _ rfl; have x1 := tx.cell 1 _ rfl; have lx := tx.lt (by simp); have y0 := ty.cell 0 _ rfl; have y1 := ty.cell 1 _ rfl; have ly := ty.lt (by simp); have a0 := ta.cell 0 _ rfl; have a1 := ta.cell 1 _ rfl; have la := ta.lt (by simp)
      go_wp2_with fail
      have f7 := f6.more (.cells #[.int .i64 bn, .int .i64 bd] 24)
      have ua := ta.old (o := .cells #[.int .i64 bn, .int .i64 bd] 24) la
      have ub := Has.new w6 [.int .i64 bn, .int .i64 bd] 24
      clear x0 x1 y0 y1 a0 a1
      obtain ⟨W, hW⟩ : ∃ W, W = w6.alloc (.cells #[.int .i64 bn, .int .i64 bd] 24) := ⟨_, rfl⟩
      have f7' : Fr w4 W [[.int .i64 xn, .int .i64 xd], [.int .i64 xn, .int .i64 yd], [.int .i64 zn, .int .i64 zd]] := hW ▸ f7
      have ua' : Has W w5.heap.size [.int .i64 an, .int .i64 ad] := hW ▸ ua
      have ub' : Has W w6.heap.size [.int .i64 bn, .int .i64 bd] := hW ▸ ub
      rw [← hW]
      clear hW f7 ua ub
      have x0 := fun s : BelowW W => (f7'.h0.every (f7'.h0.lt (by simp)) s).cell 0 _ rfl; have x1 := fun s : BelowW W => (f7'.h0.every (f7'.h0.lt (by simp)) s).cell 1 _ rfl
      have y0 := fun s : BelowW W => (f7'.h1.every (f7'.h1.lt (by simp)) s).cell 0 _ rfl; have y1 := fun s : BelowW W => (f7'.h1.every (f7'.h1.lt (by simp)) s).cell 1 _ rfl
      have a0 := fun s : BelowW W => (ua'.every (ua'.lt (by simp)) s).cell 0 _ rfl; have a1 := fun s : BelowW W => (ua'.every (ua'.lt (by simp)) s).cell 1 _ rfl
      have b0 := fun s : BelowW W => (ub'.every (ub'.lt (by simp)) s).cell 0 _ rfl; have b1 := fun s : BelowW W => (ub'.every (ub'.lt (by simp)) s).cell 1 _ rfl
      refine wp_region_below (by kernel_rfl) (by kernel_rfl) ?_
      repeat (go_big_quiet_step ((go_at_call 15; first | (with_reducible exact calls_below _ (CXY.out _)) | (with_reducible exact calls_below _ (CYX.out _)) | (with_reducible exact calls_below _ (CAB.out _)))))
      refine wpQuiet_nil ?_
      rintro w' ⟨s, rfl⟩
      have x0 := x0 s; have x1 := x1 s; have y0 := y0 s; have y1 := y1 s
      obtain ⟨w7, ok7⟩ := s
      have f8 : Fr w4 w7 [[.int .i64 xn, .int .i64 xd], [.int .i64 xn, .int .i64 yd], [.int .i64 zn, .int .i64 zd]] := Fr.call ok7 f7'
      clear x0 x1 y0 y1 a0 a1 b0 b1
      have tx8 := f8.h0; have ty8 := f8.h1; have tz8 := f8.h2
      have x0 := tx8.cell 0 _ rfl; have x1 := tx8.cell 1 _ rfl; have lx := tx8.lt (by simp); have y0 := ty8.cell 0 _ rfl; have y1 := ty8.cell 1 _ rfl; have ly := ty8.lt (by simp); have z0 := tz8.cell 0 _ rfl; have z1 := tz8.cell 1 _ rfl; have lz := tz8.lt (by simp)
      go_wp2_with fail
      refine (CXY.out _).mono ?_
      rintro e w10 ⟨rfl, hb10⟩
      have f10 := Fr.call hb10 f8
      clear x0 x1 lx y0 y1 ly z0 z1 lz tx8 ty8 tz8
      have tx := f10.h0; have ty := f10.h1; have tz := f10.h2
      have x0 := tx.cell 0 _ rfl; have x1 := tx.cell 1 _ rfl; have lx := tx.lt (by simp); have y0 := ty.cell 0 _ rfl; have y1 := ty.cell 1 _ rfl; have ly := ty.lt (by simp); have z0 := tz.cell 0 _ rfl; have z1 := tz.cell 1 _ rfl; have lz := tz.lt (by simp)
      have HI := HP.out.2.2 (by omega)
      rcases Int.lt_or_le 0 c2 with k2 | k2
      · clear HI
        go_wp2_with fail
        refine (CYZ.out _).mono ?_
        rintro e w11 ⟨rfl, hb11⟩
        have f12 := Fr.call hb11 f10
        go_wp2_with fail
        have FT := f12.h0
        have x0 := fun s : BelowW _ => (FT.every (FT.lt (by simp)) s).cell 0 _ rfl; have x1 := fun s : BelowW _ => (FT.every (FT.lt (by simp)) s).cell 1 _ rfl
        refine wp_region_below (by kernel_rfl) (by kernel_rfl) ?_
        repeat (go_big_quiet_step ((first | (go_at_call 16; (with_reducible exact calls_below _ (CFL.out _))) | (go_at_call 17; (with_reducible exact calls_below _ (CCL.out _))))))
        refine wpQuiet_nil ?_
        rintro w' ⟨s, rfl⟩
        obtain ⟨w13, ok13⟩ := s
        have f13 := Fr.call ok13 f12
        clear x0 x1
        have tx9 := f13.h0
        have x0 := tx9.cell 0 _ rfl; have x1 := tx9.cell 1 _ rfl
        obtain ⟨g1, g2, g3, g4, g5, g6, g7, g8⟩ := HF.out
        have p1 := mulb (x := fl) (y := xd) (X := 10) (Y := 9) (by omega) (by omega) (by have := HX.out.d0; omega) (by have := HX.out.d1; omega)
        have p2 := mulb (x := fl + 1) (y := xd) (X := 11) (Y := 9) (by omega) (by omega) (by have := HX.out.d0; omega) (by have := HX.out.d1; omega)
        have p3 := mulb (x := cl) (y := xd) (X := 10) (Y := 9) (by omega) (by omega) (by have := HX.out.d0; omega) (by have := HX.out.d1; omega)
        have p4 := mulb (x := cl - 1) (y := xd) (X := 11) (Y := 9) (by omega) (by omega) (by have := HX.out.d0; omega) (by have := HX.out.d1; omega)
        go_wp2_with fail
        refine (awake_any _).mono ?_
        rintro e w14 ⟨rfl, hb14⟩
        go_wp2
        go_ret
        exact ⟨rfl, (bel4.trans (f13.below.mono z4)).trans (hb14.mono (by have := f13.below.size; omega))⟩
      · have k3 := HI k2
        clear HI
        go_wp2_with fail
        refine (CYZ.out _).mono ?_
        rintro e w11 ⟨rfl, hb11⟩
        have f11 := Fr.call hb11 f10
        clear x0 x1 lx y0 y1 ly z0 z1 lz tx ty tz
        have tx := f11.h0; have ty := f11.h1; have tz := f11.h2
        have x0 := tx.cell 0 _ rfl; have x1 := tx.cell 1 _ rfl; have lx := tx.lt (by simp); have y0 := ty.cell 0 _ rfl; have y1 := ty.cell 1 _ rfl; have ly := ty.lt (by simp); have z0 := tz.cell 0 _ rfl; have z1 := tz.cell 1 _ rfl; have lz := tz.lt (by simp)
        go_wp2_with fail
        refine (CXZ.out _).mono ?_
        rintro e w12 ⟨rfl, hb12⟩
        have f12 := Fr.call hb12 f11
        go_wp2_with fail
        have FT := f12.h0
        have x0 := fun s : BelowW _ => (FT.every (FT.lt (by simp)) s).cell 0 _ rfl; have x1 := fun s : BelowW _ => (FT.every (FT.lt (by simp)) s).cell 1 _ rfl
        refine wp_region_below (by kernel_rfl) (by kernel_rfl) ?_
        repeat (go_big_quiet_step ((first | (go_at_call 16; (with_reducible exact calls_below _ (CFL.out _))) | (go_at_call 17; (with_reducible exact calls_below _ (CCL.out _))))))
        refine wpQuiet_nil ?_
        rintro w' ⟨s, rfl⟩
        obtain ⟨w13, ok13⟩ := s
        have f13 := Fr.call ok13 f12
        clear x0 x1
        have tx9 := f13.h0
        have x0 := tx9.cell 0 _ rfl; have x1 := tx9.cell 1 _ rfl
        obtain ⟨g1, g2, g3, g4, g5, g6, g7, g8⟩ := HF.out
        have p1 := mulb (x := fl) (y := xd) (X := 10) (Y := 9) (by omega) (by omega) (by have := HX.out.d0; omega) (by have := HX.out.d1; omega)
        have p2 := mulb (x := fl + 1) (y := xd) (X := 11) (Y := 9) (by omega) (by omega) (by have := HX.out.d0; omega) (by have := HX.out.d1; omega)
        have p3 := mulb (x := cl) (y := xd) (X := 10) (Y := 9) (by omega) (by omega) (by have := HX.out.d0; omega) (by have := HX.out.d1; omega)
        have p4 := mulb (x := cl - 1) (y := xd) (X := 11) (Y := 9) (by omega) (by omega) (by have := HX.out.d0; omega) (by have := HX.out.d1; omega)
        go_wp2_with fail
        refine (awake_any _).mono ?_
        rintro e w14 ⟨rfl, hb14⟩
        go_wp2
        go_ret
        exact ⟨rfl, (bel4.trans (f13.below.mono z4)).trans (hb14.mono (by have := f13.below.size; omega))⟩
    · have hxn : (xn == yn) = false := by simpa using hxy
      clear hxy
      go_wp2_with fail
      refine (CA.out _).mono ?_
      rintro e w5 ⟨rfl, hb5⟩
      have f5 : Fr w4 w5 [[.int .i64 xn, .int .i64 xd], [.int .i64 yn, .int .i64 yd], [.int .i64 zn, .int .i64 zd]] := Fr.call hb5 (Fr.new (Fr.new (Fr.new (Fr.refl w4) rfl [.int .i64 xn, .int .i64 xd] 24) (by simp) [.int .i64 yn, .int .i64 yd] 24) (by simp) [.int .i64 zn, .int .i64 zd] 24)
      have tx := f5.h0; have ty := f5.h1; have tz := f5.h2
      have x0 := tx.cell 0 _ rfl; have x1 := tx.cell 1 _ rfl; have lx := tx.lt (by simp); have y0 := ty.cell 0 _ rfl; have y1 := ty.cell 1 _ rfl; have ly := ty.lt (by simp); have z0 := tz.cell 0 _ rfl; have z1 := tz.cell 1 _ rfl; have lz := tz.lt (by simp)
      go_wp2_with fail
      refine (CB.out _).mono ?_
      rintro e w6 ⟨rfl, hb6⟩
      have f6 := Fr.call hb6 (f5.more (.cells #[.int .i64 an, .int .i64 ad] 24))
      have ta := (Has.new w5 [.int .i64 an, .int .i64 ad] 24).below hb6 (by go_size)
      clear tx ty tz x0 x1 lx y0 y1 ly z0 z1 lz f5
      have tx := f6.h0; have ty := f6.h1; have tz := f6.h2
      have x0 := tx.cell 0 _ rfl; have x1 := tx.cell 1 _ rfl; have lx := tx.lt (by simp); have y0 := ty.cell 0 _ rfl; have y1 := ty.cell 1 _ rfl; have ly := ty.lt (by simp); have a0 := ta.cell 0 _ rfl; have a1 := ta.cell 1 _ rfl; have la := ta.lt (by simp)
      go_wp2_with fail
      have f7 := f6.more (.cells #[.int .i64 bn, .int .i64 bd] 24)
      have ua := ta.old (o := .cells #[.int .i64 bn, .int .i64 bd] 24) la
      have ub := Has.new w6 [.int .i64 bn, .int .i64 bd] 24
      clear x0 x1 y0 y1 a0 a1
      obtain ⟨W, hW⟩ : ∃ W, W = w6.alloc (.cells #[.int .i64 bn, .int .i64 bd] 24) := ⟨_, rfl⟩
      have f7' : Fr w4 W [[.int .i64 xn, .int .i64 xd], [.int .i64 yn, .int .i64 yd], [.int .i64 zn, .int .i64 zd]] := hW ▸ f7
      have ua' : Has W w5.heap.size [.int .i64 an, .int .i64 ad] := hW ▸ ua
      have ub' : Has W w6.heap.size [.int .i64 bn, .int .i64 bd] := hW ▸ ub
      rw [← hW]
      clear hW f7 ua ub
      have x0 := fun s : BelowW W => (f7'.h0.every (f7'.h0.lt (by simp)) s).cell 0 _ rfl; have x1 := fun s : BelowW W => (f7'.h0.every (f7'.h0.lt (by simp)) s).cell 1 _ rfl
      have y0 := fun s : BelowW W => (f7'.h1.every (f7'.h1.lt (by simp)) s).cell 0 _ rfl; have y1 := fun s : BelowW W => (f7'.h1.every (f7'.h1.lt (by simp)) s).cell 1 _ rfl
      have a0 := fun s : BelowW W => (ua'.every (ua'.lt (by simp)) s).cell 0 _ rfl; have a1 := fun s : BelowW W => (ua'.every (ua'.lt (by simp)) s).cell 1 _ rfl
      have b0 := fun s : BelowW W => (ub'.every (ub'.lt (by simp)) s).cell 0 _ rfl; have b1 := fun s : BelowW W => (ub'.every (ub'.lt (by simp)) s).cell 1 _ rfl
      refine wp_region_below (by kernel_rfl) (by kernel_rfl) ?_
      repeat (go_big_quiet_step ((go_at_call 15; first | (with_reducible exact calls_below _ (CXY.out _)) | (with_reducible exact calls_below _ (CYX.out _)) | (with_reducible exact calls_below _ (CAB.out _)))))
      refine wpQuiet_nil ?_
      rintro w' ⟨s, rfl⟩
      have x0 := x0 s; have x1 := x1 s; have y0 := y0 s; have y1 := y1 s
      obtain ⟨w7, ok7⟩ := s
      have f8 : Fr w4 w7 [[.int .i64 xn, .int .i64 xd], [.int .i64 yn, .int .i64 yd], [.int .i64 zn, .int .i64 zd]] := Fr.call ok7 f7'
      clear x0 x1 y0 y1 a0 a1 b0 b1
      have tx8 := f8.h0; have ty8 := f8.h1; have tz8 := f8.h2
      have x0 := tx8.cell 0 _ rfl; have x1 := tx8.cell 1 _ rfl; have lx := tx8.lt (by simp); have y0 := ty8.cell 0 _ rfl; have y1 := ty8.cell 1 _ rfl; have ly := ty8.lt (by simp); have z0 := tz8.cell 0 _ rfl; have z1 := tz8.cell 1 _ rfl; have lz := tz8.lt (by simp)
      go_wp2_with fail
      refine (CXY.out _).mono ?_
      rintro e w10 ⟨rfl, hb10⟩
      have f10 := Fr.call hb10 f8
      clear x0 x1 lx y0 y1 ly z0 z1 lz tx8 ty8 tz8
      have tx := f10.h0; have ty := f10.h1; have tz := f10.h2
      have x0 := tx.cell 0 _ rfl; have x1 := tx.cell 1 _ rfl; have lx := tx.lt (by simp); have y0 := ty.cell 0 _ rfl; have y1 := ty.cell 1 _ rfl; have ly := ty.lt (by simp); have z0 := tz.cell 0 _ rfl; have z1 := tz.cell 1 _ rfl; have lz := tz.lt (by simp)
      have HI := HP.out.2.2 (by omega)
      rcases Int.lt_or_le 0 c2 with k2 | k2
      · clear HI
        go_wp2_with fail
        refine (CYZ.out _).mono ?_
        rintro e w11 ⟨rfl, hb11⟩
        have f12 := Fr.call hb11 f10
        go_wp2_with fail
        have FT := f12.h0
        have x0 := fun s : BelowW _ => (FT.every (FT.lt (by simp)) s).cell 0 _ rfl; have x1 := fun s : BelowW _ => (FT.every (FT.lt (by simp)) s).cell 1 _ rfl
        refine wp_region_below (by kernel_rfl) (by kernel_rfl) ?_
        repeat (go_big_quiet_step ((first | (go_at_call 16; (with_reducible exact calls_below _ (CFL.out _))) | (go_at_call 17; (with_reducible exact calls_below _ (CCL.out _))))))
        refine wpQuiet_nil ?_
        rintro w' ⟨s, rfl⟩
        obtain ⟨w13, ok13⟩ := s
        have f13 := Fr.call ok13 f12
        clear x0 x1
        have tx9 := f13.h0
        have x0 := tx9.cell 0 _ rfl; have x1 := tx9.cell 1 _ rfl
        obtain ⟨g1, g2, g3, g4, g5, g6, g7, g8⟩ := HF.out
        have p1 := mulb (x := fl) (y := xd) (X := 10) (Y := 9) (by omega) (by omega) (by have := HX.out.d0; omega) (by have := HX.out.d1; omega)
        have p2 := mulb (x := fl + 1) (y := xd) (X := 11) (Y := 9) (by omega) (by omega) (by have := HX.out.d0; omega) (by have := HX.out.d1; omega)
        have p3 := mulb (x := cl) (y := xd) (X := 10) (Y := 9) (by omega) (by omega) (by have := HX.out.d0; omega) (by have := HX.out.d1; omega)
        have p4 := mulb (x := cl - 1) (y := xd) (X := 11) (Y := 9) (by omega) (by omega) (by have := HX.out.d0; omega) (by have := HX.out.d1; omega)
        go_wp2_with fail
        refine (awake_any _).mono ?_
        rintro e w14 ⟨rfl, hb14⟩
        go_wp2
        go_ret
        exact ⟨rfl, (bel4.trans (f13.below.mono z4)).trans (hb14.mono (by have := f13.below.size; omega))⟩
      · have k3 := HI k2
        clear HI
        go_wp2_with fail
        refine (CYZ.out _).mono ?_
        rintro e w11 ⟨rfl, hb11⟩
        have f11 := Fr.call hb11 f10
        clear x0 x1 lx y0 y1 ly z0 z1 lz tx ty tz
        have tx := f11.h0; have ty := f11.h1; have tz := f11.h2
        have x0 := tx.cell 0 _ rfl; have x1 := tx.cell 1 _ rfl; have lx := tx.lt (by simp); have y0 := ty.cell 0 _ rfl; have y1 := ty.cell 1 _ rfl; have ly := ty.lt (by simp); have z0 := tz.cell 0 _ rfl; have z1 := tz.cell 1 _ rfl; have lz := tz.lt (by simp)
        go_wp2_with fail
        refine (CXZ.out _).mono ?_
        rintro e w12 ⟨rfl, hb12⟩
        have f12 := Fr.call hb12 f11
        go_wp2_with fail
        have FT := f12.h0
        have x0 := fun s : BelowW _ => (FT.every (FT.lt (by simp)) s).cell 0 _ rfl; have x1 := fun s : BelowW _ => (FT.every (FT.lt (by simp)) s).cell 1 _ rfl
        refine wp_region_below (by kernel_rfl) (by kernel_rfl) ?_
        repeat (go_big_quiet_step ((first | (go_at_call 16; (with_reducible exact calls_below _ (CFL.out _))) | (go_at_call 17; (with_reducible exact calls_below _ (CCL.out _))))))
        refine wpQuiet_nil ?_
        rintro w' ⟨s, rfl⟩
        obtain ⟨w13, ok13⟩ := s
        have f13 := Fr.call ok13 f12
        clear x0 x1
        have tx9 := f13.h0
        have x0 := tx9.cell 0 _ rfl; have x1 := tx9.cell 1 _ rfl
        obtain ⟨g1, g2, g3, g4, g5, g6, g7, g8⟩ := HF.out
        have p1 := mulb (x := fl) (y := xd) (X := 10) (Y := 9) (by omega) (by omega) (by have := HX.out.d0; omega) (by have := HX.out.d1; omega)
        have p2 := mulb (x := fl + 1) (y := xd) (X := 11) (Y := 9) (by omega) (by omega) (by have := HX.out.d0; omega) (by have := HX.out.d1; omega)
        have p3 := mulb (x := cl) (y := xd) (X := 10) (Y := 9) (by omega) (by omega) (by have := HX.out.d0; omega) (by have := HX.out.d1; omega)
        have p4 := mulb (x := cl - 1) (y := xd) (X := 11) (Y := 9) (by omega) (by omega) (by have := HX.out.d0; omega) (by have := HX.out.d1; omega)
        go_wp2_with fail
        refine (awake_any _).mono ?_
        rintro e w14 ⟨rfl, hb14⟩
        go_wp2
        go_ret
        exact ⟨rfl, (bel4.trans (f13.below.mono z4)).trans (hb14.mono (by have := f13.below.size; omega))⟩
  · rw [Int.neg_zero] at cyx
    obtain ⟨rfl, rfl⟩ := hpl'.1 rfl
    have CA := Lib.hid ca; have CB := Lib.hid cb; have CXY := Lib.hid cxy; have CYX := Lib.hid cyx; have CAB := Lib.hid cab; have CYZ := Lib.hid cyz; have CXZ := Lib.hid cxz; have CFL := Lib.hid cfl; have CCL := Lib.hid ccl
    have HP := Lib.hid hpl'; have HF := Lib.hid hfb
    clear ca cb cxy cyx cab cyz cxz cfl ccl hpl' hfb
    go_wp2_with fail
    refine (CA.out _).mono ?_
    rintro e w5 ⟨rfl, hb5⟩
    have f5 : Fr w4 w5 [[.int .i64 xn, .int .i64 xd], [.int .i64 xn, .int .i64 xd], [.int .i64 zn, .int .i64 zd]] := Fr.call hb5 (Fr.new (Fr.new (Fr.new (Fr.refl w4) rfl [.int .i64 xn, .int .i64 xd] 24) (by simp) [.int .i64 xn, .int .i64 xd] 24) (by simp) [.int .i64 zn, .int .i64 zd] 24)
    have tx := f5.h0; have ty := f5.h1; have tz := f5.h2
    have x0 := tx.cell 0 _ rfl; have x1 := tx.cell 1 _ rfl; have lx := tx.lt (by simp); have y0 := ty.cell 0 _ rfl; have y1 := ty.cell 1 _ rfl; have ly := ty.lt (by simp); have z0 := tz.cell 0 _ rfl; have z1 := tz.cell 1 _ rfl; have lz := tz.lt (by simp)
    go_wp2_with fail
    refine (CB.out _).mono ?_
    rintro e w6 ⟨rfl, hb6⟩
    have f6 := Fr.call hb6 (f5.more (.cells #[.int .i64 an, .int .i64 ad] 24))
    have ta := (Has.new w5 [.int .i64 an, .int .i64 ad] 24).below hb6 (by go_size)
    clear tx ty tz x0 x1 lx y0 y1 ly z0 z1 lz f5
    have tx := f6.h0; have ty := f6.h1; have tz := f6.h2
    have x0 := tx.cell 0 _ rfl; have x1 := tx.cell 1 _ rfl; have lx := tx.lt (by simp); have y0 := ty.cell 0 _ rfl; have y1 := ty.cell 1 _ rfl; have ly := ty.lt (by simp); have a0 := ta.cell 0 _ rfl; have a1 := ta.cell 1 _ rfl; have la := ta.lt (by simp)
    go_wp2_with fail
    have f7 := f6.more (.cells #[.int .i64 bn, .int .i64 bd] 24)
    have ua := ta.old (o := .cells #[.int .i64 bn, .int .i64 bd] 24) la
    have ub := Has.new w6 [.int .i64 bn, .int .i64 bd] 24
    clear x0 x1 y0 y1 a0 a1
    obtain ⟨W, hW⟩ : ∃ W, W = w6.alloc (.cells #[.int .i64 bn, .int .i64 bd] 24) := ⟨_, rfl⟩
    have f7' : Fr w4 W [[.int .i64 xn, .int .i64 xd], [.int .i64 xn, .int .i64 xd], [.int .i64 zn, .int .i64 zd]] := hW ▸ f7
    have ua' : Has W w5.heap.size [.int .i64 an, .int .i64 ad] := hW ▸ ua
    have ub' : Has W w6.heap.size [.int .i64 bn, .int .i64 bd] := hW ▸ ub
    rw [← hW]
    clear hW f7 ua ub
    have x0 := fun s : BelowW W => (f7'.h0.every (f7'.h0.lt (by simp)) s).cell 0 _ rfl; have x1 := fun s : BelowW W => (f7'.h0.every (f7'.h0.lt (by simp)) s).cell 1 _ rfl
    have y0 := fun s : BelowW W => (f7'.h1.every (f7'.h1.lt (by simp)) s).cell 0 _ rfl; have y1 := fun s : BelowW W => (f7'.h1.every (f7'.h1.lt (by simp)) s).cell 1 _ rfl
    have a0 := fun s : BelowW W => (ua'.every (ua'.lt (by simp)) s).cell 0 _ rfl; have a1 := fun s : BelowW W => (ua'.every (ua'.lt (by simp)) s).cell 1 _ rfl
    have b0 := fun s : BelowW W => (ub'.every (ub'.lt (by simp)) s).cell 0 _ rfl; have b1 := fun s : BelowW W => (ub'.every (ub'.lt (by simp)) s).cell 1 _ rfl
    refine wp_region_below (by kernel_rfl) (by kernel_rfl) ?_
    repeat (go_big_quiet_step ((go_at_call 15; first | (with_reducible exact calls_below _ (CXY.out _)) | (with_reducible exact calls_below _ (CYX.out _)) | (with_reducible exact calls_below _ (CAB.out _)))))
    refine wpQuiet_nil ?_
    rintro w' ⟨s, rfl⟩
    have x0 := x0 s; have x1 := x1 s; have y0 := y0 s; have y1 := y1 s
    obtain ⟨w7, ok7⟩ := s
    have f8 : Fr w4 w7 [[.int .i64 xn, .int .i64 xd], [.int .i64 xn, .int .i64 xd], [.int .i64 zn, .int .i64 zd]] := Fr.call ok7 f7'
    clear x0 x1 y0 y1 a0 a1 b0 b1
    have tx8 := f8.h0; have ty8 := f8.h1; have tz8 := f8.h2
    have x0 := tx8.cell 0 _ rfl; have x1 := tx8.cell 1 _ rfl; have lx := tx8.lt (by simp); have y0 := ty8.cell 0 _ rfl; have y1 := ty8.cell 1 _ rfl; have ly := ty8.lt (by simp); have z0 := tz8.cell 0 _ rfl; have z1 := tz8.cell 1 _ rfl; have lz := tz8.lt (by simp)
    go_wp2_with fail
    refine (CXY.out _).mono ?_
    rintro e w10 ⟨rfl, hb10⟩
    have f10 := Fr.call hb10 f8
    clear x0 x1 lx y0 y1 ly z0 z1 lz tx8 ty8 tz8
    have tx := f10.h0; have ty := f10.h1; have tz := f10.h2
    have x0 := tx.cell 0 _ rfl; have x1 := tx.cell 1 _ rfl; have lx := tx.lt (by simp); have y0 := ty.cell 0 _ rfl; have y1 := ty.cell 1 _ rfl; have ly := ty.lt (by simp); have z0 := tz.cell 0 _ rfl; have z1 := tz.cell 1 _ rfl; have lz := tz.lt (by simp)
    have HI := HP.out.2.2 (by omega)
    rcases Int.lt_or_le 0 c2 with k2 | k2
    · clear HI
      go_wp2_with fail
      refine (CYZ.out _).mono ?_
      rintro e w11 ⟨rfl, hb11⟩
      have f12 := Fr.call hb11 f10
      go_wp2_with fail
      have FT := f12.h0
      have x0 := fun s : BelowW _ => (FT.every (FT.lt (by simp)) s).cell 0 _ rfl; have x1 := fun s : BelowW _ => (FT.every (FT.lt (by simp)) s).cell 1 _ rfl
      refine wp_region_below (by kernel_rfl) (by kernel_rfl) ?_
      repeat (go_big_quiet_step ((first | (go_at_call 16; (with_reducible exact calls_below _ (CFL.out _))) | (go_at_call 17; (with_reducible exact calls_below _ (CCL.out _))))))
      refine wpQuiet_nil ?_
      rintro w' ⟨s, rfl⟩
      obtain ⟨w13, ok13⟩ := s
      have f13 := Fr.call ok13 f12
      clear x0 x1
      have tx9 := f13.h0
      have x0 := tx9.cell 0 _ rfl; have x1 := tx9.cell 1 _ rfl
      obtain ⟨g1, g2, g3, g4, g5, g6, g7, g8⟩ := HF.out
      have p1 := mulb (x := fl) (y := xd) (X := 10) (Y := 9) (by omega) (by omega) (by have := HX.out.d0; omega) (by have := HX.out.d1; omega)
      have p2 := mulb (x := fl + 1) (y := xd) (X := 11) (Y := 9) (by omega) (by omega) (by have := HX.out.d0; omega) (by have := HX.out.d1; omega)
      have p3 := mulb (x := cl) (y := xd) (X := 10) (Y := 9) (by omega) (by omega) (by have := HX.out.d0; omega) (by have := HX.out.d1; omega)
      have p4 := mulb (x := cl - 1) (y := xd) (X := 11) (Y := 9) (by omega) (by omega) (by have := HX.out.d0; omega) (by have := HX.out.d1; omega)
      go_wp2_with fail
      refine (awake_any _).mono ?_
      rintro e w14 ⟨rfl, hb14⟩
      go_wp2
      go_ret
      exact ⟨rfl, (bel4.trans (f13.below.mono z4)).trans (hb14.mono (by have := f13.below.size; omega))⟩
    · have k3 := HI k2
      clear HI
      go_wp2_with fail
      refine (CYZ.out _).mono ?_
      rintro e w11 ⟨rfl, hb11⟩
      have f11 := Fr.call hb11 f10
      clear x0 x1 lx y0 y1 ly z0 z1 lz tx ty tz
      have tx := f11.h0; have ty := f11.h1; have tz := f11.h2
      have x0 := tx.cell 0 _ rfl; have x1 := tx.cell 1 _ rfl; have lx := tx.lt (by simp); have y0 := ty.cell 0 _ rfl; have y1 := ty.cell 1 _ rfl; have ly := ty.lt (by simp); have z0 := tz.cell 0 _ rfl; have z1 := tz.cell 1 _ rfl; have lz := tz.lt (by simp)
      go_wp2_with fail
      refine (CXZ.out _).mono ?_
      rintro e w12 ⟨rfl, hb12⟩
      have f12 := Fr.call hb12 f11
      go_wp2_with fail
      have FT := f12.h0
      have x0 := fun s : BelowW _ => (FT.every (FT.lt (by simp)) s).cell 0 _ rfl; have x1 := fun s : BelowW _ => (FT.every (FT.lt (by simp)) s).cell 1 _ rfl
      refine wp_region_below (by kernel_rfl) (by kernel_rfl) ?_
      repeat (go_big_quiet_step ((first | (go_at_call 16; (with_reducible exact calls_below _ (CFL.out _))) | (go_at_call 17; (with_reducible exact calls_below _ (CCL.out _))))))
      refine wpQuiet_nil ?_
      rintro w' ⟨s, rfl⟩
      obtain ⟨w13, ok13⟩ := s
      have f13 := Fr.call ok13 f12
      clear x0 x1
      have tx9 := f13.h0
      have x0 := tx9.cell 0 _ rfl; have x1 := tx9.cell 1 _ rfl
      obtain ⟨g1, g2, g3, g4, g5, g6, g7, g8⟩ := HF.out
      have p1 := mulb (x := fl) (y := xd) (X := 10) (Y := 9) (by omega) (by omega) (by have := HX.out.d0; omega) (by have := HX.out.d1; omega)
      have p2 := mulb (x := fl + 1) (y := xd) (X := 11) (Y := 9) (by omega) (by omega) (by have := HX.out.d0; omega) (by have := HX.out.d1; omega)
      have p3 := mulb (x := cl) (y := xd) (X := 10) (Y := 9) (by omega) (by omega) (by have := HX.out.d0; omega) (by have := HX.out.d1; omega)
      have p4 := mulb (x := cl - 1) (y := xd) (X := 11) (Y := 9) (by omega) (by omega) (by have := HX.out.d0; omega) (by have := HX.out.d1; omega)
      go_wp2_with fail
      refine (awake_any _).mono ?_
      rintro e w14 ⟨rfl, hb14⟩
      go_wp2
      go_ret
      exact ⟨rfl, (bel4.trans (f13.below.mono z4)).trans (hb14.mono (by have := f13.below.size; omega))⟩
  · have CA := Lib.hid ca; have CB := Lib.hid cb; have CXY := Lib.hid cxy; have CYX := Lib.hid cyx; have CAB := Lib.hid cab; have CYZ := Lib.hid cyz; have CXZ := Lib.hid cxz; have CFL := Lib.hid cfl; have CCL := Lib.hid ccl
    have HP := Lib.hid hpl'; have HF := Lib.hid hfb
    clear ca cb cxy cyx cab cyz cxz cfl ccl hpl' hfb
    by_cases hxy : xn = yn
    · subst hxy
      have hxd : (xd == yd) = false := by simp; intro h; exact absurd (HP.out.2.1 rfl h) (by omega)
      go_wp2_with fail
      refine (CA.out _).mono ?_
      rintro e w5 ⟨rfl, hb5⟩
      have f5 : Fr w4 w5 [[.int .i64 xn, .int .i64 xd], [.int .i64 xn, .int .i64 yd], [.int .i64 zn, .int .i64 zd]] := Fr.call hb5 (Fr.new (Fr.new (Fr.new (Fr.refl w4) rfl [.int .i64 xn, .int .i64 xd] 24) (by simp) [.int .i64 xn, .int .i64 yd] 24) (by simp) [.int .i64 zn, .int .i64 zd] 24)
      have tx := f5.h0; have ty := f5.h1; have tz := f5.h2
      have x0 := tx.cell 0 _ rfl; have x1 := tx.cell 1 _ rfl; have lx := tx.lt (by simp); have y0 := ty.cell 0 _ rfl; have y1 := ty.cell 1 _ rfl; have ly := ty.lt (by simp); have z0 := tz.cell 0 _ rfl; have z1 := tz.cell 1 _ rfl; have lz := tz.lt (by simp)
      go_wp2_with fail
      refine (CB.out _).mono ?_
      rintro e w6 ⟨rfl, hb6⟩
      have f6 := Fr.call hb6 (f5.more (.cells #[.int .i64 an, .int .i64 ad] 24))
      have ta := (Has.new w5 [.int .i64 an, .int .i64 ad] 24).below hb6 (by go_size)
      clear tx ty tz x0 x1 lx y0 y1 ly z0 z1 lz f5
      have tx := f6.h0; have ty := f6.h1; have tz := f6.h2
      have x0 := tx.cell 0 _ rfl; have x1 := tx.cell 1 _ rfl; have lx := tx.lt (by simp); have y0 := ty.cell 0 _ rfl; have y1 := ty.cell 1 _ rfl; have ly := ty.lt (by simp); have a0 := ta.cell 0 _ rfl; have a1 := ta.cell 1 _ rfl; have la := ta.lt (by simp)
      go_wp2_with fail
      have f7 := f6.more (.cells #[.int .i64 bn, .int .i64 bd] 24)
      have ua := ta.old (o := .cells #[.int .i64 bn, .int .i64 bd] 24) la
      have ub := Has.new w6 [.int .i64 bn, .int .i64 bd] 24
      clear x0 x1 y0 y1 a0 a1
      obtain ⟨W, hW⟩ : ∃ W, W = w6.alloc (.cells #[.int .i64 bn, .int .i64 bd] 24) := ⟨_, rfl⟩
      have f7' : Fr w4 W [[.int .i64 xn, .int .i64 xd], [.int .i64 xn, .int .i64 yd], [.int .i64 zn, .int .i64 zd]] := hW ▸ f7
      have ua' : Has W w5.heap.size [.int .i64 an, .int .i64 ad] := hW ▸ ua
      have ub' : Has W w6.heap.size [.int .i64 bn, .int .i64 bd] := hW ▸ ub
      rw [← hW]
      clear hW f7 ua ub
      have x0 := fun s : BelowW W => (f7'.h0.every (f7'.h0.lt (by simp)) s).cell 0 _ rfl; have x1 := fun s : BelowW W => (f7'.h0.every (f7'.h0.lt (by simp)) s).cell 1 _ rfl
      have y0 := fun s : BelowW W => (f7'.h1.every (f7'.h1.lt (by simp)) s).cell 0 _ rfl; have y1 := fun s : BelowW W => (f7'.h1.every (f7'.h1.lt (by simp)) s).cell 1 _ rfl
      have a0 := fun s : BelowW W => (ua'.every (ua'.lt (by simp)) s).cell 0 _ rfl; have a1 := fun s : BelowW W => (ua'.every (ua'.lt (by simp)) s).cell 1 _ rfl
      have b0 := fun s : BelowW W => (ub'.every (ub'.lt (by simp)) s).cell 0 _ rfl; have b1 := fun s : BelowW W => (ub'.every (ub'.lt (by simp)) s).cell 1 _ rfl
      refine wp_region_below (by kernel_rfl) (by kernel_rfl) ?_
      repeat (go_big_quiet_step ((go_at_call 15; first | (with_reducible exact calls_below _ (CXY.out _)) | (with_reducible exact calls_below _ (CYX.out _)) | (with_reducible exact calls_below _ (CAB.out _)))))
      refine wpQuiet_nil ?_
      rintro w' ⟨s, rfl⟩
      have x0 := x0 s; have x1 := x1 s; have y0 := y0 s; have y1 := y1 s
      obtain ⟨w7, ok7⟩ := s
      have f8 : Fr w4 w7 [[.int .i64 xn, .int .i64 xd], [.int .i64 xn, .int .i64 yd], [.int .i64 zn, .int .i64 zd]] := Fr.call ok7 f7'
      clear x0 x1 y0 y1 a0 a1 b0 b1
      have tx8 := f8.h0; have ty8 := f8.h1; have tz8 := f8.h2
      have x0 := tx8.cell 0 _ rfl; have x1 := tx8.cell 1 _ rfl; have lx := tx8.lt (by simp); have y0 := ty8.cell 0 _ rfl; have y1 := ty8.cell 1 _ rfl; have ly := ty8.lt (by simp); have z0 := tz8.cell 0 _ rfl; have z1 := tz8.cell 1 _ rfl; have lz := tz8.lt (by simp)
      go_wp2_with fail
      refine (CXY.out _).mono ?_
      rintro e w10 ⟨rfl, hb10⟩
      have f12 := Fr.call hb10 f8
      clear x0 x1 lx y0 y1 ly z0 z1 lz tx8 ty8 tz8
      go_wp2_with fail
      have FT := f12.h0
      have x0 := fun s : BelowW _ => (FT.every (FT.lt (by simp)) s).cell 0 _ rfl; have x1 := fun s : BelowW _ => (FT.every (FT.lt (by simp)) s).cell 1 _ rfl
      refine wp_region_below (by kernel_rfl) (by kernel_rfl) ?_
      repeat (go_big_quiet_step ((first | (go_at_call 16; (with_reducible exact calls_below _ (CFL.out _))) | (go_at_call 17; (with_reducible exact calls_below _ (CCL.out _))))))
      refine wpQuiet_nil ?_
      rintro w' ⟨s, rfl⟩
      obtain ⟨w13, ok13⟩ := s
      have f13 := Fr.call ok13 f12
      clear x0 x1
      have tx9 := f13.h0
      have x0 := tx9.cell 0 _ rfl; have x1 := tx9.cell 1 _ rfl
      obtain ⟨g1, g2, g3, g4, g5, g6, g7, g8⟩ := HF.out
      have p1 := mulb (x := fl) (y := xd) (X := 10) (Y := 9) (by omega) (by omega) (by have := HX.out.d0; omega) (by have := HX.out.d1; omega)
      have p2 := mulb (x := fl + 1) (y := xd) (X := 11) (Y := 9) (by omega) (by omega) (by have := HX.out.d0; omega) (by have := HX.out.d1; omega)
      have p3 := mulb (x := cl) (y := xd) (X := 10) (Y := 9) (by omega) (by omega) (by have := HX.out.d0; omega) (by have := HX.out.d1; omega)
      have p4 := mulb (x := cl - 1) (y := xd) (X := 11) (Y := 9) (by omega) (by omega) (by have := HX.out.d0; omega) (by have := HX.out.d1; omega)
      go_wp2_with fail
      refine (awake_any _).mono ?_
      rintro e w14 ⟨rfl, hb14⟩
      go_wp2
      go_ret
      exact ⟨rfl, (bel4.trans (f13.below.mono z4)).trans (hb14.mono (by have := f13.below.size; omega))⟩
    · have hxn : (xn == yn) = false := by simpa using hxy
      clear hxy
      go_wp2_with fail
      refine (CA.out _).mono ?_
      rintro e w5 ⟨rfl, hb5⟩
      have f5 : Fr w4 w5 [[.int .i64 xn, .int .i64 xd], [.int .i64 yn, .int .i64 yd], [.int .i64 zn, .int .i64 zd]] := Fr.call hb5 (Fr.new (Fr.new (Fr.new (Fr.refl w4) rfl [.int .i64 xn, .int .i64 xd] 24) (by simp) [.int .i64 yn, .int .i64 yd] 24) (by simp) [.int .i64 zn, .int .i64 zd] 24)
      have tx := f5.h0; have ty := f5.h1; have tz := f5.h2
      have x0 := tx.cell 0 _ rfl; have x1 := tx.cell 1 _ rfl; have lx := tx.lt (by simp); have y0 := ty.cell 0 _ rfl; have y1 := ty.cell 1 _ rfl; have ly := ty.lt (by simp); have z0 := tz.cell 0 _ rfl; have z1 := tz.cell 1 _ rfl; have lz := tz.lt (by simp)
      go_wp2_with fail
      refine (CB.out _).mono ?_
      rintro e w6 ⟨rfl, hb6⟩
      have f6 := Fr.call hb6 (f5.more (.cells #[.int .i64 an, .int .i64 ad] 24))
      have ta := (Has.new w5 [.int .i64 an, .int .i64 ad] 24).below hb6 (by go_size)
      clear tx ty tz x0 x1 lx y0 y1 ly z0 z1 lz f5
      have tx := f6.h0; have ty := f6.h1; have tz := f6.h2
      have x0 := tx.cell 0 _ rfl; have x1 := tx.cell 1 _ rfl; have lx := tx.lt (by simp); have y0 := ty.cell 0 _ rfl; have y1 := ty.cell 1 _ rfl; have ly := ty.lt (by simp); have a0 := ta.cell 0 _ rfl; have a1 := ta.cell 1 _ rfl; have la := ta.lt (by simp)
      go_wp2_with fail
      have f7 := f6.more (.cells #[.int .i64 bn, .int .i64 bd] 24)
      have ua := ta.old (o := .cells #[.int .i64 bn, .int .i64 bd] 24) la
      have ub := Has.new w6 [.int .i64 bn, .int .i64 bd] 24
      clear x0 x1 y0 y1 a0 a1
      obtain ⟨W, hW⟩ : ∃ W, W = w6.alloc (.cells #[.int .i64 bn, .int .i64 bd] 24) := ⟨_, rfl⟩
      have f7' : Fr w4 W [[.int .i64 xn, .int .i64 xd], [.int .i64 yn, .int .i64 yd], [.int .i64 zn, .int .i64 zd]] := hW ▸ f7
      have ua' : Has W w5.heap.size [.int .i64 an, .int .i64 ad] := hW ▸ ua
      have ub' : Has W w6.heap.size [.int .i64 bn, .int .i64 bd] := hW ▸ ub
      rw [← hW]
      clear hW f7 ua ub
      have x0 := fun s : BelowW W => (f7'.h0.every (f7'.h0.lt (by simp)) s).cell 0 _ rfl; have x1 := fun s : BelowW W => (f7'.h0.every (f7'.h0.lt (by simp)) s).cell 1 _ rfl
      have y0 := fun s : BelowW W => (f7'.h1.every (f7'.h1.lt (by simp)) s).cell 0 _ rfl; have y1 := fun s : BelowW W => (f7'.h1.every (f7'.h1.lt (by simp)) s).cell 1 _ rfl
      have a0 := fun s : BelowW W => (ua'.every (ua'.lt (by simp)) s).cell 0 _ rfl; have a1 := fun s : BelowW W => (ua'.every (ua'.lt (by simp)) s).cell 1 _ rfl
      have b0 := fun s : BelowW W => (ub'.every (ub'.lt (by simp)) s).cell 0 _ rfl; have b1 := fun s : BelowW W => (ub'.every (ub'.lt (by simp)) s).cell 1 _ rfl
      refine wp_region_below (by kernel_rfl) (by kernel_rfl) ?_
      repeat (go_big_quiet_step ((go_at_call 15; first | (with_reducible exact calls_below _ (CXY.out _)) | (with_reducible exact calls_below _ (CYX.out _)) | (with_reducible exact calls_below _ (CAB.out _)))))
      refine wpQuiet_nil ?_
      rintro w' ⟨s, rfl⟩
      have x0 := x0 s; have x1 := x1 s; have y0 := y0 s; have y1 := y1 s
      obtain ⟨w7, ok7⟩ := s
      have f8 : Fr w4 w7 [[.int .i64 xn, .int .i64 xd], [.int .i64 yn, .int .i64 yd], [.int .i64 zn, .int .i64 zd]] := Fr.call ok7 f7'
      clear x0 x1 y0 y1 a0 a1 b0 b1
      have tx8 := f8.h0; have ty8 := f8.h1; have tz8 := f8.h2
      have x0 := tx8.cell 0 _ rfl; have x1 := tx8.cell 1 _ rfl; have lx := tx8.lt (by simp); have y0 := ty8.cell 0 _ rfl; have y1 := ty8.cell 1 _ rfl; have ly := ty8.lt (by simp); have z0 := tz8.cell 0 _ rfl; have z1 := tz8.cell 1 _ rfl; have lz := tz8.lt (by simp)
      go_wp2_with fail
      refine (CXY.out _).mono ?_
      rintro e w10 ⟨rfl, hb10⟩
      have f12 := Fr.call hb10 f8
      clear x0 x1 lx y0 y1 ly z0 z1 lz tx8 ty8 tz8
      go_wp2_with fail
      have FT := f12.h0
      have x0 := fun s : BelowW _ => (FT.every (FT.lt (by simp)) s).cell 0 _ rfl; have x1 := fun s : BelowW _ => (FT.every (FT.lt (by simp)) s).cell 1 _ rfl
      refine wp_region_below (by kernel_rfl) (by kernel_rfl) ?_
      repeat (go_big_quiet_step ((first | (go_at_call 16; (with_reducible exact calls_below _ (CFL.out _))) | (go_at_call 17; (with_reducible exact calls_below _ (CCL.out _))))))
      refine wpQuiet_nil ?_
      rintro w' ⟨s, rfl⟩
      obtain ⟨w13, ok13⟩ := s
      have f13 := Fr.call ok13 f12
      clear x0 x1
      have tx9 := f13.h0
      have x0 := tx9.cell 0 _ rfl; have x1 := tx9.cell 1 _ rfl
      obtain ⟨g1, g2, g3, g4, g5, g6, g7, g8⟩ := HF.out
      have p1 := mulb (x := fl) (y := xd) (X := 10) (Y := 9) (by omega) (by omega) (by have := HX.out.d0; omega) (by have := HX.out.d1; omega)
      have p2 := mulb (x := fl + 1) (y := xd) (X := 11) (Y := 9) (by omega) (by omega) (by have := HX.out.d0; omega) (by have := HX.out.d1; omega)
      have p3 := mulb (x := cl) (y := xd) (X := 10) (Y := 9) (by omega) (by omega) (by have := HX.out.d0; omega) (by have := HX.out.d1; omega)
      have p4 := mulb (x := cl - 1) (y := xd) (X := 11) (Y := 9) (by omega) (by omega) (by have := HX.out.d0; omega) (by have := HX.out.d1; omega)
      go_wp2_with fail
      refine (awake_any _).mono ?_
      rintro e w14 ⟨rfl, hb14⟩
      go_wp2
      go_ret
      exact ⟨rfl, (bel4.trans (f13.below.mono z4)).trans (hb14.mono (by have := f13.below.size; omega))⟩
end Go.Proofs.Ytaokenpdaiabgaa
