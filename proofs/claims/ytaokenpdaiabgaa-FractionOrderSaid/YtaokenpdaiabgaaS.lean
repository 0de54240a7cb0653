/-
  timeboundlaw31.FractionField returns true, whatever its list of integers is. No condition.
-/
import Derived.Test.YtaokenpdaiabgaaR
import Derived.Test.YtaokenpdaiabgaaE
namespace Go.Proofs.Ytaokenpdaiabgaa
open Go.RowKit

theorem Eqv.cong {a b a' b' c d : Int} (h : Eqv a b c d) (e : a = a') (f : b = b') : Eqv a' b' c d := by subst e f; exact h
theorem Low.nz {n d N D : Int} (h : Low n d N D) : d ≠ 0 := by have := h.d0; omega

theorem div_zero_at (xn xd yn yd : Int) (h : yn = 0) (w : World) :
    Calls Try.prog 20 #[.agg #[.int .i64 xn, .int .i64 xd], .agg #[.int .i64 yn, .int .i64 yd]] w fun e w' => e = .returned (.tuple #[.agg #[.int .i64 0, .int .i64 0], .int .i64 36]) ∧ Below w.heap.size w w' := by
  subst h; exact div_zero xn xd yd w

/-- The sums, products and quotients of three small fractions, by their numbers alone. -/
theorem field_plain {xn xd yn yd zn zd an ad bn bd cn cd sn sd tn td pn pd qn qd rn rd un ud vn vd : Int} {A1 A2 B1 B2 C1 C2 S1 S2 T1 T2 P1 P2 Q1 Q2 R1 R2 U1 U2 V1 V2 : Int}
    (hx : Low xn xd 10 9) (hy : Low yn yd 10 9) (hz : Low zn zd 10 9)
    (la : Low an ad A1 A2) (ea : Eqv an ad (xn * yd + yn * xd) (xd * yd)) (lb : Low bn bd B1 B2) (eb : Eqv bn bd (yn * xd + xn * yd) (yd * xd))
    (lc : Low cn cd C1 C2) (ec : Eqv cn cd (an * zd + zn * ad) (ad * zd)) (ls : Low sn sd S1 S2) (es : Eqv sn sd (yn * zd + zn * yd) (yd * zd))
    (lt : Low tn td T1 T2) (et : Eqv tn td (xn * sd + sn * xd) (xd * sd)) (lp : Low pn pd P1 P2) (ep : Eqv pn pd (xn * sn) (xd * sd))
    (lq : Low qn qd Q1 Q2) (eq : Eqv qn qd (xn * yn) (xd * yd)) (lr : Low rn rd R1 R2) (er : Eqv rn rd (xn * zn) (xd * zd))
    (lu : Low un ud U1 U2) (eu : Eqv un ud (qn * rd + rn * qd) (qd * rd)) (lv : Low vn vd V1 V2) (ev : Eqv vn vd (an * yd - yn * ad) (ad * yd)) :
    (an = bn ∧ ad = bd) ∧ (cn = tn ∧ cd = td) ∧ (pn = un ∧ pd = ud) ∧ (xn = vn ∧ xd = vd) := by
  have nx := hx.nz; have ny := hy.nz; have nz := hz.nz; have na := la.nz; have ns := ls.nz; have nq := lq.nz; have nr := lr.nz
  have nxy := Int.mul_ne_zero nx ny
  have nyz := Int.mul_ne_zero ny nz
  have nxz := Int.mul_ne_zero nx nz
  refine ⟨la.eq lb (ea.trans nxy ?_), lc.eq lt ?_, lp.eq lu ?_, hx.eq lv (Eqv.symm ?_)⟩
  · exact eb.symm.cong (by grind) (by grind)
  · have h1 := ec.trans (Int.mul_ne_zero na nz) (ea.add (Eqv.refl zn zd))
    have h2 := et.trans (Int.mul_ne_zero nx ns) ((Eqv.refl xn xd).add es)
    exact h1.trans (Int.mul_ne_zero nxy nz) (h2.symm.cong (by grind) (by grind))
  · have h1 := ep.trans (Int.mul_ne_zero nx ns) ((Eqv.refl xn xd).mul es)
    have h2 := eu.trans (Int.mul_ne_zero nq nr) (eq.add er)
    refine h1.trans (Int.mul_ne_zero nx nyz) (Eqv.trans (Int.mul_ne_zero nxy nxz) ?_ h2.symm)
    unfold Eqv; grind
  · have h1 := ev.trans (Int.mul_ne_zero na ny) (ea.sub (Eqv.refl yn yd))
    refine h1.trans (Int.mul_ne_zero nxy ny) ?_
    unfold Eqv; grind
theorem field_div {xn xd yn yd qn qd wn wd : Int} {Q1 Q2 W1 W2 : Int} (hx : Low xn xd 10 9) (hy : Low yn yd 10 9) (hz : yn ≠ 0)
    (lq : Low qn qd Q1 Q2) (eq : Eqv qn qd (xn * yn) (xd * yd)) (lw : Low wn wd W1 W2) (ew : Eqv wn wd (qn * yd) (qd * yn)) : xn = wn ∧ xd = wd := by
  refine hx.eq lw (Eqv.symm ?_)
  have h1 := ew.trans (Int.mul_ne_zero lq.nz hz) (eq.div (Eqv.refl yn yd))
  refine h1.trans (Int.mul_ne_zero (Int.mul_ne_zero hx.nz hy.nz) hz) ?_
  unfold Eqv; grind

set_option maxHeartbeats 4000000 in
theorem field_law (a0 : Option Addr) (len0 cap0 : Nat) (z0 : List Int) (w : World) (w0 : IsRow .i64 w a0 len0 cap0 z0) :
    Calls Try.prog 6 #[.slice a0 len0 cap0] w fun e w' => e = .returned (.bool true) ∧ Below w.heap.size w w' := by
  have W0 := w0
  go_enter Try.func6, Try.ntmps6
  go_wp2_with fail
  refine (new_any a0 len0 cap0 z0 _ w0).mono ?_
  rintro e w1 ⟨rfl, hd1, hb1⟩
  have HD1 := Lib.hid hd1
  clear hd1
  go_wp2_with fail
  refine (frac_any _ _ HD1.out).mono ?_
  rintro e w2 ⟨xn, xd, rfl, x2, x3, x4, x5, x6, hd2, bu2⟩
  have HD2 := Lib.hid hd2; have HX := Lib.hid (Low.mk x2 x3 x4 x5 x6)
  clear hd2 x2 x3 x4 x5 x6
  go_wp2_with fail
  refine (frac_any _ _ HD2.out).mono ?_
  rintro e w3 ⟨yn, yd, rfl, x2, x3, x4, x5, x6, hd3, bu3⟩
  have HD3 := Lib.hid hd3; have HY := Lib.hid (Low.mk x2 x3 x4 x5 x6)
  clear hd3 x2 x3 x4 x5 x6
  go_wp2_with fail
  refine (frac_any _ _ HD3.out).mono ?_
  rintro e w4 ⟨zn, zd, rfl, x2, x3, x4, x5, x6, hd4, bu4⟩
  have HZ := Lib.hid (Low.mk x2 x3 x4 x5 x6)
  clear hd4 x2 x3 x4 x5 x6
  have bel4 : Below w.heap.size w w4 := ((((But.of_below hb1).trans bu2).trans bu3).trans bu4).below (Nat.le_refl _)
  have z4 : w.heap.size ≤ w4.heap.size := bel4.size
  clear hb1 bu2 bu3 bu4 HD1 HD2 HD3
  obtain ⟨an, ad, la, ea, ca⟩ := add_low HX.out HY.out (by omega) (by omega) (by omega) (by omega) (by omega) (by omega)
  obtain ⟨bn, bd, lb, eb, cb⟩ := add_low HY.out HX.out (by omega) (by omega) (by omega) (by omega) (by omega) (by omega)
  obtain ⟨cn, cd, lc, ec, cc⟩ := add_low la HZ.out (by omega) (by omega) (by omega) (by omega) (by omega) (by omega)
  obtain ⟨sn, sd, ls, es, cs⟩ := add_low HY.out HZ.out (by omega) (by omega) (by omega) (by omega) (by omega) (by omega)
  obtain ⟨tn, td, lt, et, ct⟩ := add_low HX.out ls (by omega) (by omega) (by omega) (by omega) (by omega) (by omega)
  obtain ⟨pn, pd, lp, ep, cp⟩ := mul_low HX.out ls (by omega) (by omega) (by omega) (by omega) (by omega) (by omega)
  obtain ⟨qn, qd, lq, eq, cq⟩ := mul_low HX.out HY.out (by omega) (by omega) (by omega) (by omega) (by omega) (by omega)
  obtain ⟨rn, rd, lr, er, cr⟩ := mul_low HX.out HZ.out (by omega) (by omega) (by omega) (by omega) (by omega) (by omega)
  obtain ⟨un, ud, lu, eu, cu⟩ := add_low lq lr (by omega) (by omega) (by omega) (by omega) (by omega) (by omega)
  obtain ⟨vn, vd, lv, ev, cv⟩ := sub_low la HY.out (by omega) (by omega) (by omega) (by omega) (by omega) (by omega)
  obtain ⟨⟨rfl, rfl⟩, ⟨rfl, rfl⟩, ⟨rfl, rfl⟩, ⟨rfl, rfl⟩⟩ := field_plain HX.out HY.out HZ.out la ea lb eb lc ec ls es lt et lp ep lq eq lr er lu eu lv ev
  have CA := Lib.hid ca; have CB := Lib.hid cb; have CC := Lib.hid cc; have CS := Lib.hid cs; have CT := Lib.hid ct; have CP := Lib.hid cp; have CQ := Lib.hid cq; have CR := Lib.hid cr; have CU := Lib.hid cu; have CV := Lib.hid cv
  have LQ := Lib.hid lq; have EQ := Lib.hid eq
  clear ca cb cc cs ct cp cq cr cu cv la ea lb eb lc ec ls es lt et lp ep lq eq lr er lu eu lv ev
  go_wp2_with fail
  refine (CA.out _).mono ?_
  rintro e w5 ⟨rfl, hb5⟩
  have f5 := Fr.call hb5 (Fr.new (Fr.new (Fr.new (Fr.refl w4) rfl [.int .i64 xn, .int .i64 xd] 24) (by simp) [.int .i64 yn, .int .i64 yd] 24) (by simp) [.int .i64 zn, .int .i64 zd] 24)
  have tx5 := f5.h0
  have ty5 := f5.h1
  have tz5 := f5.h2
  clear f5
  have bel5 : Below w.heap.size w w5 := (((bel4.alloc (by go_size) _).alloc (by go_size) _).alloc (by go_size) _).trans (hb5.mono (by go_size))
  clear bel4 z4
  have z5 : w.heap.size ≤ w5.heap.size := bel5.size
  have x0 := tx5.cell 0 _ rfl; have x1 := tx5.cell 1 _ rfl; have lx := tx5.lt (by simp)
  have y0 := ty5.cell 0 _ rfl; have y1 := ty5.cell 1 _ rfl; have ly := ty5.lt (by simp)
  have z0 := tz5.cell 0 _ rfl; have z1 := tz5.cell 1 _ rfl; have lz := tz5.lt (by simp)
  go_wp2_with fail
  refine (CB.out _).mono ?_
  rintro e w6 ⟨rfl, hb6⟩
  have tx6 := (tx5.old (by go_size)).below hb6 (by go_size)
  have ty6 := (ty5.old (by go_size)).below hb6 (by go_size)
  have tz6 := (tz5.old (by go_size)).below hb6 (by go_size)
  have ta6 := (Has.new w5 [.int .i64 an, .int .i64 ad] 24).below hb6 (by go_size)
  have bel6 : Below w.heap.size w w6 := (bel5.alloc (by go_size) _).trans (hb6.mono (by go_size))
  clear tx5 x0 x1 lx
  clear ty5 y0 y1 ly
  clear tz5 z0 z1 lz
  clear bel5 z5
  have z6 : w.heap.size ≤ w6.heap.size := bel6.size
  have x0 := tx6.cell 0 _ rfl; have x1 := tx6.cell 1 _ rfl; have lx := tx6.lt (by simp)
  have y0 := ty6.cell 0 _ rfl; have y1 := ty6.cell 1 _ rfl; have ly := ty6.lt (by simp)
  have z0 := tz6.cell 0 _ rfl; have z1 := tz6.cell 1 _ rfl; have lz := tz6.lt (by simp)
  have a0 := ta6.cell 0 _ rfl; have a1 := ta6.cell 1 _ rfl; have la := ta6.lt (by simp)
  go_wp2_with fail
  refine (CC.out _).mono ?_
  rintro e w7 ⟨rfl, hb7⟩
  have tx7 := (tx6.old (by go_size)).below hb7 (by go_size)
  have ty7 := (ty6.old (by go_size)).below hb7 (by go_size)
  have tz7 := (tz6.old (by go_size)).below hb7 (by go_size)
  have ta7 := (ta6.old (by go_size)).below hb7 (by go_size)
  have tb7 := (Has.new w6 [.int .i64 an, .int .i64 ad] 24).below hb7 (by go_size)
  have bel7 : Below w.heap.size w w7 := (bel6.alloc (by go_size) _).trans (hb7.mono (by go_size))
  clear tx6 x0 x1 lx
  clear ty6 y0 y1 ly
  clear tz6 z0 z1 lz
  clear ta6 a0 a1 la
  clear bel6 z6
  have z7 : w.heap.size ≤ w7.heap.size := bel7.size
  have x0 := tx7.cell 0 _ rfl; have x1 := tx7.cell 1 _ rfl; have lx := tx7.lt (by simp)
  have y0 := ty7.cell 0 _ rfl; have y1 := ty7.cell 1 _ rfl; have ly := ty7.lt (by simp)
  have z0 := tz7.cell 0 _ rfl; have z1 := tz7.cell 1 _ rfl; have lz := tz7.lt (by simp)
  have a0 := ta7.cell 0 _ rfl; have a1 := ta7.cell 1 _ rfl; have la := ta7.lt (by simp)
  have b0 := tb7.cell 0 _ rfl; have b1 := tb7.cell 1 _ rfl; have lb := tb7.lt (by simp)
  go_wp2_with fail
  refine (CS.out _).mono ?_
  rintro e w8 ⟨rfl, hb8⟩
  have tx8 := (tx7.old (by go_size)).below hb8 (by go_size)
  have ty8 := (ty7.old (by go_size)).below hb8 (by go_size)
  have tz8 := (tz7.old (by go_size)).below hb8 (by go_size)
  have ta8 := (ta7.old (by go_size)).below hb8 (by go_size)
  have tb8 := (tb7.old (by go_size)).below hb8 (by go_size)
  have tc8 := (Has.new w7 [.int .i64 cn, .int .i64 cd] 24).below hb8 (by go_size)
  have bel8 : Below w.heap.size w w8 := (bel7.alloc (by go_size) _).trans (hb8.mono (by go_size))
  clear tx7 x0 x1 lx
  clear ty7 y0 y1 ly
  clear tz7 z0 z1 lz
  clear ta7 a0 a1 la
  clear tb7 b0 b1 lb
  clear bel7 z7
  have z8 : w.heap.size ≤ w8.heap.size := bel8.size
  have x0 := tx8.cell 0 _ rfl; have x1 := tx8.cell 1 _ rfl; have lx := tx8.lt (by simp)
  have y0 := ty8.cell 0 _ rfl; have y1 := ty8.cell 1 _ rfl; have ly := ty8.lt (by simp)
  have z0 := tz8.cell 0 _ rfl; have z1 := tz8.cell 1 _ rfl; have lz := tz8.lt (by simp)
  have a0 := ta8.cell 0 _ rfl; have a1 := ta8.cell 1 _ rfl; have la := ta8.lt (by simp)
  have b0 := tb8.cell 0 _ rfl; have b1 := tb8.cell 1 _ rfl; have lb := tb8.lt (by simp)
  have c0 := tc8.cell 0 _ rfl; have c1 := tc8.cell 1 _ rfl; have lc := tc8.lt (by simp)
  go_wp2_with fail
  refine (CT.out _).mono ?_
  rintro e w9 ⟨rfl, hb9⟩
  have tx9 := (tx8.old (by go_size)).below hb9 (by go_size)
  have ty9 := (ty8.old (by go_size)).below hb9 (by go_size)
  have tz9 := (tz8.old (by go_size)).below hb9 (by go_size)
  have ta9 := (ta8.old (by go_size)).below hb9 (by go_size)
  have tb9 := (tb8.old (by go_size)).below hb9 (by go_size)
  have tc9 := (tc8.old (by go_size)).below hb9 (by go_size)
  have ts9 := (Has.new w8 [.int .i64 sn, .int .i64 sd] 24).below hb9 (by go_size)
  have bel9 : Below w.heap.size w w9 := (bel8.alloc (by go_size) _).trans (hb9.mono (by go_size))
  clear tx8 x0 x1 lx
  clear ty8 y0 y1 ly
  clear tz8 z0 z1 lz
  clear ta8 a0 a1 la
  clear tb8 b0 b1 lb
  clear tc8 c0 c1 lc
  clear bel8 z8
  have z9 : w.heap.size ≤ w9.heap.size := bel9.size
  have x0 := tx9.cell 0 _ rfl; have x1 := tx9.cell 1 _ rfl; have lx := tx9.lt (by simp)
  have y0 := ty9.cell 0 _ rfl; have y1 := ty9.cell 1 _ rfl; have ly := ty9.lt (by simp)
  have z0 := tz9.cell 0 _ rfl; have z1 := tz9.cell 1 _ rfl; have lz := tz9.lt (by simp)
  have a0 := ta9.cell 0 _ rfl; have a1 := ta9.cell 1 _ rfl; have la := ta9.lt (by simp)
  have b0 := tb9.cell 0 _ rfl; have b1 := tb9.cell 1 _ rfl; have lb := tb9.lt (by simp)
  have c0 := tc9.cell 0 _ rfl; have c1 := tc9.cell 1 _ rfl; have lc := tc9.lt (by simp)
  have s0 := ts9.cell 0 _ rfl; have s1 := ts9.cell 1 _ rfl; have ls := ts9.lt (by simp)
  go_wp2_with fail
  refine (CP.out _).mono ?_
  rintro e w10 ⟨rfl, hb10⟩
  have tx10 := (tx9.old (by go_size)).below hb10 (by go_size)
  have ty10 := (ty9.old (by go_size)).below hb10 (by go_size)
  have tz10 := (tz9.old (by go_size)).below hb10 (by go_size)
  have ta10 := (ta9.old (by go_size)).below hb10 (by go_size)
  have tb10 := (tb9.old (by go_size)).below hb10 (by go_size)
  have tc10 := (tc9.old (by go_size)).below hb10 (by go_size)
  have ts10 := (ts9.old (by go_size)).below hb10 (by go_size)
  have tt10 := (Has.new w9 [.int .i64 cn, .int .i64 cd] 24).below hb10 (by go_size)
  have bel10 : Below w.heap.size w w10 := (bel9.alloc (by go_size) _).trans (hb10.mono (by go_size))
  clear tx9 x0 x1 lx
  clear ty9 y0 y1 ly
  clear tz9 z0 z1 lz
  clear ta9 a0 a1 la
  clear tb9 b0 b1 lb
  clear tc9 c0 c1 lc
  clear ts9 s0 s1 ls
  clear bel9 z9
  have z10 : w.heap.size ≤ w10.heap.size := bel10.size
  have x0 := tx10.cell 0 _ rfl; have x1 := tx10.cell 1 _ rfl; have lx := tx10.lt (by simp)
  have y0 := ty10.cell 0 _ rfl; have y1 := ty10.cell 1 _ rfl; have ly := ty10.lt (by simp)
  have z0 := tz10.cell 0 _ rfl; have z1 := tz10.cell 1 _ rfl; have lz := tz10.lt (by simp)
  have a0 := ta10.cell 0 _ rfl; have a1 := ta10.cell 1 _ rfl; have la := ta10.lt (by simp)
  have b0 := tb10.cell 0 _ rfl; have b1 := tb10.cell 1 _ rfl; have lb := tb10.lt (by simp)
  have c0 := tc10.cell 0 _ rfl; have c1 := tc10.cell 1 _ rfl; have lc := tc10.lt (by simp)
  have s0 := ts10.cell 0 _ rfl; have s1 := ts10.cell 1 _ rfl; have ls := ts10.lt (by simp)
  have t0 := tt10.cell 0 _ rfl; have t1 := tt10.cell 1 _ rfl; have lt := tt10.lt (by simp)
  go_wp2_with fail
  refine (CQ.out _).mono ?_
  rintro e w11 ⟨rfl, hb11⟩
  have tx11 := (tx10.old (by go_size)).below hb11 (by go_size)
  have ty11 := (ty10.old (by go_size)).below hb11 (by go_size)
  have tz11 := (tz10.old (by go_size)).below hb11 (by go_size)
  have ta11 := (ta10.old (by go_size)).below hb11 (by go_size)
  have tb11 := (tb10.old (by go_size)).below hb11 (by go_size)
  have tc11 := (tc10.old (by go_size)).below hb11 (by go_size)
  have ts11 := (ts10.old (by go_size)).below hb11 (by go_size)
  have tt11 := (tt10.old (by go_size)).below hb11 (by go_size)
  have tp11 := (Has.new w10 [.int .i64 pn, .int .i64 pd] 24).below hb11 (by go_size)
  have bel11 : Below w.heap.size w w11 := (bel10.alloc (by go_size) _).trans (hb11.mono (by go_size))
  clear tx10 x0 x1 lx
  clear ty10 y0 y1 ly
  clear tz10 z0 z1 lz
  clear ta10 a0 a1 la
  clear tb10 b0 b1 lb
  clear tc10 c0 c1 lc
  clear ts10 s0 s1 ls
  clear tt10 t0 t1 lt
  clear bel10 z10
  have z11 : w.heap.size ≤ w11.heap.size := bel11.size
  have x0 := tx11.cell 0 _ rfl; have x1 := tx11.cell 1 _ rfl; have lx := tx11.lt (by simp)
  have y0 := ty11.cell 0 _ rfl; have y1 := ty11.cell 1 _ rfl; have ly := ty11.lt (by simp)
  have z0 := tz11.cell 0 _ rfl; have z1 := tz11.cell 1 _ rfl; have lz := tz11.lt (by simp)
  have a0 := ta11.cell 0 _ rfl; have a1 := ta11.cell 1 _ rfl; have la := ta11.lt (by simp)
  have b0 := tb11.cell 0 _ rfl; have b1 := tb11.cell 1 _ rfl; have lb := tb11.lt (by simp)
  have c0 := tc11.cell 0 _ rfl; have c1 := tc11.cell 1 _ rfl; have lc := tc11.lt (by simp)
  have s0 := ts11.cell 0 _ rfl; have s1 := ts11.cell 1 _ rfl; have ls := ts11.lt (by simp)
  have t0 := tt11.cell 0 _ rfl; have t1 := tt11.cell 1 _ rfl; have lt := tt11.lt (by simp)
  have p0 := tp11.cell 0 _ rfl; have p1 := tp11.cell 1 _ rfl; have lp := tp11.lt (by simp)
  go_wp2_with fail
  refine (CR.out _).mono ?_
  rintro e w12 ⟨rfl, hb12⟩
  have tx12 := (tx11.old (by go_size)).below hb12 (by go_size)
  have ty12 := (ty11.old (by go_size)).below hb12 (by go_size)
  have tz12 := (tz11.old (by go_size)).below hb12 (by go_size)
  have ta12 := (ta11.old (by go_size)).below hb12 (by go_size)
  have tb12 := (tb11.old (by go_size)).below hb12 (by go_size)
  have tc12 := (tc11.old (by go_size)).below hb12 (by go_size)
  have ts12 := (ts11.old (by go_size)).below hb12 (by go_size)
  have tt12 := (tt11.old (by go_size)).below hb12 (by go_size)
  have tp12 := (tp11.old (by go_size)).below hb12 (by go_size)
  have tq12 := (Has.new w11 [.int .i64 qn, .int .i64 qd] 24).below hb12 (by go_size)
  have bel12 : Below w.heap.size w w12 := (bel11.alloc (by go_size) _).trans (hb12.mono (by go_size))
  clear tx11 x0 x1 lx
  clear ty11 y0 y1 ly
  clear tz11 z0 z1 lz
  clear ta11 a0 a1 la
  clear tb11 b0 b1 lb
  clear tc11 c0 c1 lc
  clear ts11 s0 s1 ls
  clear tt11 t0 t1 lt
  clear tp11 p0 p1 lp
  clear bel11 z11
  have z12 : w.heap.size ≤ w12.heap.size := bel12.size
  have x0 := tx12.cell 0 _ rfl; have x1 := tx12.cell 1 _ rfl; have lx := tx12.lt (by simp)
  have y0 := ty12.cell 0 _ rfl; have y1 := ty12.cell 1 _ rfl; have ly := ty12.lt (by simp)
  have z0 := tz12.cell 0 _ rfl; have z1 := tz12.cell 1 _ rfl; have lz := tz12.lt (by simp)
  have a0 := ta12.cell 0 _ rfl; have a1 := ta12.cell 1 _ rfl; have la := ta12.lt (by simp)
  have b0 := tb12.cell 0 _ rfl; have b1 := tb12.cell 1 _ rfl; have lb := tb12.lt (by simp)
  have c0 := tc12.cell 0 _ rfl; have c1 := tc12.cell 1 _ rfl; have lc := tc12.lt (by simp)
  have s0 := ts12.cell 0 _ rfl; have s1 := ts12.cell 1 _ rfl; have ls := ts12.lt (by simp)
  have t0 := tt12.cell 0 _ rfl; have t1 := tt12.cell 1 _ rfl; have lt := tt12.lt (by simp)
  have p0 := tp12.cell 0 _ rfl; have p1 := tp12.cell 1 _ rfl; have lp := tp12.lt (by simp)
  have q0 := tq12.cell 0 _ rfl; have q1 := tq12.cell 1 _ rfl; have lq := tq12.lt (by simp)
  go_wp2_with fail
  refine (CU.out _).mono ?_
  rintro e w13 ⟨rfl, hb13⟩
  have tx13 := (tx12.old (by go_size)).below hb13 (by go_size)
  have ty13 := (ty12.old (by go_size)).below hb13 (by go_size)
  have tz13 := (tz12.old (by go_size)).below hb13 (by go_size)
  have ta13 := (ta12.old (by go_size)).below hb13 (by go_size)
  have tb13 := (tb12.old (by go_size)).below hb13 (by go_size)
  have tc13 := (tc12.old (by go_size)).below hb13 (by go_size)
  have ts13 := (ts12.old (by go_size)).below hb13 (by go_size)
  have tt13 := (tt12.old (by go_size)).below hb13 (by go_size)
  have tp13 := (tp12.old (by go_size)).below hb13 (by go_size)
  have tq13 := (tq12.old (by go_size)).below hb13 (by go_size)
  have tr13 := (Has.new w12 [.int .i64 rn, .int .i64 rd] 24).below hb13 (by go_size)
  have bel13 : Below w.heap.size w w13 := (bel12.alloc (by go_size) _).trans (hb13.mono (by go_size))
  clear tx12 x0 x1 lx
  clear ty12 y0 y1 ly
  clear tz12 z0 z1 lz
  clear ta12 a0 a1 la
  clear tb12 b0 b1 lb
  clear tc12 c0 c1 lc
  clear ts12 s0 s1 ls
  clear tt12 t0 t1 lt
  clear tp12 p0 p1 lp
  clear tq12 q0 q1 lq
  clear bel12 z12
  have z13 : w.heap.size ≤ w13.heap.size := bel13.size
  have x0 := tx13.cell 0 _ rfl; have x1 := tx13.cell 1 _ rfl; have lx := tx13.lt (by simp)
  have y0 := ty13.cell 0 _ rfl; have y1 := ty13.cell 1 _ rfl; have ly := ty13.lt (by simp)
  have z0 := tz13.cell 0 _ rfl; have z1 := tz13.cell 1 _ rfl; have lz := tz13.lt (by simp)
  have a0 := ta13.cell 0 _ rfl; have a1 := ta13.cell 1 _ rfl; have la := ta13.lt (by simp)
  have b0 := tb13.cell 0 _ rfl; have b1 := tb13.cell 1 _ rfl; have lb := tb13.lt (by simp)
  have c0 := tc13.cell 0 _ rfl; have c1 := tc13.cell 1 _ rfl; have lc := tc13.lt (by simp)
  have s0 := ts13.cell 0 _ rfl; have s1 := ts13.cell 1 _ rfl; have ls := ts13.lt (by simp)
  have t0 := tt13.cell 0 _ rfl; have t1 := tt13.cell 1 _ rfl; have lt := tt13.lt (by simp)
  have p0 := tp13.cell 0 _ rfl; have p1 := tp13.cell 1 _ rfl; have lp := tp13.lt (by simp)
  have q0 := tq13.cell 0 _ rfl; have q1 := tq13.cell 1 _ rfl; have lq := tq13.lt (by simp)
  have r0 := tr13.cell 0 _ rfl; have r1 := tr13.cell 1 _ rfl; have lr := tr13.lt (by simp)
  go_wp2_with fail
  refine (CV.out _).mono ?_
  rintro e w14 ⟨rfl, hb14⟩
  have tx14 := (tx13.old (by go_size)).below hb14 (by go_size)
  have ty14 := (ty13.old (by go_size)).below hb14 (by go_size)
  have tz14 := (tz13.old (by go_size)).below hb14 (by go_size)
  have ta14 := (ta13.old (by go_size)).below hb14 (by go_size)
  have tb14 := (tb13.old (by go_size)).below hb14 (by go_size)
  have tc14 := (tc13.old (by go_size)).below hb14 (by go_size)
  have ts14 := (ts13.old (by go_size)).below hb14 (by go_size)
  have tt14 := (tt13.old (by go_size)).below hb14 (by go_size)
  have tp14 := (tp13.old (by go_size)).below hb14 (by go_size)
  have tq14 := (tq13.old (by go_size)).below hb14 (by go_size)
  have tr14 := (tr13.old (by go_size)).below hb14 (by go_size)
  have tu14 := (Has.new w13 [.int .i64 pn, .int .i64 pd] 24).below hb14 (by go_size)
  have bel14 : Below w.heap.size w w14 := (bel13.alloc (by go_size) _).trans (hb14.mono (by go_size))
  clear tx13 x0 x1 lx
  clear ty13 y0 y1 ly
  clear tz13 z0 z1 lz
  clear ta13 a0 a1 la
  clear tb13 b0 b1 lb
  clear tc13 c0 c1 lc
  clear ts13 s0 s1 ls
  clear tt13 t0 t1 lt
  clear tp13 p0 p1 lp
  clear tq13 q0 q1 lq
  clear tr13 r0 r1 lr
  clear bel13 z13
  have z14 : w.heap.size ≤ w14.heap.size := bel14.size
  have x0 := tx14.cell 0 _ rfl; have x1 := tx14.cell 1 _ rfl; have lx := tx14.lt (by simp)
  have y0 := ty14.cell 0 _ rfl; have y1 := ty14.cell 1 _ rfl; have ly := ty14.lt (by simp)
  have z0 := tz14.cell 0 _ rfl; have z1 := tz14.cell 1 _ rfl; have lz := tz14.lt (by simp)
  have a0 := ta14.cell 0 _ rfl; have a1 := ta14.cell 1 _ rfl; have la := ta14.lt (by simp)
  have b0 := tb14.cell 0 _ rfl; have b1 := tb14.cell 1 _ rfl; have lb := tb14.lt (by simp)
  have c0 := tc14.cell 0 _ rfl; have c1 := tc14.cell 1 _ rfl; have lc := tc14.lt (by simp)
  have s0 := ts14.cell 0 _ rfl; have s1 := ts14.cell 1 _ rfl; have ls := ts14.lt (by simp)
  have t0 := tt14.cell 0 _ rfl; have t1 := tt14.cell 1 _ rfl; have lt := tt14.lt (by simp)
  have p0 := tp14.cell 0 _ rfl; have p1 := tp14.cell 1 _ rfl; have lp := tp14.lt (by simp)
  have q0 := tq14.cell 0 _ rfl; have q1 := tq14.cell 1 _ rfl; have lq := tq14.lt (by simp)
  have r0 := tr14.cell 0 _ rfl; have r1 := tr14.cell 1 _ rfl; have lr := tr14.lt (by simp)
  have u0 := tu14.cell 0 _ rfl; have u1 := tu14.cell 1 _ rfl; have lu := tu14.lt (by simp)
  by_cases hyz : yn = 0
  · have hyz' : (yn == 0) = true := by simpa using hyz
    have DZ := Lib.hid (div_zero_at qn qd yn yd hyz)
    clear hyz
    go_wp2_with fail
    refine (DZ.out _).mono ?_
    rintro e w15 ⟨rfl, hb15⟩
    have tx15 := (tx14.old (by go_size)).below hb15 (by go_size)
    have ty15 := (ty14.old (by go_size)).below hb15 (by go_size)
    have tz15 := (tz14.old (by go_size)).below hb15 (by go_size)
    have ta15 := (ta14.old (by go_size)).below hb15 (by go_size)
    have tb15 := (tb14.old (by go_size)).below hb15 (by go_size)
    have tc15 := (tc14.old (by go_size)).below hb15 (by go_size)
    have ts15 := (ts14.old (by go_size)).below hb15 (by go_size)
    have tt15 := (tt14.old (by go_size)).below hb15 (by go_size)
    have tp15 := (tp14.old (by go_size)).below hb15 (by go_size)
    have tq15 := (tq14.old (by go_size)).below hb15 (by go_size)
    have tr15 := (tr14.old (by go_size)).below hb15 (by go_size)
    have tu15 := (tu14.old (by go_size)).below hb15 (by go_size)
    have tv15 := (Has.new w14 [.int .i64 xn, .int .i64 xd] 24).below hb15 (by go_size)
    have bel15 : Below w.heap.size w w15 := (bel14.alloc (by go_size) _).trans (hb15.mono (by go_size))
    clear tx14 x0 x1 lx
    clear ty14 y0 y1 ly
    clear tz14 z0 z1 lz
    clear ta14 a0 a1 la
    clear tb14 b0 b1 lb
    clear tc14 c0 c1 lc
    clear ts14 s0 s1 ls
    clear tt14 t0 t1 lt
    clear tp14 p0 p1 lp
    clear tq14 q0 q1 lq
    clear tr14 r0 r1 lr
    clear tu14 u0 u1 lu
    clear bel14 z14
    have z15 : w.heap.size ≤ w15.heap.size := bel15.size
    have x0 := tx15.cell 0 _ rfl; have x1 := tx15.cell 1 _ rfl; have lx := tx15.lt (by simp)
    have y0 := ty15.cell 0 _ rfl; have y1 := ty15.cell 1 _ rfl; have ly := ty15.lt (by simp)
    have z0 := tz15.cell 0 _ rfl; have z1 := tz15.cell 1 _ rfl; have lz := tz15.lt (by simp)
    have a0 := ta15.cell 0 _ rfl; have a1 := ta15.cell 1 _ rfl; have la := ta15.lt (by simp)
    have b0 := tb15.cell 0 _ rfl; have b1 := tb15.cell 1 _ rfl; have lb := tb15.lt (by simp)
    have c0 := tc15.cell 0 _ rfl; have c1 := tc15.cell 1 _ rfl; have lc := tc15.lt (by simp)
    have s0 := ts15.cell 0 _ rfl; have s1 := ts15.cell 1 _ rfl; have ls := ts15.lt (by simp)
    have t0 := tt15.cell 0 _ rfl; have t1 := tt15.cell 1 _ rfl; have lt := tt15.lt (by simp)
    have p0 := tp15.cell 0 _ rfl; have p1 := tp15.cell 1 _ rfl; have lp := tp15.lt (by simp)
    have q0 := tq15.cell 0 _ rfl; have q1 := tq15.cell 1 _ rfl; have lq := tq15.lt (by simp)
    have r0 := tr15.cell 0 _ rfl; have r1 := tr15.cell 1 _ rfl; have lr := tr15.lt (by simp)
    have u0 := tu15.cell 0 _ rfl; have u1 := tu15.cell 1 _ rfl; have lu := tu15.lt (by simp)
    have v0 := tv15.cell 0 _ rfl; have v1 := tv15.cell 1 _ rfl; have lv := tv15.lt (by simp)
    go_wp2_with fail
    refine (awake_any _).mono ?_
    rintro e w16 ⟨rfl, hb16⟩
    go_wp2
    go_ret
    exact ⟨rfl, (bel15.alloc z15 _).trans (hb16.mono (by go_size))⟩
  · obtain ⟨wn, wd, lw, ew, cw⟩ := div_low LQ.out HY.out hyz (by omega) (by omega) (by omega) (by omega) (by omega) (by omega)
    obtain ⟨rfl, rfl⟩ := field_div HX.out HY.out hyz LQ.out EQ.out lw ew
    have hyz' : (yn == 0) = false := by simpa using hyz
    have CW := Lib.hid cw
    clear cw ew lw hyz
    go_wp2_with fail
    refine (CW.out _).mono ?_
    rintro e w15 ⟨rfl, hb15⟩
    have tx15 := (tx14.old (by go_size)).below hb15 (by go_size)
    have ty15 := (ty14.old (by go_size)).below hb15 (by go_size)
    have tz15 := (tz14.old (by go_size)).below hb15 (by go_size)
    have ta15 := (ta14.old (by go_size)).below hb15 (by go_size)
    have tb15 := (tb14.old (by go_size)).below hb15 (by go_size)
    have tc15 := (tc14.old (by go_size)).below hb15 (by go_size)
    have ts15 := (ts14.old (by go_size)).below hb15 (by go_size)
    have tt15 := (tt14.old (by go_size)).below hb15 (by go_size)
    have tp15 := (tp14.old (by go_size)).below hb15 (by go_size)
    have tq15 := (tq14.old (by go_size)).below hb15 (by go_size)
    have tr15 := (tr14.old (by go_size)).below hb15 (by go_size)
    have tu15 := (tu14.old (by go_size)).below hb15 (by go_size)
    have tv15 := (Has.new w14 [.int .i64 xn, .int .i64 xd] 24).below hb15 (by go_size)
    have bel15 : Below w.heap.size w w15 := (bel14.alloc (by go_size) _).trans (hb15.mono (by go_size))
    clear tx14 x0 x1 lx
    clear ty14 y0 y1 ly
    clear tz14 z0 z1 lz
    clear ta14 a0 a1 la
    clear tb14 b0 b1 lb
    clear tc14 c0 c1 lc
    clear ts14 s0 s1 ls
    clear tt14 t0 t1 lt
    clear tp14 p0 p1 lp
    clear tq14 q0 q1 lq
    clear tr14 r0 r1 lr
    clear tu14 u0 u1 lu
    clear bel14 z14
    have z15 : w.heap.size ≤ w15.heap.size := bel15.size
    have x0 := tx15.cell 0 _ rfl; have x1 := tx15.cell 1 _ rfl; have lx := tx15.lt (by simp)
    have y0 := ty15.cell 0 _ rfl; have y1 := ty15.cell 1 _ rfl; have ly := ty15.lt (by simp)
    have z0 := tz15.cell 0 _ rfl; have z1 := tz15.cell 1 _ rfl; have lz := tz15.lt (by simp)
    have a0 := ta15.cell 0 _ rfl; have a1 := ta15.cell 1 _ rfl; have la := ta15.lt (by simp)
    have b0 := tb15.cell 0 _ rfl; have b1 := tb15.cell 1 _ rfl; have lb := tb15.lt (by simp)
    have c0 := tc15.cell 0 _ rfl; have c1 := tc15.cell 1 _ rfl; have lc := tc15.lt (by simp)
    have s0 := ts15.cell 0 _ rfl; have s1 := ts15.cell 1 _ rfl; have ls := ts15.lt (by simp)
    have t0 := tt15.cell 0 _ rfl; have t1 := tt15.cell 1 _ rfl; have lt := tt15.lt (by simp)
    have p0 := tp15.cell 0 _ rfl; have p1 := tp15.cell 1 _ rfl; have lp := tp15.lt (by simp)
    have q0 := tq15.cell 0 _ rfl; have q1 := tq15.cell 1 _ rfl; have lq := tq15.lt (by simp)
    have r0 := tr15.cell 0 _ rfl; have r1 := tr15.cell 1 _ rfl; have lr := tr15.lt (by simp)
    have u0 := tu15.cell 0 _ rfl; have u1 := tu15.cell 1 _ rfl; have lu := tu15.lt (by simp)
    have v0 := tv15.cell 0 _ rfl; have v1 := tv15.cell 1 _ rfl; have lv := tv15.lt (by simp)
    go_wp2_with fail
    refine (awake_any _).mono ?_
    rintro e w16 ⟨rfl, hb16⟩
    go_wp2
    go_ret
    exact ⟨rfl, (bel15.alloc z15 _).trans (hb16.mono (by go_size))⟩
end Go.Proofs.Ytaokenpdaiabgaa
