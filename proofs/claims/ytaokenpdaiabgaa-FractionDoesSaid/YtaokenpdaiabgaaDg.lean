/-
  The law FractionDoes: the program's results and the document's are alike, for fractions of numbers of any size.
-/
import Derived.Test.YtaokenpdaiabgaaDe
import Derived.Test.YtaokenpdaiabgaaDf
import Derived.Test.YtaokenpdaiabgaaR
import Derived.Test.YtaokenpdaiabgaaE
import Derived.Test.YtaokenpdaiabgaaW
namespace Go.Proofs.Ytaokenpdaiabgaa
open Go.RowKit

/-- Blocks that a call has made, wherever they lie, and what they hold; all that was there before is as it was. -/
structure Hold (w0 w : World) (l : List (Nat × List Value)) : Prop where
  has : ∀ (i : Nat) (p : Nat × List Value), l[i]? = some p → Has w p.1 p.2 ∧ 0 < p.2.length
  below : Below w0.heap.size w0 w
theorem Hold.start (w : World) : Hold w w [] := ⟨fun i p h => by simp at h, Below.refl _ _⟩
theorem Hold.call {w0 w w1 : World} {l : List (Nat × List Value)} (h : Hold w0 w l) (hb : Below w.heap.size w w1) : Hold w0 w1 l :=
  ⟨fun i p e => by obtain ⟨h1, h2⟩ := h.has i p e; exact ⟨h1.below hb (h1.lt h2), h2⟩, h.below.trans (hb.mono h.below.size)⟩
theorem Hold.new {w0 w : World} {l : List (Nat × List Value)} (h : Hold w0 w l) (vs : List Value) (t : TypeId) (hl : 0 < vs.length) : Hold w0 (w.alloc (.cells vs.toArray t)) (l ++ [(w.heap.size, vs)]) := by
  refine ⟨fun i p e => ?_, h.below.alloc h.below.size _⟩
  rcases Nat.lt_or_ge i l.length with hi | hi
  · rw [List.getElem?_append_left hi] at e
    obtain ⟨h1, h2⟩ := h.has i p e
    exact ⟨h1.old (h1.lt h2), h2⟩
  · rw [List.getElem?_append_right hi] at e
    have hl1 : i - l.length < 1 := (List.getElem?_eq_some_iff.1 e).1
    have e0 : i - l.length = 0 := by omega
    rw [e0] at e
    cases e
    exact ⟨Has.new w vs t, hl⟩
theorem Hold.get {w0 w : World} {l : List (Nat × List Value)} (h : Hold w0 w l) (i b : Nat) (vs : List Value) (e : l[i]? = some (b, vs)) : Has w b vs := (h.has i _ e).1
theorem Hold.lt {w0 w : World} {l : List (Nat × List Value)} (h : Hold w0 w l) (i b : Nat) (vs : List Value) (e : l[i]? = some (b, vs)) : b < w.heap.size := (h.has i _ e).1.lt (h.has i _ e).2

def Tup (n d x : Int) (w : World) (e : Ending) (w' : World) : Prop := e = .returned (.tuple #[.agg #[.int .i64 n, .int .i64 d], .int .i64 x]) ∧ Below w.heap.size w w'
theorem make_two (a b : Int) (ha : -9223372036854775808 ≤ a) (ha' : a ≤ 9223372036854775807) (hb : -9223372036854775808 ≤ b) (hb' : b ≤ 9223372036854775807) :
    ∃ n d x, (∀ w, Calls Try.prog 9 #[.int .i64 a, .int .i64 b] w (Tup n d x w)) ∧ ∀ w, Calls Try.prog 19 #[.int .i64 a, .int .i64 b] w (Tup n d x w) := by
  by_cases h : b = 0
  · subst h; exact ⟨0, 0, 36, fun w => make_zero a w, fun w => rmake_zero a w⟩
  · exact ⟨_, _, _, fun w => make_any a b ha ha' hb hb' h w, fun w => rmake_any a b ha ha' hb hb' h w⟩
theorem rcmp_any (xn yn : Int) (xd yd : Nat) (hx : -1152921504606846976 ≤ xn) (hx1 : xn ≤ 1152921504606846976) (hy : -1152921504606846976 ≤ yn) (hy1 : yn ≤ 1152921504606846976) (kx : 1 ≤ xd) (kx1 : xd ≤ 1152921504606846976) (ky : 1 ≤ yd) (ky1 : yd ≤ 1152921504606846976) (w : World) :
    Calls Try.prog 28 #[.agg #[.int .i64 xn, .int .i64 (xd : Int)], .agg #[.int .i64 yn, .int .i64 (yd : Int)]] w fun e w' => e = .returned (.int .i64 (cmpI (xn * (yd : Int)) (yn * (xd : Int)))) ∧ Below w.heap.size w w' := by
  by_cases h : decide (xn < 0) = decide (yn < 0)
  · exact rcmp_same xn yn xd yd hx hx1 hy hy1 kx kx1 ky ky1 h w
  · have hb : (decide (xn < 0) == decide (yn < 0)) = false := by simpa using h
    by_cases hn : xn < 0
    · have hy0 : 0 ≤ yn := by
        rcases (by omega : yn < 0 ∨ 0 ≤ yn) with h1 | h1
        · exact absurd (by simp [hn, h1]) h
        · exact h1
      have e1 : xn * (yd : Int) < 0 := Int.mul_neg_of_neg_of_pos hn (by omega)
      have e2 : 0 ≤ yn * (xd : Int) := Int.mul_nonneg hy0 (by omega)
      have e3 : cmpI (xn * (yd : Int)) (yn * (xd : Int)) = -1 := by unfold cmpI; rw [if_pos (by omega)]
      have E := Lib.hid e3
      have hyn : ¬ yn < 0 := by omega
      clear e1 e2 e3 h hb
      go_enter Try.func28, Try.ntmps28
      go_wp2
      go_returns
      exact ⟨ret_int E.out.symm, by go_grown⟩
    · have hy0 : yn < 0 := by
        rcases (by omega : yn < 0 ∨ 0 ≤ yn) with h1 | h1
        · exact h1
        · exact absurd (by simp [hn]; omega) h
      have e1 : yn * (xd : Int) < 0 := Int.mul_neg_of_neg_of_pos hy0 (by omega)
      have e2 : 0 ≤ xn * (yd : Int) := Int.mul_nonneg (by omega) (by omega)
      have e3 : cmpI (xn * (yd : Int)) (yn * (xd : Int)) = 1 := by unfold cmpI; rw [if_neg (by omega), if_neg (by omega)]
      have E := Lib.hid e3
      clear e1 e2 e3 h hb
      go_enter Try.func28, Try.ntmps28
      go_wp2
      go_returns
      exact ⟨ret_int E.out.symm, by go_grown⟩
theorem div_two (xn yn : Int) (xd yd : Nat) (hx : -1152921504606846976 ≤ xn) (hx1 : xn ≤ 1152921504606846976) (hy : -1152921504606846976 ≤ yn) (hy1 : yn ≤ 1152921504606846976) (kx : 1 ≤ xd) (kx1 : xd ≤ 1152921504606846976) (ky : 1 ≤ yd) (ky1 : yd ≤ 1152921504606846976) :
    ∃ n d x, (∀ w, Calls Try.prog 20 #[.agg #[.int .i64 xn, .int .i64 (xd : Int)], .agg #[.int .i64 yn, .int .i64 (yd : Int)]] w (Tup n d x w)) ∧ ∀ w, Calls Try.prog 27 #[.agg #[.int .i64 xn, .int .i64 (xd : Int)], .agg #[.int .i64 yn, .int .i64 (yd : Int)]] w (Tup n d x w) := by
  by_cases h : yn = 0
  · subst h; exact ⟨0, 0, 36, fun w => div_zero xn xd yd w, fun w => rdiv_zero xn xd yd w⟩
  · exact ⟨_, _, _, fun w => frac_div xn xd yn yd hx hx1 hy hy1 (by omega) (by omega) (by omega) (by omega) h w, fun w => rdiv_any xn yn xd yd hx hx1 hy hy1 kx kx1 ky ky1 h w⟩

theorem add_two (xn yn : Int) (xd yd : Nat) (hx : -1152921504606846976 ≤ xn) (hx1 : xn ≤ 1152921504606846976) (hy : -1152921504606846976 ≤ yn) (hy1 : yn ≤ 1152921504606846976) (kx : 1 ≤ xd) (kx1 : xd ≤ 1152921504606846976) (ky : 1 ≤ yd) (ky1 : yd ≤ 1152921504606846976) :
    ∃ n d x, (∀ w, Calls Try.prog 14 #[.agg #[.int .i64 xn, .int .i64 (xd : Int)], .agg #[.int .i64 yn, .int .i64 (yd : Int)]] w (Tup n d x w)) ∧ ∀ w, Calls Try.prog 24 #[.agg #[.int .i64 xn, .int .i64 (xd : Int)], .agg #[.int .i64 yn, .int .i64 (yd : Int)]] w (Tup n d x w) :=
  ⟨_, _, _, fun w => frac_add xn xd yn yd hx hx1 hy hy1 (by omega) (by omega) (by omega) (by omega) w, fun w => radd_any xn yn xd yd hx hx1 hy hy1 kx kx1 ky ky1 w⟩
theorem sub_two (xn yn : Int) (xd yd : Nat) (hx : -1152921504606846976 ≤ xn) (hx1 : xn ≤ 1152921504606846976) (hy : -1152921504606846976 ≤ yn) (hy1 : yn ≤ 1152921504606846976) (kx : 1 ≤ xd) (kx1 : xd ≤ 1152921504606846976) (ky : 1 ≤ yd) (ky1 : yd ≤ 1152921504606846976) :
    ∃ n d x, (∀ w, Calls Try.prog 21 #[.agg #[.int .i64 xn, .int .i64 (xd : Int)], .agg #[.int .i64 yn, .int .i64 (yd : Int)]] w (Tup n d x w)) ∧ ∀ w, Calls Try.prog 25 #[.agg #[.int .i64 xn, .int .i64 (xd : Int)], .agg #[.int .i64 yn, .int .i64 (yd : Int)]] w (Tup n d x w) :=
  ⟨_, _, _, fun w => frac_sub xn xd yn yd hx hx1 hy hy1 (by omega) (by omega) (by omega) (by omega) w, fun w => rsub_any xn yn xd yd hx hx1 hy hy1 kx kx1 ky ky1 w⟩
theorem mul_two (xn yn : Int) (xd yd : Nat) (hx : -1152921504606846976 ≤ xn) (hx1 : xn ≤ 1152921504606846976) (hy : -1152921504606846976 ≤ yn) (hy1 : yn ≤ 1152921504606846976) (kx : 1 ≤ xd) (kx1 : xd ≤ 1152921504606846976) (ky : 1 ≤ yd) (ky1 : yd ≤ 1152921504606846976) :
    ∃ n d x, (∀ w, Calls Try.prog 18 #[.agg #[.int .i64 xn, .int .i64 (xd : Int)], .agg #[.int .i64 yn, .int .i64 (yd : Int)]] w (Tup n d x w)) ∧ ∀ w, Calls Try.prog 26 #[.agg #[.int .i64 xn, .int .i64 (xd : Int)], .agg #[.int .i64 yn, .int .i64 (yd : Int)]] w (Tup n d x w) :=
  ⟨_, _, _, fun w => frac_mul xn xd yn yd hx hx1 hy hy1 (by omega) (by omega) (by omega) (by omega) w, fun w => rmul_any xn yn xd yd hx hx1 hy hy1 kx kx1 ky ky1 w⟩

set_option maxRecDepth 100000 in
set_option maxHeartbeats 16000000 in
theorem does_law (r0 r1 a b c d : Int) (hr0 : -9223372036854775808 ≤ r0) (hr0' : r0 ≤ 9223372036854775807) (ha : -9223372036854775808 ≤ a) (ha' : a ≤ 9223372036854775807) (hb : -9223372036854775808 ≤ b) (hb' : b ≤ 9223372036854775807) (hc : -9223372036854775808 ≤ c) (hc' : c ≤ 9223372036854775807) (hd : -9223372036854775808 ≤ d) (hd' : d ≤ 9223372036854775807) (w : World) :
    Calls Try.prog 7 #[.agg #[.int .i64 r0, .int .i64 r1], .int .i64 a, .int .i64 b, .int .i64 c, .int .i64 d] w fun e w' => e = .returned (.bool true) ∧ Below w.heap.size w w' := by
  obtain ⟨mn, md, mx, mk1, mk2⟩ := make_two a b ha ha' hb hb'
  obtain ⟨v, va, vb⟩ := valid_pair r0 r1 hr0 hr0'
  obtain ⟨pn, pd, p1, p2, p3, p4, lp⟩ := large_any a b ha ha' hb hb'
  obtain ⟨qn, qd, q1, q2, q3, q4, lq⟩ := large_any c d hc hc' hd hd'
  obtain ⟨an, ad, ax, ad1, ad2⟩ := add_two pn qn pd qd p1 p2 q1 q2 p3 p4 q3 q4
  obtain ⟨sn, sd, sx, sb1, sb2⟩ := sub_two pn qn pd qd p1 p2 q1 q2 p3 p4 q3 q4
  obtain ⟨un, ud, ux, mu1, mu2⟩ := mul_two pn qn pd qd p1 p2 q1 q2 p3 p4 q3 q4
  obtain ⟨dn, dd, dx, dv1, dv2⟩ := div_two pn qn pd qd p1 p2 q1 q2 p3 p4 q3 q4
  have C1 := Lib.hid (fun w => cmp_any pn (pd : Int) qn (qd : Int) p1 p2 q1 q2 (by omega) (by omega) (by omega) (by omega) w)
  have C2 := Lib.hid (fun w => rcmp_any pn qn pd qd p1 p2 q1 q2 p3 p4 q3 q4 w)
  have L1 := Lib.hid (fun w => floor_any pn (pd : Int) p1 p2 (by omega) (by omega) w)
  have L2 := Lib.hid (fun w => rfloor_any pn (pd : Int) p1 p2 (by omega) (by omega) w)
  have E1 := Lib.hid (fun w => ceil_any pn (pd : Int) p1 p2 (by omega) (by omega) w)
  have E2 := Lib.hid (fun w => rceil_any pn (pd : Int) p1 p2 (by omega) (by omega) w)
  have MK1 := Lib.hid mk1; have MK2 := Lib.hid mk2; have VA := Lib.hid va; have VB := Lib.hid vb; have LP := Lib.hid lp; have LQ := Lib.hid lq
  have AD1 := Lib.hid ad1; have AD2 := Lib.hid ad2; have SB1 := Lib.hid sb1; have SB2 := Lib.hid sb2; have MU1 := Lib.hid mu1; have MU2 := Lib.hid mu2; have DV1 := Lib.hid dv1; have DV2 := Lib.hid dv2
  clear mk1 mk2 va vb lp lq ad1 ad2 sb1 sb2 mu1 mu2 dv1 dv2 ha ha' hb hb' hc hc' hd hd' hr0 hr0' p1 p2 p3 p4 q1 q2 q3 q4
  generalize cmpI (pn * (qd : Int)) (qn * (pd : Int)) = cc at C1 C2
  generalize pn / (pd : Int) = fl at L1 L2
  generalize -(-pn / (pd : Int)) = cl at E1 E2
  have H0 := Lib.hid ((Hold.start w).new [.int .i64 r0, .int .i64 r1] 24 (by simp))
  go_enter Try.func7, Try.ntmps7
  go_wp2_with fail
  refine (MK1.out _).mono ?_
  rintro e w1 ⟨rfl, hb1⟩
  have H1 := Lib.hid ((H0.out.call hb1).new [.int .i64 mn, .int .i64 md] 24 (by simp))
  clear hb1 H0
  go_wp2_with fail
  refine (MK2.out _).mono ?_
  rintro e w2 ⟨rfl, hb2⟩
  have H2 := Lib.hid ((H1.out.call hb2).new [.int .i64 mn, .int .i64 md] 24 (by simp))
  clear hb2 H1
  go_wp2_with fail
  obtain ⟨W, hW⟩ : ∃ W, W = w2.alloc (.cells #[.int .i64 mn, .int .i64 md] 24) := ⟨_, rfl⟩
  have HW := Lib.hid (show Hold w W [(w.heap.size, [.int .i64 r0, .int .i64 r1]), (w1.heap.size, [.int .i64 mn, .int .i64 md]), (w2.heap.size, [.int .i64 mn, .int .i64 md])] from by rw [hW]; exact H2.out)
  rw [← hW]
  clear hW H2
  have rc0 := fun s : BelowW W => ((HW.out.get 0 w.heap.size [.int .i64 r0, .int .i64 r1] rfl).every (HW.out.lt 0 w.heap.size [.int .i64 r0, .int .i64 r1] rfl) s).cell 0 _ rfl
  have rc1 := fun s : BelowW W => ((HW.out.get 0 w.heap.size [.int .i64 r0, .int .i64 r1] rfl).every (HW.out.lt 0 w.heap.size [.int .i64 r0, .int .i64 r1] rfl) s).cell 1 _ rfl
  have mc0 := fun s : BelowW W => ((HW.out.get 1 w1.heap.size [.int .i64 mn, .int .i64 md] rfl).every (HW.out.lt 1 w1.heap.size [.int .i64 mn, .int .i64 md] rfl) s).cell 0 _ rfl
  have mc1 := fun s : BelowW W => ((HW.out.get 1 w1.heap.size [.int .i64 mn, .int .i64 md] rfl).every (HW.out.lt 1 w1.heap.size [.int .i64 mn, .int .i64 md] rfl) s).cell 1 _ rfl
  have kc0 := fun s : BelowW W => ((HW.out.get 2 w2.heap.size [.int .i64 mn, .int .i64 md] rfl).every (HW.out.lt 2 w2.heap.size [.int .i64 mn, .int .i64 md] rfl) s).cell 0 _ rfl
  have kc1 := fun s : BelowW W => ((HW.out.get 2 w2.heap.size [.int .i64 mn, .int .i64 md] rfl).every (HW.out.lt 2 w2.heap.size [.int .i64 mn, .int .i64 md] rfl) s).cell 1 _ rfl
  refine wp_region_below (by kernel_rfl) (by kernel_rfl) ?_
  repeat (go_big_quiet_step ((first | (go_at_call 22; (with_reducible exact calls_below _ (VA.out _))) | (go_at_call 10; (with_reducible exact calls_below _ (VB.out _))))))
  refine wpQuiet_nil ?_
  rintro w' ⟨s, rfl⟩
  obtain ⟨w3, ok3⟩ := s
  have H3 := Lib.hid (HW.out.call ok3)
  clear rc0 rc1 mc0 mc1 kc0 kc1 HW
  go_wp2_with fail
  refine (LP.out _).mono ?_
  rintro e w4 ⟨rfl, hb4⟩
  have H4 := Lib.hid (H3.out.call hb4)
  clear hb4 H3
  go_wp2_with fail
  refine (LQ.out _).mono ?_
  rintro e w5 ⟨rfl, hb5⟩
  have H5 := Lib.hid (((H4.out.call hb5).new [.int .i64 pn, .int .i64 (pd : Int)] 24 (by simp)).new [.int .i64 qn, .int .i64 (qd : Int)] 24 (by simp))
  clear hb5 H4
  have tp := H5.out.get 3 w5.heap.size [.int .i64 pn, .int .i64 (pd : Int)] rfl
  have tq := H5.out.get 4 (w5.heap.size + 1) [.int .i64 qn, .int .i64 (qd : Int)] (by simp)
  have lp := tp.lt (by simp); have lq := tq.lt (by simp)
  have x0 := tp.cell 0 _ rfl; have x1 := tp.cell 1 _ rfl; have y0 := tq.cell 0 _ rfl; have y1 := tq.cell 1 _ rfl
  go_wp2_with fail
  refine (AD1.out _).mono ?_
  rintro e w6 ⟨rfl, hb6⟩
  have tp := (tp.below hb6 lp).old (o := .cells #[.int .i64 an, .int .i64 ad] 24) (Nat.lt_of_lt_of_le lp hb6.size)
  have tq := (tq.below hb6 lq).old (o := .cells #[.int .i64 an, .int .i64 ad] 24) (Nat.lt_of_lt_of_le lq hb6.size)
  have lp := tp.lt (by simp); have lq := tq.lt (by simp)
  have H6 := Lib.hid ((H5.out.call hb6).new [.int .i64 an, .int .i64 ad] 24 (by simp))
  clear x0 x1 y0 y1 hb6 H5
  have x0 := tp.cell 0 _ rfl; have x1 := tp.cell 1 _ rfl; have y0 := tq.cell 0 _ rfl; have y1 := tq.cell 1 _ rfl
  go_wp2_with fail
  refine (AD2.out _).mono ?_
  rintro e w7 ⟨rfl, hb7⟩
  have tp := (tp.below hb7 lp).old (o := .cells #[.int .i64 an, .int .i64 ad] 24) (Nat.lt_of_lt_of_le lp hb7.size)
  have tq := (tq.below hb7 lq).old (o := .cells #[.int .i64 an, .int .i64 ad] 24) (Nat.lt_of_lt_of_le lq hb7.size)
  have lp := tp.lt (by simp); have lq := tq.lt (by simp)
  have H7 := Lib.hid ((H6.out.call hb7).new [.int .i64 an, .int .i64 ad] 24 (by simp))
  clear x0 x1 y0 y1 hb7 H6
  have x0 := tp.cell 0 _ rfl; have x1 := tp.cell 1 _ rfl; have y0 := tq.cell 0 _ rfl; have y1 := tq.cell 1 _ rfl
  go_wp2_with fail
  refine (SB1.out _).mono ?_
  rintro e w8 ⟨rfl, hb8⟩
  have tp := (tp.below hb8 lp).old (o := .cells #[.int .i64 sn, .int .i64 sd] 24) (Nat.lt_of_lt_of_le lp hb8.size)
  have tq := (tq.below hb8 lq).old (o := .cells #[.int .i64 sn, .int .i64 sd] 24) (Nat.lt_of_lt_of_le lq hb8.size)
  have lp := tp.lt (by simp); have lq := tq.lt (by simp)
  have H8 := Lib.hid ((H7.out.call hb8).new [.int .i64 sn, .int .i64 sd] 24 (by simp))
  clear x0 x1 y0 y1 hb8 H7
  have x0 := tp.cell 0 _ rfl; have x1 := tp.cell 1 _ rfl; have y0 := tq.cell 0 _ rfl; have y1 := tq.cell 1 _ rfl
  go_wp2_with fail
  refine (SB2.out _).mono ?_
  rintro e w9 ⟨rfl, hb9⟩
  have tp := (tp.below hb9 lp).old (o := .cells #[.int .i64 sn, .int .i64 sd] 24) (Nat.lt_of_lt_of_le lp hb9.size)
  have tq := (tq.below hb9 lq).old (o := .cells #[.int .i64 sn, .int .i64 sd] 24) (Nat.lt_of_lt_of_le lq hb9.size)
  have lp := tp.lt (by simp); have lq := tq.lt (by simp)
  have H9 := Lib.hid ((H8.out.call hb9).new [.int .i64 sn, .int .i64 sd] 24 (by simp))
  clear x0 x1 y0 y1 hb9 H8
  have x0 := tp.cell 0 _ rfl; have x1 := tp.cell 1 _ rfl; have y0 := tq.cell 0 _ rfl; have y1 := tq.cell 1 _ rfl
  go_wp2_with fail
  refine (MU1.out _).mono ?_
  rintro e w10 ⟨rfl, hb10⟩
  have tp := (tp.below hb10 lp).old (o := .cells #[.int .i64 un, .int .i64 ud] 24) (Nat.lt_of_lt_of_le lp hb10.size)
  have tq := (tq.below hb10 lq).old (o := .cells #[.int .i64 un, .int .i64 ud] 24) (Nat.lt_of_lt_of_le lq hb10.size)
  have lp := tp.lt (by simp); have lq := tq.lt (by simp)
  have H10 := Lib.hid ((H9.out.call hb10).new [.int .i64 un, .int .i64 ud] 24 (by simp))
  clear x0 x1 y0 y1 hb10 H9
  have x0 := tp.cell 0 _ rfl; have x1 := tp.cell 1 _ rfl; have y0 := tq.cell 0 _ rfl; have y1 := tq.cell 1 _ rfl
  go_wp2_with fail
  refine (MU2.out _).mono ?_
  rintro e w11 ⟨rfl, hb11⟩
  have tp := (tp.below hb11 lp).old (o := .cells #[.int .i64 un, .int .i64 ud] 24) (Nat.lt_of_lt_of_le lp hb11.size)
  have tq := (tq.below hb11 lq).old (o := .cells #[.int .i64 un, .int .i64 ud] 24) (Nat.lt_of_lt_of_le lq hb11.size)
  have lp := tp.lt (by simp); have lq := tq.lt (by simp)
  have H11 := Lib.hid ((H10.out.call hb11).new [.int .i64 un, .int .i64 ud] 24 (by simp))
  clear x0 x1 y0 y1 hb11 H10
  have x0 := tp.cell 0 _ rfl; have x1 := tp.cell 1 _ rfl; have y0 := tq.cell 0 _ rfl; have y1 := tq.cell 1 _ rfl
  go_wp2_with fail
  refine (DV1.out _).mono ?_
  rintro e w12 ⟨rfl, hb12⟩
  have tp := (tp.below hb12 lp).old (o := .cells #[.int .i64 dn, .int .i64 dd] 24) (Nat.lt_of_lt_of_le lp hb12.size)
  have tq := (tq.below hb12 lq).old (o := .cells #[.int .i64 dn, .int .i64 dd] 24) (Nat.lt_of_lt_of_le lq hb12.size)
  have lp := tp.lt (by simp); have lq := tq.lt (by simp)
  have H12 := Lib.hid ((H11.out.call hb12).new [.int .i64 dn, .int .i64 dd] 24 (by simp))
  clear x0 x1 y0 y1 hb12 H11
  have x0 := tp.cell 0 _ rfl; have x1 := tp.cell 1 _ rfl; have y0 := tq.cell 0 _ rfl; have y1 := tq.cell 1 _ rfl
  go_wp2_with fail
  refine (DV2.out _).mono ?_
  rintro e w13 ⟨rfl, hb13⟩
  have tp := (tp.below hb13 lp).old (o := .cells #[.int .i64 dn, .int .i64 dd] 24) (Nat.lt_of_lt_of_le lp hb13.size)
  have tq := (tq.below hb13 lq).old (o := .cells #[.int .i64 dn, .int .i64 dd] 24) (Nat.lt_of_lt_of_le lq hb13.size)
  have lp := tp.lt (by simp); have lq := tq.lt (by simp)
  have H13 := Lib.hid ((H12.out.call hb13).new [.int .i64 dn, .int .i64 dd] 24 (by simp))
  clear x0 x1 y0 y1 hb13 H12
  have x0 := tp.cell 0 _ rfl; have x1 := tp.cell 1 _ rfl; have y0 := tq.cell 0 _ rfl; have y1 := tq.cell 1 _ rfl
  have z0 := H13.out.get 5 w6.heap.size [.int .i64 an, .int .i64 ad] (by first | rfl | simp)
  have za0 := z0.cell 0 _ rfl; have zb0 := z0.cell 1 _ rfl
  clear z0
  have z1 := H13.out.get 6 w7.heap.size [.int .i64 an, .int .i64 ad] (by first | rfl | simp)
  have za1 := z1.cell 0 _ rfl; have zb1 := z1.cell 1 _ rfl
  clear z1
  have z2 := H13.out.get 7 w8.heap.size [.int .i64 sn, .int .i64 sd] (by first | rfl | simp)
  have za2 := z2.cell 0 _ rfl; have zb2 := z2.cell 1 _ rfl
  clear z2
  have z3 := H13.out.get 8 w9.heap.size [.int .i64 sn, .int .i64 sd] (by first | rfl | simp)
  have za3 := z3.cell 0 _ rfl; have zb3 := z3.cell 1 _ rfl
  clear z3
  have z4 := H13.out.get 9 w10.heap.size [.int .i64 un, .int .i64 ud] (by first | rfl | simp)
  have za4 := z4.cell 0 _ rfl; have zb4 := z4.cell 1 _ rfl
  clear z4
  have z5 := H13.out.get 10 w11.heap.size [.int .i64 un, .int .i64 ud] (by first | rfl | simp)
  have za5 := z5.cell 0 _ rfl; have zb5 := z5.cell 1 _ rfl
  clear z5
  have z6 := H13.out.get 11 w12.heap.size [.int .i64 dn, .int .i64 dd] (by first | rfl | simp)
  have za6 := z6.cell 0 _ rfl; have zb6 := z6.cell 1 _ rfl
  clear z6
  have z7 := H13.out.get 12 w13.heap.size [.int .i64 dn, .int .i64 dd] (by first | rfl | simp)
  have za7 := z7.cell 0 _ rfl; have zb7 := z7.cell 1 _ rfl
  clear z7
  clear x0 x1 y0 y1
  go_wp2_with fail
  clear za0 zb0 za1 zb1 za2 zb2 za3 zb3 za4 zb4 za5 zb5 za6 zb6 za7 zb7
  obtain ⟨W2, hW2⟩ : ∃ W2, W2 = w13.alloc (.cells #[.int .i64 dn, .int .i64 dd] 24) := ⟨_, rfl⟩
  have HT := Lib.hid (show Below w.heap.size w W2 from by rw [hW2]; exact H13.out.below)
  have TP := Lib.hid (show Has W2 w5.heap.size [.int .i64 pn, .int .i64 (pd : Int)] from by rw [hW2]; exact tp)
  have TQ := Lib.hid (show Has W2 (w5.heap.size + 1) [.int .i64 qn, .int .i64 (qd : Int)] from by rw [hW2]; exact tq)
  rw [← hW2]
  clear hW2 tp tq lp lq H13
  have x0 := fun s : BelowW W2 => (TP.out.every (TP.out.lt (by simp)) s).cell 0 _ rfl
  have x1 := fun s : BelowW W2 => (TP.out.every (TP.out.lt (by simp)) s).cell 1 _ rfl
  have y0 := fun s : BelowW W2 => (TQ.out.every (TQ.out.lt (by simp)) s).cell 0 _ rfl
  have y1 := fun s : BelowW W2 => (TQ.out.every (TQ.out.lt (by simp)) s).cell 1 _ rfl
  refine wp_region_below (by kernel_rfl) (by kernel_rfl) ?_
  repeat (go_big_quiet_step ((first | (go_at_call 15; (with_reducible exact calls_below _ (C1.out _))) | (go_at_call 28; (with_reducible exact calls_below _ (C2.out _))) | (go_at_call 16; (with_reducible exact calls_below _ (L1.out _))) | (go_at_call 29; (with_reducible exact calls_below _ (L2.out _))) | (go_at_call 17; (with_reducible exact calls_below _ (E1.out _))) | (go_at_call 30; (with_reducible exact calls_below _ (E2.out _))) | (go_at_call 11; (with_reducible exact calls_below _ (awake_any _))))))
  refine wpQuiet_nil ?_
  rintro w' ⟨s, rfl⟩
  obtain ⟨w20, ok20⟩ := s
  go_wp2
  go_ret
  exact ⟨rfl, HT.out.trans (ok20.mono HT.out.size)⟩
theorem wf_bd {a : Int} (h : (Lit.int .i64 a).wf = true) : -9223372036854775808 ≤ a ∧ a ≤ 9223372036854775807 := by simpa [Lit.wf, IntKind.min, IntKind.max, IntKind.signed, IntKind.bits] using h
theorem does_walk (r0 r1 a b c d : Int) (w0 : (Lit.int .i64 r0).wf = true) (_ : (Lit.int .i64 r1).wf = true) (w1 : (Lit.int .i64 a).wf = true) (w2 : (Lit.int .i64 b).wf = true) (w3 : (Lit.int .i64 c).wf = true) (w4 : (Lit.int .i64 d).wf = true) (w : World) :
    Calls Try.prog 7 #[.agg #[.int .i64 r0, .int .i64 r1], .int .i64 a, .int .i64 b, .int .i64 c, .int .i64 d] w fun e w' => e = .returned (.bool true) ∧ Below w.heap.size w w' :=
  does_law r0 r1 a b c d (wf_bd w0).1 (wf_bd w0).2 (wf_bd w1).1 (wf_bd w1).2 (wf_bd w2).1 (wf_bd w2).2 (wf_bd w3).1 (wf_bd w3).2 (wf_bd w4).1 (wf_bd w4).2 w
end Go.Proofs.Ytaokenpdaiabgaa
