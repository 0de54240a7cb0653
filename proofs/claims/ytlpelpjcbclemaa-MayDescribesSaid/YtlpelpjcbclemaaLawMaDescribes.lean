/-
  timeboundlaw25.MayDescribes returns true, whatever its list is. No condition. Printed by mkLawMaDesc.py.
-/
import Derived.Deep.DeepCutAuto
import Derived.Test.YtlpelpjcbclemaaZMbI
import Derived.Test.YtlpelpjcbclemaaMaN
namespace Go.Proofs.Ytlpelpjcbclemaa
open Go.RowKit

theorem YCub.k3b {d bx bm A B : Nat} {w : World} {a : Option Addr} {n c : Nat} {oa : Option Addr} {on oc : Nat} {m : List (List (List Int))} {o : List Int} (h : YCub (Bt A B) w a n c oa on oc m o) (h1 : d < A) (h2 : bx < A ∨ B ≤ bx) (h3 : bm < A ∨ B ≤ bm) : YCub (K3 d bx bm) w a n c oa on oc m o :=
  ⟨Row.wide (RSl.wider (RSl.wider RInt.wider)) (fun k hk _ => ⟨by have := hk.1; omega, by have := hk.1; have := hk.2; omega, by have := hk.1; have := hk.2; omega⟩) h.cub, Row.wide RInt.wider (fun k hk _ => ⟨by have := hk.1; omega, by have := hk.1; have := hk.2; omega, by have := hk.1; have := hk.2; omega⟩) h.ints⟩
theorem wide_copy {S W : Nat} {ss : List (List Int)} (h : ValidP S W ss) (hW : 0 < W) (hW4 : W ≤ 4) : ∀ x ∈ ss, 0 < x.length ∧ x.length ≤ 8 := fun x hx => by
  obtain ⟨i, hi⟩ := List.getElem?_of_mem hx
  have := (h.2 i x hi).1
  omega

set_option maxRecDepth 100000 in
set_option maxHeartbeats 8000000 in
theorem mdescribes_law (a0 : Option Addr) (len0 cap0 : Nat) (z0 : List Int) (w : World) (w0 : IsRow .i64 w a0 len0 cap0 z0) :
    Calls Try.prog 6 #[.slice a0 len0 cap0] w fun e w' => e = .returned (.bool true) ∧ Below w.heap.size w w' := by
  have W0 := Lib.hid w0
  clear w0
  go_enter Try.func6, Try.ntmps6
  go_wp2_with fail
  refine (new_any a0 len0 cap0 z0 _ W0.out).mono ?_
  rintro e w2 ⟨rfl, hd2, hb2⟩
  have D2 := Lib.hid hd2; have C2 := Lib.hid (Chg.of_below (M := Ge w.heap.size) hb2); clear hd2 hb2
  go_wp2_with fail
  refine (m2cache_any w.heap.size _ D2.out).mono ?_
  rintro e w3 ⟨S, W, L, rfl, g1, g2, g3, g4, g5, hd3, hc3⟩
  have hC := Lib.hid (show COk S W L from ⟨by omega, by omega, by omega, by omega, by omega, by omega⟩)
  have WP := Lib.hid (show 0 < W by omega)
  have D3 := Lib.hid (Deck.k_alloc (o := .cells #[.int .i64 S, .int .i64 W, .int .i64 L] 26) hd3)
  have C3 := Lib.hid ((C2.out.gt hc3 (Nat.le_refl _)).alloc (.cells #[.int .i64 S, .int .i64 W, .int .i64 L] 26))
  have X3 := Lib.hid (CVar.new (d := w.heap.size) (S := S) (W := W) (L := L) (w := w3) hd3.lt)
  have L3 := Lib.hid hd3.lt
  clear hd3 hc3 D2 C2
  have c0 := X3.out.has.cell 0 _ rfl; have c1 := X3.out.has.cell 1 _ rfl; have c2 := X3.out.has.cell 2 _ rfl; have lx := X3.out.lt
  go_wp2_with fail
  refine (m2lines_any S W L hC.out w.heap.size _ D3.out).mono ?_
  rintro e w4 ⟨xa, xn, xc, ss, rfl, ho4, hv4, hd4, hc4⟩
  obtain rfl : S = xn := by have h1 := ho4.matT.hlen; have h2 := hv4.1; omega
  have s4 := hc4.size
  simp only [World.size_alloc] at s4
  have HV := Lib.hid hv4
  have OS := Lib.hid (of_yst hv4)
  have UL := Lib.hid (flatten_le hv4 (by omega) (by omega))
  have X4 := Lib.hid ((X3.out.keep hc4).keep (Chg.dka w4 (.cells #[.slice xa S xc] 44)))
  have H4 := Lib.hid (Has.new w4 [.slice xa S xc] 44)
  have O4 := Lib.hid (OMat.k_alloc (o := .cells #[.slice xa S xc] 44) ho4.bt1)
  have C4 := Lib.hid ((C3.out.gt hc4 (Nat.le_refl _)).alloc (.cells #[.slice xa S xc] 44))
  have D4 := Lib.hid (Deck.k_alloc (o := .cells #[.slice xa S xc] 44) hd4)
  have SZ4 := Lib.hid s4
  clear c0 c1 c2 lx s4 ho4 hv4 hd4 hc4 X3 C3 D3
  have c0 := X4.out.has.cell 0 _ rfl; have c1 := X4.out.has.cell 1 _ rfl; have c2 := X4.out.has.cell 2 _ rfl; have lx := X4.out.lt
  have x0 := H4.out.cell 0 _ rfl
  go_wp2_with fail
  refine (yof_any S W L hC.out (fun _ => True) xa S xc ss HV.out _ O4.out.matT).mono ?_
  rintro e w5 h5
  obtain ⟨ma, mc, na, nc, f5, g5', rfl, ho5, hb5⟩ := YRet.fix h5 OS.out.len OS.out.olen
  have s5 := hb5.size
  simp only [World.size_alloc] at s5
  have s4 := SZ4.out
  have l3 := L3.out
  have hk5 : Below w5.heap.size w5 (w5.alloc (.cells #[.slice ma S mc, .slice na S nc] 31)) := (Below.refl _ _).alloc (Nat.le_refl _) _
  have I5 := Lib.hid (show DI w (ss.flatten ++ Base) S W L w3.heap.size w4.heap.size w5.heap.size xa xc ss ma mc na nc (ofM ss) (wO S W) (w5.alloc (.cells #[.slice ma S mc, .slice na S nc] 31)) from
    ⟨(X4.out.has.below hb5 (by simp; omega)).below hk5 (by omega), (H4.out.below hb5 (by simp)).below hk5 (by omega), Has.new w5 [.slice ma S mc, .slice na S nc] 31,
     Mat.below (Mat.below (OMat.k3 O4.out (by simp; omega) (.inr (by omega)) (.inr (by omega))) hb5) hk5, (ho5.bt.k3b (by simp; omega) (.inl (by simp)) (.inr (by omega))).below hk5, HV.out, OS.out.unionL,
     ((D4.out.below hb5 (Nat.le_refl _)).below hk5 (Nat.le_refl _)), (C4.out.tr hb5).tr hk5, by omega, by omega, by omega, by simp⟩)
  have BE := Lib.hid (BelowY.refl OS.out)
  clear c0 c1 c2 lx x0 h5 ho5 hb5 s5 s4 l3 hk5 X4 H4 O4 C4 D4 OS
  generalize hUU : ss.flatten ++ Base = U at *
  have HU := Lib.hid (show U.length ≤ 1000 by rw [← hUU, List.length_append]; have := UL.out; have : Base.length = 31 := rfl; omega)
  have HU1 := Lib.hid (show U.length ≤ 100 by rw [← hUU, List.length_append]; have := UL.out; have : Base.length = 31 := rfl; omega)
  have HB := Lib.hid (show ∀ x ∈ Base, x ∈ U from fun x hx => by rw [← hUU]; exact List.mem_append_right _ hx)
  clear hUU UL HV L3 SZ4
  generalize w3.heap.size = bX at *
  generalize w4.heap.size = bx at *
  obtain ⟨wv, hwv⟩ : ∃ wv : World, wv = w5.alloc (.cells #[.slice ma S mc, .slice na S nc] 31) := ⟨_, rfl⟩
  rw [← hwv] at I5
  clear W0
  go_upto_region 5 with fail
  rw [← hwv]
  clear hwv
  generalize w5.heap.size = bm at *
  go_wp2_with fail
  refine (next_any w.heap.size 2 (by omega) (by omega) _ I5.out.dk).mono ?_
  rintro e w6 ⟨r6, rfl, q0, q1, hd6, hb6⟩
  have I6 := Lib.hid (I5.out.deck hb6.chg hd6)
  clear hd6 hb6 I5
  go_upto_if 23 with fail
  go_cut [10] (fun _ wx => ∃ ma mc na nc m o, DI w U S W L bX bx bm xa xc ss ma mc na nc m o wx ∧ BelowY S W (ofM ss) (wO S W) m o)
  case first =>
    as_aux_lemma =>
      by_cases hr : r6 = 0
      · subst hr
        have c0 := I6.out.hX.cell 0 _ rfl; have c1 := I6.out.hX.cell 1 _ rfl; have c2 := I6.out.hX.cell 2 _ rfl; have lX := I6.out.hX.lt (by simp)
        go_wp2_with fail
        refine (ytop_any S W L hC.out _).mono ?_
        rintro e w7 h7
        obtain ⟨ta, tc, pa, pc, f7, g7, rfl, ho7, hb7⟩ := YRet.fix h7 (topS_len S W) (topO_len S)
        have o6 := I6.out.o4; have o5 := I6.out.o3; have o4 := I6.out.o2; have o3 := I6.out.o1
        have I7 := Lib.hid (I6.out.call hb7)
        have O7 := Lib.hid (ho7.k3 (d := w.heap.size) (bx := bx) (bm := bm) (by omega) (by omega) (by omega))
        have BT := Lib.hid (BelowY.top (of_yst I6.out.vs))
        clear c0 c1 c2 lX h7 ho7 hb7 I6
        have m0 := I7.out.hm.cell 0 _ rfl; have m1 := I7.out.hm.cell 1 _ rfl; have mf := I7.out.hm.free; have ml := I7.out.hm.lt (by simp)
        go_wp2_with fail
        go_meet
        exact ⟨_, _, _, _, _, _, I7.out.setm O7.out (ytop_st U S W), BT.out⟩
      · have hr' : (r6 == 0) = false := by simpa using hr
        go_wp2_with fail
        all_goals
          go_meet
          exact ⟨_, _, _, _, _, _, I6.out, BE.out⟩
  case rest =>
   obtain ⟨ma, mc, na, nc, m, o, hI, hbe⟩ := hcut
   have I5 := Lib.hid hI; have BE := Lib.hid hbe
   clear hI hbe I6
   go_wp2
   go_loopw [26] (fun i wr => ∃ (k : Nat) (U : List Int) (xa ma na : Option Addr) (xc mc nc : Nat) (ss : List (List Int)) (m : List (List (List Int))) (o : List Int), k ≤ 12 ∧ U.length ≤ 100 + 50 * k ∧ (∀ x ∈ Base, x ∈ U) ∧ i = .int .i64 k ∧ DI w U S W L bX bx bm xa xc ss ma mc na nc m o wr ∧ BelowY S W (ofM ss) (wO S W) m o) (fun i _ => 12 - (intOf i).toNat)
   case atStart => exact ⟨0, U, xa, ma, na, xc, mc, nc, ss, m, o, by omega, by have := HU1.out; omega, HB.out, rfl, I5.out, BE.out⟩
   case round =>
     clear HU1 HU HB I5 BE
     obtain ⟨k, U, xa, ma, na, xc, mc, nc, ss, m, o, hk, hUk, hUB, rfl, hI, hbe⟩ := hrel
     have HUK := Lib.hid hUk; have HU := Lib.hid (show U.length ≤ 1000 by omega); have HB := Lib.hid hUB
     clear hUk hUB
     have I0 := Lib.hid hI; have BM := Lib.hid hbe
     clear hI hbe
     have o1 := I0.out.o1; have o2 := I0.out.o2; have o3 := I0.out.o3; have o4 := I0.out.o4
     by_cases hlt : k < 12
     · go_wp2_with fail
       refine (m2few_grw w.heap.size _ I0.out.dk).mono ?_
       rintro e w1 ⟨v1, vs1, fps1, N1, xs, rfl, hg1, hl1, hx1, hd1, hc1⟩
       have G1 := Lib.hid hg1; have X1 := Lib.hid hx1; have C1 := Lib.hid hc1; have D1 := Lib.hid hd1; have Z1 := Lib.hid hc1.size
       clear hg1 hx1 hc1 hd1
       go_wp2_with fail
       refine (m2line_any w.heap.size _ D1.out).mono ?_
       rintro e w2 ⟨x, rfl, hx2, hd2, hc2⟩
       have hxo := base_ok hx2
       have XB := Lib.hid hx2
       have G2 := Lib.hid (G1.out.chg OInt.loc hc2 (fun j hj _ e => by omega))
       have C2 := Lib.hid (Chg.dt C1.out hc2); have D2 := Lib.hid hd2
       have Z2 := Lib.hid (Nat.le_trans Z1.out hc2.size)
       have B2 := Lib.hid (Blk.new w2 [.int .i64 x] 3)
       have Q2 := Lib.hid (G2.out.alloc OInt.loc (.cells #[.int .i64 x] 3))
       clear hx2 hc2 hd2 G1 C1 D1 Z1
       obtain ⟨n, hn⟩ : ∃ n, xs.length = n := ⟨_, rfl⟩
       have HN := Lib.hid hn
       rw [hn] at hl1
       clear hn
       go_wp2_with (at_builtin; refine wpList_append_n n rfl _ _ 22 rfl 3 Try.underlying22 info_int rfl OInt.loc Q2.out rfl w2.heap.size (.int .i64 x) 3 B2.out rfl (f := fun _ => False) (x := x) ⟨rfl, by omega, by omega⟩ (fun _ h => h.elim) rfl HN.out (by omega) (by decide) ?_; intro g cap w3 hap)
       have C3 := Lib.hid (show Chg (fun k => k = w.heap.size) wr w3 from (C2.out.alloc _).trans hap.out.chg (fun j hj e => by have := (Q2.out.own _ e).1; omega))
       have D3 := Lib.hid (show Deck w3 w.heap.size from (D2.out.below ((Below.refl _ _).alloc (Nat.le_refl _) _) (Nat.le_refl _)).chg hap.out.chg (fun j hj hjd e => by have := (Q2.out.own _ e).1; have := Z2.out; omega))
       have I3 := Lib.hid (I0.out.deck C3.out D3.out)
       have LN3 := Lib.hid (show Ints (Nd w.heap.size) w3 (some ⟨g, 0, none⟩) (n + 1) cap (xs ++ [x]) from Grw.read OInt.reads hap.out.grw (by simp; have := HN.out; omega) (fun j hj => by unfold Nd; omega))
       have HB3 := Lib.hid (show ∀ y ∈ xs ++ [x], y ∈ Base from fun y hy => by
         rcases List.mem_append.1 hy with h | h
         · exact X1.out y h
         · simp at h; subst h; exact XB.out)
       clear hap G2 Q2 B2 C2 D2 C3 I0 X1 XB Z2 HN
       generalize xs ++ [x] = ls at *
       have hcp := LN3.out.hcap; have hmx := LN3.out.hmax
       go_wp2_with fail
       refine (next_any w.heap.size _ (by omega) (by omega) _ D3.out).mono ?_
       rintro e w4 ⟨r, rfl, r0, r1, hd4, hb4⟩
       have I4 := Lib.hid (I3.out.deck hb4.chg hd4)
       have LN4 := Lib.hid (LN3.out.chg hb4.chg (fun _ h => h))
       clear hd4 hb4 I3 LN3 D3
       obtain ⟨j, rfl⟩ : ∃ j : Nat, r = (j : Int) := ⟨r.toNat, by omega⟩
       obtain ⟨lb, lo, z, hg, hz, hcz, hz1, hz2, _, _⟩ := LN4.out.get (show j < n + 1 by omega)
       simp only [Option.some.injEq, Addr.mk.injEq, and_true] at hg
       obtain ⟨rfl, rfl⟩ := hg
       rw [Nat.zero_add] at hcz
       have ZM := Lib.hid (List.mem_of_getElem? hz)
       have ZB := Lib.hid (HB3.out z (List.mem_of_getElem? hz))
       have hzo := base_ok ZB.out
       clear hz
       go_wp2_with fail
       refine (next_any w.heap.size 2 (by omega) (by omega) _ I4.out.dk).mono ?_
       rintro e w5 ⟨r', rfl, q0, q1, hd5, hb5⟩
       have I5 := Lib.hid (I4.out.deck hb5.chg hd5)
       have LN5 := Lib.hid (LN4.out.chg hb5.chg (fun _ h => h))
       clear hd5 hb5 I4 LN4 hcz
       have c0 := I5.out.hX.cell 0 _ rfl; have c1 := I5.out.hX.cell 1 _ rfl; have c2 := I5.out.hX.cell 2 _ rfl; have m0 := I5.out.hm.cell 0 _ rfl; have m1 := I5.out.hm.cell 1 _ rfl; have o5 := I5.out.o4
       go_upto_if 43 with fail
       go_cut [10] (fun _ wx => ∃ ma mc na nc m o, DI w U S W L bX bx bm xa xc ss ma mc na nc m o wx ∧ BelowY S W (ofM (useC S ss z)) (wO S W) m o)
       case first =>
         as_aux_lemma =>
           have LI := Lib.hid (show LnsOk U ls from fun y hy => ⟨(base_ok (HB3.out y hy)).1, (base_ok (HB3.out y hy)).2, HB.out y (HB3.out y hy)⟩)
           by_cases hr : r' = 0
           · subst hr
             have ST := Lib.hid (eitherY_st (st := (m, o)) I5.out.st WP.out LI.out)
             have BT := Lib.hid (ystep_either I5.out.vs I5.out.st WP.out LI.out ZM.out BM.out)
             go_wp2_with fail
             refine (yeither_any U HU.out S W L hC.out m o I5.out.st (K3 w.heap.size bx bm) (Nd w.heap.size) ma S mc na S nc (some ⟨g, 0, none⟩) (n + 1) cap ls LI.out _ I5.out.cub LN5.out).mono ?_
             rintro e w6 h6
             obtain ⟨ta, tc, pa, pc, f6, g6, rfl, ho6, hb6⟩ := YRet.fix h6 ST.out.len ST.out.olen
             have I6 := Lib.hid (I5.out.call hb6)
             have O6 := Lib.hid (ho6.k3 (d := w.heap.size) (bx := bx) (bm := bm) (by omega) (by omega) (by omega))
             clear c0 c1 c2 m0 m1 h6 ho6 hb6
             have m0 := I6.out.hm.cell 0 _ rfl; have m1 := I6.out.hm.cell 1 _ rfl; have mf := I6.out.hm.free; have ml := I6.out.hm.lt (by simp)
             go_wp2_with fail
             go_meet
             exact ⟨_, _, _, _, _, _, I6.out.setm O6.out ST.out, BT.out⟩
           · have hr' : (r' == 0) = false := by simpa using hr
             have ZU := Lib.hid (HB.out z ZB.out)
             have ST := Lib.hid (ytouch_st I5.out.st WP.out hzo.1 hzo.2 ZU.out)
             have BT := Lib.hid (ystep_touch I5.out.vs I5.out.st WP.out hzo.1 hzo.2 ZU.out BM.out)
             go_wp2_with fail
             refine (ytouch_any U HU.out S W L hC.out m o I5.out.st (K3 w.heap.size bx bm) ma S mc na S nc z hzo.1 hzo.2 ZU.out _ I5.out.cub).mono ?_
             rintro e w6 h6
             obtain ⟨ta, tc, pa, pc, f6, g6, rfl, ho6, hb6⟩ := YRet.fix h6 ST.out.len ST.out.olen
             have I6 := Lib.hid (I5.out.call hb6)
             have O6 := Lib.hid (ho6.k3 (d := w.heap.size) (bx := bx) (bm := bm) (by omega) (by omega) (by omega))
             clear c0 c1 c2 m0 m1 h6 ho6 hb6
             have m0 := I6.out.hm.cell 0 _ rfl; have m1 := I6.out.hm.cell 1 _ rfl; have mf := I6.out.hm.free; have ml := I6.out.hm.lt (by simp)
             go_wp2_with fail
             go_meet
             exact ⟨_, _, _, _, _, _, I6.out.setm O6.out ST.out, BT.out⟩
       case rest =>
         obtain ⟨ma, mc, na, nc, m, o, hI, hbe⟩ := hcut
         have I6 := Lib.hid hI; have BM := Lib.hid hbe
         clear hI hbe I5 LN5 c0 c1 c2 m0 m1 o5 HB3 ZM q0 q1
         have x0 := I6.out.hx.cell 0 _ rfl; have o6 := I6.out.o4
         go_wp2_with fail
         refine (rcopy_any (K3 w.heap.size bx bm) xa S xc ss _ I6.out.mat (by omega) (wide_copy I6.out.vs WP.out (by omega))).mono ?_
         rintro e w7 h7
         obtain ⟨ya, yc, rfl, ho7, hb7⟩ := NewRet.fix (S := S) h7 (by have := I6.out.vs.1; omega)
         have s7 := hb7.size
         have I7 := Lib.hid ((I6.out.call hb7).call ((Below.refl _ _).alloc (Nat.le_refl _) (.cells #[.slice ya S yc] 44)))
         have X7 := Lib.hid (Has.new w7 [.slice ya S yc] 44)
         have O7 := Lib.hid (OMat.k_alloc (o := .cells #[.slice ya S yc] 44) ho7.bt1)
         have C7 := Lib.hid (show Chg (fun k => k = w.heap.size) wc (w7.alloc (.cells #[.slice ya S yc] 44)) from (Chg.of_below hb7).alloc _)
         have SZ := Lib.hid s7
         clear h7 ho7 hb7 x0 s7
         have c0 := I7.out.hX.cell 0 _ rfl; have c1 := I7.out.hX.cell 1 _ rfl; have c2 := I7.out.hX.cell 2 _ rfl; have y0 := X7.out.cell 0 _ rfl
         have lX := I7.out.hX.lt (by simp)
         have s7 := SZ.out
         have zw := wrap_mul (k := z) (L := L) g5 hzo.1 hzo.2
         go_wp2_with fail
         refine (useC_any S W L hC.out g5 (Bt wc.heap.size w7.heap.size) ya S yc ss _ O7.out I7.out.vs z hzo.1 hzo.2).mono ?_
         rintro e w8 ⟨rfl, ho8, hc8⟩
         have D8 := Lib.hid (I7.out.dk.chg hc8 (fun j hj hjd hB => by have := hB.1; omega))
         have I8 := Lib.hid (I6.out.deck (C7.out.trans hc8 (fun j hj hB => by have := hB.1; omega)) D8.out)
         have X8 := Lib.hid (hc8.has X7.out (by simp) (fun hB => by have := hB.2; omega))
         have VS := Lib.hid (useC_valid (k := z) I7.out.vs WP.out hzo.1 hzo.2)
         have BU := BM
         have s8 := hc8.size
         simp only [World.size_alloc] at s8
         have M8 := Lib.hid (OMat.k3 (w := w8) (d := w.heap.size) (bx := bx) (bm := bm) ho8 (by omega) (.inl (by omega)) (.inl (by omega)))
         have I9 := Lib.hid (I8.out.setx M8.out VS.out)
         generalize useC S ss z = ss' at *
         have l7 : w7.heap.size ≠ bx := by omega
         clear c0 c1 c2 y0 lX zw ho8 hc8 I6 I7 X7 O7 C7 D8 VS M8 BM
         have y0 := X8.out.cell 0 _ rfl; have x0 := I8.out.hx.cell 0 _ rfl; have xf := I8.out.hx.free; have xl := I8.out.hx.lt (by simp)
         have c0 := I9.out.hX.cell 0 _ rfl; have c1 := I9.out.hX.cell 1 _ rfl; have c2 := I9.out.hX.cell 2 _ rfl; have m0 := I9.out.hm.cell 0 _ rfl; have m1 := I9.out.hm.cell 1 _ rfl; have x9 := I9.out.hx.cell 0 _ rfl
         have s9 : bm < w8.heap.size := I8.out.o4
         go_wp2_with fail
         refine (yrvalid_any S W L hC.out (K3 w.heap.size bx bm) ma S mc na S nc m o _ I9.out.cub).mono ?_
         rintro e w10 h10
         obtain ⟨rfl, hb10⟩ := h10.tt I9.out.st.valid
         have I10 := Lib.hid (I9.out.call hb10)
         clear c0 c1 c2 m0 m1 x9 y0 x0 xf xl h10 hb10 I8 X8 I9 s9 s8 s7 SZ l7
         have c0 := I10.out.hX.cell 0 _ rfl; have c1 := I10.out.hX.cell 1 _ rfl; have c2 := I10.out.hX.cell 2 _ rfl; have m0 := I10.out.hm.cell 0 _ rfl; have m1 := I10.out.hm.cell 1 _ rfl; have x0 := I10.out.hx.cell 0 _ rfl
         go_wp2_with fail
         refine (yrdescribes_any U (by have := HUK.out; omega) S W L hC.out (by omega) (by omega) ss' I10.out.vs m o I10.out.st (K3 w.heap.size bx bm) (K3 w.heap.size bx bm) ma S mc na S nc ya S yc _ I10.out.cub I10.out.mat).mono ?_
         rintro e w11 h11
         obtain ⟨rfl, hb11⟩ := h11.tt BU.out
         have I11 := Lib.hid (I10.out.call hb11)
         clear c0 c1 c2 m0 m1 x0 h11 hb11 I10
         go_wp2_with fail
         refine (m2line_any w.heap.size _ I11.out.dk).mono ?_
         rintro e w12 ⟨y, rfl, hy12, hd12, hc12⟩
         have I12 := Lib.hid (I11.out.deck hc12 hd12)
         have hyo := base_ok hy12
         clear hy12 hd12 hc12 I11
         have c0 := I12.out.hX.cell 0 _ rfl; have c1 := I12.out.hX.cell 1 _ rfl; have c2 := I12.out.hX.cell 2 _ rfl; have m0 := I12.out.hm.cell 0 _ rfl; have m1 := I12.out.hm.cell 1 _ rfl; have x0 := I12.out.hx.cell 0 _ rfl
         go_upto_region 20 with fail
         have o12 := I12.out.o4
         have I13 := Lib.hid (I12.out.call (Below.refl _ _).drew)
         have AG := Lib.hid (fun w' (r : YCub (K3 w.heap.size bx bm) w' ma S mc na S nc m o) => yage_any S W L hC.out m o I12.out.st (K3 w.heap.size bx bm) ma S mc na S nc y hyo.1 (by omega) w' r)
         have KH := Lib.hid (fun h => known_miss (z := y) I12.out.vs I12.out.st BU.out hyo.1 h)
         obtain ⟨ag, hag⟩ : ∃ ag, ageY S W m o y = ag := ⟨_, rfl⟩
         rw [hag] at AG KH
         clear hag
         go_cut [91] (fun s91 wx => s91 = .bool false ∧ DI w U S W L bX bx bm ya yc ss' ma mc na nc m o wx)
         case first =>
           as_aux_lemma =>
             by_cases hag : ag = W
             · have hit := KH.out hag
               have HIT := Lib.hid hit
               clear hit
               have hag2 : ((ag : Int) == (W : Int)) = true := by simp [hag]
               clear hag
               have yw := wrap_mul (k := y) (L := L) g5 hyo.1 hyo.2
               refine hd_start 16 (fun w' => w'.cell? ⟨bX, 0, none⟩ = some (.int .i64 S) ∧ w'.cell? ⟨bX, 1, none⟩ = some (.int .i64 W) ∧ w'.cell? ⟨bX, 2, none⟩ = some (.int .i64 L) ∧ w'.cell? ⟨bm, 0, none⟩ = some (.slice ma S mc) ∧ w'.cell? ⟨bm, 1, none⟩ = some (.slice na S nc) ∧ w'.cell? ⟨bx, 0, none⟩ = some (.slice ya S yc)) (by kernel_rfl) ⟨by kernel_rfl, by kernel_rfl, by kernel_rfl, by decide⟩ (by refine ⟨c0, c1, c2, m0, m1, x0⟩) (fun ok => ?_)
               refine hd_take_l (i := 0) (v := ?_) ok rfl (by decide) (by kernel_rfl) (by kernel_rfl) (fun _ _ _ h => h) (Or.inl ⟨by kernel_rfl, ?_⟩) ?_
               rotate_left
               · (intro w hSw; (try dsimp only at hSw); (try go_split_ands); go_simp; (try (with_reducible rfl)))
               go_frame
               refine hd_take_l (i := 1) (v := ?_) ok rfl (by decide) (by kernel_rfl) (by kernel_rfl) (fun _ _ _ h => h) (Or.inl ⟨by kernel_rfl, ?_⟩) ?_
               rotate_left
               · (intro w hSw; (try dsimp only at hSw); (try go_split_ands); go_simp; (try (with_reducible rfl)))
               go_frame
               refine hd_take_l (i := 2) (v := ?_) ok rfl (by decide) (by kernel_rfl) (by kernel_rfl) (fun _ _ _ h => h) (Or.inl ⟨by kernel_rfl, ?_⟩) ?_
               rotate_left
               · (intro w hSw; (try dsimp only at hSw); (try go_split_ands); go_simp; (try (with_reducible rfl)))
               go_frame
               refine hd_take_l (i := 4) (v := ?_) ok rfl (by decide) (by kernel_rfl) (by kernel_rfl) (fun _ _ _ h => h) (Or.inl ⟨by kernel_rfl, ?_⟩) ?_
               rotate_left
               · (intro w hSw; (try dsimp only at hSw); (try go_split_ands); go_simp; (try (with_reducible rfl)))
               go_frame
               refine hd_take_l (i := 5) (v := ?_) ok rfl (by decide) (by kernel_rfl) (by kernel_rfl) (fun _ _ _ h => h) (Or.inl ⟨by kernel_rfl, ?_⟩) ?_
               rotate_left
               · (intro w hSw; (try dsimp only at hSw); (try go_split_ands); go_simp; (try (with_reducible rfl)))
               go_frame
               refine hd_only_l (c := 3) rfl (by decide) (by kernel_rfl) (fun K hK => ?_)
               go_simp
               go_at_call 15
               refine (AG.out _ I13.out.cub).mono ?_
               rintro e w14 ⟨rfl, hb14⟩
               have I14 := Lib.hid (I13.out.call hb14)
               have s14 := hb14.size
               clear c0 c1 c2 m0 m1 x0 hb14
               have c0 := I14.out.hX.cell 0 _ rfl; have c1 := I14.out.hX.cell 1 _ rfl; have c2 := I14.out.hX.cell 2 _ rfl; have m0 := I14.out.hm.cell 0 _ rfl; have m1 := I14.out.hm.cell 1 _ rfl; have x0 := I14.out.hx.cell 0 _ rfl
               (try simp only [])
               refine hK _ _ (by refine ⟨?_, ?_, ?_, ?_, ?_, ?_⟩ <;> (first | exact c0 | exact c1 | exact c2 | exact m0 | exact m1 | exact x0)) ?_
               clear hK K
               (try go_frame)
               refine hd_take_l (i := 6) (v := ?_) ok rfl (by decide) (by kernel_rfl) (by kernel_rfl) (fun _ _ _ h => h) (Or.inl ⟨by kernel_rfl, ?_⟩) ?_
               rotate_left
               · (intro w hSw; (try dsimp only at hSw); (try go_split_ands); go_simp; (try (with_reducible rfl)))
               go_frame
               refine hd_take_l (i := 7) (v := ?_) ok rfl (by decide) (by kernel_rfl) (by kernel_rfl) (fun _ _ _ h => h) (Or.inl ⟨by kernel_rfl, ?_⟩) ?_
               rotate_left
               · (intro w hSw; (try dsimp only at hSw); (try go_split_ands); go_simp; (try (with_reducible rfl)))
               go_frame
               refine hd_take_l (i := 8) (v := ?_) ok rfl (by decide) (by kernel_rfl) (by kernel_rfl) (fun _ _ _ h => h) (Or.inl ⟨by kernel_rfl, ?_⟩) ?_
               rotate_left
               · (intro w hSw; (try dsimp only at hSw); (try go_split_ands); go_simp; (try (with_reducible rfl)))
               go_frame
               refine hd_take_l (i := 9) (v := ?_) ok rfl (by decide) (by kernel_rfl) (by kernel_rfl) (fun _ _ _ h => h) (Or.inl ⟨by kernel_rfl, ?_⟩) ?_
               rotate_left
               · (intro w hSw; (try dsimp only at hSw); (try go_split_ands); go_simp; (try (with_reducible rfl)))
               go_frame
               refine hd_take_l (i := 11) (v := ?_) ok rfl (by decide) (by kernel_rfl) (by kernel_rfl) (fun _ _ _ h => h) (Or.inl ⟨by kernel_rfl, ?_⟩) ?_
               rotate_left
               · (intro w hSw; (try dsimp only at hSw); (try go_split_ands); go_simp; (try (with_reducible rfl)))
               go_frame
               refine hd_take_l (i := 12) (v := ?_) ok rfl (by decide) (by kernel_rfl) (by kernel_rfl) (fun _ _ _ h => h) (Or.inl ⟨by kernel_rfl, ?_⟩) ?_
               rotate_left
               · (intro w hSw; (try dsimp only at hSw); (try go_split_ands); go_simp; (try (with_reducible rfl)))
               go_frame
               refine hd_take_l (i := 13) (v := ?_) ok rfl (by decide) (by kernel_rfl) (by kernel_rfl) (fun _ _ _ h => h) (Or.inl ⟨by kernel_rfl, ?_⟩) ?_
               rotate_left
               · (intro w hSw; (try dsimp only at hSw); (try go_split_ands); go_simp; (try (with_reducible rfl)))
               go_frame
               refine hd_take_l (i := 14) (v := ?_) ok rfl (by decide) (by kernel_rfl) (by kernel_rfl) (fun _ _ _ h => h) (Or.inl ⟨by kernel_rfl, ?_⟩) ?_
               rotate_left
               · (intro w hSw; (try dsimp only at hSw); (try go_split_ands); go_simp; (try (with_reducible rfl)))
               go_frame
               refine hd_only_l (c := 10) rfl (by decide) (by kernel_rfl) (fun K hK => ?_)
               go_simp
               go_at_call 25
               refine (rcopy_any (K3 w.heap.size bx bm) ya S yc ss' _ I14.out.mat (by omega) (wide_copy I14.out.vs WP.out (by omega))).mono ?_
               rintro e w15 h15
               obtain ⟨ta, tc, rfl, ho15, hb15⟩ := NewRet.fix (S := S) h15 (by have := I14.out.vs.1; omega)
               have I15 := Lib.hid (I14.out.call hb15)
               have O15 := Lib.hid ho15.bt1
               have s15 := hb15.size
               have o14 := I14.out.o4
               clear c0 c1 c2 m0 m1 x0 h15 ho15
               have c0 := I15.out.hX.cell 0 _ rfl; have c1 := I15.out.hX.cell 1 _ rfl; have c2 := I15.out.hX.cell 2 _ rfl; have m0 := I15.out.hm.cell 0 _ rfl; have m1 := I15.out.hm.cell 1 _ rfl; have x0 := I15.out.hx.cell 0 _ rfl
               (try simp only [])
               refine hK _ _ (by refine ⟨?_, ?_, ?_, ?_, ?_, ?_⟩ <;> (first | exact c0 | exact c1 | exact c2 | exact m0 | exact m1 | exact x0)) ?_
               clear hK K
               (try go_frame)

               refine hd_only_l (c := 15) rfl (by decide) (by kernel_rfl) (fun K hK => ?_)
               go_simp
               go_at_call 26
               refine (useC_any S W L hC.out g5 (Bt w14.heap.size w15.heap.size) ta S tc ss' _ O15.out I15.out.vs y hyo.1 hyo.2).mono ?_
               rintro e w16 ⟨he16, ho16, hc16⟩
               rw [HIT.out] at he16
               subst he16
               have D16 := Lib.hid (I15.out.dk.chg hc16 (fun j hj hjd hB => by have := hB.1; omega))
               have hc14 : Chg (fun k => k = w.heap.size) w14 w15 := (Chg.of_below hb15)
               have I16 := Lib.hid (I14.out.deck (hc14.trans hc16 (fun j hj hB => by have := hB.1; omega)) D16.out)
               clear c0 c1 c2 m0 m1 x0 hc16 ho16 hb15
               have c0 := I16.out.hX.cell 0 _ rfl; have c1 := I16.out.hX.cell 1 _ rfl; have c2 := I16.out.hX.cell 2 _ rfl; have m0 := I16.out.hm.cell 0 _ rfl; have m1 := I16.out.hm.cell 1 _ rfl; have x0 := I16.out.hx.cell 0 _ rfl
               (try simp only [])
               refine hK _ _ (by refine ⟨?_, ?_, ?_, ?_, ?_, ?_⟩ <;> (first | exact c0 | exact c1 | exact c2 | exact m0 | exact m1 | exact x0)) ?_
               clear hK K
               (try go_frame)

               clear ok c0 c1 c2 m0 m1 x0
               refine hd_done (by kernel_rfl) ?_
               simp only [List.drop_succ_cons, List.drop_zero]
               go_wp2_with fail
               go_meet
               exact ⟨rfl, I16.out⟩
             · have hag2 : ((ag : Int) == (W : Int)) = false := by simp; omega
               refine hd_start 16 (fun w' => w'.cell? ⟨bX, 0, none⟩ = some (.int .i64 S) ∧ w'.cell? ⟨bX, 1, none⟩ = some (.int .i64 W) ∧ w'.cell? ⟨bX, 2, none⟩ = some (.int .i64 L) ∧ w'.cell? ⟨bm, 0, none⟩ = some (.slice ma S mc) ∧ w'.cell? ⟨bm, 1, none⟩ = some (.slice na S nc) ∧ w'.cell? ⟨bx, 0, none⟩ = some (.slice ya S yc)) (by kernel_rfl) ⟨by kernel_rfl, by kernel_rfl, by kernel_rfl, by decide⟩ (by refine ⟨c0, c1, c2, m0, m1, x0⟩) (fun ok => ?_)
               refine hd_take_l (i := 0) (v := ?_) ok rfl (by decide) (by kernel_rfl) (by kernel_rfl) (fun _ _ _ h => h) (Or.inl ⟨by kernel_rfl, ?_⟩) ?_
               rotate_left
               · (intro w hSw; (try dsimp only at hSw); (try go_split_ands); go_simp; (try (with_reducible rfl)))
               go_frame
               refine hd_take_l (i := 1) (v := ?_) ok rfl (by decide) (by kernel_rfl) (by kernel_rfl) (fun _ _ _ h => h) (Or.inl ⟨by kernel_rfl, ?_⟩) ?_
               rotate_left
               · (intro w hSw; (try dsimp only at hSw); (try go_split_ands); go_simp; (try (with_reducible rfl)))
               go_frame
               refine hd_take_l (i := 2) (v := ?_) ok rfl (by decide) (by kernel_rfl) (by kernel_rfl) (fun _ _ _ h => h) (Or.inl ⟨by kernel_rfl, ?_⟩) ?_
               rotate_left
               · (intro w hSw; (try dsimp only at hSw); (try go_split_ands); go_simp; (try (with_reducible rfl)))
               go_frame
               refine hd_take_l (i := 4) (v := ?_) ok rfl (by decide) (by kernel_rfl) (by kernel_rfl) (fun _ _ _ h => h) (Or.inl ⟨by kernel_rfl, ?_⟩) ?_
               rotate_left
               · (intro w hSw; (try dsimp only at hSw); (try go_split_ands); go_simp; (try (with_reducible rfl)))
               go_frame
               refine hd_take_l (i := 5) (v := ?_) ok rfl (by decide) (by kernel_rfl) (by kernel_rfl) (fun _ _ _ h => h) (Or.inl ⟨by kernel_rfl, ?_⟩) ?_
               rotate_left
               · (intro w hSw; (try dsimp only at hSw); (try go_split_ands); go_simp; (try (with_reducible rfl)))
               go_frame
               refine hd_only_l (c := 3) rfl (by decide) (by kernel_rfl) (fun K hK => ?_)
               go_simp
               go_at_call 15
               refine (AG.out _ I13.out.cub).mono ?_
               rintro e w14 ⟨rfl, hb14⟩
               have I14 := Lib.hid (I13.out.call hb14)
               clear c0 c1 c2 m0 m1 x0 hb14
               have c0 := I14.out.hX.cell 0 _ rfl; have c1 := I14.out.hX.cell 1 _ rfl; have c2 := I14.out.hX.cell 2 _ rfl; have m0 := I14.out.hm.cell 0 _ rfl; have m1 := I14.out.hm.cell 1 _ rfl; have x0 := I14.out.hx.cell 0 _ rfl
               (try simp only [])
               refine hK _ _ (by refine ⟨?_, ?_, ?_, ?_, ?_, ?_⟩ <;> (first | exact c0 | exact c1 | exact c2 | exact m0 | exact m1 | exact x0)) ?_
               clear hK K
               (try go_frame)
               refine hd_take_l (i := 6) (v := ?_) ok rfl (by decide) (by kernel_rfl) (by kernel_rfl) (fun _ _ _ h => h) (Or.inl ⟨by kernel_rfl, ?_⟩) ?_
               rotate_left
               · (intro w hSw; (try dsimp only at hSw); (try go_split_ands); go_simp; (try (with_reducible rfl)))
               go_frame
               refine hd_take_l (i := 7) (v := ?_) ok rfl (by decide) (by kernel_rfl) (by kernel_rfl) (fun _ _ _ h => h) (Or.inl ⟨by kernel_rfl, ?_⟩) ?_
               rotate_left
               · (intro w hSw; (try dsimp only at hSw); (try go_split_ands); go_simp; (try (with_reducible rfl)))
               go_frame
               refine hd_take_l (i := 8) (v := undef) ok rfl (by decide) (by kernel_rfl) (by kernel_rfl) (fun _ _ _ h => h) (Or.inr ⟨by kernel_rfl, rfl⟩) ?_
               go_frame
               refine hd_take_l (i := 9) (v := undef) ok rfl (by decide) (by kernel_rfl) (by kernel_rfl) (fun _ _ _ h => h) (Or.inr ⟨by kernel_rfl, rfl⟩) ?_
               go_frame
               refine hd_take_l (i := 10) (v := undef) ok rfl (by decide) (by kernel_rfl) (by kernel_rfl) (fun _ _ _ h => h) (Or.inr ⟨by kernel_rfl, rfl⟩) ?_
               go_frame
               refine hd_take_l (i := 11) (v := undef) ok rfl (by decide) (by kernel_rfl) (by kernel_rfl) (fun _ _ _ h => h) (Or.inr ⟨by kernel_rfl, rfl⟩) ?_
               go_frame
               refine hd_take_l (i := 12) (v := undef) ok rfl (by decide) (by kernel_rfl) (by kernel_rfl) (fun _ _ _ h => h) (Or.inr ⟨by kernel_rfl, rfl⟩) ?_
               go_frame
               refine hd_take_l (i := 13) (v := undef) ok rfl (by decide) (by kernel_rfl) (by kernel_rfl) (fun _ _ _ h => h) (Or.inr ⟨by kernel_rfl, rfl⟩) ?_
               go_frame
               refine hd_take_l (i := 14) (v := undef) ok rfl (by decide) (by kernel_rfl) (by kernel_rfl) (fun _ _ _ h => h) (Or.inr ⟨by kernel_rfl, rfl⟩) ?_
               go_frame
               refine hd_take_l (i := 15) (v := undef) ok rfl (by decide) (by kernel_rfl) (by kernel_rfl) (fun _ _ _ h => h) (Or.inr ⟨by kernel_rfl, rfl⟩) ?_
               go_frame
               clear ok c0 c1 c2 m0 m1 x0
               refine hd_done (by kernel_rfl) ?_
               simp only [List.drop_succ_cons, List.drop_zero]
               go_wp2_with fail
               go_meet
               exact ⟨rfl, I14.out⟩
         case rest =>
           obtain ⟨rfl, hI⟩ := hcut
           have I14 := Lib.hid hI
           clear hI c0 c1 c2 m0 m1 x0 I12 I13 AG KH
           go_wp2_with fail
           refine (next_any w.heap.size 4 (by omega) (by omega) _ I14.out.dk).mono ?_
           rintro e w17 ⟨r4, rfl, t0, t1, hd17, hb17⟩
           have I17 := Lib.hid (I14.out.deck hb17.chg hd17)
           clear hd17 hb17 I14
           by_cases hr4 : r4 = 0
           · subst hr4
             have c0 := I17.out.hX.cell 0 _ rfl; have c1 := I17.out.hX.cell 1 _ rfl; have c2 := I17.out.hX.cell 2 _ rfl; have m0 := I17.out.hm.cell 0 _ rfl; have m1 := I17.out.hm.cell 1 _ rfl
             have o17 := I17.out.o4
             go_upto_region 23 with fail
             refine hd_start 6 (fun w' => w'.cell? ⟨bX, 0, none⟩ = some (.int .i64 S) ∧ w'.cell? ⟨bX, 1, none⟩ = some (.int .i64 W) ∧ w'.cell? ⟨bX, 2, none⟩ = some (.int .i64 L) ∧ w'.cell? ⟨bm, 0, none⟩ = some (.slice ma S mc) ∧ w'.cell? ⟨bm, 1, none⟩ = some (.slice na S nc)) (by kernel_rfl) ⟨by kernel_rfl, by kernel_rfl, by kernel_rfl, by decide⟩ (by refine ⟨c0, c1, c2, m0, m1⟩) (fun ok => ?_)
             refine hd_take_l (i := 0) (v := ?_) ok rfl (by decide) (by kernel_rfl) (by kernel_rfl) (fun _ _ _ h => h) (Or.inl ⟨by kernel_rfl, ?_⟩) ?_
             rotate_left
             · (intro w hSw; (try dsimp only at hSw); (try go_split_ands); go_simp; (try (with_reducible rfl)))
             go_frame
             refine hd_take_l (i := 1) (v := ?_) ok rfl (by decide) (by kernel_rfl) (by kernel_rfl) (fun _ _ _ h => h) (Or.inl ⟨by kernel_rfl, ?_⟩) ?_
             rotate_left
             · (intro w hSw; (try dsimp only at hSw); (try go_split_ands); go_simp; (try (with_reducible rfl)))
             go_frame
             refine hd_take_l (i := 2) (v := ?_) ok rfl (by decide) (by kernel_rfl) (by kernel_rfl) (fun _ _ _ h => h) (Or.inl ⟨by kernel_rfl, ?_⟩) ?_
             rotate_left
             · (intro w hSw; (try dsimp only at hSw); (try go_split_ands); go_simp; (try (with_reducible rfl)))
             go_frame
             refine hd_take_l (i := 3) (v := ?_) ok rfl (by decide) (by kernel_rfl) (by kernel_rfl) (fun _ _ _ h => h) (Or.inl ⟨by kernel_rfl, ?_⟩) ?_
             rotate_left
             · (intro w hSw; (try dsimp only at hSw); (try go_split_ands); go_simp; (try (with_reducible rfl)))
             go_frame
             refine hd_only_l (c := 4) rfl (by decide) (by kernel_rfl) (fun K hK => ?_)
             go_simp
             go_at_call 11
             refine (m2may_any S W L hC.out (by omega) (by omega) w.heap.size _ (Deck.k_drew I17.out.dk)).mono ?_
             rintro e w18 ⟨V, ta, tc, pa, pc, f18, g18, q, r, rfl, ho18, hm18, hV18, hd18, hc18⟩
             have I18 := Lib.hid ((I17.out.call (Below.refl _ _).drew).deck hc18 hd18)
             have HQ := Lib.hid hm18
             have O18 := Lib.hid (ho18.ycub (K := fun _ => True) (fun _ _ _ => trivial))
             obtain ⟨U2, hU2⟩ : ∃ U2, U2 = U ++ V := ⟨_, rfl⟩
             have HU2 := Lib.hid (show U2.length ≤ 1000 by rw [hU2, List.length_append]; have := HUK.out; omega)
             have HUK2 := Lib.hid (show U2.length ≤ 100 + 50 * (k + 1) by rw [hU2, List.length_append]; have := HUK.out; omega)
             have HB2 := Lib.hid (show ∀ x ∈ Base, x ∈ U2 from fun x hx => hU2 ▸ List.mem_append_left _ (HB.out x hx))
             have SM := Lib.hid (show YSt U2 S W m o from hU2 ▸ I18.out.st.unionL)
             have SQ := Lib.hid (show YSt U2 S W q r from hU2 ▸ HQ.out.union')
             clear hU2
             clear c0 c1 c2 m0 m1 ho18 hm18 hd18 hc18
             have c0 := I18.out.hX.cell 0 _ rfl; have c1 := I18.out.hX.cell 1 _ rfl; have c2 := I18.out.hX.cell 2 _ rfl; have m0 := I18.out.hm.cell 0 _ rfl; have m1 := I18.out.hm.cell 1 _ rfl
             (try simp only [])
             refine hK _ _ (by refine ⟨?_, ?_, ?_, ?_, ?_⟩ <;> (first | exact c0 | exact c1 | exact c2 | exact m0 | exact m1)) ?_
             clear hK K
             (try go_frame)

             have ST := Lib.hid (yjoin_st SM.out SQ.out)
             have BJ := Lib.hid (BelowY.trans ((of_yst I18.out.vs).unionL (V := U2)) (SM.out.union' (U := ss'.flatten)) (ST.out.union' (U := ss'.flatten)) BU.out (below_yjoin SM.out SQ.out).1)
             refine hd_only_l (c := 5) rfl (by decide) (by kernel_rfl) (fun K hK => ?_)
             go_simp
             go_at_call 19
             refine (yjoin_any U2 HU2.out S W L hC.out m q o r SM.out SQ.out (K3 w.heap.size bx bm) (fun _ => True) ma S mc na S nc ta S tc pa S pc w18 I18.out.cub O18.out).mono ?_
             rintro e w19 h19
             obtain ⟨ja, jc, ia, ic, f19, g19, rfl, ho19, hb19⟩ := YRet.fix h19 joinYm_len joinYo_len
             have I19 := Lib.hid (I18.out.call hb19)
             have o18 := I18.out.o4
             have O19 := Lib.hid (ho19.k3 (d := w.heap.size) (bx := bx) (bm := bm) (by omega) (by omega) (by omega))
             clear c0 c1 c2 m0 m1 h19 ho19 hb19
             have c0 := I19.out.hX.cell 0 _ rfl; have c1 := I19.out.hX.cell 1 _ rfl; have c2 := I19.out.hX.cell 2 _ rfl; have m0 := I19.out.hm.cell 0 _ rfl; have m1 := I19.out.hm.cell 1 _ rfl
             (try simp only [])
             refine hK _ _ (by refine ⟨?_, ?_, ?_, ?_, ?_⟩ <;> (first | exact c0 | exact c1 | exact c2 | exact m0 | exact m1)) ?_
             clear hK K
             (try go_frame)

             have mf := I19.out.hm.free; have ml := I19.out.hm.lt (by simp)
             clear ok c0 c1 c2
             refine hd_done (by kernel_rfl) ?_
             simp only [List.drop_succ_cons, List.drop_zero]
             go_wp2
             go_roundw
             case rel => exact ⟨k + 1, _, _, _, _, _, _, _, _, _, _, by omega, HUK2.out, HB2.out, by go_num, I19.out.setm O19.out ST.out, BJ.out⟩
             case measure => simp [intOf]; omega
           · have hr4' : (r4 == 0) = false := by simpa using hr4
             go_wp2
             go_roundw
             case rel => exact ⟨k + 1, _, _, _, _, _, _, _, _, _, _, by omega, by have := HUK.out; omega, HB.out, by go_num, I17.out, BU.out⟩
             case measure => simp [intOf]; omega
     · obtain rfl : k = 12 := by omega
       go_wp2_with fail
       refine (awake_any _).mono ?_
       rintro e w20 ⟨rfl, hb20⟩
       go_wp2
       go_ret
       exact ⟨rfl, Chg.below (M := Ge w.heap.size) (I0.out.chg.tr hb20) (fun j hj h => by unfold Ge at h; omega) (Nat.le_refl _)⟩
end Go.Proofs.Ytlpelpjcbclemaa
