/-
  The document's step at instructions of the kinds 7. (printed by mkSt.py)
-/
import Derived.Test.YtonbmijhbbodnaaZStB
namespace Go.Proofs.Ytonbmijhbbodnaa
open Go.RowKit

set_option maxRecDepth 100000 in
set_option maxHeartbeats 16000000 in
theorem rstep_k7 (Kb : Nat → Prop) (ca : Option Addr) (cn cc : Nat) (ua : Option Addr) (un uc : Nat) (code : List Ins) (B q g1 c1 g2 c2 g3 c3 dn : Nat) (regs data : List Int) (held : List Bool) (en : Bool) (xa xb xc xo xi : Int) (pc : Nat) (w : World)
    (rc : InsL Kb w ca cn cc code) (hcn : cn ≤ 1024) (hx : code[pc]? = some ⟨7, xa, xb, xc, xo, xi⟩) (hch : chkI ⟨7, xa, xb, xc, xo, xi⟩ = 0)
    (hq : Has w q (CoCells (some ⟨g1, 0, none⟩) 8 c1 (some ⟨g2, 0, none⟩) dn c2 (some ⟨g3, 0, none⟩) 4 c3 pc en)) (ho : CoOwn B w g1 c1 g2 c2 g3 c3 8 dn 4 regs data held)
    (hqg : q ≠ g1 ∧ q ≠ g2 ∧ q ≠ g3) (_hd : dn ≤ 1024) (hwr : wds regs = true) (hwd : wds data = true) :
    Calls Try.prog 40 #[MV ca cn cc dn ua un uc, .pointer (some ⟨q, 0, none⟩)] w (StepRet ⟨7, xa, xb, xc, xo, xi⟩ cn dn B q g1 c1 g2 c2 g3 c3 ⟨regs, data, held, pc, en⟩ w) := by
  have hpl : pc < cn := by have := (List.getElem?_eq_some_iff.1 hx).1; have := rc.hlen; omega
  obtain ⟨b, o, x', rfl, hx', hxi, hKb, lb, a0, a1, a2, a3, a4, a5⟩ := InsL.get rc hpl
  rw [hx] at hx'
  cases hx'
  have SM := small_of hch
  have IM := imm_of hch
  have OM := Lib.hid (op_of hch)
  have ha0 := SM.a0; have ha1 := SM.a1; have hb0 := SM.b0; have hb1 := SM.b1; have hc0 := SM.c0; have hc1 := SM.c1; have hi0 := IM.1; have hi1 := IM.2
  simp only [fldOf] at hi0 hi1
  simp at ha0 ha1 hb0 hb1 hc0 hc1 hi0 hi1
  obtain ⟨A, rfl⟩ := Int.eq_ofNat_of_zero_le ha0
  obtain ⟨Bq, rfl⟩ := Int.eq_ofNat_of_zero_le hb0
  obtain ⟨C, rfl⟩ := Int.eq_ofNat_of_zero_le hc0
  have hA8 : A < 8 := by omega
  have hB8 : Bq < 8 := by omega
  have hC8 : C < 8 := by omega
  have hq0 := hq.lt (by simp)
  have hg1 : g1 < w.heap.size := (ho.regs.lt g1 rfl).2
  have hg2 : g2 < w.heap.size := (ho.data.lt g2 rfl).2
  have hg3 : g3 < w.heap.size := (ho.held.lt g3 rfl).2
  have F0 := Lib.hid (Fm.new (Fm.new (Fm.start (CoMod q g1 g2 g3) w) rfl (MCells (some ⟨b, o, none⟩) cn cc dn ua un uc) 31) (by simp) (EvCells ev0) 39)
  have HQ := Lib.hid hq; have HO := Lib.hid ho; have HX := Lib.hid hx; have HG := Lib.hid hqg; have HWR := Lib.hid hwr; have HWD := Lib.hid hwd
  have hch' := hch
  clear rc hq ho hx hqg hwr hwd SM IM hch hch' ha0 hb0 hc0
  go_enter Try.func40, Try.ntmps40
  go_upto_region 1 with fail
  obtain ⟨w1, hw1⟩ : ∃ w1, w1 = (w.alloc (.cells #[.slice (some ⟨b, o, none⟩) cn cc, .int .i64 dn, NIL, .slice ua un uc] 31)).alloc (.cells #[.int .i64 0, .int .i64 0, .bool false] 39) := ⟨_, rfl⟩
  rw [← hw1]
  have B1 : Below w.heap.size w w1 := by rw [hw1]; exact ((Below.refl _ _).alloc (Nat.le_refl _) _).alloc (by simp) _
  have F1 := Lib.hid (show Fm (CoMod q g1 g2 g3) w w1 [MCells (some ⟨b, o, none⟩) cn cc dn ua un uc, EvCells ev0] by rw [hw1]; exact F0.out)
  have S1 : w1.heap.size = w.heap.size + 2 := by rw [hw1]; simp
  have Q1 := Lib.hid (HQ.out.below B1 hq0)
  have O1 := Lib.hid (HO.out.below B1)
  have b0 := (B1.cell (p := ⟨b, o + pc * 6, none⟩) lb).trans a0
  have b1 := (B1.cell (p := ⟨b, o + pc * 6 + 1, none⟩) lb).trans a1
  have b2 := (B1.cell (p := ⟨b, o + pc * 6 + 2, none⟩) lb).trans a2
  have b3 := (B1.cell (p := ⟨b, o + pc * 6 + 3, none⟩) lb).trans a3
  have b4 := (B1.cell (p := ⟨b, o + pc * 6 + 4, none⟩) lb).trans a4
  have b5 := (B1.cell (p := ⟨b, o + pc * 6 + 5, none⟩) lb).trans a5
  have m0 := F1.out.h0.cell 0 _ rfl
  have x3 := Q1.out.cell 3 _ rfl
  have lw1 : w.heap.size < w1.heap.size := by omega
  have lq1 : q < w1.heap.size := by omega
  have lb1 : b < w1.heap.size := by omega
  have SZ := Lib.hid S1
  have BB := Lib.hid B1
  clear hw1 F0 a0 a1 a2 a3 a4 a5 S1 B1
  have hpl' : (pc : Int) < (cn : Int) := by omega
  go_wp2
  go_region_held3 (fun w' => w'.cell? ⟨w.heap.size, 0, none⟩ = some (.slice (some ⟨b, o, none⟩) cn cc) ∧ w'.cell? ⟨q, 3, none⟩ = some (.int .i64 (pc : Int)) ∧ w'.cell? ⟨b, o + pc * 6, none⟩ = some (.int .i64 7) ∧ w'.cell? ⟨b, o + pc * 6 + 1, none⟩ = some (.int .i64 (A : Int)) ∧ w'.cell? ⟨b, o + pc * 6 + 2, none⟩ = some (.int .i64 (Bq : Int)) ∧ w'.cell? ⟨b, o + pc * 6 + 3, none⟩ = some (.int .i64 (C : Int)) ∧ w'.cell? ⟨b, o + pc * 6 + 4, none⟩ = some (.int .i64 xo) ∧ w'.cell? ⟨b, o + pc * 6 + 5, none⟩ = some (.int .i64 xi))
    (((try dsimp only); (try go_split_ands); (repeat' apply And.intro); all_goals (repeat (first | with_reducible assumption | (with_reducible refine cell_set (by omega) ?_) | (with_reducible refine cell_alloc (by omega) ?_) | (with_reducible refine cell_drew ?_))))) (fail)
  obtain ⟨w2, hw2⟩ : ∃ w2, w2 = (w1.alloc (.cells #[.int .i64 7, .int .i64 A, .int .i64 Bq, .int .i64 C, .int .i64 xo, .int .i64 xi] 50)).drew := ⟨_, rfl⟩
  rw [← hw2]
  have F2 := Lib.hid (show Fm (CoMod q g1 g2 g3) w w2 [MCells (some ⟨b, o, none⟩) cn cc dn ua un uc, EvCells ev0] by rw [hw2]; exact (F1.out.more _).drew)
  have X2 := Lib.hid (show Has w2 w1.heap.size (ICells ⟨7, A, Bq, C, xo, xi⟩) by rw [hw2]; exact (Has.new w1 (ICells ⟨7, A, Bq, C, xo, xi⟩) 50).drew)
  have S2 := Lib.hid (show w2.heap.size = w1.heap.size + 1 by rw [hw2]; simp)
  have Q2 := Lib.hid (show Has w2 q (CoCells (some ⟨g1, 0, none⟩) 8 c1 (some ⟨g2, 0, none⟩) dn c2 (some ⟨g3, 0, none⟩) 4 c3 pc en) by rw [hw2]; exact (Q1.out.old (by omega)).drew)
  have O2 := Lib.hid (show CoOwn B w2 g1 c1 g2 c2 g3 c3 8 dn 4 regs data held by rw [hw2]; exact (O1.out.below ((Below.refl _ _).alloc (Nat.le_refl _) _)).drew)
  clear hw2 b0 b1 b2 b3 b4 b5 m0 x3
  have x3 := Q2.out.cell 3 _ rfl
  have lq2 := Q2.out.lt (by simp)
  have y0 := X2.out.cell 0 _ rfl
  have ly := X2.out.lt (by simp)
  go_upto_block 0 with fail
  obtain ⟨w3, hw3⟩ : ∃ w3, w3 = w2.alloc (.cells #[.int .i64 (pc : Int), .int .i64 (-1), .bool false] 39) := ⟨_, rfl⟩
  rw [← hw3]
  have W3 := Lib.hid (show SW w (MCells (some ⟨b, o, none⟩) cn cc dn ua un uc) B q g1 c1 g2 c2 g3 c3 dn w1.heap.size w2.heap.size ⟨7, A, Bq, C, xo, xi⟩ ⟨pc, -1, false⟩ ⟨regs, data, held, pc, en⟩ w3 by
    have z1 := SZ.out; have z2 := S2.out
    rw [hw3]
    exact ⟨F2.out.more _, X2.out.old ly, Has.new w2 (EvCells ⟨pc, -1, false⟩) 39, Q2.out.old lq2, O2.out.below ((Below.refl _ _).alloc (Nat.le_refl _) _), ⟨hq0, hg1, hg2, hg3⟩, HG.out, by omega, by omega⟩)
  have z1 : w.heap.size + 2 ≤ w1.heap.size ∧ w1.heap.size < w2.heap.size := by have z1 := SZ.out; have z2 := S2.out; omega
  generalize w1.heap.size = wi at W3 z1 ⊢
  generalize w2.heap.size = wv at W3 z1 ⊢
  obtain ⟨z1, z2⟩ := z1
  clear hw3 x3 lq2 y0 ly lw1 lq1 lb1 F1 Q1 O1 SZ BB F2 X2 S2 Q2 O2 HQ HO HX hi1 hi0 lb hKb hxi HG
  have HGG := Lib.hid W3.out.ne
  have dq1 : q ≠ g1 := HGG.out.1
  have dq2 : q ≠ g2 := HGG.out.2.1
  have dq3 : q ≠ g3 := HGG.out.2.2
  have dg1 : g1 < g2 := W3.out.own.lt1
  have dg2 : g2 < g3 := W3.out.own.lt2
  obtain ⟨z, hz, hr, cz, fz⟩ := W3.out.reg (i := A) hA8
  have hA8' : (A : Int) < 8 := by omega
  have HR := Lib.hid hr
  clear hz hr
  by_cases hz0 : z = 0
  · have HE := Lib.hid (show evP ⟨7, A, Bq, C, xo, xi⟩ dn ⟨regs, data, held, pc, en⟩ = .inr (⟨pc, -1, true⟩, xi) by unfold evP; dsimp only; rw [if_neg (by omega), if_neg (by omega), if_neg (by omega), if_pos rfl, show rAt regs (A : Int) = z from HR.out, if_pos hz0])
    subst hz0
    clear HR
    have y0 := W3.out.ins.cell 0 _ rfl; have y1 := W3.out.ins.cell 1 _ rfl; have y2 := W3.out.ins.cell 2 _ rfl; have y3 := W3.out.ins.cell 3 _ rfl; have y4 := W3.out.ins.cell 4 _ rfl; have y5 := W3.out.ins.cell 5 _ rfl
    have x0 := W3.out.core.cell 0 _ rfl; have x1 := W3.out.core.cell 1 _ rfl; have x2 := W3.out.core.cell 2 _ rfl; have x3 := W3.out.core.cell 3 _ rfl; have x4 := W3.out.core.cell 4 _ rfl; have xf := W3.out.core.free
    have v0 := W3.out.ev.cell 0 _ rfl; have v1 := W3.out.ev.cell 1 _ rfl; have v2 := W3.out.ev.cell 2 _ rfl; have vf := W3.out.ev.free
    have m0 := W3.out.fm.h0.cell 0 _ rfl; have m1 := W3.out.fm.h0.cell 1 _ rfl
    have r0 := W3.out.fm.h1.cell 0 _ rfl; have r1 := W3.out.fm.h1.cell 1 _ rfl; have r2 := W3.out.fm.h1.cell 2 _ rfl; have rf := W3.out.fm.h1.free
    go_wp2
    go_quiet (fail)
    obtain ⟨w4, hw4⟩ : ∃ w4, w4 = w3.drewN nq := ⟨_, rfl⟩
    rw [← hw4]
    have S4 := Lib.hid (show SW w (MCells (some ⟨b, o, none⟩) cn cc dn ua un uc) B q g1 c1 g2 c2 g3 c3 dn wi wv ⟨7, A, Bq, C, xo, xi⟩ ⟨pc, -1, false⟩ ⟨regs, data, held, pc, en⟩ w4 by rw [hw4]; exact W3.out.drewN nq)
    clear hw4 y0 y1 y2 y3 y4 y5 x0 x1 x2 x3 x4 xf v0 v1 v2 vf m0 m1 r0 r1 r2 rf cz fz
    have y0 := S4.out.ins.cell 0 _ rfl; have y1 := S4.out.ins.cell 1 _ rfl; have y2 := S4.out.ins.cell 2 _ rfl; have y3 := S4.out.ins.cell 3 _ rfl; have y4 := S4.out.ins.cell 4 _ rfl; have y5 := S4.out.ins.cell 5 _ rfl
    have x0 := S4.out.core.cell 0 _ rfl; have x1 := S4.out.core.cell 1 _ rfl; have x2 := S4.out.core.cell 2 _ rfl; have x3 := S4.out.core.cell 3 _ rfl; have x4 := S4.out.core.cell 4 _ rfl; have xf := S4.out.core.free
    have v0 := S4.out.ev.cell 0 _ rfl; have v1 := S4.out.ev.cell 1 _ rfl; have v2 := S4.out.ev.cell 2 _ rfl; have vf := S4.out.ev.free
    have m0 := S4.out.fm.h0.cell 0 _ rfl; have m1 := S4.out.fm.h0.cell 1 _ rfl
    have r0 := S4.out.fm.h1.cell 0 _ rfl; have r1 := S4.out.fm.h1.cell 1 _ rfl; have r2 := S4.out.fm.h1.cell 2 _ rfl; have rf := S4.out.fm.h1.free
    go_wp2
    go_region_held3 (fun w' => w'.cell? ⟨wi, 5, none⟩ = some (.int .i64 xi))
      (((try dsimp only); (try go_split_ands); (repeat' apply And.intro); all_goals (repeat (first | with_reducible assumption | (with_reducible refine cell_set (by omega) ?_) | (with_reducible refine cell_alloc (by omega) ?_) | (with_reducible refine cell_drew ?_))))) (fail)
    obtain ⟨w4j, hw4j⟩ : ∃ w4j, w4j = (w4.setCell ⟨wv, 2, none⟩ (.bool true)).drew := ⟨_, rfl⟩
    rw [← hw4j]
    have T4 := Lib.hid (show SW w (MCells (some ⟨b, o, none⟩) cn cc dn ua un uc) B q g1 c1 g2 c2 g3 c3 dn wi wv ⟨7, A, Bq, C, xo, xi⟩ ⟨pc, -1, true⟩ ⟨regs, data, held, pc, en⟩ w4j by rw [hw4j]; exact (S4.out.setJump true).drew)
    clear hw4j y0 y1 y2 y3 y4 y5 x0 x1 x2 x3 x4 xf v0 v1 v2 vf m0 m1 r0 r1 r2 rf 
    by_cases hn : (cn : Int) ≤ xi
    · have y0 := T4.out.ins.cell 0 _ rfl; have y1 := T4.out.ins.cell 1 _ rfl; have y2 := T4.out.ins.cell 2 _ rfl; have y3 := T4.out.ins.cell 3 _ rfl; have y4 := T4.out.ins.cell 4 _ rfl; have y5 := T4.out.ins.cell 5 _ rfl
      have x0 := T4.out.core.cell 0 _ rfl; have x1 := T4.out.core.cell 1 _ rfl; have x2 := T4.out.core.cell 2 _ rfl; have x3 := T4.out.core.cell 3 _ rfl; have x4 := T4.out.core.cell 4 _ rfl; have xf := T4.out.core.free
      have v0 := T4.out.ev.cell 0 _ rfl; have v1 := T4.out.ev.cell 1 _ rfl; have v2 := T4.out.ev.cell 2 _ rfl; have vf := T4.out.ev.free
      have m0 := T4.out.fm.h0.cell 0 _ rfl; have m1 := T4.out.fm.h0.cell 1 _ rfl
      have r0 := T4.out.fm.h1.cell 0 _ rfl; have r1 := T4.out.fm.h1.cell 1 _ rfl; have r2 := T4.out.fm.h1.cell 2 _ rfl; have rf := T4.out.fm.h1.free
      go_wp2
      refine bodyPost_ret (v := .tuple #[EvV ev0, .int .i64 12]) (by simp [results, Try.results40, go_sem, r0, r1, r2]) rfl (step_err (by unfold stepP; rw [HE.out]; exact if_pos hn) rfl ?_)
      exact (((T4.se.res 0 (.int .i64 0)).res 1 (.int .i64 0)).res 2 (.bool false)).chg
    · have y0 := T4.out.ins.cell 0 _ rfl; have y1 := T4.out.ins.cell 1 _ rfl; have y2 := T4.out.ins.cell 2 _ rfl; have y3 := T4.out.ins.cell 3 _ rfl; have y4 := T4.out.ins.cell 4 _ rfl; have y5 := T4.out.ins.cell 5 _ rfl
      have x0 := T4.out.core.cell 0 _ rfl; have x1 := T4.out.core.cell 1 _ rfl; have x2 := T4.out.core.cell 2 _ rfl; have x3 := T4.out.core.cell 3 _ rfl; have x4 := T4.out.core.cell 4 _ rfl; have xf := T4.out.core.free
      have v0 := T4.out.ev.cell 0 _ rfl; have v1 := T4.out.ev.cell 1 _ rfl; have v2 := T4.out.ev.cell 2 _ rfl; have vf := T4.out.ev.free
      have m0 := T4.out.fm.h0.cell 0 _ rfl; have m1 := T4.out.fm.h0.cell 1 _ rfl
      have r0 := T4.out.fm.h1.cell 0 _ rfl; have r1 := T4.out.fm.h1.cell 1 _ rfl; have r2 := T4.out.fm.h1.cell 2 _ rfl; have rf := T4.out.fm.h1.free
      have HN := Lib.hid hn
      go_upto_region 24 with fail
      obtain ⟨w5, hw5⟩ : ∃ w5, w5 = w4j.setCell ⟨q, 3, none⟩ (.int .i64 (xi)) := ⟨_, rfl⟩
      rw [← hw5]
      have S5 := Lib.hid (show SW w (MCells (some ⟨b, o, none⟩) cn cc dn ua un uc) B q g1 c1 g2 c2 g3 c3 dn wi wv ⟨7, A, Bq, C, xo, xi⟩ ⟨pc, -1, true⟩ ⟨regs, data, held, xi, en⟩ w5 by rw [hw5]; exact T4.out.setPC (xi))
      clear hw5 y0 y1 y2 y3 y4 y5 x0 x1 x2 x3 x4 xf v0 v1 v2 vf m0 m1 r0 r1 r2 rf 
      have y0 := S5.out.ins.cell 0 _ rfl; have y1 := S5.out.ins.cell 1 _ rfl; have y2 := S5.out.ins.cell 2 _ rfl; have y3 := S5.out.ins.cell 3 _ rfl; have y4 := S5.out.ins.cell 4 _ rfl; have y5 := S5.out.ins.cell 5 _ rfl
      have x0 := S5.out.core.cell 0 _ rfl; have x1 := S5.out.core.cell 1 _ rfl; have x2 := S5.out.core.cell 2 _ rfl; have x3 := S5.out.core.cell 3 _ rfl; have x4 := S5.out.core.cell 4 _ rfl; have xf := S5.out.core.free
      have v0 := S5.out.ev.cell 0 _ rfl; have v1 := S5.out.ev.cell 1 _ rfl; have v2 := S5.out.ev.cell 2 _ rfl; have vf := S5.out.ev.free
      have m0 := S5.out.fm.h0.cell 0 _ rfl; have m1 := S5.out.fm.h0.cell 1 _ rfl
      have r0 := S5.out.fm.h1.cell 0 _ rfl; have r1 := S5.out.fm.h1.cell 1 _ rfl; have r2 := S5.out.fm.h1.cell 2 _ rfl; have rf := S5.out.fm.h1.free
      obtain ⟨za, _, _, cza, fza⟩ := S5.out.reg (i := 0) (by omega)
      go_upto_region 42 with fail
      obtain ⟨w7, hw7⟩ : ∃ w7, w7 = w5.setCell ⟨g1, 0, none⟩ (.int .i64 0) := ⟨_, rfl⟩
      rw [← hw7]
      have S7 := Lib.hid (show SW w (MCells (some ⟨b, o, none⟩) cn cc dn ua un uc) B q g1 c1 g2 c2 g3 c3 dn wi wv ⟨7, A, Bq, C, xo, xi⟩ ⟨pc, -1, true⟩ ⟨regs.set 0 0, data, held, xi, en⟩ w7 by rw [hw7]; exact S5.out.setR 0 0)
      clear hw7 y0 y1 y2 y3 y4 y5 x0 x1 x2 x3 x4 xf v0 v1 v2 vf m0 m1 r0 r1 r2 rf cza fza
      have y0 := S7.out.ins.cell 0 _ rfl; have y1 := S7.out.ins.cell 1 _ rfl; have y2 := S7.out.ins.cell 2 _ rfl; have y3 := S7.out.ins.cell 3 _ rfl; have y4 := S7.out.ins.cell 4 _ rfl; have y5 := S7.out.ins.cell 5 _ rfl
      have x0 := S7.out.core.cell 0 _ rfl; have x1 := S7.out.core.cell 1 _ rfl; have x2 := S7.out.core.cell 2 _ rfl; have x3 := S7.out.core.cell 3 _ rfl; have x4 := S7.out.core.cell 4 _ rfl; have xf := S7.out.core.free
      have v0 := S7.out.ev.cell 0 _ rfl; have v1 := S7.out.ev.cell 1 _ rfl; have v2 := S7.out.ev.cell 2 _ rfl; have vf := S7.out.ev.free
      have m0 := S7.out.fm.h0.cell 0 _ rfl; have m1 := S7.out.fm.h0.cell 1 _ rfl
      have r0 := S7.out.fm.h1.cell 0 _ rfl; have r1 := S7.out.fm.h1.cell 1 _ rfl; have r2 := S7.out.fm.h1.cell 2 _ rfl; have rf := S7.out.fm.h1.free
      go_wp2
      refine bodyPost_ret (v := .tuple #[EvV ⟨pc, -1, true⟩, .int .i64 0]) (by simp [results, Try.results40, go_sem, r0, r1, r2]) rfl (step_ok (show stepP ⟨7, A, Bq, C, xo, xi⟩ cn dn ⟨regs, data, held, pc, en⟩ = .inr (⟨pc, -1, true⟩, ⟨regs.set 0 0, data, held, xi, en⟩) by unfold stepP; rw [HE.out]; dsimp only; rw [if_neg (by have := HN.out; omega)]; simp [effR, effD, effH]) rfl ?_)
      exact ((((S7.out).se.res 0 (Value.int .i64 (pc : Int))).res 1 (Value.int .i64 (-1))).res 2 (Value.bool true))
  · have HE := Lib.hid (show evP ⟨7, A, Bq, C, xo, xi⟩ dn ⟨regs, data, held, pc, en⟩ = .inr (⟨pc, -1, false⟩, (pc : Int) + 1) by unfold evP; dsimp only; rw [if_neg (by omega), if_neg (by omega), if_neg (by omega), if_pos rfl, show rAt regs (A : Int) = z from HR.out, if_neg hz0])
    have hz1 : (z == 0) = false := by simpa using hz0
    clear HR hz0
    have y0 := W3.out.ins.cell 0 _ rfl; have y1 := W3.out.ins.cell 1 _ rfl; have y2 := W3.out.ins.cell 2 _ rfl; have y3 := W3.out.ins.cell 3 _ rfl; have y4 := W3.out.ins.cell 4 _ rfl; have y5 := W3.out.ins.cell 5 _ rfl
    have x0 := W3.out.core.cell 0 _ rfl; have x1 := W3.out.core.cell 1 _ rfl; have x2 := W3.out.core.cell 2 _ rfl; have x3 := W3.out.core.cell 3 _ rfl; have x4 := W3.out.core.cell 4 _ rfl; have xf := W3.out.core.free
    have v0 := W3.out.ev.cell 0 _ rfl; have v1 := W3.out.ev.cell 1 _ rfl; have v2 := W3.out.ev.cell 2 _ rfl; have vf := W3.out.ev.free
    have m0 := W3.out.fm.h0.cell 0 _ rfl; have m1 := W3.out.fm.h0.cell 1 _ rfl
    have r0 := W3.out.fm.h1.cell 0 _ rfl; have r1 := W3.out.fm.h1.cell 1 _ rfl; have r2 := W3.out.fm.h1.cell 2 _ rfl; have rf := W3.out.fm.h1.free
    go_wp2
    go_quiet (fail)
    obtain ⟨w4, hw4⟩ : ∃ w4, w4 = w3.drewN nq := ⟨_, rfl⟩
    rw [← hw4]
    have S4 := Lib.hid (show SW w (MCells (some ⟨b, o, none⟩) cn cc dn ua un uc) B q g1 c1 g2 c2 g3 c3 dn wi wv ⟨7, A, Bq, C, xo, xi⟩ ⟨pc, -1, false⟩ ⟨regs, data, held, pc, en⟩ w4 by rw [hw4]; exact W3.out.drewN nq)
    clear hw4 y0 y1 y2 y3 y4 y5 x0 x1 x2 x3 x4 xf v0 v1 v2 vf m0 m1 r0 r1 r2 rf cz fz hz1
    by_cases hn : (cn : Int) ≤ (pc : Int) + 1
    · have y0 := S4.out.ins.cell 0 _ rfl; have y1 := S4.out.ins.cell 1 _ rfl; have y2 := S4.out.ins.cell 2 _ rfl; have y3 := S4.out.ins.cell 3 _ rfl; have y4 := S4.out.ins.cell 4 _ rfl; have y5 := S4.out.ins.cell 5 _ rfl
      have x0 := S4.out.core.cell 0 _ rfl; have x1 := S4.out.core.cell 1 _ rfl; have x2 := S4.out.core.cell 2 _ rfl; have x3 := S4.out.core.cell 3 _ rfl; have x4 := S4.out.core.cell 4 _ rfl; have xf := S4.out.core.free
      have v0 := S4.out.ev.cell 0 _ rfl; have v1 := S4.out.ev.cell 1 _ rfl; have v2 := S4.out.ev.cell 2 _ rfl; have vf := S4.out.ev.free
      have m0 := S4.out.fm.h0.cell 0 _ rfl; have m1 := S4.out.fm.h0.cell 1 _ rfl
      have r0 := S4.out.fm.h1.cell 0 _ rfl; have r1 := S4.out.fm.h1.cell 1 _ rfl; have r2 := S4.out.fm.h1.cell 2 _ rfl; have rf := S4.out.fm.h1.free
      go_wp2
      refine bodyPost_ret (v := .tuple #[EvV ev0, .int .i64 12]) (by simp [results, Try.results40, go_sem, r0, r1, r2]) rfl (step_err (by unfold stepP; rw [HE.out]; exact if_pos hn) rfl ?_)
      exact (((S4.se.res 0 (.int .i64 0)).res 1 (.int .i64 0)).res 2 (.bool false)).chg
    · have y0 := S4.out.ins.cell 0 _ rfl; have y1 := S4.out.ins.cell 1 _ rfl; have y2 := S4.out.ins.cell 2 _ rfl; have y3 := S4.out.ins.cell 3 _ rfl; have y4 := S4.out.ins.cell 4 _ rfl; have y5 := S4.out.ins.cell 5 _ rfl
      have x0 := S4.out.core.cell 0 _ rfl; have x1 := S4.out.core.cell 1 _ rfl; have x2 := S4.out.core.cell 2 _ rfl; have x3 := S4.out.core.cell 3 _ rfl; have x4 := S4.out.core.cell 4 _ rfl; have xf := S4.out.core.free
      have v0 := S4.out.ev.cell 0 _ rfl; have v1 := S4.out.ev.cell 1 _ rfl; have v2 := S4.out.ev.cell 2 _ rfl; have vf := S4.out.ev.free
      have m0 := S4.out.fm.h0.cell 0 _ rfl; have m1 := S4.out.fm.h0.cell 1 _ rfl
      have r0 := S4.out.fm.h1.cell 0 _ rfl; have r1 := S4.out.fm.h1.cell 1 _ rfl; have r2 := S4.out.fm.h1.cell 2 _ rfl; have rf := S4.out.fm.h1.free
      have HN := Lib.hid hn
      go_upto_region 24 with fail
      obtain ⟨w5, hw5⟩ : ∃ w5, w5 = w4.setCell ⟨q, 3, none⟩ (.int .i64 ((pc : Int) + 1)) := ⟨_, rfl⟩
      rw [← hw5]
      have S5 := Lib.hid (show SW w (MCells (some ⟨b, o, none⟩) cn cc dn ua un uc) B q g1 c1 g2 c2 g3 c3 dn wi wv ⟨7, A, Bq, C, xo, xi⟩ ⟨pc, -1, false⟩ ⟨regs, data, held, (pc : Int) + 1, en⟩ w5 by rw [hw5]; exact S4.out.setPC ((pc : Int) + 1))
      clear hw5 y0 y1 y2 y3 y4 y5 x0 x1 x2 x3 x4 xf v0 v1 v2 vf m0 m1 r0 r1 r2 rf 
      have y0 := S5.out.ins.cell 0 _ rfl; have y1 := S5.out.ins.cell 1 _ rfl; have y2 := S5.out.ins.cell 2 _ rfl; have y3 := S5.out.ins.cell 3 _ rfl; have y4 := S5.out.ins.cell 4 _ rfl; have y5 := S5.out.ins.cell 5 _ rfl
      have x0 := S5.out.core.cell 0 _ rfl; have x1 := S5.out.core.cell 1 _ rfl; have x2 := S5.out.core.cell 2 _ rfl; have x3 := S5.out.core.cell 3 _ rfl; have x4 := S5.out.core.cell 4 _ rfl; have xf := S5.out.core.free
      have v0 := S5.out.ev.cell 0 _ rfl; have v1 := S5.out.ev.cell 1 _ rfl; have v2 := S5.out.ev.cell 2 _ rfl; have vf := S5.out.ev.free
      have m0 := S5.out.fm.h0.cell 0 _ rfl; have m1 := S5.out.fm.h0.cell 1 _ rfl
      have r0 := S5.out.fm.h1.cell 0 _ rfl; have r1 := S5.out.fm.h1.cell 1 _ rfl; have r2 := S5.out.fm.h1.cell 2 _ rfl; have rf := S5.out.fm.h1.free
      obtain ⟨za, _, _, cza, fza⟩ := S5.out.reg (i := 0) (by omega)
      go_upto_region 42 with fail
      obtain ⟨w7, hw7⟩ : ∃ w7, w7 = w5.setCell ⟨g1, 0, none⟩ (.int .i64 0) := ⟨_, rfl⟩
      rw [← hw7]
      have S7 := Lib.hid (show SW w (MCells (some ⟨b, o, none⟩) cn cc dn ua un uc) B q g1 c1 g2 c2 g3 c3 dn wi wv ⟨7, A, Bq, C, xo, xi⟩ ⟨pc, -1, false⟩ ⟨regs.set 0 0, data, held, (pc : Int) + 1, en⟩ w7 by rw [hw7]; exact S5.out.setR 0 0)
      clear hw7 y0 y1 y2 y3 y4 y5 x0 x1 x2 x3 x4 xf v0 v1 v2 vf m0 m1 r0 r1 r2 rf cza fza
      have y0 := S7.out.ins.cell 0 _ rfl; have y1 := S7.out.ins.cell 1 _ rfl; have y2 := S7.out.ins.cell 2 _ rfl; have y3 := S7.out.ins.cell 3 _ rfl; have y4 := S7.out.ins.cell 4 _ rfl; have y5 := S7.out.ins.cell 5 _ rfl
      have x0 := S7.out.core.cell 0 _ rfl; have x1 := S7.out.core.cell 1 _ rfl; have x2 := S7.out.core.cell 2 _ rfl; have x3 := S7.out.core.cell 3 _ rfl; have x4 := S7.out.core.cell 4 _ rfl; have xf := S7.out.core.free
      have v0 := S7.out.ev.cell 0 _ rfl; have v1 := S7.out.ev.cell 1 _ rfl; have v2 := S7.out.ev.cell 2 _ rfl; have vf := S7.out.ev.free
      have m0 := S7.out.fm.h0.cell 0 _ rfl; have m1 := S7.out.fm.h0.cell 1 _ rfl
      have r0 := S7.out.fm.h1.cell 0 _ rfl; have r1 := S7.out.fm.h1.cell 1 _ rfl; have r2 := S7.out.fm.h1.cell 2 _ rfl; have rf := S7.out.fm.h1.free
      go_wp2
      refine bodyPost_ret (v := .tuple #[EvV ⟨pc, -1, false⟩, .int .i64 0]) (by simp [results, Try.results40, go_sem, r0, r1, r2]) rfl (step_ok (show stepP ⟨7, A, Bq, C, xo, xi⟩ cn dn ⟨regs, data, held, pc, en⟩ = .inr (⟨pc, -1, false⟩, ⟨regs.set 0 0, data, held, (pc : Int) + 1, en⟩) by unfold stepP; rw [HE.out]; dsimp only; rw [if_neg (by have := HN.out; omega)]; simp [effR, effD, effH]) rfl ?_)
      exact ((((S7.out).se.res 0 (Value.int .i64 (pc : Int))).res 1 (Value.int .i64 (-1))).res 2 (Value.bool false))
end Go.Proofs.Ytonbmijhbbodnaa
