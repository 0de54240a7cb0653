/-
  machine.Next: instructions of the kinds 0. (printed by mkMsL.py)
  machine.Next: instructions of the kinds 1. (printed by mkMsL.py)
  machine.Next: instructions of the kinds 2. (printed by mkMsL.py)
-/
import Derived.Deep.DeepCutAuto
import Derived.Deep.CutBlock
import Derived.Deep.RegionHeld3
import Derived.Test.YtonbmijhbbodnaaZMsJ
import Derived.Test.YtonbmijhbbodnaaZStB
namespace Go.Proofs.Ytonbmijhbbodnaa
open Go.RowKit

set_option maxRecDepth 100000 in
set_option maxHeartbeats 16000000 in
theorem next_k0 (Kb : Nat → Prop) (ca : Option Addr) (cn cc : Nat) (ua : Option Addr) (un uc : Nat) (code : List Ins) (B q g1 c1 g2 c2 g3 c3 dn : Nat) (regs data : List Int) (held : List Bool) (en : Bool) (xa xb xc xo xi : Int) (pc : Nat) (w : World)
    (rc : InsL Kb w ca cn cc code) (hcn : cn ≤ 1024) (hx : code[pc]? = some ⟨0, xa, xb, xc, xo, xi⟩) (hch : chkI ⟨0, xa, xb, xc, xo, xi⟩ = 0)
    (hq : Has w q (CoCells (some ⟨g1, 0, none⟩) 8 c1 (some ⟨g2, 0, none⟩) dn c2 (some ⟨g3, 0, none⟩) 4 c3 pc en)) (ho : CoOwn B w g1 c1 g2 c2 g3 c3 8 dn 4 regs data held)
    (hqg : q ≠ g1 ∧ q ≠ g2 ∧ q ≠ g3) (_hd : dn ≤ 1024) (hwr : wds regs = true) (hwd : wds data = true) (h0 : regs[0]? = some 0) :
    Calls Try.prog 37 #[MV ca cn cc dn ua un uc, .pointer (some ⟨q, 0, none⟩)] w (NextRet ⟨0, xa, xb, xc, xo, xi⟩ cn dn B q g1 c1 g2 c2 g3 c3 ⟨regs, data, held, pc, en⟩ w) := by
  have hpl : pc < cn := by have := (List.getElem?_eq_some_iff.1 hx).1; have := rc.hlen; omega
  obtain ⟨b, o, x', rfl, hx', hxi, hKb, lb, a0, a1, a2, a3, a4, a5⟩ := InsL.get rc hpl
  rw [hx] at hx'
  cases hx'
  have SM := small_of hch
  have IM := imm_of hch
  have OM := Lib.hid (op_of hch)
  have ha0 := SM.a0; have ha1 := SM.a1; have hb0 := SM.b0; have hb1 := SM.b1; have hc0 := SM.c0; have hc1 := SM.c1; have hi0 := IM.1; have hi1 := IM.2
  simp only [fldOf] at hi0 hi1
  simp at ha0 ha1 hb0 hb1 hc0 hc1 hi0 hi1
  obtain ⟨A, rfl⟩ := Int.eq_ofNat_of_zero_le ha0
  obtain ⟨Bq, rfl⟩ := Int.eq_ofNat_of_zero_le hb0
  obtain ⟨C, rfl⟩ := Int.eq_ofNat_of_zero_le hc0
  have hA8 : A < 8 := by omega
  have hB8 : Bq < 8 := by omega
  have hC8 : C < 8 := by omega
  have hq0 := hq.lt (by simp)
  have hg1 : g1 < w.heap.size := (ho.regs.lt g1 rfl).2
  have hg2 : g2 < w.heap.size := (ho.data.lt g2 rfl).2
  have hg3 : g3 < w.heap.size := (ho.held.lt g3 rfl).2
  have F0 := Lib.hid (Fm.new (Fm.new (Fm.new (Fm.start (CoMod q g1 g2 g3) w) rfl (MCells (some ⟨b, o, none⟩) cn cc dn ua un uc) 31) (by simp) [.pointer (some ⟨q, 0, none⟩)] 94) (by simp) (EvCells ev0) 39)
  have HQ := Lib.hid hq; have HO := Lib.hid ho; have HX := Lib.hid hx; have HG := Lib.hid hqg; have HWR := Lib.hid hwr; have HWD := Lib.hid hwd; have H0 := Lib.hid h0
  clear rc hq ho hx hqg hwr hwd h0 SM IM hch ha0 hb0 hc0
  go_enter Try.func37, Try.ntmps37
  go_upto_region 1 with fail
  obtain ⟨w1, hw1⟩ : ∃ w1, w1 = ((w.alloc (.cells #[.slice (some ⟨b, o, none⟩) cn cc, .int .i64 dn, NIL, .slice ua un uc] 31)).alloc (.cells #[.pointer (some ⟨q, 0, none⟩)] 94)).alloc (.cells #[.int .i64 0, .int .i64 0, .bool false] 39) := ⟨_, rfl⟩
  rw [← hw1]
  have B1 : Below w.heap.size w w1 := by rw [hw1]; exact (((Below.refl _ _).alloc (Nat.le_refl _) _).alloc (by simp) _).alloc (by simp; omega) _
  have F1 := Lib.hid (show Fm (CoMod q g1 g2 g3) w w1 [MCells (some ⟨b, o, none⟩) cn cc dn ua un uc, [.pointer (some ⟨q, 0, none⟩)], EvCells ev0] by rw [hw1]; exact F0.out)
  have S1 : w1.heap.size = w.heap.size + 3 := by rw [hw1]; simp
  have Q1 := Lib.hid (HQ.out.below B1 hq0)
  have O1 := Lib.hid (HO.out.below B1)
  have b0 := (B1.cell (p := ⟨b, o + pc * 6, none⟩) lb).trans a0
  have b1 := (B1.cell (p := ⟨b, o + pc * 6 + 1, none⟩) lb).trans a1
  have b2 := (B1.cell (p := ⟨b, o + pc * 6 + 2, none⟩) lb).trans a2
  have b3 := (B1.cell (p := ⟨b, o + pc * 6 + 3, none⟩) lb).trans a3
  have b4 := (B1.cell (p := ⟨b, o + pc * 6 + 4, none⟩) lb).trans a4
  have b5 := (B1.cell (p := ⟨b, o + pc * 6 + 5, none⟩) lb).trans a5
  have m0 := F1.out.h0.cell 0 _ rfl
  have p0 := F1.out.h1.cell 0 _ rfl
  have x3 := Q1.out.cell 3 _ rfl
  have lw1 : w.heap.size < w1.heap.size := by omega
  have lw2 : w.heap.size + 1 < w1.heap.size := by omega
  have lq1 : q < w1.heap.size := by omega
  have lb1 : b < w1.heap.size := by omega
  have SZ := Lib.hid S1
  have BB := Lib.hid B1
  clear hw1 F0 a0 a1 a2 a3 a4 a5 S1 B1
  have hpl' : (pc : Int) < (cn : Int) := by omega
  go_wp2
  go_region_held3 (fun w' => w'.cell? ⟨w.heap.size, 0, none⟩ = some (.slice (some ⟨b, o, none⟩) cn cc) ∧ w'.cell? ⟨w.heap.size + 1, 0, none⟩ = some (.pointer (some ⟨q, 0, none⟩)) ∧ w'.cell? ⟨q, 3, none⟩ = some (.int .i64 (pc : Int)) ∧ w'.cell? ⟨b, o + pc * 6, none⟩ = some (.int .i64 0) ∧ w'.cell? ⟨b, o + pc * 6 + 1, none⟩ = some (.int .i64 (A : Int)) ∧ w'.cell? ⟨b, o + pc * 6 + 2, none⟩ = some (.int .i64 (Bq : Int)) ∧ w'.cell? ⟨b, o + pc * 6 + 3, none⟩ = some (.int .i64 (C : Int)) ∧ w'.cell? ⟨b, o + pc * 6 + 4, none⟩ = some (.int .i64 xo) ∧ w'.cell? ⟨b, o + pc * 6 + 5, none⟩ = some (.int .i64 xi))
    (((try dsimp only); (try go_split_ands); (repeat' apply And.intro); all_goals (repeat (first | with_reducible assumption | (with_reducible refine cell_set (by omega) ?_) | (with_reducible refine cell_alloc (by omega) ?_) | (with_reducible refine cell_drew ?_))))) (fail)
  obtain ⟨w2, hw2⟩ : ∃ w2, w2 = (w1.alloc (.cells #[.int .i64 0, .int .i64 A, .int .i64 Bq, .int .i64 C, .int .i64 xo, .int .i64 xi] 50)).drew := ⟨_, rfl⟩
  rw [← hw2]
  have F2 := Lib.hid (show Fm (CoMod q g1 g2 g3) w w2 [MCells (some ⟨b, o, none⟩) cn cc dn ua un uc, [.pointer (some ⟨q, 0, none⟩)], EvCells ev0] by rw [hw2]; exact (F1.out.more _).drew)
  have X2 := Lib.hid (show Has w2 w1.heap.size (ICells ⟨0, A, Bq, C, xo, xi⟩) by rw [hw2]; exact (Has.new w1 (ICells ⟨0, A, Bq, C, xo, xi⟩) 50).drew)
  have S2 := Lib.hid (show w2.heap.size = w1.heap.size + 1 by rw [hw2]; simp)
  have Q2 := Lib.hid (show Has w2 q (CoCells (some ⟨g1, 0, none⟩) 8 c1 (some ⟨g2, 0, none⟩) dn c2 (some ⟨g3, 0, none⟩) 4 c3 pc en) by rw [hw2]; exact (Q1.out.old (by omega)).drew)
  have O2 := Lib.hid (show CoOwn B w2 g1 c1 g2 c2 g3 c3 8 dn 4 regs data held by rw [hw2]; exact (O1.out.below ((Below.refl _ _).alloc (Nat.le_refl _) _)).drew)
  clear hw2 b0 b1 b2 b3 b4 b5 m0 p0 x3
  have x3 := Q2.out.cell 3 _ rfl
  have p0 := F2.out.h1.cell 0 _ rfl
  have lq2 := Q2.out.lt (by simp)
  have lp2 := F2.out.h1.lt (by simp)
  have y0 := X2.out.cell 0 _ rfl
  have ly := X2.out.lt (by simp)
  go_upto_block 0 with fail
  obtain ⟨w3, hw3⟩ : ∃ w3, w3 = (w2.alloc (.cells #[.int .i64 (pc : Int), .int .i64 (-1), .bool false] 39)).alloc (.cells #[WRF w1.heap.size (w.heap.size + 1)] 116) := ⟨_, rfl⟩
  rw [← hw3]
  have W3 := Lib.hid (show NW w (MCells (some ⟨b, o, none⟩) cn cc dn ua un uc) B q g1 c1 g2 c2 g3 c3 dn w1.heap.size w2.heap.size (w2.heap.size + 1) ⟨0, A, Bq, C, xo, xi⟩ ⟨pc, -1, false⟩ ⟨regs, data, held, pc, en⟩ w3 by
    have z1 := SZ.out; have z2 := S2.out
    rw [hw3]
    exact ⟨(F2.out.more _).more _, (X2.out.old ly).old (by simp; omega), (Has.new w2 (EvCells ⟨pc, -1, false⟩) 39).old (by simp), (Has.new (w2.alloc (.cells #[.int .i64 (pc : Int), .int .i64 (-1), .bool false] 39)) [WRF w1.heap.size (w.heap.size + 1)] 116).at' (by simp), (Q2.out.old lq2).old (by simp; omega), (O2.out.below ((Below.refl _ _).alloc (Nat.le_refl _) _)).below ((Below.refl _ _).alloc (Nat.le_refl _) _), ⟨hq0, hg1, hg2, hg3⟩, HG.out, by omega, by omega, by omega⟩)
  have z1 : w.heap.size + 3 ≤ w1.heap.size ∧ w1.heap.size < w2.heap.size := by have z1 := SZ.out; have z2 := S2.out; omega
  generalize w1.heap.size = wi at W3 z1 ⊢
  generalize w2.heap.size = wv at W3 z1 ⊢
  obtain ⟨z1, z2⟩ := z1
  obtain ⟨wf, hwf⟩ : ∃ wf, wf = wv + 1 := ⟨_, rfl⟩
  rw [← hwf] at W3 ⊢
  have z3 : wv < wf := by omega
  clear hwf hw3 x3 p0 lq2 lp2 y0 ly lw1 lw2 lq1 lb1 F1 Q1 O1 SZ BB F2 X2 S2 Q2 O2 HQ HO HX lb hKb hxi HG
  have HE := Lib.hid (show evP ⟨0, A, Bq, C, xo, xi⟩ dn ⟨regs, data, held, pc, en⟩ = .inr (⟨pc, -1, false⟩, (pc : Int) + 1) by unfold evP; dsimp only; rw [if_neg (by omega), if_neg (by omega), if_neg (by omega), if_neg (by omega), if_neg (by omega)])
  have HN0 := Lib.hid (show ¬ (cn : Int) ≤ (pc : Int) from by omega)
  by_cases hn : (cn : Int) ≤ (pc : Int) + 1
  · have y0 := W3.out.ins.cell 0 _ rfl; have y1 := W3.out.ins.cell 1 _ rfl; have y2 := W3.out.ins.cell 2 _ rfl; have y3 := W3.out.ins.cell 3 _ rfl; have y4 := W3.out.ins.cell 4 _ rfl; have y5 := W3.out.ins.cell 5 _ rfl
    have x0 := W3.out.core.cell 0 _ rfl; have x1 := W3.out.core.cell 1 _ rfl; have x2 := W3.out.core.cell 2 _ rfl; have x3 := W3.out.core.cell 3 _ rfl; have x4 := W3.out.core.cell 4 _ rfl; have xf := W3.out.core.free
    have v0 := W3.out.ev.cell 0 _ rfl; have v1 := W3.out.ev.cell 1 _ rfl; have v2 := W3.out.ev.cell 2 _ rfl; have vf := W3.out.ev.free
    have m0 := W3.out.fm.h0.cell 0 _ rfl; have m1 := W3.out.fm.h0.cell 1 _ rfl; have p0 := W3.out.fm.h1.cell 0 _ rfl
    have r0 := W3.out.fm.h2.cell 0 _ rfl; have r1 := W3.out.fm.h2.cell 1 _ rfl; have r2 := W3.out.fm.h2.cell 2 _ rfl; have rf := W3.out.fm.h2.free
    have f0 := W3.out.fn.cell 0 _ rfl
    go_wp2
    refine bodyPost_ret (v := .tuple #[EvV ev0, .int .i64 12]) (by simp [results, Try.results37, go_sem, r0, r1, r2]) rfl (next_err (by unfold stepP; rw [HE.out]; exact if_pos hn) rfl ?_)
    exact (((W3.out.se.res2 0 (.int .i64 0)).res2 1 (.int .i64 0)).res2 2 (.bool false))
  · have HN := Lib.hid hn
    have y0 := W3.out.ins.cell 0 _ rfl; have y1 := W3.out.ins.cell 1 _ rfl; have y2 := W3.out.ins.cell 2 _ rfl; have y3 := W3.out.ins.cell 3 _ rfl; have y4 := W3.out.ins.cell 4 _ rfl; have y5 := W3.out.ins.cell 5 _ rfl
    have x0 := W3.out.core.cell 0 _ rfl; have x1 := W3.out.core.cell 1 _ rfl; have x2 := W3.out.core.cell 2 _ rfl; have x3 := W3.out.core.cell 3 _ rfl; have x4 := W3.out.core.cell 4 _ rfl; have xf := W3.out.core.free
    have v0 := W3.out.ev.cell 0 _ rfl; have v1 := W3.out.ev.cell 1 _ rfl; have v2 := W3.out.ev.cell 2 _ rfl; have vf := W3.out.ev.free
    have m0 := W3.out.fm.h0.cell 0 _ rfl; have m1 := W3.out.fm.h0.cell 1 _ rfl; have p0 := W3.out.fm.h1.cell 0 _ rfl
    have r0 := W3.out.fm.h2.cell 0 _ rfl; have r1 := W3.out.fm.h2.cell 1 _ rfl; have r2 := W3.out.fm.h2.cell 2 _ rfl; have rf := W3.out.fm.h2.free
    have f0 := W3.out.fn.cell 0 _ rfl
    go_wp2_with fail
    refine Calls.mono (done2_nw w (MCells (some ⟨b, o, none⟩) cn cc dn ua un uc) B q g1 c1 g2 c2 g3 c3 dn wi wv wf A Bq C xo xi 0 ⟨pc, -1, false⟩ ⟨regs, data, held, pc, en⟩ w3 hA8 hB8 W3.out ) ?_
    rintro e w7 ⟨rfl, hs⟩
    have S7 := Lib.hid hs
    clear hs y0 y1 y2 y3 y4 y5 x0 x1 x2 x3 x4 xf v0 v1 v2 vf m0 m1 p0 r0 r1 r2 rf f0
    have p0 := S7.out.fm.h1.cell 0 _ rfl; have x3 := S7.out.core.cell 3 _ rfl; have xf := S7.out.core.free
    go_upto_region 41 with fail
    obtain ⟨w8, hw8⟩ : ∃ w8, w8 = w7.setCell ⟨q, 3, none⟩ (.int .i64 ((pc : Int) + 1)) := ⟨_, rfl⟩
    rw [← hw8]
    have S8 := Lib.hid (show NW w (MCells (some ⟨b, o, none⟩) cn cc dn ua un uc) B q g1 c1 g2 c2 g3 c3 dn wi wv wf ⟨0, A, Bq, C, xo, xi⟩ ⟨pc, -1, false⟩ ⟨regs, data, held, (pc : Int) + 1, en⟩ w8 by rw [hw8]; exact S7.out.setPC _)
    clear hw8 p0 x3 xf
    have y0 := S8.out.ins.cell 0 _ rfl; have y1 := S8.out.ins.cell 1 _ rfl; have y2 := S8.out.ins.cell 2 _ rfl; have y3 := S8.out.ins.cell 3 _ rfl; have y4 := S8.out.ins.cell 4 _ rfl; have y5 := S8.out.ins.cell 5 _ rfl
    have x0 := S8.out.core.cell 0 _ rfl; have x1 := S8.out.core.cell 1 _ rfl; have x2 := S8.out.core.cell 2 _ rfl; have x3 := S8.out.core.cell 3 _ rfl; have x4 := S8.out.core.cell 4 _ rfl; have xf := S8.out.core.free
    have v0 := S8.out.ev.cell 0 _ rfl; have v1 := S8.out.ev.cell 1 _ rfl; have v2 := S8.out.ev.cell 2 _ rfl; have vf := S8.out.ev.free
    have m0 := S8.out.fm.h0.cell 0 _ rfl; have m1 := S8.out.fm.h0.cell 1 _ rfl; have p0 := S8.out.fm.h1.cell 0 _ rfl
    have r0 := S8.out.fm.h2.cell 0 _ rfl; have r1 := S8.out.fm.h2.cell 1 _ rfl; have r2 := S8.out.fm.h2.cell 2 _ rfl; have rf := S8.out.fm.h2.free
    have f0 := S8.out.fn.cell 0 _ rfl
    go_wp2
    refine bodyPost_ret (v := .tuple #[EvV ⟨pc, -1, false⟩, .int .i64 0]) (by simp [results, Try.results37, go_sem, r0, r1, r2]) rfl (next_ok (show stepP ⟨0, A, Bq, C, xo, xi⟩ cn dn ⟨regs, data, held, pc, en⟩ = .inr (⟨pc, -1, false⟩, ⟨regs, data, held, (pc : Int) + 1, en⟩) by unfold stepP; rw [HE.out]; dsimp only; rw [if_neg (by have := HN.out; omega)]; simp [effR, effD, effH, set_zero H0.out]) rfl ?_)
    exact ((((S8.out).se.res2 0 (Value.int .i64 (pc : Int))).res2 1 (Value.int .i64 (-1))).res2 2 (Value.bool false))

set_option maxRecDepth 100000 in
set_option maxHeartbeats 16000000 in
theorem next_k1 (Kb : Nat → Prop) (ca : Option Addr) (cn cc : Nat) (ua : Option Addr) (un uc : Nat) (code : List Ins) (B q g1 c1 g2 c2 g3 c3 dn : Nat) (regs data : List Int) (held : List Bool) (en : Bool) (xa xb xc xo xi : Int) (pc : Nat) (w : World)
    (rc : InsL Kb w ca cn cc code) (hcn : cn ≤ 1024) (hx : code[pc]? = some ⟨1, xa, xb, xc, xo, xi⟩) (hch : chkI ⟨1, xa, xb, xc, xo, xi⟩ = 0)
    (hq : Has w q (CoCells (some ⟨g1, 0, none⟩) 8 c1 (some ⟨g2, 0, none⟩) dn c2 (some ⟨g3, 0, none⟩) 4 c3 pc en)) (ho : CoOwn B w g1 c1 g2 c2 g3 c3 8 dn 4 regs data held)
    (hqg : q ≠ g1 ∧ q ≠ g2 ∧ q ≠ g3) (_hd : dn ≤ 1024) (hwr : wds regs = true) (hwd : wds data = true) (h0 : regs[0]? = some 0) :
    Calls Try.prog 37 #[MV ca cn cc dn ua un uc, .pointer (some ⟨q, 0, none⟩)] w (NextRet ⟨1, xa, xb, xc, xo, xi⟩ cn dn B q g1 c1 g2 c2 g3 c3 ⟨regs, data, held, pc, en⟩ w) := by
  have hpl : pc < cn := by have := (List.getElem?_eq_some_iff.1 hx).1; have := rc.hlen; omega
  obtain ⟨b, o, x', rfl, hx', hxi, hKb, lb, a0, a1, a2, a3, a4, a5⟩ := InsL.get rc hpl
  rw [hx] at hx'
  cases hx'
  have SM := small_of hch
  have IM := imm_of hch
  have OM := Lib.hid (op_of hch)
  have ha0 := SM.a0; have ha1 := SM.a1; have hb0 := SM.b0; have hb1 := SM.b1; have hc0 := SM.c0; have hc1 := SM.c1; have hi0 := IM.1; have hi1 := IM.2
  simp only [fldOf] at hi0 hi1
  simp at ha0 ha1 hb0 hb1 hc0 hc1 hi0 hi1
  obtain ⟨A, rfl⟩ := Int.eq_ofNat_of_zero_le ha0
  obtain ⟨Bq, rfl⟩ := Int.eq_ofNat_of_zero_le hb0
  obtain ⟨C, rfl⟩ := Int.eq_ofNat_of_zero_le hc0
  have hA8 : A < 8 := by omega
  have hB8 : Bq < 8 := by omega
  have hC8 : C < 8 := by omega
  have hq0 := hq.lt (by simp)
  have hg1 : g1 < w.heap.size := (ho.regs.lt g1 rfl).2
  have hg2 : g2 < w.heap.size := (ho.data.lt g2 rfl).2
  have hg3 : g3 < w.heap.size := (ho.held.lt g3 rfl).2
  have F0 := Lib.hid (Fm.new (Fm.new (Fm.new (Fm.start (CoMod q g1 g2 g3) w) rfl (MCells (some ⟨b, o, none⟩) cn cc dn ua un uc) 31) (by simp) [.pointer (some ⟨q, 0, none⟩)] 94) (by simp) (EvCells ev0) 39)
  have HQ := Lib.hid hq; have HO := Lib.hid ho; have HX := Lib.hid hx; have HG := Lib.hid hqg; have HWR := Lib.hid hwr; have HWD := Lib.hid hwd; have H0 := Lib.hid h0
  clear rc hq ho hx hqg hwr hwd h0 SM IM hch ha0 hb0 hc0
  go_enter Try.func37, Try.ntmps37
  go_upto_region 1 with fail
  obtain ⟨w1, hw1⟩ : ∃ w1, w1 = ((w.alloc (.cells #[.slice (some ⟨b, o, none⟩) cn cc, .int .i64 dn, NIL, .slice ua un uc] 31)).alloc (.cells #[.pointer (some ⟨q, 0, none⟩)] 94)).alloc (.cells #[.int .i64 0, .int .i64 0, .bool false] 39) := ⟨_, rfl⟩
  rw [← hw1]
  have B1 : Below w.heap.size w w1 := by rw [hw1]; exact (((Below.refl _ _).alloc (Nat.le_refl _) _).alloc (by simp) _).alloc (by simp; omega) _
  have F1 := Lib.hid (show Fm (CoMod q g1 g2 g3) w w1 [MCells (some ⟨b, o, none⟩) cn cc dn ua un uc, [.pointer (some ⟨q, 0, none⟩)], EvCells ev0] by rw [hw1]; exact F0.out)
  have S1 : w1.heap.size = w.heap.size + 3 := by rw [hw1]; simp
  have Q1 := Lib.hid (HQ.out.below B1 hq0)
  have O1 := Lib.hid (HO.out.below B1)
  have b0 := (B1.cell (p := ⟨b, o + pc * 6, none⟩) lb).trans a0
  have b1 := (B1.cell (p := ⟨b, o + pc * 6 + 1, none⟩) lb).trans a1
  have b2 := (B1.cell (p := ⟨b, o + pc * 6 + 2, none⟩) lb).trans a2
  have b3 := (B1.cell (p := ⟨b, o + pc * 6 + 3, none⟩) lb).trans a3
  have b4 := (B1.cell (p := ⟨b, o + pc * 6 + 4, none⟩) lb).trans a4
  have b5 := (B1.cell (p := ⟨b, o + pc * 6 + 5, none⟩) lb).trans a5
  have m0 := F1.out.h0.cell 0 _ rfl
  have p0 := F1.out.h1.cell 0 _ rfl
  have x3 := Q1.out.cell 3 _ rfl
  have lw1 : w.heap.size < w1.heap.size := by omega
  have lw2 : w.heap.size + 1 < w1.heap.size := by omega
  have lq1 : q < w1.heap.size := by omega
  have lb1 : b < w1.heap.size := by omega
  have SZ := Lib.hid S1
  have BB := Lib.hid B1
  clear hw1 F0 a0 a1 a2 a3 a4 a5 S1 B1
  have hpl' : (pc : Int) < (cn : Int) := by omega
  go_wp2
  go_region_held3 (fun w' => w'.cell? ⟨w.heap.size, 0, none⟩ = some (.slice (some ⟨b, o, none⟩) cn cc) ∧ w'.cell? ⟨w.heap.size + 1, 0, none⟩ = some (.pointer (some ⟨q, 0, none⟩)) ∧ w'.cell? ⟨q, 3, none⟩ = some (.int .i64 (pc : Int)) ∧ w'.cell? ⟨b, o + pc * 6, none⟩ = some (.int .i64 1) ∧ w'.cell? ⟨b, o + pc * 6 + 1, none⟩ = some (.int .i64 (A : Int)) ∧ w'.cell? ⟨b, o + pc * 6 + 2, none⟩ = some (.int .i64 (Bq : Int)) ∧ w'.cell? ⟨b, o + pc * 6 + 3, none⟩ = some (.int .i64 (C : Int)) ∧ w'.cell? ⟨b, o + pc * 6 + 4, none⟩ = some (.int .i64 xo) ∧ w'.cell? ⟨b, o + pc * 6 + 5, none⟩ = some (.int .i64 xi))
    (((try dsimp only); (try go_split_ands); (repeat' apply And.intro); all_goals (repeat (first | with_reducible assumption | (with_reducible refine cell_set (by omega) ?_) | (with_reducible refine cell_alloc (by omega) ?_) | (with_reducible refine cell_drew ?_))))) (fail)
  obtain ⟨w2, hw2⟩ : ∃ w2, w2 = (w1.alloc (.cells #[.int .i64 1, .int .i64 A, .int .i64 Bq, .int .i64 C, .int .i64 xo, .int .i64 xi] 50)).drew := ⟨_, rfl⟩
  rw [← hw2]
  have F2 := Lib.hid (show Fm (CoMod q g1 g2 g3) w w2 [MCells (some ⟨b, o, none⟩) cn cc dn ua un uc, [.pointer (some ⟨q, 0, none⟩)], EvCells ev0] by rw [hw2]; exact (F1.out.more _).drew)
  have X2 := Lib.hid (show Has w2 w1.heap.size (ICells ⟨1, A, Bq, C, xo, xi⟩) by rw [hw2]; exact (Has.new w1 (ICells ⟨1, A, Bq, C, xo, xi⟩) 50).drew)
  have S2 := Lib.hid (show w2.heap.size = w1.heap.size + 1 by rw [hw2]; simp)
  have Q2 := Lib.hid (show Has w2 q (CoCells (some ⟨g1, 0, none⟩) 8 c1 (some ⟨g2, 0, none⟩) dn c2 (some ⟨g3, 0, none⟩) 4 c3 pc en) by rw [hw2]; exact (Q1.out.old (by omega)).drew)
  have O2 := Lib.hid (show CoOwn B w2 g1 c1 g2 c2 g3 c3 8 dn 4 regs data held by rw [hw2]; exact (O1.out.below ((Below.refl _ _).alloc (Nat.le_refl _) _)).drew)
  clear hw2 b0 b1 b2 b3 b4 b5 m0 p0 x3
  have x3 := Q2.out.cell 3 _ rfl
  have p0 := F2.out.h1.cell 0 _ rfl
  have lq2 := Q2.out.lt (by simp)
  have lp2 := F2.out.h1.lt (by simp)
  have y0 := X2.out.cell 0 _ rfl
  have ly := X2.out.lt (by simp)
  go_upto_block 0 with fail
  obtain ⟨w3, hw3⟩ : ∃ w3, w3 = (w2.alloc (.cells #[.int .i64 (pc : Int), .int .i64 (-1), .bool false] 39)).alloc (.cells #[WRF w1.heap.size (w.heap.size + 1)] 116) := ⟨_, rfl⟩
  rw [← hw3]
  have W3 := Lib.hid (show NW w (MCells (some ⟨b, o, none⟩) cn cc dn ua un uc) B q g1 c1 g2 c2 g3 c3 dn w1.heap.size w2.heap.size (w2.heap.size + 1) ⟨1, A, Bq, C, xo, xi⟩ ⟨pc, -1, false⟩ ⟨regs, data, held, pc, en⟩ w3 by
    have z1 := SZ.out; have z2 := S2.out
    rw [hw3]
    exact ⟨(F2.out.more _).more _, (X2.out.old ly).old (by simp; omega), (Has.new w2 (EvCells ⟨pc, -1, false⟩) 39).old (by simp), (Has.new (w2.alloc (.cells #[.int .i64 (pc : Int), .int .i64 (-1), .bool false] 39)) [WRF w1.heap.size (w.heap.size + 1)] 116).at' (by simp), (Q2.out.old lq2).old (by simp; omega), (O2.out.below ((Below.refl _ _).alloc (Nat.le_refl _) _)).below ((Below.refl _ _).alloc (Nat.le_refl _) _), ⟨hq0, hg1, hg2, hg3⟩, HG.out, by omega, by omega, by omega⟩)
  have z1 : w.heap.size + 3 ≤ w1.heap.size ∧ w1.heap.size < w2.heap.size := by have z1 := SZ.out; have z2 := S2.out; omega
  generalize w1.heap.size = wi at W3 z1 ⊢
  generalize w2.heap.size = wv at W3 z1 ⊢
  obtain ⟨z1, z2⟩ := z1
  obtain ⟨wf, hwf⟩ : ∃ wf, wf = wv + 1 := ⟨_, rfl⟩
  rw [← hwf] at W3 ⊢
  have z3 : wv < wf := by omega
  clear hwf hw3 x3 p0 lq2 lp2 y0 ly lw1 lw2 lq1 lb1 F1 Q1 O1 SZ BB F2 X2 S2 Q2 O2 HQ HO HX lb hKb hxi HG
  have HE := Lib.hid (show evP ⟨1, A, Bq, C, xo, xi⟩ dn ⟨regs, data, held, pc, en⟩ = .inr (⟨pc, -1, false⟩, (pc : Int) + 1) by unfold evP; dsimp only; rw [if_neg (by omega), if_neg (by omega), if_neg (by omega), if_neg (by omega), if_neg (by omega)])
  have HN0 := Lib.hid (show ¬ (cn : Int) ≤ (pc : Int) from by omega)
  by_cases hn : (cn : Int) ≤ (pc : Int) + 1
  · have y0 := W3.out.ins.cell 0 _ rfl; have y1 := W3.out.ins.cell 1 _ rfl; have y2 := W3.out.ins.cell 2 _ rfl; have y3 := W3.out.ins.cell 3 _ rfl; have y4 := W3.out.ins.cell 4 _ rfl; have y5 := W3.out.ins.cell 5 _ rfl
    have x0 := W3.out.core.cell 0 _ rfl; have x1 := W3.out.core.cell 1 _ rfl; have x2 := W3.out.core.cell 2 _ rfl; have x3 := W3.out.core.cell 3 _ rfl; have x4 := W3.out.core.cell 4 _ rfl; have xf := W3.out.core.free
    have v0 := W3.out.ev.cell 0 _ rfl; have v1 := W3.out.ev.cell 1 _ rfl; have v2 := W3.out.ev.cell 2 _ rfl; have vf := W3.out.ev.free
    have m0 := W3.out.fm.h0.cell 0 _ rfl; have m1 := W3.out.fm.h0.cell 1 _ rfl; have p0 := W3.out.fm.h1.cell 0 _ rfl
    have r0 := W3.out.fm.h2.cell 0 _ rfl; have r1 := W3.out.fm.h2.cell 1 _ rfl; have r2 := W3.out.fm.h2.cell 2 _ rfl; have rf := W3.out.fm.h2.free
    have f0 := W3.out.fn.cell 0 _ rfl
    go_wp2
    refine bodyPost_ret (v := .tuple #[EvV ev0, .int .i64 12]) (by simp [results, Try.results37, go_sem, r0, r1, r2]) rfl (next_err (by unfold stepP; rw [HE.out]; exact if_pos hn) rfl ?_)
    exact (((W3.out.se.res2 0 (.int .i64 0)).res2 1 (.int .i64 0)).res2 2 (.bool false))
  · have HN := Lib.hid hn
    have y0 := W3.out.ins.cell 0 _ rfl; have y1 := W3.out.ins.cell 1 _ rfl; have y2 := W3.out.ins.cell 2 _ rfl; have y3 := W3.out.ins.cell 3 _ rfl; have y4 := W3.out.ins.cell 4 _ rfl; have y5 := W3.out.ins.cell 5 _ rfl
    have x0 := W3.out.core.cell 0 _ rfl; have x1 := W3.out.core.cell 1 _ rfl; have x2 := W3.out.core.cell 2 _ rfl; have x3 := W3.out.core.cell 3 _ rfl; have x4 := W3.out.core.cell 4 _ rfl; have xf := W3.out.core.free
    have v0 := W3.out.ev.cell 0 _ rfl; have v1 := W3.out.ev.cell 1 _ rfl; have v2 := W3.out.ev.cell 2 _ rfl; have vf := W3.out.ev.free
    have m0 := W3.out.fm.h0.cell 0 _ rfl; have m1 := W3.out.fm.h0.cell 1 _ rfl; have p0 := W3.out.fm.h1.cell 0 _ rfl
    have r0 := W3.out.fm.h2.cell 0 _ rfl; have r1 := W3.out.fm.h2.cell 1 _ rfl; have r2 := W3.out.fm.h2.cell 2 _ rfl; have rf := W3.out.fm.h2.free
    have f0 := W3.out.fn.cell 0 _ rfl
    go_wp2_with fail
    refine Calls.mono (done3_any w (MCells (some ⟨b, o, none⟩) cn cc dn ua un uc) B q g1 c1 g2 c2 g3 c3 dn wi wv wf A Bq C xo xi 1 ⟨pc, -1, false⟩ ⟨regs, data, held, pc, en⟩ w3 hA8 hB8 W3.out H0.out) ?_
    rintro e w7 ⟨rfl, hs⟩
    have S7 := Lib.hid hs
    clear hs y0 y1 y2 y3 y4 y5 x0 x1 x2 x3 x4 xf v0 v1 v2 vf m0 m1 p0 r0 r1 r2 rf f0
    have p0 := S7.out.fm.h1.cell 0 _ rfl; have x3 := S7.out.core.cell 3 _ rfl; have xf := S7.out.core.free
    go_upto_region 41 with fail
    obtain ⟨w8, hw8⟩ : ∃ w8, w8 = w7.setCell ⟨q, 3, none⟩ (.int .i64 ((pc : Int) + 1)) := ⟨_, rfl⟩
    rw [← hw8]
    have S8 := Lib.hid (show NW w (MCells (some ⟨b, o, none⟩) cn cc dn ua un uc) B q g1 c1 g2 c2 g3 c3 dn wi wv wf ⟨1, A, Bq, C, xo, xi⟩ ⟨pc, -1, false⟩ ⟨(regs.set A xi).set 0 0, data, held, (pc : Int) + 1, en⟩ w8 by rw [hw8]; exact S7.out.setPC _)
    clear hw8 p0 x3 xf
    have y0 := S8.out.ins.cell 0 _ rfl; have y1 := S8.out.ins.cell 1 _ rfl; have y2 := S8.out.ins.cell 2 _ rfl; have y3 := S8.out.ins.cell 3 _ rfl; have y4 := S8.out.ins.cell 4 _ rfl; have y5 := S8.out.ins.cell 5 _ rfl
    have x0 := S8.out.core.cell 0 _ rfl; have x1 := S8.out.core.cell 1 _ rfl; have x2 := S8.out.core.cell 2 _ rfl; have x3 := S8.out.core.cell 3 _ rfl; have x4 := S8.out.core.cell 4 _ rfl; have xf := S8.out.core.free
    have v0 := S8.out.ev.cell 0 _ rfl; have v1 := S8.out.ev.cell 1 _ rfl; have v2 := S8.out.ev.cell 2 _ rfl; have vf := S8.out.ev.free
    have m0 := S8.out.fm.h0.cell 0 _ rfl; have m1 := S8.out.fm.h0.cell 1 _ rfl; have p0 := S8.out.fm.h1.cell 0 _ rfl
    have r0 := S8.out.fm.h2.cell 0 _ rfl; have r1 := S8.out.fm.h2.cell 1 _ rfl; have r2 := S8.out.fm.h2.cell 2 _ rfl; have rf := S8.out.fm.h2.free
    have f0 := S8.out.fn.cell 0 _ rfl
    go_wp2
    refine bodyPost_ret (v := .tuple #[EvV ⟨pc, -1, false⟩, .int .i64 0]) (by simp [results, Try.results37, go_sem, r0, r1, r2]) rfl (next_ok (show stepP ⟨1, A, Bq, C, xo, xi⟩ cn dn ⟨regs, data, held, pc, en⟩ = .inr (⟨pc, -1, false⟩, ⟨(regs.set A xi).set 0 0, data, held, (pc : Int) + 1, en⟩) by unfold stepP; rw [HE.out]; dsimp only; rw [if_neg (by have := HN.out; omega)]; simp [effR, effD, effH]) rfl ?_)
    exact ((((S8.out).se.res2 0 (Value.int .i64 (pc : Int))).res2 1 (Value.int .i64 (-1))).res2 2 (Value.bool false))

set_option maxRecDepth 100000 in
set_option maxHeartbeats 16000000 in
theorem next_k2 (Kb : Nat → Prop) (ca : Option Addr) (cn cc : Nat) (ua : Option Addr) (un uc : Nat) (code : List Ins) (B q g1 c1 g2 c2 g3 c3 dn : Nat) (regs data : List Int) (held : List Bool) (en : Bool) (xa xb xc xo xi : Int) (pc : Nat) (w : World)
    (rc : InsL Kb w ca cn cc code) (hcn : cn ≤ 1024) (hx : code[pc]? = some ⟨2, xa, xb, xc, xo, xi⟩) (hch : chkI ⟨2, xa, xb, xc, xo, xi⟩ = 0)
    (hq : Has w q (CoCells (some ⟨g1, 0, none⟩) 8 c1 (some ⟨g2, 0, none⟩) dn c2 (some ⟨g3, 0, none⟩) 4 c3 pc en)) (ho : CoOwn B w g1 c1 g2 c2 g3 c3 8 dn 4 regs data held)
    (hqg : q ≠ g1 ∧ q ≠ g2 ∧ q ≠ g3) (_hd : dn ≤ 1024) (hwr : wds regs = true) (hwd : wds data = true) (h0 : regs[0]? = some 0) :
    Calls Try.prog 37 #[MV ca cn cc dn ua un uc, .pointer (some ⟨q, 0, none⟩)] w (NextRet ⟨2, xa, xb, xc, xo, xi⟩ cn dn B q g1 c1 g2 c2 g3 c3 ⟨regs, data, held, pc, en⟩ w) := by
  have hpl : pc < cn := by have := (List.getElem?_eq_some_iff.1 hx).1; have := rc.hlen; omega
  obtain ⟨b, o, x', rfl, hx', hxi, hKb, lb, a0, a1, a2, a3, a4, a5⟩ := InsL.get rc hpl
  rw [hx] at hx'
  cases hx'
  have SM := small_of hch
  have IM := imm_of hch
  have OM := Lib.hid (op_of hch)
  have ha0 := SM.a0; have ha1 := SM.a1; have hb0 := SM.b0; have hb1 := SM.b1; have hc0 := SM.c0; have hc1 := SM.c1; have hi0 := IM.1; have hi1 := IM.2
  simp only [fldOf] at hi0 hi1
  simp at ha0 ha1 hb0 hb1 hc0 hc1 hi0 hi1
  obtain ⟨A, rfl⟩ := Int.eq_ofNat_of_zero_le ha0
  obtain ⟨Bq, rfl⟩ := Int.eq_ofNat_of_zero_le hb0
  obtain ⟨C, rfl⟩ := Int.eq_ofNat_of_zero_le hc0
  have hA8 : A < 8 := by omega
  have hB8 : Bq < 8 := by omega
  have hC8 : C < 8 := by omega
  have hq0 := hq.lt (by simp)
  have hg1 : g1 < w.heap.size := (ho.regs.lt g1 rfl).2
  have hg2 : g2 < w.heap.size := (ho.data.lt g2 rfl).2
  have hg3 : g3 < w.heap.size := (ho.held.lt g3 rfl).2
  have F0 := Lib.hid (Fm.new (Fm.new (Fm.new (Fm.start (CoMod q g1 g2 g3) w) rfl (MCells (some ⟨b, o, none⟩) cn cc dn ua un uc) 31) (by simp) [.pointer (some ⟨q, 0, none⟩)] 94) (by simp) (EvCells ev0) 39)
  have HQ := Lib.hid hq; have HO := Lib.hid ho; have HX := Lib.hid hx; have HG := Lib.hid hqg; have HWR := Lib.hid hwr; have HWD := Lib.hid hwd; have H0 := Lib.hid h0
  clear rc hq ho hx hqg hwr hwd h0 SM IM hch ha0 hb0 hc0
  go_enter Try.func37, Try.ntmps37
  go_upto_region 1 with fail
  obtain ⟨w1, hw1⟩ : ∃ w1, w1 = ((w.alloc (.cells #[.slice (some ⟨b, o, none⟩) cn cc, .int .i64 dn, NIL, .slice ua un uc] 31)).alloc (.cells #[.pointer (some ⟨q, 0, none⟩)] 94)).alloc (.cells #[.int .i64 0, .int .i64 0, .bool false] 39) := ⟨_, rfl⟩
  rw [← hw1]
  have B1 : Below w.heap.size w w1 := by rw [hw1]; exact (((Below.refl _ _).alloc (Nat.le_refl _) _).alloc (by simp) _).alloc (by simp; omega) _
  have F1 := Lib.hid (show Fm (CoMod q g1 g2 g3) w w1 [MCells (some ⟨b, o, none⟩) cn cc dn ua un uc, [.pointer (some ⟨q, 0, none⟩)], EvCells ev0] by rw [hw1]; exact F0.out)
  have S1 : w1.heap.size = w.heap.size + 3 := by rw [hw1]; simp
  have Q1 := Lib.hid (HQ.out.below B1 hq0)
  have O1 := Lib.hid (HO.out.below B1)
  have b0 := (B1.cell (p := ⟨b, o + pc * 6, none⟩) lb).trans a0
  have b1 := (B1.cell (p := ⟨b, o + pc * 6 + 1, none⟩) lb).trans a1
  have b2 := (B1.cell (p := ⟨b, o + pc * 6 + 2, none⟩) lb).trans a2
  have b3 := (B1.cell (p := ⟨b, o + pc * 6 + 3, none⟩) lb).trans a3
  have b4 := (B1.cell (p := ⟨b, o + pc * 6 + 4, none⟩) lb).trans a4
  have b5 := (B1.cell (p := ⟨b, o + pc * 6 + 5, none⟩) lb).trans a5
  have m0 := F1.out.h0.cell 0 _ rfl
  have p0 := F1.out.h1.cell 0 _ rfl
  have x3 := Q1.out.cell 3 _ rfl
  have lw1 : w.heap.size < w1.heap.size := by omega
  have lw2 : w.heap.size + 1 < w1.heap.size := by omega
  have lq1 : q < w1.heap.size := by omega
  have lb1 : b < w1.heap.size := by omega
  have SZ := Lib.hid S1
  have BB := Lib.hid B1
  clear hw1 F0 a0 a1 a2 a3 a4 a5 S1 B1
  have hpl' : (pc : Int) < (cn : Int) := by omega
  go_wp2
  go_region_held3 (fun w' => w'.cell? ⟨w.heap.size, 0, none⟩ = some (.slice (some ⟨b, o, none⟩) cn cc) ∧ w'.cell? ⟨w.heap.size + 1, 0, none⟩ = some (.pointer (some ⟨q, 0, none⟩)) ∧ w'.cell? ⟨q, 3, none⟩ = some (.int .i64 (pc : Int)) ∧ w'.cell? ⟨b, o + pc * 6, none⟩ = some (.int .i64 2) ∧ w'.cell? ⟨b, o + pc * 6 + 1, none⟩ = some (.int .i64 (A : Int)) ∧ w'.cell? ⟨b, o + pc * 6 + 2, none⟩ = some (.int .i64 (Bq : Int)) ∧ w'.cell? ⟨b, o + pc * 6 + 3, none⟩ = some (.int .i64 (C : Int)) ∧ w'.cell? ⟨b, o + pc * 6 + 4, none⟩ = some (.int .i64 xo) ∧ w'.cell? ⟨b, o + pc * 6 + 5, none⟩ = some (.int .i64 xi))
    (((try dsimp only); (try go_split_ands); (repeat' apply And.intro); all_goals (repeat (first | with_reducible assumption | (with_reducible refine cell_set (by omega) ?_) | (with_reducible refine cell_alloc (by omega) ?_) | (with_reducible refine cell_drew ?_))))) (fail)
  obtain ⟨w2, hw2⟩ : ∃ w2, w2 = (w1.alloc (.cells #[.int .i64 2, .int .i64 A, .int .i64 Bq, .int .i64 C, .int .i64 xo, .int .i64 xi] 50)).drew := ⟨_, rfl⟩
  rw [← hw2]
  have F2 := Lib.hid (show Fm (CoMod q g1 g2 g3) w w2 [MCells (some ⟨b, o, none⟩) cn cc dn ua un uc, [.pointer (some ⟨q, 0, none⟩)], EvCells ev0] by rw [hw2]; exact (F1.out.more _).drew)
  have X2 := Lib.hid (show Has w2 w1.heap.size (ICells ⟨2, A, Bq, C, xo, xi⟩) by rw [hw2]; exact (Has.new w1 (ICells ⟨2, A, Bq, C, xo, xi⟩) 50).drew)
  have S2 := Lib.hid (show w2.heap.size = w1.heap.size + 1 by rw [hw2]; simp)
  have Q2 := Lib.hid (show Has w2 q (CoCells (some ⟨g1, 0, none⟩) 8 c1 (some ⟨g2, 0, none⟩) dn c2 (some ⟨g3, 0, none⟩) 4 c3 pc en) by rw [hw2]; exact (Q1.out.old (by omega)).drew)
  have O2 := Lib.hid (show CoOwn B w2 g1 c1 g2 c2 g3 c3 8 dn 4 regs data held by rw [hw2]; exact (O1.out.below ((Below.refl _ _).alloc (Nat.le_refl _) _)).drew)
  clear hw2 b0 b1 b2 b3 b4 b5 m0 p0 x3
  have x3 := Q2.out.cell 3 _ rfl
  have p0 := F2.out.h1.cell 0 _ rfl
  have lq2 := Q2.out.lt (by simp)
  have lp2 := F2.out.h1.lt (by simp)
  have y0 := X2.out.cell 0 _ rfl
  have ly := X2.out.lt (by simp)
  go_upto_block 0 with fail
  obtain ⟨w3, hw3⟩ : ∃ w3, w3 = (w2.alloc (.cells #[.int .i64 (pc : Int), .int .i64 (-1), .bool false] 39)).alloc (.cells #[WRF w1.heap.size (w.heap.size + 1)] 116) := ⟨_, rfl⟩
  rw [← hw3]
  have W3 := Lib.hid (show NW w (MCells (some ⟨b, o, none⟩) cn cc dn ua un uc) B q g1 c1 g2 c2 g3 c3 dn w1.heap.size w2.heap.size (w2.heap.size + 1) ⟨2, A, Bq, C, xo, xi⟩ ⟨pc, -1, false⟩ ⟨regs, data, held, pc, en⟩ w3 by
    have z1 := SZ.out; have z2 := S2.out
    rw [hw3]
    exact ⟨(F2.out.more _).more _, (X2.out.old ly).old (by simp; omega), (Has.new w2 (EvCells ⟨pc, -1, false⟩) 39).old (by simp), (Has.new (w2.alloc (.cells #[.int .i64 (pc : Int), .int .i64 (-1), .bool false] 39)) [WRF w1.heap.size (w.heap.size + 1)] 116).at' (by simp), (Q2.out.old lq2).old (by simp; omega), (O2.out.below ((Below.refl _ _).alloc (Nat.le_refl _) _)).below ((Below.refl _ _).alloc (Nat.le_refl _) _), ⟨hq0, hg1, hg2, hg3⟩, HG.out, by omega, by omega, by omega⟩)
  have z1 : w.heap.size + 3 ≤ w1.heap.size ∧ w1.heap.size < w2.heap.size := by have z1 := SZ.out; have z2 := S2.out; omega
  generalize w1.heap.size = wi at W3 z1 ⊢
  generalize w2.heap.size = wv at W3 z1 ⊢
  obtain ⟨z1, z2⟩ := z1
  obtain ⟨wf, hwf⟩ : ∃ wf, wf = wv + 1 := ⟨_, rfl⟩
  rw [← hwf] at W3 ⊢
  have z3 : wv < wf := by omega
  clear hwf hw3 x3 p0 lq2 lp2 y0 ly lw1 lw2 lq1 lb1 F1 Q1 O1 SZ BB F2 X2 S2 Q2 O2 HQ HO HX lb hKb hxi HG
  have HE := Lib.hid (show evP ⟨2, A, Bq, C, xo, xi⟩ dn ⟨regs, data, held, pc, en⟩ = .inr (⟨pc, -1, false⟩, (pc : Int) + 1) by unfold evP; dsimp only; rw [if_neg (by omega), if_neg (by omega), if_neg (by omega), if_neg (by omega), if_neg (by omega)])
  have HN0 := Lib.hid (show ¬ (cn : Int) ≤ (pc : Int) from by omega)
  by_cases hn : (cn : Int) ≤ (pc : Int) + 1
  · have y0 := W3.out.ins.cell 0 _ rfl; have y1 := W3.out.ins.cell 1 _ rfl; have y2 := W3.out.ins.cell 2 _ rfl; have y3 := W3.out.ins.cell 3 _ rfl; have y4 := W3.out.ins.cell 4 _ rfl; have y5 := W3.out.ins.cell 5 _ rfl
    have x0 := W3.out.core.cell 0 _ rfl; have x1 := W3.out.core.cell 1 _ rfl; have x2 := W3.out.core.cell 2 _ rfl; have x3 := W3.out.core.cell 3 _ rfl; have x4 := W3.out.core.cell 4 _ rfl; have xf := W3.out.core.free
    have v0 := W3.out.ev.cell 0 _ rfl; have v1 := W3.out.ev.cell 1 _ rfl; have v2 := W3.out.ev.cell 2 _ rfl; have vf := W3.out.ev.free
    have m0 := W3.out.fm.h0.cell 0 _ rfl; have m1 := W3.out.fm.h0.cell 1 _ rfl; have p0 := W3.out.fm.h1.cell 0 _ rfl
    have r0 := W3.out.fm.h2.cell 0 _ rfl; have r1 := W3.out.fm.h2.cell 1 _ rfl; have r2 := W3.out.fm.h2.cell 2 _ rfl; have rf := W3.out.fm.h2.free
    have f0 := W3.out.fn.cell 0 _ rfl
    go_wp2
    refine bodyPost_ret (v := .tuple #[EvV ev0, .int .i64 12]) (by simp [results, Try.results37, go_sem, r0, r1, r2]) rfl (next_err (by unfold stepP; rw [HE.out]; exact if_pos hn) rfl ?_)
    exact (((W3.out.se.res2 0 (.int .i64 0)).res2 1 (.int .i64 0)).res2 2 (.bool false))
  · have HN := Lib.hid hn
    have y0 := W3.out.ins.cell 0 _ rfl; have y1 := W3.out.ins.cell 1 _ rfl; have y2 := W3.out.ins.cell 2 _ rfl; have y3 := W3.out.ins.cell 3 _ rfl; have y4 := W3.out.ins.cell 4 _ rfl; have y5 := W3.out.ins.cell 5 _ rfl
    have x0 := W3.out.core.cell 0 _ rfl; have x1 := W3.out.core.cell 1 _ rfl; have x2 := W3.out.core.cell 2 _ rfl; have x3 := W3.out.core.cell 3 _ rfl; have x4 := W3.out.core.cell 4 _ rfl; have xf := W3.out.core.free
    have v0 := W3.out.ev.cell 0 _ rfl; have v1 := W3.out.ev.cell 1 _ rfl; have v2 := W3.out.ev.cell 2 _ rfl; have vf := W3.out.ev.free
    have m0 := W3.out.fm.h0.cell 0 _ rfl; have m1 := W3.out.fm.h0.cell 1 _ rfl; have p0 := W3.out.fm.h1.cell 0 _ rfl
    have r0 := W3.out.fm.h2.cell 0 _ rfl; have r1 := W3.out.fm.h2.cell 1 _ rfl; have r2 := W3.out.fm.h2.cell 2 _ rfl; have rf := W3.out.fm.h2.free
    have f0 := W3.out.fn.cell 0 _ rfl
    go_wp2_with fail
    refine Calls.mono (done4_any w (MCells (some ⟨b, o, none⟩) cn cc dn ua un uc) B q g1 c1 g2 c2 g3 c3 dn wi wv wf A Bq C xo xi 2 ⟨pc, -1, false⟩ ⟨regs, data, held, pc, en⟩ w3 hA8 hB8 W3.out H0.out) ?_
    rintro e w7 ⟨rfl, hs⟩
    have S7 := Lib.hid hs
    clear hs y0 y1 y2 y3 y4 y5 x0 x1 x2 x3 x4 xf v0 v1 v2 vf m0 m1 p0 r0 r1 r2 rf f0
    have p0 := S7.out.fm.h1.cell 0 _ rfl; have x3 := S7.out.core.cell 3 _ rfl; have xf := S7.out.core.free
    go_upto_region 41 with fail
    obtain ⟨w8, hw8⟩ : ∃ w8, w8 = w7.setCell ⟨q, 3, none⟩ (.int .i64 ((pc : Int) + 1)) := ⟨_, rfl⟩
    rw [← hw8]
    have S8 := Lib.hid (show NW w (MCells (some ⟨b, o, none⟩) cn cc dn ua un uc) B q g1 c1 g2 c2 g3 c3 dn wi wv wf ⟨2, A, Bq, C, xo, xi⟩ ⟨pc, -1, false⟩ ⟨(regs.set A (rAt regs Bq)).set 0 0, data, held, (pc : Int) + 1, en⟩ w8 by rw [hw8]; exact S7.out.setPC _)
    clear hw8 p0 x3 xf
    have y0 := S8.out.ins.cell 0 _ rfl; have y1 := S8.out.ins.cell 1 _ rfl; have y2 := S8.out.ins.cell 2 _ rfl; have y3 := S8.out.ins.cell 3 _ rfl; have y4 := S8.out.ins.cell 4 _ rfl; have y5 := S8.out.ins.cell 5 _ rfl
    have x0 := S8.out.core.cell 0 _ rfl; have x1 := S8.out.core.cell 1 _ rfl; have x2 := S8.out.core.cell 2 _ rfl; have x3 := S8.out.core.cell 3 _ rfl; have x4 := S8.out.core.cell 4 _ rfl; have xf := S8.out.core.free
    have v0 := S8.out.ev.cell 0 _ rfl; have v1 := S8.out.ev.cell 1 _ rfl; have v2 := S8.out.ev.cell 2 _ rfl; have vf := S8.out.ev.free
    have m0 := S8.out.fm.h0.cell 0 _ rfl; have m1 := S8.out.fm.h0.cell 1 _ rfl; have p0 := S8.out.fm.h1.cell 0 _ rfl
    have r0 := S8.out.fm.h2.cell 0 _ rfl; have r1 := S8.out.fm.h2.cell 1 _ rfl; have r2 := S8.out.fm.h2.cell 2 _ rfl; have rf := S8.out.fm.h2.free
    have f0 := S8.out.fn.cell 0 _ rfl
    go_wp2
    refine bodyPost_ret (v := .tuple #[EvV ⟨pc, -1, false⟩, .int .i64 0]) (by simp [results, Try.results37, go_sem, r0, r1, r2]) rfl (next_ok (show stepP ⟨2, A, Bq, C, xo, xi⟩ cn dn ⟨regs, data, held, pc, en⟩ = .inr (⟨pc, -1, false⟩, ⟨(regs.set A (rAt regs Bq)).set 0 0, data, held, (pc : Int) + 1, en⟩) by unfold stepP; rw [HE.out]; dsimp only; rw [if_neg (by have := HN.out; omega)]; simp [effR, effD, effH]) rfl ?_)
    exact ((((S8.out).se.res2 0 (Value.int .i64 (pc : Int))).res2 1 (Value.int .i64 (-1))).res2 2 (Value.bool false))
end Go.Proofs.Ytonbmijhbbodnaa
