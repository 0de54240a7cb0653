/-
  timeboundlaw21.MachineRaw returns true, whatever its list, its core and its number are. No condition.
-/
import Derived.Deep.CutBlock
import Derived.Deep.DeepCutAuto
import Derived.Test.YtonbmijhbbodnaaMsM
import Derived.Test.YtonbmijhbbodnaaMsO
import Derived.Test.YtonbmijhbbodnaaZMsP
import Derived.Test.YtonbmijhbbodnaaZMsV
import Derived.Test.YtonbmijhbbodnaaZOpen
import Derived.Test.YtonbmijhbbodnaaZImG
namespace Go.Proofs.Ytonbmijhbbodnaa
open Go.RowKit

set_option maxHeartbeats 1000000 in
theorem rfew_any (a : Option Addr) (len cap : Nat) (w : World) (h : len ≤ 9223372036854775807) :
    (len ≤ 400 → Calls Try.prog 8 #[.slice a len cap] w fun e w' => e = .returned (.bool true) ∧ Below w.heap.size w w') ∧
    (¬ len ≤ 400 → Calls Try.prog 8 #[.slice a len cap] w fun e w' => e = .returned (.bool false) ∧ Below w.heap.size w w') := by
  constructor
  all_goals
    intro hl
    go_enter Try.func8, Try.ntmps8
    go_wp2
    go_ret
    exact ⟨ret_b (by simp; omega), Below.refl _ _⟩
set_option maxRecDepth 100000 in
set_option maxHeartbeats 16000000 in
theorem mcRaw_law (a0 : Option Addr) (len0 cap0 : Nat) (z0 : List Int) (ra : Option Addr) (rn rc : Nat) (regs : List Int) (da : Option Addr) (dn dc : Nat) (data : List Int) (ha : Option Addr) (hn hc : Nat) (held : List Bool) (pc : Int) (en : Bool) (a2 : Int)
    (wpc : (Lit.int .i64 pc).wf = true) (w2f : (Lit.int .u8 a2).wf = true) (w : World) (w0 : IsRow .i64 w a0 len0 cap0 z0) (g0 : Row RInt 1 All w ra rn rc regs) (g1 : Row RInt 1 All w da dn dc data) (g2 : hn ≤ 140737488351232) (g3 : hn ≤ 17592186044416 → Row RBo 1 All w ha hn hc held) :
    Calls Try.prog 4 #[.slice a0 len0 cap0, CoV ra rn rc da dn dc ha hn hc pc en, .int .u8 a2] w fun e w' => e = .returned (.bool true) ∧ Below w.heap.size w w' := by
  have hl0 := w0.lens
  have hP : -9223372036854775808 ≤ pc ∧ pc ≤ 9223372036854775807 := by simpa [Lit.wf, IntKind.min, IntKind.max, IntKind.signed, IntKind.bits] using wpc
  have hB : 0 ≤ a2 ∧ a2 ≤ 255 := by simpa [Lit.wf, IntKind.min, IntKind.max, IntKind.signed, IntKind.bits] using w2f
  obtain ⟨B0, B1⟩ := hB
  have HP := Lib.hid (show I64 pc from hP)
  have hrs := g0.hsz
  have hds := g1.hsz
  have W0 := Lib.hid w0; have G0 := Lib.hid g0; have G1 := Lib.hid g1; have G3 := Lib.hid g3
  clear wpc w2f w0 g0 g1 g3 hP
  have F0 := Lib.hid (Fm.new (Fm.start Non w) rfl (CoCells ra rn rc da dn dc ha hn hc pc en) 36)
  have e1 : IntKind.i64.wrap ((rn : Int) + (dn : Int)) = (rn : Int) + (dn : Int) := Go.IntWalk.i64_in _ ⟨by omega, by omega⟩
  have e2 : IntKind.i64.wrap ((rn : Int) + (dn : Int) + (hn : Int)) = (rn : Int) + (dn : Int) + (hn : Int) := Go.IntWalk.i64_in _ ⟨by omega, by omega⟩
  go_enter Try.func4, Try.ntmps4
  go_upto_region 1 with fail
  obtain ⟨w1, hw1⟩ : ∃ w1, w1 = w.alloc (.cells #[.slice ra rn rc, .slice da dn dc, .slice ha hn hc, .int .i64 pc, .bool en] 36) := ⟨_, rfl⟩
  rw [← hw1]
  have F1 := Lib.hid (show Fm Non w w1 [CoCells ra rn rc da dn dc ha hn hc pc en] by rw [hw1]; exact F0.out)
  clear hw1 F0
  by_cases hf : len0 ≤ 400
  · have FEW := Lib.hid (fun s : World => (rfew_any a0 len0 cap0 s hl0).1 hf)
    go_wp2_with fail
    refine (FEW.out _).mono ?_
    rintro e w2 ⟨rfl, hb⟩
    have F2 := Lib.hid (Fm.call hb F1.out)
    clear hb FEW F1 hf
    have x0 := F2.out.h0.cell 0 _ rfl; have x1 := F2.out.h0.cell 1 _ rfl; have x2 := F2.out.h0.cell 2 _ rfl
    by_cases hs : 2000 < (rn : Int) + (dn : Int) + (hn : Int)
    · go_wp2_with fail
      refine (mawake_any _).mono ?_
      rintro e u6 ⟨rfl, hb⟩
      go_wp2
      go_ret
      exact ⟨rfl, F2.out.below.trans (hb.mono F2.out.below.size)⟩
    · have HS := Lib.hid (show rn + dn + hn ≤ 2000 by omega)
      go_upto_region 3 with fail
      clear x0 x1 x2 e1 e2 hs hrs hds g2
      have G := Lib.hid (show IsCo All w ra rn rc da dn dc ha hn hc ⟨regs, data, held, pc, en⟩ from ⟨G0.out, G1.out, G3.out (by have := HS.out; omega), HP.out⟩)
      clear G0 G1 G3 HP
      have W2 := Lib.hid (show IsRow .i64 w2 a0 len0 cap0 z0 from W0.out.block (fun x hx hl => F2.out.below.block x.block hl))
      go_wp2_with fail
      refine (new_any a0 len0 cap0 z0 w2 W2.out).mono ?_
      rintro e w3 ⟨rfl, hd3, hb3⟩
      have D3 := Lib.hid hd3; have F3 := Lib.hid (Fm.call hb3 F2.out); have L3 := Lib.hid hd3.lt
      have ZD := Lib.hid (show w.heap.size + 1 ≤ w2.heap.size by have := F2.out.size; simpa using this)
      clear hd3 hb3 F2 W2 W0
      obtain ⟨d, hd⟩ : ∃ d, d = w2.heap.size := ⟨_, rfl⟩
      rw [← hd] at D3 L3 ZD ⊢
      clear hd
      go_wp2_with fail
      refine (straight_any d w3 D3.out).mono ?_
      rintro e w4 ⟨ca, cc, bu, n, code, nds, rfl, hn2, hn13, sok, him, hd4, hb4⟩
      have F4 := Lib.hid (Fm.chgd (N := fun k => k = d) ⟨hb4.os, hb4.tape, hb4.output, hb4.size, fun k hk hm => hb4.block k hk hm⟩ F3.out (fun k hk => .inr (by have := ZD.out; simp; omega)))
      have SO := Lib.hid sok; have IM := Lib.hid him
      clear hd4 hb4 sok him D3 F3
      have LB := Lib.hid (show w3.heap.size + 3 ≤ w4.heap.size from by
        obtain ⟨ub, uo, u, s, na, nl, nc, -, hu, hK, lub, -, -⟩ := UnL.get IM.out.units (i := 0) (by omega)
        unfold Ge at hK
        omega)
      have hn1000 : n ≤ 1000 := by omega
      have LIM := Lib.hid (st_limit SO.out hn1000)
      have UN := Lib.hid (st_units SO.out hn1000)
      have GD := Lib.hid (st_good SO.out)
      go_upto_if 36 with fail
      obtain ⟨w5, hw5⟩ : ∃ w5, w5 = w4.alloc (.cells #[.slice ca (n + 1) cc, .int .i64 6, NIL, .slice (some ⟨bu, 0, none⟩) 1 1] 31) := ⟨_, rfl⟩
      rw [← hw5]
      have B5 := Lib.hid (show Below w4.heap.size w4 w5 by rw [hw5]; exact (Below.refl _ _).alloc (Nat.le_refl _) _)
      have M5 := Lib.hid (show Has w5 w4.heap.size (MCells ca (n + 1) cc 6 (some ⟨bu, 0, none⟩) 1 1) by rw [hw5]; exact Has.new w4 (MCells ca (n + 1) cc 6 (some ⟨bu, 0, none⟩) 1 1) 31)
      have I5 := Lib.hid (IM.out.nar.below B5.out)
      have F5 := Lib.hid (Fm.call B5.out F4.out)
      have L4 := Lib.hid (show w.heap.size + 1 ≤ w4.heap.size by have := F4.out.size; simpa using this)
      clear hw5 B5 IM F4
      obtain ⟨mq, hmq⟩ : ∃ mq, mq = w4.heap.size := ⟨_, rfl⟩
      rw [← hmq] at M5 I5 L4 LB ⊢
      clear hmq
      go_cut [] (fun wx => ∃ (ua : Option Addr) (un uc : Nat) (units : List (List Nd)), Fm Non w wx [CoCells ra rn rc da dn dc ha hn hc pc en] ∧ Has wx mq (MCells ca (n + 1) cc 6 ua un uc) ∧ IsImg (Nar (Ge (w3.heap.size + 3)) mq) wx ca (n + 1) cc 6 ua un uc ⟨code ++ [iEnd], 6, units⟩ ∧ ¬ Limit ⟨code ++ [iEnd], 6, units⟩ ∧ (UnitsOk (code ++ [iEnd]) 6 0 units ∨ units = [] ∧ code ++ [iEnd] ≠ []))
      case first =>
        have m3 := M5.out.cell 3 _ rfl
        have mf := M5.out.free 3
        by_cases h2 : 220 < a2
        · go_wp2_with fail
          go_meet
          have L4' := L4.out
          refine ⟨none, 0, 0, [], F5.out.far (.inr (by simp; omega)) _, M5.out.set (k := 3) (by simp) _, ?_, ?_, .inr ⟨rfl, by simp⟩⟩
          · have J := I5.out.chgN (M := fun k => k = mq) (Chg.setCell (M := fun k => k = mq) (p := ⟨mq, 3, none⟩) (Chg.refl w5) (fun _ => rfl) (.slice none 0 0)) (fun k hk e => by have := hk.2; omega)
            exact ⟨J.code, J.data, J.dI, Row.nil _ _ _ _ _ (by decide)⟩
          · have hcl : (code ++ [iEnd]).length = n + 1 := by simp [SO.out.lc]
            intro hL
            unfold Limit at hL
            simp only [hcl, List.length_nil] at hL
            omega
        · go_wp2_with fail
          go_meet
          exact ⟨_, _, _, _, F5.out, M5.out, I5.out, LIM.out, .inl UN.out⟩
      case rest =>
        obtain ⟨ua, un, uc, units, hf6, hm6, hi6, hl6, hu6⟩ := hcut
        have F6 := Lib.hid hf6; have M6 := Lib.hid hm6; have I6 := Lib.hid hi6; have LI := Lib.hid hl6; have UU := Lib.hid hu6
        clear hf6 hm6 hi6 hl6 hu6 F5 M5 I5 LIM UN
        obtain ⟨wt, rfl⟩ : ∃ wt : World, wt = wc := ⟨_, rfl⟩
        have LN := Lib.hid (show rn ≤ 1000000 ∧ dn ≤ 1000000 ∧ hn ≤ 1000000 by have := HS.out; omega)
        have m0 := M6.out.cell 0 _ rfl; have m1 := M6.out.cell 1 _ rfl; have m2 := M6.out.cell 2 _ rfl; have m3 := M6.out.cell 3 _ rfl
        have x0 := F6.out.h0.cell 0 _ rfl; have x1 := F6.out.h0.cell 1 _ rfl; have x2 := F6.out.h0.cell 2 _ rfl; have x3 := F6.out.h0.cell 3 _ rfl; have x4 := F6.out.h0.cell 4 _ rfl
        go_wp2_with fail
        refine Calls.mono (mStep_any (Nar (Ge (w3.heap.size + 3)) mq) All ca (n + 1) cc 6 ua un uc ⟨code ++ [iEnd], 6, units⟩ ra rn rc da dn dc ha hn hc ⟨regs, data, held, pc, en⟩ wt I6.out (G.out.below F6.out.below) (by show (0 : Int) < 6; decide) LI.out GD.out UU.out LN.out.1 LN.out.2.1 LN.out.2.2) ?_
        rintro e u1 ⟨pa, pn, pc_, pda, pdn, pdc, pha, phn, phc, ⟨pr, pd, ph, ppc, pe⟩, ⟨va, vd, vj⟩, er, rfl, hst, hpco, hb⟩
        have F7 := Lib.hid (Fm.call hb F6.out)
        have M7 := Lib.hid (M6.out.below hb (M6.out.lt (by simp)))
        have I7 := Lib.hid (I6.out.below hb)
        have P1 := Lib.hid hpco; have ST := Lib.hid hst
        clear hb hst hpco m0 m1 m2 m3 x0 x1 x2 x3 x4 F6 M6 I6
        go_upto_region 7 with fail
        obtain ⟨u2, hu2⟩ : ∃ u2, u2 = (u1.alloc (.cells #[.slice pa pn pc_, .slice pda pdn pdc, .slice pha phn phc, .int .i64 ppc, .bool pe] 36)).alloc (.cells #[.int .i64 va, .int .i64 vd, .bool vj] 39) := ⟨_, rfl⟩
        rw [← hu2]
        have BB := Lib.hid (show Below u1.heap.size u1 u2 by rw [hu2]; exact ((Below.refl _ _).alloc (Nat.le_refl _) _).alloc (by simp) _)
        have P2 := Lib.hid (show Has u2 u1.heap.size (CoCells pa pn pc_ pda pdn pdc pha phn phc ppc pe) by rw [hu2]; exact (Has.new u1 (CoCells pa pn pc_ pda pdn pdc pha phn phc ppc pe) 36).old (by simp))
        have V2 := Lib.hid (show Has u2 (u1.heap.size + 1) (EvCells ⟨va, vd, vj⟩) by rw [hu2]; exact (Has.new (u1.alloc _) (EvCells ⟨va, vd, vj⟩) 39).at' (by simp))
        have F8 := Lib.hid (Fm.call BB.out F7.out)
        have M8 := Lib.hid (M7.out.below BB.out (M7.out.lt (by simp)))
        have I8 := Lib.hid (I7.out.below BB.out)
        have Q2 := Lib.hid (P1.out.below BB.out)
        clear hu2 BB P1 F7 M7 I7
        generalize u1.heap.size = yp at P2 V2 ⊢
        have m0 := M8.out.cell 0 _ rfl; have m1 := M8.out.cell 1 _ rfl; have m2 := M8.out.cell 2 _ rfl; have m3 := M8.out.cell 3 _ rfl
        have x0 := F8.out.h0.cell 0 _ rfl; have x1 := F8.out.h0.cell 1 _ rfl; have x2 := F8.out.h0.cell 2 _ rfl; have x3 := F8.out.h0.cell 3 _ rfl; have x4 := F8.out.h0.cell 4 _ rfl
        go_wp2_with fail
        refine Calls.mono (rStep_any (Nar (Ge (w3.heap.size + 3)) mq) All ca (n + 1) cc 6 ua un uc ⟨code ++ [iEnd], 6, units⟩ ra rn rc da dn dc ha hn hc ⟨regs, data, held, pc, en⟩ u2 I8.out (G.out.below F8.out.below) (by show (0 : Int) < 6; decide)) ?_
        rintro e u3 ⟨qa, qn, qc, qda, qdn, qdc, qha, qhn, qhc, dq, vq, fr, rfl, hst2, hqco, hb⟩
        obtain ⟨hdq, hvq, hfr⟩ := StepIs.same hst2 ST.out
        subst hdq hvq
        have hfr := hfr.symm
        subst hfr
        have F9 := Lib.hid (Fm.call hb F8.out)
        have M9 := Lib.hid (M8.out.below hb (M8.out.lt (by simp)))
        have I9 := Lib.hid (I8.out.below hb)
        have P3 := Lib.hid (P2.out.below hb (P2.out.lt (by simp)))
        have V3 := Lib.hid (V2.out.below hb (V2.out.lt (by simp)))
        have Q3 := Lib.hid (Q2.out.below hb)
        have R3 := Lib.hid hqco
        clear hb hst2 hqco m0 m1 m2 m3 x0 x1 x2 x3 x4 F8 M8 I8 P2 V2 Q2
        go_upto_region 8 with fail
        obtain ⟨u4, hu4⟩ : ∃ u4, u4 = (u3.alloc (.cells #[.slice qa qn qc, .slice qda qdn qdc, .slice qha qhn qhc, .int .i64 ppc, .bool pe] 36)).alloc (.cells #[.int .i64 va, .int .i64 vd, .bool vj] 39) := ⟨_, rfl⟩
        rw [← hu4]
        have BB := Lib.hid (show Below u3.heap.size u3 u4 by rw [hu4]; exact ((Below.refl _ _).alloc (Nat.le_refl _) _).alloc (by simp) _)
        have S4 := Lib.hid (show Has u4 u3.heap.size (CoCells qa qn qc qda qdn qdc qha qhn qhc ppc pe) by rw [hu4]; exact (Has.new u3 (CoCells qa qn qc qda qdn qdc qha qhn qhc ppc pe) 36).old (by simp))
        have W4 := Lib.hid (show Has u4 (u3.heap.size + 1) (EvCells ⟨va, vd, vj⟩) by rw [hu4]; exact (Has.new (u3.alloc _) (EvCells ⟨va, vd, vj⟩) 39).at' (by simp))
        have FA := Lib.hid (Fm.call BB.out F9.out)
        have MA := Lib.hid (M9.out.below BB.out (M9.out.lt (by simp)))
        have IA := Lib.hid (I9.out.below BB.out)
        have P4 := Lib.hid (P3.out.below BB.out (P3.out.lt (by simp)))
        have V4 := Lib.hid (V3.out.below BB.out (V3.out.lt (by simp)))
        have Q4 := Lib.hid (Q3.out.below BB.out)
        have R4 := Lib.hid (R3.out.below BB.out)
        clear hu4 BB F9 M9 I9 P3 V3 Q3 R3
        obtain ⟨yq, hyq⟩ : ∃ yq, yq = u3.heap.size := ⟨_, rfl⟩
        rw [← hyq] at S4 W4 ⊢
        clear hyq
        obtain ⟨vb, hvb⟩ : ∃ b : Bool, b = true ↔ CoOk ⟨code ++ [iEnd], 6, units⟩ ⟨regs, data, held, pc, en⟩ := by
          by_cases h : CoOk ⟨code ++ [iEnd], 6, units⟩ ⟨regs, data, held, pc, en⟩
          · exact ⟨true, by simp [h]⟩
          · exact ⟨false, by simp [h]⟩
        have CS := Lib.hid (show ∀ s : BelowW u4, Calls Try.prog 16 #[CoV pa pn pc_ pda pdn pdc pha phn phc ppc pe, CoV qa qn qc qda qdn qdc qha qhn qhc ppc pe] s.world fun e w' => e = .returned (.bool true) ∧ Below s.world.heap.size s.world w' from
          fun s => csame_any _ _ pa pn pc_ pda pdn pdc pha phn phc qa qn qc qda qdn qdc qha qhn qhc ⟨pr, pd, ph, ppc, pe⟩ s.world (Q4.out.below s.ok) (R4.out.below s.ok))
        have VA := Lib.hid (show ∀ s : BelowW u4, Calls Try.prog 17 #[MV ca (n + 1) cc 6 ua un uc, CoV ra rn rc da dn dc ha hn hc pc en] s.world fun e w' => e = .returned (.bool vb) ∧ Below s.world.heap.size s.world w' from
          fun s => (mvalid_any _ _ ca (n + 1) cc 6 ua un uc ⟨code ++ [iEnd], 6, units⟩ ra rn rc da dn dc ha hn hc ⟨regs, data, held, pc, en⟩ s.world (IA.out.below s.ok) ((G.out.below FA.out.below).below s.ok)).mono (by
            rintro e w' ⟨b, rfl, hb, hbb⟩
            exact ⟨by rw [show b = vb from Bool.eq_iff_iff.2 (hb.trans hvb.symm)], hbb⟩))
        have VR := Lib.hid (show ∀ s : BelowW u4, Calls Try.prog 18 #[MV ca (n + 1) cc 6 ua un uc, CoV ra rn rc da dn dc ha hn hc pc en] s.world fun e w' => e = .returned (.bool vb) ∧ Below s.world.heap.size s.world w' from
          fun s => (rvalid_any _ _ ca (n + 1) cc 6 ua un uc ⟨code ++ [iEnd], 6, units⟩ ra rn rc da dn dc ha hn hc ⟨regs, data, held, pc, en⟩ s.world (IA.out.below s.ok) ((G.out.below FA.out.below).below s.ok)).mono (by
            rintro e w' ⟨b, rfl, hb, hbb⟩
            exact ⟨by rw [show b = vb from Bool.eq_iff_iff.2 (hb.trans hvb.symm)], hbb⟩))
        have AW := Lib.hid (fun s : BelowW u4 => mawake_any s.world)
        clear hvb
        have hm4 := MA.out; have hc4 := FA.out.h0
        have m0 := fun s : BelowW u4 => (hm4.every (hm4.lt (by simp)) s).cell 0 _ rfl
        have m1 := fun s : BelowW u4 => (hm4.every (hm4.lt (by simp)) s).cell 1 _ rfl
        have m2 := fun s : BelowW u4 => (hm4.every (hm4.lt (by simp)) s).cell 2 _ rfl
        have m3 := fun s : BelowW u4 => (hm4.every (hm4.lt (by simp)) s).cell 3 _ rfl
        have x0 := fun s : BelowW u4 => (hc4.every (hc4.lt (by simp)) s).cell 0 _ rfl
        have x1 := fun s : BelowW u4 => (hc4.every (hc4.lt (by simp)) s).cell 1 _ rfl
        have x2 := fun s : BelowW u4 => (hc4.every (hc4.lt (by simp)) s).cell 2 _ rfl
        have x3 := fun s : BelowW u4 => (hc4.every (hc4.lt (by simp)) s).cell 3 _ rfl
        have x4 := fun s : BelowW u4 => (hc4.every (hc4.lt (by simp)) s).cell 4 _ rfl
        have p0 := fun s : BelowW u4 => (P4.out.every (P4.out.lt (by simp)) s).cell 0 _ rfl
        have p1 := fun s : BelowW u4 => (P4.out.every (P4.out.lt (by simp)) s).cell 1 _ rfl
        have p2 := fun s : BelowW u4 => (P4.out.every (P4.out.lt (by simp)) s).cell 2 _ rfl
        have p3 := fun s : BelowW u4 => (P4.out.every (P4.out.lt (by simp)) s).cell 3 _ rfl
        have p4 := fun s : BelowW u4 => (P4.out.every (P4.out.lt (by simp)) s).cell 4 _ rfl
        have s0 := fun s : BelowW u4 => (S4.out.every (S4.out.lt (by simp)) s).cell 0 _ rfl
        have s1 := fun s : BelowW u4 => (S4.out.every (S4.out.lt (by simp)) s).cell 1 _ rfl
        have s2 := fun s : BelowW u4 => (S4.out.every (S4.out.lt (by simp)) s).cell 2 _ rfl
        have s3 := fun s : BelowW u4 => (S4.out.every (S4.out.lt (by simp)) s).cell 3 _ rfl
        have s4 := fun s : BelowW u4 => (S4.out.every (S4.out.lt (by simp)) s).cell 4 _ rfl
        have v0 := fun s : BelowW u4 => (V4.out.every (V4.out.lt (by simp)) s).cell 0 _ rfl
        have v1 := fun s : BelowW u4 => (V4.out.every (V4.out.lt (by simp)) s).cell 1 _ rfl
        have v2 := fun s : BelowW u4 => (V4.out.every (V4.out.lt (by simp)) s).cell 2 _ rfl
        have t0 := fun s : BelowW u4 => (W4.out.every (W4.out.lt (by simp)) s).cell 0 _ rfl
        have t1 := fun s : BelowW u4 => (W4.out.every (W4.out.lt (by simp)) s).cell 1 _ rfl
        have t2 := fun s : BelowW u4 => (W4.out.every (W4.out.lt (by simp)) s).cell 2 _ rfl
        clear hm4 hc4
        dsimp only at v0 v1 v2 t0 t1 t2
        have qe : (er == er) = true := by simp
        have qa_ : (va == va) = true := by simp
        have qd_ : (vd == vd) = true := by simp
        have qj_ : (vj == vj) = true := by simp
        have qv_ : (vb == vb) = true := by simp
        refine wp_region_below (by kernel_rfl) (by kernel_rfl) ?_
        repeat (go_big_quiet_step ((first | (go_at_call 16; (with_reducible exact calls_below _ (CS.out _))) | (go_at_call 17; (with_reducible exact calls_below _ (VA.out _))) | (go_at_call 18; (with_reducible exact calls_below _ (VR.out _))) | (go_at_call 9; (with_reducible exact calls_below _ (AW.out _))))))
        refine wpQuiet_nil ?_
        rintro w9 ⟨s, rfl⟩
        obtain ⟨u5, ok5⟩ := s
        clear m0 m1 m2 m3 x0 x1 x2 x3 x4 p0 p1 p2 p3 p4 s0 s1 s2 s3 s4 v0 v1 v2 t0 t1 t2 CS VA VR
        dsimp only
        go_wp2
        go_ret
        exact ⟨rfl, FA.out.below.trans (ok5.mono FA.out.below.size)⟩
  · have FEW := Lib.hid (fun s : World => (rfew_any a0 len0 cap0 s hl0).2 hf)
    go_wp2_with fail
    refine (FEW.out _).mono ?_
    rintro e w2 ⟨rfl, hb⟩
    have F2 := Lib.hid (Fm.call hb F1.out)
    clear hb FEW F1
    go_wp2_with fail
    refine (mawake_any _).mono ?_
    rintro e u6 ⟨rfl, hb⟩
    go_wp2
    go_ret
    exact ⟨rfl, F2.out.below.trans (hb.mono F2.out.below.size)⟩
end Go.Proofs.Ytonbmijhbbodnaa
