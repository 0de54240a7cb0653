/-
  machine.Next for all kinds; machine.Step.
-/
import Derived.Deep.RegionHeld3
import Derived.Test.YtonbmijhbbodnaaZMsL0
import Derived.Test.YtonbmijhbbodnaaMsL3
import Derived.Test.YtonbmijhbbodnaaMsL4
import Derived.Test.YtonbmijhbbodnaaZMsL5
import Derived.Test.YtonbmijhbbodnaaZMsL7
import Derived.Test.YtonbmijhbbodnaaZMsL9
import Derived.Test.YtonbmijhbbodnaaMsE
import Derived.Test.YtonbmijhbbodnaaMsG
namespace Go.Proofs.Ytonbmijhbbodnaa
open Go.RowKit

theorem next_any_k (Kb : Nat → Prop) (ca : Option Addr) (cn cc : Nat) (ua : Option Addr) (un uc : Nat) (code : List Ins) (B q g1 c1 g2 c2 g3 c3 dn : Nat) (regs data : List Int) (held : List Bool) (en : Bool) (x : Ins) (pc : Nat) (w : World)
    (rc : InsL Kb w ca cn cc code) (hcn : cn ≤ 1024) (hx : code[pc]? = some x) (hch : chkI x = 0)
    (hq : Has w q (CoCells (some ⟨g1, 0, none⟩) 8 c1 (some ⟨g2, 0, none⟩) dn c2 (some ⟨g3, 0, none⟩) 4 c3 pc en)) (ho : CoOwn B w g1 c1 g2 c2 g3 c3 8 dn 4 regs data held)
    (hqg : q ≠ g1 ∧ q ≠ g2 ∧ q ≠ g3) (hd : dn ≤ 1024) (hwr : wds regs = true) (hwd : wds data = true) (h0 : regs[0]? = some 0) :
    Calls Try.prog 37 #[MV ca cn cc dn ua un uc, .pointer (some ⟨q, 0, none⟩)] w (NextRet x cn dn B q g1 c1 g2 c2 g3 c3 ⟨regs, data, held, pc, en⟩ w) := by
  obtain ⟨xk, xa, xb, xc, xo, xi⟩ := x
  have hk : kn xk = true := by
    unfold chkI at hch
    split at hch
    · assumption
    · omega
  rcases kn_cases hk with rfl | rfl | rfl | rfl | rfl | rfl | rfl | rfl | rfl | rfl | rfl
  · exact next_k0 Kb ca cn cc ua un uc code B q g1 c1 g2 c2 g3 c3 dn regs data held en xa xb xc xo xi pc w rc hcn hx hch hq ho hqg hd hwr hwd h0
  · exact next_k1 Kb ca cn cc ua un uc code B q g1 c1 g2 c2 g3 c3 dn regs data held en xa xb xc xo xi pc w rc hcn hx hch hq ho hqg hd hwr hwd h0
  · exact next_k2 Kb ca cn cc ua un uc code B q g1 c1 g2 c2 g3 c3 dn regs data held en xa xb xc xo xi pc w rc hcn hx hch hq ho hqg hd hwr hwd h0
  · exact next_k3 Kb ca cn cc ua un uc code B q g1 c1 g2 c2 g3 c3 dn regs data held en xa xb xc xo xi pc w rc hcn hx hch hq ho hqg hd hwr hwd h0
  · exact next_k4 Kb ca cn cc ua un uc code B q g1 c1 g2 c2 g3 c3 dn regs data held en xa xb xc xo xi pc w rc hcn hx hch hq ho hqg hd hwr hwd h0
  · exact next_k5 Kb ca cn cc ua un uc code B q g1 c1 g2 c2 g3 c3 dn regs data held en xa xb xc xo xi pc w rc hcn hx hch hq ho hqg hd hwr hwd h0
  · exact next_k6 Kb ca cn cc ua un uc code B q g1 c1 g2 c2 g3 c3 dn regs data held en xa xb xc xo xi pc w rc hcn hx hch hq ho hqg hd hwr hwd h0
  · exact next_k7 Kb ca cn cc ua un uc code B q g1 c1 g2 c2 g3 c3 dn regs data held en xa xb xc xo xi pc w rc hcn hx hch hq ho hqg hd hwr hwd h0
  · exact next_k8 Kb ca cn cc ua un uc code B q g1 c1 g2 c2 g3 c3 dn regs data held en xa xb xc xo xi pc w rc hcn hx hch hq ho hqg hd hwr hwd h0
  · exact next_k9 Kb ca cn cc ua un uc code B q g1 c1 g2 c2 g3 c3 dn regs data held en xa xb xc xo xi pc w rc hcn hx hch hq ho hqg hd hwr hwd h0
  · exact next_k10 Kb ca cn cc ua un uc code B q g1 c1 g2 c2 g3 c3 dn regs data held en xa xb xc xo xi pc w rc hcn hx hch hq ho hqg hd hwr hwd h0
theorem ints_i64 {K : Nat → Prop} {w : World} {a : Option Addr} {n c : Nat} {l : List Int} (r : Ints K w a n c l) : ∀ z ∈ l, I64 z := fun z hz => by
  obtain ⟨i, hi⟩ := List.getElem?_of_mem hz
  obtain ⟨b, o, _, _, _, h⟩ := r.row i z hi
  exact h.2
theorem stepR_mk {m : Img} {c : Co} {K : Nat → Prop} {w w' : World} {B : Nat} {ra : Option Addr} {rn rc : Nat} {da : Option Addr} {dn dc : Nat} {ha : Option Addr} {hn hc : Nat} {er : Int} {e : Ending} (t : Thr B w' ra rn rc da dn dc ha hn hc c) (h1 : ∀ z ∈ c.regs, I64 z) (h2 : ∀ z ∈ c.data, I64 z) (h3 : I64 c.pc) (hr : rn ≤ 1000000) (hd : dn ≤ 1000000) (hh : hn ≤ 1000000) (hB : w.heap.size ≤ B) (hs : StepIs m c c ev0 er) (hb : Below w.heap.size w w')
    (he : e = .returned (.tuple #[CoV ra rn rc da dn dc ha hn hc c.pc c.ended, EvV ev0, .int .i64 er])) : StepR m c K w e w' :=
  ⟨_, _, _, _, _, _, _, _, _, c, ev0, er, he, hs, t.isco h1 h2 h3 hr hd hh (fun j hj => .inr (by omega)), hb⟩
theorem CoOwn.chg {B : Nat} {w w' : World} {g1 c1 g2 c2 g3 c3 rn dn hn : Nat} {regs data : List Int} {held : List Bool} (h : CoOwn B w g1 c1 g2 c2 g3 c3 rn dn hn regs data held) {M : Nat → Prop} (hb : Chg M w w') (hM : ∀ k, B ≤ k → ¬ M k) : CoOwn B w' g1 c1 g2 c2 g3 c3 rn dn hn regs data held :=
  ⟨flat_of h.regs hb (fun k hk _ => hM k (by have := h.ge; omega)), flat_of h.data hb (fun k hk _ => hM k (by have := h.ge; have := h.lt1; omega)), flat_of h.held hb (fun k hk _ => hM k (by have := h.ge; have := h.lt1; have := h.lt2; omega)), h.ge, h.lt1, h.lt2⟩
theorem stepR_own {m : Img} {c d : Co} {K : Nat → Prop} {w w' : World} {B g1 c1 g2 c2 g3 c3 dn : Nat} {v : Ev} {er : Int} {e : Ending} (ho : CoOwn B w' g1 c1 g2 c2 g3 c3 8 dn 4 d.regs d.data d.held) (hB : w.heap.size ≤ B) (hr : wds d.regs = true) (hd : wds d.data = true) (hdn : dn ≤ 1024) (hp : I64 d.pc) (hs : StepIs m c d v er) (hb : Below w.heap.size w w')
    (he : e = .returned (.tuple #[CoV (some ⟨g1, 0, none⟩) 8 c1 (some ⟨g2, 0, none⟩) dn c2 (some ⟨g3, 0, none⟩) 4 c3 d.pc d.ended, EvV v, .int .i64 er])) : StepR m c K w e w' :=
  ⟨_, _, _, _, _, _, _, _, _, d, v, er, he, hs, ⟨flat_i64 ho.regs (wds_i64 hr) (by omega) (fun j hj => .inr (by have := ho.ge; omega)), flat_i64 ho.data (wds_i64 hd) (by omega) (fun j hj => .inr (by have := ho.ge; have := ho.lt1; omega)), flat_bools ho.held (by omega) (fun j hj => .inr (by have := ho.ge; have := ho.lt1; have := ho.lt2; omega)), hp⟩, hb⟩
set_option maxRecDepth 100000 in
set_option maxHeartbeats 16000000 in
theorem mStep_any (K K2 : Nat → Prop) (ca : Option Addr) (cn cc : Nat) (D : Int) (ua : Option Addr) (un uc : Nat) (m : Img) (ra : Option Addr) (rn rc : Nat) (da : Option Addr) (dn dc : Nat) (ha : Option Addr) (hn hc : Nat) (c : Co) (w : World)
    (h : IsImg K w ca cn cc D ua un uc m) (g : IsCo K2 w ra rn rc da dn dc ha hn hc c) (hD0 : 0 < m.data) (hl : ¬ Limit m) (hg : Good m.code) (hu : UnitsOk m.code m.data 0 m.units ∨ m.units = [] ∧ m.code ≠ []) (hr1 : rn ≤ 1000000) (hd1 : dn ≤ 1000000) (hh1 : hn ≤ 1000000) :
    Calls Try.prog 14 #[MV ca cn cc D ua un uc, CoV ra rn rc da dn dc ha hn hc c.pc c.ended] w (StepR m c K2 w) := by
  obtain ⟨regs, data, held, pc, en⟩ := c
  have F0 := Lib.hid (Fm.new (Fm.new (Fm.new (Fm.new (Fm.start Non w) rfl (MCells ca cn cc D ua un uc) 31) (by simp) (CoCells ra rn rc da dn dc ha hn hc pc en) 36) (by simp) ZC 36) (by simp) (EvCells ev0) 39)
  have H0 := Lib.hid h; have G0 := Lib.hid g; have HD0 := Lib.hid hD0; have HL := Lib.hid hl; have HG := Lib.hid hg; have HU := Lib.hid hu
  have RI := Lib.hid (ints_i64 g.regs); have DI := Lib.hid (ints_i64 g.data); have PI := Lib.hid g.pc
  clear h g hD0 hl hg hu
  go_enter Try.func14, Try.ntmps14
  go_upto_region 1 with fail
  obtain ⟨w1, hw1⟩ : ∃ w1, w1 = (((w.alloc (.cells #[.slice ca cn cc, .int .i64 D, NIL, .slice ua un uc] 31)).alloc (.cells #[.slice ra rn rc, .slice da dn dc, .slice ha hn hc, .int .i64 pc, .bool en] 36)).alloc (.cells #[NIL, NIL, NIL, .int .i64 0, .bool false] 36)).alloc (.cells #[.int .i64 0, .int .i64 0, .bool false] 39) := ⟨_, rfl⟩
  rw [← hw1]
  have F1 := Lib.hid (show Fm Non w w1 [MCells ca cn cc D ua un uc, CoCells ra rn rc da dn dc ha hn hc pc en, ZC, EvCells ev0] by rw [hw1]; exact F0.out)
  have WZ := Lib.hid (show w.heap.size + 4 ≤ w1.heap.size by have := F1.out.size; simpa using this)
  have WB := Lib.hid (show w.heap.size ≤ w1.heap.size by have := WZ.out; omega)
  clear hw1 F0
  have x0 := F1.out.h1.cell 0 _ rfl; have x1 := F1.out.h1.cell 1 _ rfl; have x2 := F1.out.h1.cell 2 _ rfl; have x3 := F1.out.h1.cell 3 _ rfl; have x4 := F1.out.h1.cell 4 _ rfl
  go_wp2_with fail
  refine (mcopy_any K2 ra rn rc da dn dc ha hn hc ⟨regs, data, held, pc, en⟩ w1 (G0.out.below F1.out.below) hr1 hd1 hh1).mono ?_
  rintro e w2 ⟨ra', rc', da', dc', ha', hc', rfl, ht, hb⟩
  have F2 := Lib.hid (Fm.call hb F1.out)
  have T2 := Lib.hid ht
  have SZ2 := Lib.hid hb.size
  clear hb ht x0 x1 x2 x3 x4
  go_upto_region 2 with fail
  obtain ⟨w3, hw3⟩ : ∃ w3, w3 = w2.alloc (.cells #[.slice ra' rn rc', .slice da' dn dc', .slice ha' hn hc', .int .i64 pc, .bool en] 36) := ⟨_, rfl⟩
  rw [← hw3]
  obtain ⟨q, hq⟩ : ∃ q, q = w2.heap.size := ⟨_, rfl⟩
  rw [← hq]
  have B3 := Lib.hid (show Below w2.heap.size w2 w3 by rw [hw3]; exact (Below.refl _ _).alloc (Nat.le_refl _) _)
  have Q3 := Lib.hid (show Has w3 q (CoCells ra' rn rc' da' dn dc' ha' hn hc' pc en) by rw [hw3, hq]; exact Has.new w2 (CoCells ra' rn rc' da' dn dc' ha' hn hc' pc en) 36)
  have QZ := Lib.hid (show w1.heap.size ≤ q by have := SZ2.out; omega)
  have T3 := Lib.hid (T2.out.below B3.out)
  have TL := Lib.hid (show (∀ g, ra' = some ⟨g, 0, none⟩ → 0 < rn → g < q) ∧ (∀ g, da' = some ⟨g, 0, none⟩ → 0 < dn → g < q) ∧ (∀ g, ha' = some ⟨g, 0, none⟩ → 0 < hn → g < q) by
    rw [hq]
    obtain ⟨B2, B3, o1, o2, o3, _⟩ := T2.out.own
    refine ⟨fun g hg h0 => ?_, fun g hg h0 => ?_, fun g hg h0 => ?_⟩ <;> subst hg
    · exact (o1.lt g rfl).2
    · exact (o2.lt g rfl).2
    · exact (o3.lt g rfl).2)
  have F3 := Lib.hid (Fm.call B3.out F2.out)
  clear hw3 hq B3 T2 SZ2
  have m0 := F3.out.h0.cell 0 _ rfl; have m1 := F3.out.h0.cell 1 _ rfl; have m2 := F3.out.h0.cell 2 _ rfl; have m3 := F3.out.h0.cell 3 _ rfl; have lm := F3.out.h0.lt (by simp)
  go_wp2_with fail
  refine (mcheckM_any K ca cn cc D ua un uc m w3 (H0.out.below F3.out.below) HL.out HG.out (by have := HD0.out; omega) HU.out).mono ?_
  rintro e w4 ⟨r, rfl, hr, hck, hb⟩
  have F4 := Lib.hid (Fm.call hb F3.out)
  have CK := Lib.hid hck
  have T4 := Lib.hid (T3.out.below hb)
  have Q4 := Lib.hid (Q3.out.below hb (Q3.out.lt (by simp)))
  clear hb hck m0 m1 m2 m3 lm
  have x0 := F4.out.h1.cell 0 _ rfl; have x1 := F4.out.h1.cell 1 _ rfl; have x2 := F4.out.h1.cell 2 _ rfl; have x3 := F4.out.h1.cell 3 _ rfl; have x4 := F4.out.h1.cell 4 _ rfl
  have z0 := F4.out.h2.cell 0 _ rfl; have z1 := F4.out.h2.cell 1 _ rfl; have z2 := F4.out.h2.cell 2 _ rfl; have z3 := F4.out.h2.cell 3 _ rfl; have z4 := F4.out.h2.cell 4 _ rfl; have zf := F4.out.h2.free
  have e0 := F4.out.h3.cell 0 _ rfl; have e1 := F4.out.h3.cell 1 _ rfl; have e2 := F4.out.h3.cell 2 _ rfl; have ef := F4.out.h3.free
  have m0 := F4.out.h0.cell 0 _ rfl; have m1 := F4.out.h0.cell 1 _ rfl; have m2 := F4.out.h0.cell 2 _ rfl; have m3 := F4.out.h0.cell 3 _ rfl; have lm := F4.out.h0.lt (by simp)
  have q0 := Q4.out.cell 0 _ rfl; have q1 := Q4.out.cell 1 _ rfl; have q2 := Q4.out.cell 2 _ rfl; have q3 := Q4.out.cell 3 _ rfl; have q4 := Q4.out.cell 4 _ rfl; have lqq := Q4.out.lt (by simp)
  rcases hr with rfl | rfl
  · go_wp2_with fail
    refine (mvalid_any K K2 ca cn cc D ua un uc m ra rn rc da dn dc ha hn hc ⟨regs, data, held, pc, en⟩ w4 (H0.out.below F4.out.below) (G0.out.below F4.out.below)).mono ?_
    rintro e w5 ⟨b, rfl, hv, hb⟩
    have F5 := Lib.hid (Fm.call hb F4.out)
    have HV := Lib.hid hv
    have T5 := Lib.hid (T4.out.below hb)
    have Q5 := Lib.hid (Q4.out.below hb (Q4.out.lt (by simp)))
    clear hv hb m0 m1 m2 m3 lm x0 x1 x2 x3 x4 z0 z1 z2 z3 z4 zf e0 e1 e2 ef q0 q1 q2 q3 q4 lqq
    have x0 := F5.out.h1.cell 0 _ rfl; have x1 := F5.out.h1.cell 1 _ rfl; have x2 := F5.out.h1.cell 2 _ rfl; have x3 := F5.out.h1.cell 3 _ rfl; have x4 := F5.out.h1.cell 4 _ rfl
    have z0 := F5.out.h2.cell 0 _ rfl; have z1 := F5.out.h2.cell 1 _ rfl; have z2 := F5.out.h2.cell 2 _ rfl; have z3 := F5.out.h2.cell 3 _ rfl; have z4 := F5.out.h2.cell 4 _ rfl; have zf := F5.out.h2.free
    have e0 := F5.out.h3.cell 0 _ rfl; have e1 := F5.out.h3.cell 1 _ rfl; have e2 := F5.out.h3.cell 2 _ rfl; have ef := F5.out.h3.free
    have m0 := F5.out.h0.cell 0 _ rfl; have m1 := F5.out.h0.cell 1 _ rfl; have m2 := F5.out.h0.cell 2 _ rfl; have m3 := F5.out.h0.cell 3 _ rfl; have lm := F5.out.h0.lt (by simp)
    have q0 := Q5.out.cell 0 _ rfl; have q1 := Q5.out.cell 1 _ rfl; have q2 := Q5.out.cell 2 _ rfl; have q3 := Q5.out.cell 3 _ rfl; have q4 := Q5.out.cell 4 _ rfl; have lqq := Q5.out.lt (by simp)
    cases b with
    | false =>
      have HN := Lib.hid (show StepIs m ⟨regs, data, held, pc, en⟩ ⟨regs, data, held, pc, en⟩ ev0 10 from .form fun h => by have := HV.out.2 h.2; cases this)
      go_wp2
      refine bodyPost_ret (v := .tuple #[CoV ra' rn rc' da' dn dc' ha' hn hc' pc en, EvV ev0, .int .i64 10]) (by simp [results, Try.results14, go_sem, z0, z1, z2, z3, z4, e0, e1, e2]) rfl (stepR_mk (T5.out.chg (M := fun k => k < w1.heap.size) ?_ (fun k hk => by omega)) RI.out DI.out PI.out hr1 hd1 hh1 WB.out HN.out ?_ rfl)
      · repeat (first | with_reducible exact Chg.refl _ | (refine Chg.setCell ?_ (fun _ => by have := WZ.out; dsimp only; omega) _))
      · repeat (first | with_reducible exact F5.out.below | (refine Below.setCell ?_ (by dsimp only; omega) _))
    | true =>
      have CO := Lib.hid (HV.out.1 rfl)
      cases en with
      | true =>
        have HN := Lib.hid (show StepIs m ⟨regs, data, held, pc, true⟩ ⟨regs, data, held, pc, true⟩ ev0 15 from .ended CK.out CO.out rfl)
        go_wp2
        refine bodyPost_ret (v := .tuple #[CoV ra' rn rc' da' dn dc' ha' hn hc' pc true, EvV ev0, .int .i64 15]) (by simp [results, Try.results14, go_sem, z0, z1, z2, z3, z4, e0, e1, e2]) rfl (stepR_mk (T5.out.chg (M := fun k => k < w1.heap.size) ?_ (fun k hk => by omega)) RI.out DI.out PI.out hr1 hd1 hh1 WB.out HN.out ?_ rfl)
        · repeat (first | with_reducible exact Chg.refl _ | (refine Chg.setCell ?_ (fun _ => by have := WZ.out; dsimp only; omega) _))
        · repeat (first | with_reducible exact F5.out.below | (refine Below.setCell ?_ (by dsimp only; omega) _))
      | false =>
        have hrn : rn = 8 := by have := CO.out.regs; rw [← this]; exact G0.out.regs.hlen.symm
        have hhn : hn = 4 := by have := CO.out.held; rw [← this]; exact G0.out.held.hlen.symm
        have hdn : (dn : Int) = D := by have h1 := CO.out.data; have h2 := H0.out.data; have h3 := G0.out.data.hlen; rw [h2, ← h1, ← h3]
        subst hrn hhn hdn
        have HDT := Lib.hid H0.out.data
        have hD := Lib.hid (show 0 < dn ∧ dn ≤ 1024 from by
          have h1 := HD0.out; have h2 := HDT.out; have h3 := HL.out
          unfold Limit at h3
          omega)
        have hcnl := Lib.hid (show cn ≤ 1024 from by have h3 := HL.out; have h4 := H0.out.code.hlen; unfold Limit at h3; omega)
        obtain ⟨g1, g2, g3, rfl, rfl, rfl, ho⟩ := T5.out.co (by omega) hD.out.1 (by omega)
        have HO := Lib.hid ho
        obtain ⟨pcn, hpcn⟩ := Int.eq_ofNat_of_zero_le CO.out.pc0
        simp only [] at hpcn
        subst hpcn
        obtain ⟨x, hx⟩ : ∃ x, m.code[pcn]? = some x := ⟨_, List.getElem?_eq_getElem (by have := CO.out.pc1; simp at this; exact this)⟩
        have HX := Lib.hid hx
        have HCH := Lib.hid (HG.out x (List.mem_of_getElem? hx))
        have LG := Lib.hid (show w1.heap.size ≤ g1 ∧ g1 < g2 ∧ g2 < g3 ∧ g3 < q ∧ w1.heap.size ≤ q by
          have := TL.out.1 g1 rfl (by omega); have := TL.out.2.1 g2 rfl hD.out.1; have := TL.out.2.2 g3 rfl (by omega); have := QZ.out; have := ho.ge; have := ho.lt1; have := ho.lt2
          omega)
        have HCL := Lib.hid H0.out.code.hlen
        clear hx ho
        go_wp2_with fail
        refine Calls.mono (next_any_k K ca cn cc ua un uc m.code w1.heap.size q g1 rc' g2 dc' g3 hc' dn regs data held false x pcn w5 (H0.out.below F5.out.below).code hcnl.out HX.out HCH.out Q5.out HO.out (by have := LG.out; omega) hD.out.2 CO.out.words CO.out.dwords CO.out.zero) ?_
        intro e w6 hst
        have hsp := nextRet_two hst
        clear hst m0 m1 m2 m3 lm x0 x1 x2 x3 x4 z0 z1 z2 z3 z4 zf e0 e1 e2 ef q0 q1 q2 q3 q4 lqq
        rcases hsp with ⟨er, hs, rfl, se⟩ | ⟨v, d, hs, rfl, se⟩
        · have HN := Lib.hid (show StepIs m ⟨regs, data, held, pcn, false⟩ ⟨regs, data, held, pcn, false⟩ ev0 er from .err CK.out CO.out rfl x (by simp; exact HX.out) HCH.out er (by rw [HCL.out, ← HDT.out]; exact hs))
          clear hs
          have F6 := Lib.hid (Fm.chgd se.chg F5.out (fun k hk => .inr (by have := LG.out; have := WZ.out; unfold CoMod at hk; simp; omega)))
          have SE6 := Lib.hid se
          have LQ6 := Lib.hid (se.core.lt (by simp))
          clear se
          go_upto_region 7 with fail
          obtain ⟨w7, hw7⟩ : ∃ w7, w7 = w6.alloc (.cells #[.int .i64 0, .int .i64 0, .bool false] 39) := ⟨_, rfl⟩
          rw [← hw7]
          obtain ⟨qe, hqe⟩ : ∃ qe, qe = w6.heap.size := ⟨_, rfl⟩
          rw [← hqe]
          have F7 := Lib.hid (show Fm Non w w7 [MCells ca cn cc dn ua un uc, CoCells ra 8 rc da dn dc ha 4 hc pcn false, ZC, EvCells ev0] by rw [hw7]; exact F6.out.more _)
          have E7 := Lib.hid (show Has w7 qe [.int .i64 0, .int .i64 0, .bool false] by rw [hw7, hqe]; exact Has.new w6 [.int .i64 0, .int .i64 0, .bool false] 39)
          have Q7 := Lib.hid (show Has w7 q (CoCells (some ⟨g1, 0, none⟩) 8 rc' (some ⟨g2, 0, none⟩) dn dc' (some ⟨g3, 0, none⟩) 4 hc' (pcn : Int) false) by rw [hw7]; exact SE6.out.core.old LQ6.out)
          have O7 := Lib.hid (show CoOwn w1.heap.size w7 g1 rc' g2 dc' g3 hc' 8 dn 4 regs data held by rw [hw7]; exact SE6.out.own.below ((Below.refl _ _).alloc (Nat.le_refl _) _))
          have LE := Lib.hid (show q < qe ∧ w.heap.size + 4 ≤ q by have := LQ6.out; have := LG.out; have := WZ.out; omega)
          clear hw7 hqe F6 SE6 LQ6
          have z0 := F7.out.h2.cell 0 _ rfl; have z1 := F7.out.h2.cell 1 _ rfl; have z2 := F7.out.h2.cell 2 _ rfl; have z3 := F7.out.h2.cell 3 _ rfl; have z4 := F7.out.h2.cell 4 _ rfl; have zf := F7.out.h2.free
          have e0 := F7.out.h3.cell 0 _ rfl; have e1 := F7.out.h3.cell 1 _ rfl; have e2 := F7.out.h3.cell 2 _ rfl; have ef := F7.out.h3.free
          have q0 := Q7.out.cell 0 _ rfl; have q1 := Q7.out.cell 1 _ rfl; have q2 := Q7.out.cell 2 _ rfl; have q3 := Q7.out.cell 3 _ rfl; have q4 := Q7.out.cell 4 _ rfl; have lqq := Q7.out.lt (by simp)
          have t0 := E7.out.cell 0 _ rfl; have t1 := E7.out.cell 1 _ rfl; have t2 := E7.out.cell 2 _ rfl; have ltt := E7.out.lt (by simp)
          have le1 := LE.out.1; have le2 := LE.out.2
          go_region_held3 (fun w' => w'.cell? ⟨q, 0, none⟩ = some (.slice (some ⟨g1, 0, none⟩) 8 rc') ∧ w'.cell? ⟨q, 1, none⟩ = some (.slice (some ⟨g2, 0, none⟩) dn dc') ∧ w'.cell? ⟨q, 2, none⟩ = some (.slice (some ⟨g3, 0, none⟩) 4 hc') ∧ w'.cell? ⟨q, 3, none⟩ = some (.int .i64 (pcn : Int)) ∧ w'.cell? ⟨q, 4, none⟩ = some (.bool false) ∧ w'.cell? ⟨qe, 0, none⟩ = some (.int .i64 0) ∧ w'.cell? ⟨qe, 1, none⟩ = some (.int .i64 0) ∧ w'.cell? ⟨qe, 2, none⟩ = some (.bool false))
            (((try dsimp only); (try go_split_ands); (repeat' apply And.intro); all_goals (repeat (first | with_reducible assumption | (with_reducible refine cell_set (by omega) ?_) | (with_reducible refine cell_alloc (by omega) ?_) | (with_reducible refine cell_drew ?_))))) (fail)
          clear q0 q1 q2 q3 q4 lqq t0 t1 t2 ltt
          all_goals
            go_wp2
            refine bodyPost_ret (v := .tuple #[CoV (some ⟨g1, 0, none⟩) 8 rc' (some ⟨g2, 0, none⟩) dn dc' (some ⟨g3, 0, none⟩) 4 hc' pcn false, EvV ev0, .int .i64 er]) (by simp [results, Try.results14, go_sem, z0, z1, z2, z3, z4, e0, e1, e2]) rfl (stepR_own (c := ⟨regs, data, held, pcn, false⟩) (d := ⟨regs, data, held, pcn, false⟩) (v := ev0) (O7.out.chg (M := fun k => k < w1.heap.size) ?_ (fun k hk => by omega)) WB.out CO.out.words CO.out.dwords hD.out.2 PI.out HN.out ?_ rfl)
            · have := WZ.out
              repeat (first | with_reducible exact Chg.refl _ | (with_reducible refine Chg.drew ?_) | (with_reducible refine Chg.setCell ?_ (fun _ => by dsimp only; omega) _))
            · repeat (first | with_reducible exact F7.out.below | (with_reducible refine Below.drew ?_) | (with_reducible refine Below.setCell ?_ (by dsimp only; omega) _))
        · have HN := Lib.hid (show StepIs m ⟨regs, data, held, pcn, false⟩ d v 0 from .ok CK.out CO.out rfl x (by simp; exact HX.out) HCH.out v d (by rw [HCL.out, ← HDT.out]; exact hs))
          have WD := Lib.hid (step_words hs HCH.out CO.out.words CO.out.dwords)
          have PD := Lib.hid (step_pc hs HCH.out (by simp) (by have := CO.out.pc1; have := HCL.out; simp at *; omega) hcnl.out)
          obtain ⟨va, vd, vj⟩ := v
          obtain ⟨dr, dd, dh, dp, de⟩ := d
          clear hs
          have F6 := Lib.hid (Fm.chgd se.chg F5.out (fun k hk => .inr (by have := LG.out; have := WZ.out; unfold CoMod at hk; simp; omega)))
          have SE6 := Lib.hid se
          have LQ6 := Lib.hid (se.core.lt (by simp))
          clear se
          go_upto_region 7 with fail
          obtain ⟨w7, hw7⟩ : ∃ w7, w7 = w6.alloc (.cells #[.int .i64 va, .int .i64 vd, .bool vj] 39) := ⟨_, rfl⟩
          rw [← hw7]
          obtain ⟨qe, hqe⟩ : ∃ qe, qe = w6.heap.size := ⟨_, rfl⟩
          rw [← hqe]
          have F7 := Lib.hid (show Fm Non w w7 [MCells ca cn cc dn ua un uc, CoCells ra 8 rc da dn dc ha 4 hc pcn false, ZC, EvCells ev0] by rw [hw7]; exact F6.out.more _)
          have E7 := Lib.hid (show Has w7 qe [.int .i64 va, .int .i64 vd, .bool vj] by rw [hw7, hqe]; exact Has.new w6 [.int .i64 va, .int .i64 vd, .bool vj] 39)
          have Q7 := Lib.hid (show Has w7 q (CoCells (some ⟨g1, 0, none⟩) 8 rc' (some ⟨g2, 0, none⟩) dn dc' (some ⟨g3, 0, none⟩) 4 hc' dp de) by rw [hw7]; exact SE6.out.core.old LQ6.out)
          have O7 := Lib.hid (show CoOwn w1.heap.size w7 g1 rc' g2 dc' g3 hc' 8 dn 4 dr dd dh by rw [hw7]; exact SE6.out.own.below ((Below.refl _ _).alloc (Nat.le_refl _) _))
          have LE := Lib.hid (show q < qe ∧ w.heap.size + 4 ≤ q by have := LQ6.out; have := LG.out; have := WZ.out; omega)
          clear hw7 hqe F6 SE6 LQ6
          have z0 := F7.out.h2.cell 0 _ rfl; have z1 := F7.out.h2.cell 1 _ rfl; have z2 := F7.out.h2.cell 2 _ rfl; have z3 := F7.out.h2.cell 3 _ rfl; have z4 := F7.out.h2.cell 4 _ rfl; have zf := F7.out.h2.free
          have e0 := F7.out.h3.cell 0 _ rfl; have e1 := F7.out.h3.cell 1 _ rfl; have e2 := F7.out.h3.cell 2 _ rfl; have ef := F7.out.h3.free
          have q0 := Q7.out.cell 0 _ rfl; have q1 := Q7.out.cell 1 _ rfl; have q2 := Q7.out.cell 2 _ rfl; have q3 := Q7.out.cell 3 _ rfl; have q4 := Q7.out.cell 4 _ rfl; have lqq := Q7.out.lt (by simp)
          have t0 := E7.out.cell 0 _ rfl; have t1 := E7.out.cell 1 _ rfl; have t2 := E7.out.cell 2 _ rfl; have ltt := E7.out.lt (by simp)
          have le1 := LE.out.1; have le2 := LE.out.2
          go_region_held3 (fun w' => w'.cell? ⟨q, 0, none⟩ = some (.slice (some ⟨g1, 0, none⟩) 8 rc') ∧ w'.cell? ⟨q, 1, none⟩ = some (.slice (some ⟨g2, 0, none⟩) dn dc') ∧ w'.cell? ⟨q, 2, none⟩ = some (.slice (some ⟨g3, 0, none⟩) 4 hc') ∧ w'.cell? ⟨q, 3, none⟩ = some (.int .i64 dp) ∧ w'.cell? ⟨q, 4, none⟩ = some (.bool de) ∧ w'.cell? ⟨qe, 0, none⟩ = some (.int .i64 va) ∧ w'.cell? ⟨qe, 1, none⟩ = some (.int .i64 vd) ∧ w'.cell? ⟨qe, 2, none⟩ = some (.bool vj))
            (((try dsimp only); (try go_split_ands); (repeat' apply And.intro); all_goals (repeat (first | with_reducible assumption | (with_reducible refine cell_set (by omega) ?_) | (with_reducible refine cell_alloc (by omega) ?_) | (with_reducible refine cell_drew ?_))))) (fail)
          clear q0 q1 q2 q3 q4 lqq t0 t1 t2 ltt
          all_goals
            go_wp2
            refine bodyPost_ret (v := .tuple #[CoV (some ⟨g1, 0, none⟩) 8 rc' (some ⟨g2, 0, none⟩) dn dc' (some ⟨g3, 0, none⟩) 4 hc' dp de, EvV ⟨va, vd, vj⟩, .int .i64 0]) (by simp [results, Try.results14, go_sem, z0, z1, z2, z3, z4, e0, e1, e2]) rfl (stepR_own (c := ⟨regs, data, held, pcn, false⟩) (d := ⟨dr, dd, dh, dp, de⟩) (v := ⟨va, vd, vj⟩) (O7.out.chg (M := fun k => k < w1.heap.size) ?_ (fun k hk => by omega)) WB.out WD.out.1 WD.out.2 hD.out.2 PD.out HN.out ?_ rfl)
            · have := WZ.out
              repeat (first | with_reducible exact Chg.refl _ | (with_reducible refine Chg.drew ?_) | (with_reducible refine Chg.setCell ?_ (fun _ => by dsimp only; omega) _))
            · repeat (first | with_reducible exact F7.out.below | (with_reducible refine Below.drew ?_) | (with_reducible refine Below.setCell ?_ (by dsimp only; omega) _))
  · have HN := Lib.hid (show StepIs m ⟨regs, data, held, pc, en⟩ ⟨regs, data, held, pc, en⟩ ev0 10 from .form fun h => by have := ChkIs.same h.1 CK.out; cases this)
    go_wp2
    refine bodyPost_ret (v := .tuple #[CoV ra' rn rc' da' dn dc' ha' hn hc' pc en, EvV ev0, .int .i64 10]) (by simp [results, Try.results14, go_sem, z0, z1, z2, z3, z4, e0, e1, e2]) rfl (stepR_mk (T4.out.chg (M := fun k => k < w1.heap.size) ?_ (fun k hk => by omega)) RI.out DI.out PI.out hr1 hd1 hh1 WB.out HN.out ?_ rfl)
    · repeat (first | with_reducible exact Chg.refl _ | (refine Chg.setCell ?_ (fun _ => by have := WZ.out; dsimp only; omega) _))
    · repeat (first | with_reducible exact F4.out.below | (refine Below.setCell ?_ (by dsimp only; omega) _))
end Go.Proofs.Ytonbmijhbbodnaa
