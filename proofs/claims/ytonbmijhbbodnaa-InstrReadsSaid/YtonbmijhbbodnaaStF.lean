/-
  The statements' Step and Copy: the document's, handed on.
-/
import Derived.Test.YtonbmijhbbodnaaStE
namespace Go.Proofs.Ytonbmijhbbodnaa
open Go.RowKit

def Nar (K : Nat → Prop) (B : Nat) (k : Nat) : Prop := K k ∧ k < B
theorem IsCo.nar {K : Nat → Prop} {w : World} {ra : Option Addr} {rn rc : Nat} {da : Option Addr} {dn dc : Nat} {ha : Option Addr} {hn hc : Nat} {c : Co} (h : IsCo K w ra rn rc da dn dc ha hn hc c) : IsCo (Nar K w.heap.size) w ra rn rc da dn dc ha hn hc c :=
  ⟨Row.wide RInt.wider (fun _k h hk => ⟨h, hk⟩) h.regs, Row.wide RInt.wider (fun _k h hk => ⟨h, hk⟩) h.data, Row.wide (fun _ _ _ _ _ _ _ h => h) (fun _k h hk => ⟨h, hk⟩) h.held, h.pc⟩
theorem IsCo.chg {K M : Nat → Prop} {w w' : World} {ra : Option Addr} {rn rc : Nat} {da : Option Addr} {dn dc : Nat} {ha : Option Addr} {hn hc : Nat} {c : Co} (h : IsCo K w ra rn rc da dn dc ha hn hc c) (k : Chg M w w') (hM : ∀ k, K k → ¬ M k) : IsCo K w' ra rn rc da dn dc ha hn hc c :=
  ⟨Row.chg RInt.stays h.regs k hM, Row.chg RInt.stays h.data k hM, Row.chg RBo.stays h.held k hM, h.pc⟩
theorem stepR_fin {m : Img} {c d : Co} {K M : Nat → Prop} {w w1 w2 w3 : World} {n : Nat} {ra : Option Addr} {rn rc : Nat} {da : Option Addr} {dn dc : Nat} {ha : Option Addr} {hn hc : Nat} {v : Ev} {er : Int} (hs : StepIs m c d v er) (hco : IsCo (Or2 (Nar K w.heap.size) w1.heap.size) w2 ra rn rc da dn dc ha hn hc d) (hw : w1.heap.size = w.heap.size + n)
    (hc3 : Chg M w2 w3) (hM : ∀ k, M k → w.heap.size ≤ k ∧ k < w.heap.size + n) (hb : Below w.heap.size w w2) : StepR m c K w (.returned (.tuple #[CoV ra rn rc da dn dc ha hn hc d.pc d.ended, EvV v, .int .i64 er])) w3 :=
  ⟨ra, rn, rc, da, dn, dc, ha, hn, hc, d, v, er, rfl, hs, (hco.chg hc3 (fun k hk hm => by have := hM k hm; rcases hk with hk | hk; exact absurd hk.2 (by omega); omega)).wide (fun k hk => by rcases hk with hk | hk; exact .inl hk.1; exact .inr (by omega)),
   hb.trans (hc3.below (fun k hk hm => by have := hM k hm; omega) hb.size)⟩
theorem CoOwn.lower {B B' : Nat} {w : World} {g1 c1 g2 c2 g3 c3 rn dn hn : Nat} {regs data : List Int} {held : List Bool} (h : CoOwn B w g1 c1 g2 c2 g3 c3 rn dn hn regs data held) (hB : B' ≤ B) : CoOwn B' w g1 c1 g2 c2 g3 c3 rn dn hn regs data held := ⟨h.regs, h.data, h.held, Nat.le_trans hB h.ge, h.lt1, h.lt2⟩
def MTwo (a b : Nat) (k : Nat) : Prop := k = a ∨ k = b
set_option maxRecDepth 100000 in
set_option maxHeartbeats 16000000 in
theorem mkStep_any (K K2 : Nat → Prop) (ca : Option Addr) (cn cc : Nat) (D : Int) (ua : Option Addr) (un uc : Nat) (m : Img) (ra : Option Addr) (rn rc : Nat) (da : Option Addr) (dn dc : Nat) (ha : Option Addr) (hn hc : Nat) (c : Co) (w : World)
    (h : IsImg K w ca cn cc D ua un uc m) (g : IsCo K2 w ra rn rc da dn dc ha hn hc c) (hD0 : 0 < m.data) :
    Calls Try.prog 29 #[MV ca cn cc D ua un uc, CoV ra rn rc da dn dc ha hn hc c.pc c.ended] w (StepR m c K2 w) := by
  obtain ⟨regs, data, held, pc, en⟩ := c
  have F0 := Lib.hid (Fm.new (Fm.new (Fm.new (Fm.new (Fm.start Non w) rfl (MCells ca cn cc D ua un uc) 31) (by simp) (CoCells ra rn rc da dn dc ha hn hc pc en) 36) (by simp) ZC 36) (by simp) (EvCells ev0) 39)
  have H0 := Lib.hid h; have G0 := Lib.hid g.nar; have HD0 := Lib.hid hD0
  clear h g hD0
  go_enter Try.func29, Try.ntmps29
  go_upto_region 1 with fail
  obtain ⟨w1, hw1⟩ : ∃ w1, w1 = (((w.alloc (.cells #[.slice ca cn cc, .int .i64 D, NIL, .slice ua un uc] 31)).alloc (.cells #[.slice ra rn rc, .slice da dn dc, .slice ha hn hc, .int .i64 pc, .bool en] 36)).alloc (.cells #[NIL, NIL, NIL, .int .i64 0, .bool false] 36)).alloc (.cells #[.int .i64 0, .int .i64 0, .bool false] 39) := ⟨_, rfl⟩
  rw [← hw1]
  have F1 := Lib.hid (show Fm Non w w1 [MCells ca cn cc D ua un uc, CoCells ra rn rc da dn dc ha hn hc pc en, ZC, EvCells ev0] by rw [hw1]; exact F0.out)
  have S1 := Lib.hid (show w1.heap.size = w.heap.size + 4 by rw [hw1]; simp)
  have H1 := Lib.hid (H0.out.below F1.out.below)
  have G1 := Lib.hid (G0.out.below F1.out.below)
  clear hw1 F0
  have m0 := F1.out.h0.cell 0 _ rfl; have m1 := F1.out.h0.cell 1 _ rfl; have m2 := F1.out.h0.cell 2 _ rfl; have m3 := F1.out.h0.cell 3 _ rfl
  have x0 := F1.out.h1.cell 0 _ rfl; have x1 := F1.out.h1.cell 1 _ rfl; have x2 := F1.out.h1.cell 2 _ rfl; have x3 := F1.out.h1.cell 3 _ rfl; have x4 := F1.out.h1.cell 4 _ rfl
  go_wp2_with fail
  refine Calls.mono (rStep_any K (Nar K2 w.heap.size) ca cn cc D ua un uc m ra rn rc da dn dc ha hn hc ⟨regs, data, held, pc, en⟩ w1 H1.out G1.out HD0.out) ?_
  rintro e w2 ⟨ra', rn', rc', da', dn', dc', ha', hn', hc', ⟨dr, dd, dh, dp, de⟩, ⟨va, vd, vj⟩, er, rfl, hs, hco, hb⟩
  have F2 := Lib.hid (Fm.call hb F1.out)
  have HS := Lib.hid hs; have HCO := Lib.hid hco
  clear hs hco hb m0 m1 m2 m3 x0 x1 x2 x3 x4
  have z0 := F2.out.h2.cell 0 _ rfl; have z1 := F2.out.h2.cell 1 _ rfl; have z2 := F2.out.h2.cell 2 _ rfl; have z3 := F2.out.h2.cell 3 _ rfl; have z4 := F2.out.h2.cell 4 _ rfl; have zf := F2.out.h2.free
  have e0 := F2.out.h3.cell 0 _ rfl; have e1 := F2.out.h3.cell 1 _ rfl; have e2 := F2.out.h3.cell 2 _ rfl; have ef := F2.out.h3.free
  go_wp2
  have CH := Lib.hid (Chg.refl (M := MTwo (w.heap.size + 2) (w.heap.size + 3)) w2)
  refine bodyPost_ret (v := .tuple #[CoV ra' rn' rc' da' dn' dc' ha' hn' hc' dp de, EvV ⟨va, vd, vj⟩, .int .i64 er]) (by simp [results, Try.results29, go_sem, z0, z1, z2, z3, z4, e0, e1, e2]) rfl ?_
  refine stepR_fin (HS.out) HCO.out S1.out (M := MTwo (w.heap.size + 2) (w.heap.size + 3)) ?_ (fun k hk => by unfold MTwo at hk; omega) F2.out.below
  repeat (first | with_reducible exact CH.out | (refine Chg.setCell ?_ (fun _ => by unfold MTwo; simp) _))
set_option maxRecDepth 100000 in
set_option maxHeartbeats 16000000 in
theorem mkCopy_any (K : Nat → Prop) (ra : Option Addr) (rn rc : Nat) (da : Option Addr) (dn dc : Nat) (ha : Option Addr) (hn hc : Nat) (c : Co) (w : World)
    (g : IsCo K w ra rn rc da dn dc ha hn hc c) (hr0 : 0 < rn) (hr1 : rn ≤ 2000) (hd0 : 0 < dn) (hd1 : dn ≤ 2000) (hh0 : 0 < hn) (hh1 : hn ≤ 2000) :
    Calls Try.prog 27 #[CoV ra rn rc da dn dc ha hn hc c.pc c.ended] w (CopyRet rn dn hn c w) := by
  obtain ⟨regs, data, held, pc, en⟩ := c
  have F0 := Lib.hid (Fm.new (Fm.new (Fm.start Non w) rfl (CoCells ra rn rc da dn dc ha hn hc pc en) 36) (by simp) ZC 36)
  have G0 := Lib.hid g
  clear g
  go_enter Try.func27, Try.ntmps27
  go_upto_region 1 with fail
  obtain ⟨w1, hw1⟩ : ∃ w1, w1 = (w.alloc (.cells #[.slice ra rn rc, .slice da dn dc, .slice ha hn hc, .int .i64 pc, .bool en] 36)).alloc (.cells #[NIL, NIL, NIL, .int .i64 0, .bool false] 36) := ⟨_, rfl⟩
  rw [← hw1]
  have F1 := Lib.hid (show Fm Non w w1 [CoCells ra rn rc da dn dc ha hn hc pc en, ZC] by rw [hw1]; exact F0.out)
  have S1 := Lib.hid (show w1.heap.size = w.heap.size + 2 by rw [hw1]; simp)
  have G1 := Lib.hid (G0.out.below F1.out.below)
  clear hw1 F0
  have x0 := F1.out.h0.cell 0 _ rfl; have x1 := F1.out.h0.cell 1 _ rfl; have x2 := F1.out.h0.cell 2 _ rfl; have x3 := F1.out.h0.cell 3 _ rfl; have x4 := F1.out.h0.cell 4 _ rfl
  go_wp2_with fail
  refine Calls.mono (rcopyc_any K ra rn rc da dn dc ha hn hc ⟨regs, data, held, pc, en⟩ w1 G1.out hr0 hr1 hd0 hd1 hh0 hh1) ?_
  rintro e w2 ⟨g1, c1, g2, c2, g3, c3, rfl, ho, hb⟩
  have F2 := Lib.hid (Fm.call hb F1.out)
  have HO := Lib.hid ho
  clear ho hb x0 x1 x2 x3 x4
  have z0 := F2.out.h1.cell 0 _ rfl; have z1 := F2.out.h1.cell 1 _ rfl; have z2 := F2.out.h1.cell 2 _ rfl; have z3 := F2.out.h1.cell 3 _ rfl; have z4 := F2.out.h1.cell 4 _ rfl; have zf := F2.out.h1.free
  have LG := Lib.hid (show w.heap.size + 2 ≤ g1 ∧ g1 < g2 ∧ g2 < g3 by have h9 := HO.out.ge; have h7 := HO.out.lt1; have h8 := HO.out.lt2; have := S1.out; omega)
  go_wp2
  have lg := LG.out
  refine bodyPost_ret (v := CoV (some ⟨g1, 0, none⟩) rn c1 (some ⟨g2, 0, none⟩) dn c2 (some ⟨g3, 0, none⟩) hn c3 pc en) (by simp [results, Try.results27, go_sem, z0, z1, z2, z3, z4]) rfl ⟨g1, c1, g2, c2, g3, c3, rfl, ?_, ?_⟩
  · refine CoOwn.lower (B := w1.heap.size) ?_ F1.out.below.size
    repeat (first | with_reducible exact HO.out | (with_reducible refine CoOwn.other ?_ (by dsimp only; omega) _))
  · repeat (first | with_reducible exact F2.out.below | (with_reducible refine Below.setCell ?_ (by dsimp only; omega) _))
end Go.Proofs.Ytonbmijhbbodnaa
