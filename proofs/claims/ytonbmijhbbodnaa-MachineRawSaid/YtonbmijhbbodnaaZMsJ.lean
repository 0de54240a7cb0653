/-
  machine.Next: what is known within a step; the function that writes a register. Small laws.
  machine.Next: the functions that are done at its end. (printed by mkMsK.py)
-/
import Derived.StillTailTactics
import Derived.Test.YtonbmijhbbodnaaMsF
import Derived.Test.YtonbmijhbbodnaaZStD
namespace Go.Proofs.Ytonbmijhbbodnaa
open Go.RowKit

abbrev WRF (wi wp : Nat) : Value := .func (.func 65) #[] #[.pointer (some ⟨wi, 0, none⟩), .pointer (some ⟨wp, 0, none⟩)]
/-- What is known within a step: the frame, the instruction, the event, the function that writes, the core. -/
structure NW (w : World) (mc : List Value) (B q g1 c1 g2 c2 g3 c3 dn wi wv wf : Nat) (x : Ins) (v : Ev) (c : Co) (wr : World) : Prop where
  fm : Fm (CoMod q g1 g2 g3) w wr [mc, [.pointer (some ⟨q, 0, none⟩)], EvCells ev0]
  ins : Has wr wi (ICells x)
  ev : Has wr wv (EvCells v)
  fn : Has wr wf [WRF wi (w.heap.size + 1)]
  core : Has wr q (CoCells (some ⟨g1, 0, none⟩) 8 c1 (some ⟨g2, 0, none⟩) dn c2 (some ⟨g3, 0, none⟩) 4 c3 c.pc c.ended)
  own : CoOwn B wr g1 c1 g2 c2 g3 c3 8 dn 4 c.regs c.data c.held
  lt : q < w.heap.size ∧ g1 < w.heap.size ∧ g2 < w.heap.size ∧ g3 < w.heap.size
  ne : q ≠ g1 ∧ q ≠ g2 ∧ q ≠ g3
  at_ : w.heap.size + 3 ≤ wi ∧ wi < wv ∧ wv < wf
variable {w wr : World} {mc : List Value} {B q g1 c1 g2 c2 g3 c3 dn wi wv wf : Nat} {x : Ins} {v : Ev} {c : Co}
theorem NW.drewN (s : NW w mc B q g1 c1 g2 c2 g3 c3 dn wi wv wf x v c wr) (n : Nat) : NW w mc B q g1 c1 g2 c2 g3 c3 dn wi wv wf x v c (wr.drewN n) := ⟨s.fm.drewN n, s.ins.drewN n, s.ev.drewN n, s.fn.drewN n, s.core.drewN n, s.own.drewN n, s.lt, s.ne, s.at_⟩
theorem NW.drew (s : NW w mc B q g1 c1 g2 c2 g3 c3 dn wi wv wf x v c wr) : NW w mc B q g1 c1 g2 c2 g3 c3 dn wi wv wf x v c wr.drew := ⟨s.fm.drew, s.ins.drew, s.ev.drew, s.fn.drew, s.core.drew, s.own.drew, s.lt, s.ne, s.at_⟩
theorem NW.below (s : NW w mc B q g1 c1 g2 c2 g3 c3 dn wi wv wf x v c wr) {w' : World} (h : Below wr.heap.size wr w') : NW w mc B q g1 c1 g2 c2 g3 c3 dn wi wv wf x v c w' :=
  ⟨Fm.call h s.fm, s.ins.below h (s.ins.lt (by simp)), s.ev.below h (s.ev.lt (by simp)), s.fn.below h (s.fn.lt (by simp)), s.core.below h (s.core.lt (by simp)), s.own.below h, s.lt, s.ne, s.at_⟩
theorem NW.setAddr (s : NW w mc B q g1 c1 g2 c2 g3 c3 dn wi wv wf x v c wr) (z : Int) : NW w mc B q g1 c1 g2 c2 g3 c3 dn wi wv wf x ⟨v.at_, z, v.jumped⟩ c (wr.setCell ⟨wv, 1, none⟩ (.int .i64 z)) := by
  have h1 := s.lt; have h2 := s.at_
  exact ⟨s.fm.far (.inr (by simp; omega)) _, s.ins.other (by simp; omega), s.ev.set1 _, s.fn.other (by simp; omega), s.core.other (by simp; omega), s.own.other (by simp; omega) _, s.lt, s.ne, s.at_⟩
theorem NW.setJump (s : NW w mc B q g1 c1 g2 c2 g3 c3 dn wi wv wf x v c wr) (z : Bool) : NW w mc B q g1 c1 g2 c2 g3 c3 dn wi wv wf x ⟨v.at_, v.addr, z⟩ c (wr.setCell ⟨wv, 2, none⟩ (.bool z)) := by
  have h1 := s.lt; have h2 := s.at_
  exact ⟨s.fm.far (.inr (by simp; omega)) _, s.ins.other (by simp; omega), s.ev.set2 _, s.fn.other (by simp; omega), s.core.other (by simp; omega), s.own.other (by simp; omega) _, s.lt, s.ne, s.at_⟩
theorem NW.setPC (s : NW w mc B q g1 c1 g2 c2 g3 c3 dn wi wv wf x v c wr) (z : Int) : NW w mc B q g1 c1 g2 c2 g3 c3 dn wi wv wf x v ⟨c.regs, c.data, c.held, z, c.ended⟩ (wr.setCell ⟨q, 3, none⟩ (.int .i64 z)) := by
  have h1 := s.lt; have h2 := s.at_; have h3 := s.ne
  exact ⟨s.fm.far (.inl ⟨h1.1, .inl rfl⟩) _, s.ins.other (by simp; omega), s.ev.other (by simp; omega), s.fn.other (by simp; omega), (s.core.set (k := 3) (by simp) _).at rfl, s.own.other (by simp; omega) _, s.lt, s.ne, s.at_⟩
theorem NW.setEnd (s : NW w mc B q g1 c1 g2 c2 g3 c3 dn wi wv wf x v c wr) (z : Bool) : NW w mc B q g1 c1 g2 c2 g3 c3 dn wi wv wf x v ⟨c.regs, c.data, c.held, c.pc, z⟩ (wr.setCell ⟨q, 4, none⟩ (.bool z)) := by
  have h1 := s.lt; have h2 := s.at_; have h3 := s.ne
  exact ⟨s.fm.far (.inl ⟨h1.1, .inl rfl⟩) _, s.ins.other (by simp; omega), s.ev.other (by simp; omega), s.fn.other (by simp; omega), (s.core.set (k := 4) (by simp) _).at rfl, s.own.other (by simp; omega) _, s.lt, s.ne, s.at_⟩
theorem NW.setR (s : NW w mc B q g1 c1 g2 c2 g3 c3 dn wi wv wf x v c wr) (i : Nat) (z : Int) : NW w mc B q g1 c1 g2 c2 g3 c3 dn wi wv wf x v ⟨c.regs.set i z, c.data, c.held, c.pc, c.ended⟩ (wr.setCell ⟨g1, i, none⟩ (.int .i64 z)) := by
  have h1 := s.lt; have h2 := s.at_; have h3 := s.ne
  exact ⟨s.fm.far (.inl ⟨h1.2.1, .inr (.inl rfl)⟩) _, s.ins.other (by simp; omega), s.ev.other (by simp; omega), s.fn.other (by simp; omega), s.core.other (by simp; omega), s.own.setR i z, s.lt, s.ne, s.at_⟩
theorem NW.setD (s : NW w mc B q g1 c1 g2 c2 g3 c3 dn wi wv wf x v c wr) (i : Nat) (z : Int) : NW w mc B q g1 c1 g2 c2 g3 c3 dn wi wv wf x v ⟨c.regs, c.data.set i z, c.held, c.pc, c.ended⟩ (wr.setCell ⟨g2, i, none⟩ (.int .i64 z)) := by
  have h1 := s.lt; have h2 := s.at_; have h3 := s.ne
  exact ⟨s.fm.far (.inl ⟨h1.2.2.1, .inr (.inr (.inl rfl))⟩) _, s.ins.other (by simp; omega), s.ev.other (by simp; omega), s.fn.other (by simp; omega), s.core.other (by simp; omega), s.own.setD i z, s.lt, s.ne, s.at_⟩
theorem NW.setH (s : NW w mc B q g1 c1 g2 c2 g3 c3 dn wi wv wf x v c wr) (i : Nat) (z : Bool) : NW w mc B q g1 c1 g2 c2 g3 c3 dn wi wv wf x v ⟨c.regs, c.data, c.held.set i z, c.pc, c.ended⟩ (wr.setCell ⟨g3, i, none⟩ (.bool z)) := by
  have h1 := s.lt; have h2 := s.at_; have h3 := s.ne
  exact ⟨s.fm.far (.inl ⟨h1.2.2.2, .inr (.inr (.inr rfl))⟩) _, s.ins.other (by simp; omega), s.ev.other (by simp; omega), s.fn.other (by simp; omega), s.core.other (by simp; omega), s.own.setH i z, s.lt, s.ne, s.at_⟩
theorem NW.se (s : NW w mc B q g1 c1 g2 c2 g3 c3 dn wi wv wf x v c wr) : SE w B q g1 c1 g2 c2 g3 c3 dn c wr := ⟨s.fm.chg, s.core, s.own, s.lt⟩
/-- A store into the block of the result. -/
theorem SE.res2 (s : SE w B q g1 c1 g2 c2 g3 c3 dn c wr) (k : Nat) (u : Value) : SE w B q g1 c1 g2 c2 g3 c3 dn c (wr.setCell ⟨w.heap.size + 1 + 1, k, none⟩ u) := by
  have h1 := s.lt
  exact ⟨s.chg.setCell (fun h => by simp at h; omega) _, s.core.other (by simp; omega), s.own.other (by simp; omega) _, s.lt⟩
/-- What Next leaves. -/
def NextRet (x : Ins) (cn dn : Nat) (B q g1 c1 g2 c2 g3 c3 : Nat) (c : Co) (w : World) (e : Ending) (w' : World) : Prop :=
  match stepP x cn dn c with
  | .inl er => e = .returned (.tuple #[EvV ev0, .int .i64 er]) ∧ SE w B q g1 c1 g2 c2 g3 c3 dn c w'
  | .inr (v, d) => e = .returned (.tuple #[EvV v, .int .i64 0]) ∧ SE w B q g1 c1 g2 c2 g3 c3 dn d w'
theorem next_err {cn : Nat} {e : Ending} {w' : World} {er : Int} (h : stepP x cn dn c = .inl er) (he : e = .returned (.tuple #[EvV ev0, .int .i64 er])) (hb : SE w B q g1 c1 g2 c2 g3 c3 dn c w') : NextRet x cn dn B q g1 c1 g2 c2 g3 c3 c w e w' := by
  unfold NextRet; rw [h]; exact ⟨he, hb⟩
theorem next_ok {cn : Nat} {e : Ending} {w' : World} {d : Co} (h : stepP x cn dn c = .inr (v, d)) (he : e = .returned (.tuple #[EvV v, .int .i64 0])) (s : SE w B q g1 c1 g2 c2 g3 c3 dn d w') : NextRet x cn dn B q g1 c1 g2 c2 g3 c3 c w e w' := by
  unfold NextRet; rw [h]; exact ⟨he, s⟩
theorem nextRet_two {cn : Nat} {w' : World} {e : Ending} (h : NextRet x cn dn B q g1 c1 g2 c2 g3 c3 c w e w') :
    (∃ er, stepP x cn dn c = .inl er ∧ e = .returned (.tuple #[EvV ev0, .int .i64 er]) ∧ SE w B q g1 c1 g2 c2 g3 c3 dn c w') ∨ (∃ v d, stepP x cn dn c = .inr (v, d) ∧ e = .returned (.tuple #[EvV v, .int .i64 0]) ∧ SE w B q g1 c1 g2 c2 g3 c3 dn d w') := by
  unfold NextRet at h
  split at h
  · rename_i er he; exact .inl ⟨er, he, h⟩
  · rename_i v d he; exact .inr ⟨v, d, he, h⟩
theorem NW.reg (s : NW w mc B q g1 c1 g2 c2 g3 c3 dn wi wv wf x v c wr) {i : Nat} (hi : i < 8) : ∃ z, c.regs[i]? = some z ∧ rAt c.regs (i : Int) = z ∧ wr.cell? ⟨g1, i, none⟩ = some (.int .i64 z) ∧ wr.frozen? ⟨g1, i, none⟩ = false := by
  obtain ⟨z, hz⟩ : ∃ z, c.regs[i]? = some z := ⟨_, List.getElem?_eq_getElem (by have h := s.own.regs.1; rw [ivs_length] at h; omega)⟩
  obtain ⟨g, hg, _, lg, _, _, _, gc⟩ := flat_cells s.own.regs (by omega)
  cases hg
  exact ⟨z, hz, by unfold rAt; rw [Int.toNat_natCast, List.getD_eq_getElem?_getD, hz]; rfl, gc _ _ (ivs_get hz), flat_fr s.own.regs (by omega)⟩
theorem NW.dat (s : NW w mc B q g1 c1 g2 c2 g3 c3 dn wi wv wf x v c wr) {i : Nat} (hi : i < dn) : ∃ z, c.data[i]? = some z ∧ rAt c.data (i : Int) = z ∧ wr.cell? ⟨g2, i, none⟩ = some (.int .i64 z) ∧ wr.frozen? ⟨g2, i, none⟩ = false := by
  obtain ⟨z, hz⟩ : ∃ z, c.data[i]? = some z := ⟨_, List.getElem?_eq_getElem (by have h := s.own.data.1; rw [ivs_length] at h; omega)⟩
  obtain ⟨g, hg, _, lg, _, _, _, gc⟩ := flat_cells s.own.data (by omega)
  cases hg
  exact ⟨z, hz, by unfold rAt; rw [Int.toNat_natCast, List.getD_eq_getElem?_getD, hz]; rfl, gc _ _ (ivs_get hz), flat_fr s.own.data (by omega)⟩
theorem NW.hld (s : NW w mc B q g1 c1 g2 c2 g3 c3 dn wi wv wf x v c wr) {i : Nat} (hi : i < 4) : ∃ z, c.held[i]? = some z ∧ hAt c.held (i : Int) = z ∧ wr.cell? ⟨g3, i, none⟩ = some (.bool z) ∧ wr.frozen? ⟨g3, i, none⟩ = false := by
  obtain ⟨z, hz⟩ : ∃ z, c.held[i]? = some z := ⟨_, List.getElem?_eq_getElem (by have h := s.own.held.1; rw [bvs_length] at h; omega)⟩
  obtain ⟨g, hg, _, lg, _, _, _, gc⟩ := flat_cells s.own.held (by omega)
  cases hg
  exact ⟨z, hz, by unfold hAt; rw [Int.toNat_natCast, List.getD_eq_getElem?_getD, hz]; rfl, gc _ _ (bvs_get hz), flat_fr s.own.held (by omega)⟩
theorem set_zero {l : List Int} (h : l[0]? = some 0) : l.set 0 0 = l := by
  apply List.ext_getElem?
  intro i
  rw [List.getElem?_set]
  by_cases e : 0 = i
  · subst e
    have hl := (List.getElem?_eq_some_iff.1 h).1
    rw [h]; simp [hl]
  · simp [e]
theorem set_keep {l : List Int} (h : l[0]? = some 0) {a : Nat} (z : Int) : (l.set a z).set 0 0 = if a = 0 then l else l.set a z := by
  split
  · rename_i e; subst e; rw [List.set_set]; exact set_zero h
  · rename_i e
    refine set_zero ?_
    rw [List.getElem?_set_ne e]; exact h
/-- What a call of the function that writes register a leaves. -/
def Wrote (g1 a : Nat) (z : Int) (w : World) (e : Ending) (w' : World) : Prop := e = .returned (.tuple #[]) ∧ ∃ k, w' = (if a = 0 then w else w.setCell ⟨g1, a, none⟩ (.int .i64 z)).drewN k
theorem NW.wrote (s : NW w mc B q g1 c1 g2 c2 g3 c3 dn wi wv wf x v c wr) (h0 : c.regs[0]? = some 0) {a : Nat} {z : Int} {w' : World} {e : Ending} (h : Wrote g1 a z wr e w') : NW w mc B q g1 c1 g2 c2 g3 c3 dn wi wv wf x v ⟨(c.regs.set a z).set 0 0, c.data, c.held, c.pc, c.ended⟩ w' := by
  obtain ⟨_, k, rfl⟩ := h
  refine NW.drewN ?_ k
  rw [set_keep h0]
  by_cases ha : a = 0
  · simp only [ha, if_true]; exact s
  · simp only [ha, if_false]; exact s.setR a z
set_option maxRecDepth 100000 in
set_option maxHeartbeats 4000000 in
theorem write_any (wi wp q g1 c1 a : Nat) (z : Int) (w : World) (ha8 : a < 8) (hi : w.cell? ⟨wi, 1, none⟩ = some (.int .i64 a)) (hp : w.cell? ⟨wp, 0, none⟩ = some (.pointer (some ⟨q, 0, none⟩))) (hq : w.cell? ⟨q, 0, none⟩ = some (.slice (some ⟨g1, 0, none⟩) 8 c1))
    (hg : ∃ u, w.cell? ⟨g1, a, none⟩ = some u) (hf : w.frozen? ⟨g1, a, none⟩ = false) :
    Calls Try.prog 65 #[.int .i64 z, .pointer (some ⟨wi, 0, none⟩), .pointer (some ⟨wp, 0, none⟩)] w (Wrote g1 a z w) := by
  obtain ⟨u, hu⟩ := hg
  by_cases h0 : a = 0
  · subst h0
    go_enter Try.func65, Try.ntmps65
    go_wp2
    go_end0
    exact ⟨rfl, 0, rfl⟩
  · have e0 : ((a : Int) != 0) = true := by simp; omega
    have e1 : decide (a = 0) = false := by simp; omega
    have H0 := Lib.hid h0
    have ha8' : (a : Int) < 8 := by omega
    clear h0
    go_enter Try.func65, Try.ntmps65
    go_wp2
    go_still_tail 8, (by kernel_rfl)
    change wpList _ _ _ _ _ w.drew
    go_wp2
    go_end0
    exact ⟨rfl, 1, by rw [if_neg H0.out]; rfl⟩

set_option maxRecDepth 100000 in
set_option maxHeartbeats 4000000 in
theorem done3_any (w : World) (mc : List Value) (B q g1 c1 g2 c2 g3 c3 dn wi wv wf : Nat) (A Bq C : Nat) (xo xi : Int) (k : Int) (v : Ev) (c : Co) (wr : World) (hA : A < 8) (_hB : Bq < 8) (s : NW w mc B q g1 c1 g2 c2 g3 c3 dn wi wv wf ⟨k, A, Bq, C, xo, xi⟩ v c wr) (h0 : c.regs[0]? = some 0) : Calls Try.prog 67 #[.pointer (some ⟨wf, 0, none⟩), .pointer (some ⟨wi, 0, none⟩)] wr (fun e w' => e = .returned (.tuple #[]) ∧ NW w mc B q g1 c1 g2 c2 g3 c3 dn wi wv wf ⟨k, A, Bq, C, xo, xi⟩ v ⟨(c.regs.set A xi).set 0 0, c.data, c.held, c.pc, c.ended⟩ w') := by
  have y0 := s.ins.cell 0 _ rfl; have y1 := s.ins.cell 1 _ rfl; have y2 := s.ins.cell 2 _ rfl; have y3 := s.ins.cell 3 _ rfl; have y4 := s.ins.cell 4 _ rfl; have y5 := s.ins.cell 5 _ rfl
  have x0 := s.core.cell 0 _ rfl; have x1 := s.core.cell 1 _ rfl; have x2 := s.core.cell 2 _ rfl
  have v1 := s.ev.cell 1 _ rfl
  have f0 := s.fn.cell 0 _ rfl
  have p0 := s.fm.h1.cell 0 _ rfl
  obtain ⟨zu, hzu, _, czu, fzu⟩ := s.reg hA
  have S0 := Lib.hid s; have H0 := Lib.hid h0
  have WC := Lib.hid (write_any wi (w.heap.size + 1) q g1 c1 A xi wr hA y1 p0 x0 ⟨_, czu⟩ fzu)
  clear s h0 hzu czu fzu
  go_enter Try.func67, Try.ntmps67
  go_wp2_with fail
  refine WC.out.mono ?_
  intro e w' hw
  have HW := Lib.hid (S0.out.wrote H0.out hw)
  obtain rfl := hw.1
  clear hw
  go_wp2
  go_end0
  exact ⟨rfl, HW.out⟩
set_option maxRecDepth 100000 in
set_option maxHeartbeats 4000000 in
theorem done4_any (w : World) (mc : List Value) (B q g1 c1 g2 c2 g3 c3 dn wi wv wf : Nat) (A Bq C : Nat) (xo xi : Int) (k : Int) (v : Ev) (c : Co) (wr : World) (hA : A < 8) (hB : Bq < 8) (s : NW w mc B q g1 c1 g2 c2 g3 c3 dn wi wv wf ⟨k, A, Bq, C, xo, xi⟩ v c wr) (h0 : c.regs[0]? = some 0) : Calls Try.prog 68 #[.pointer (some ⟨wf, 0, none⟩), .pointer (some ⟨w.heap.size + 1, 0, none⟩), .pointer (some ⟨wi, 0, none⟩)] wr (fun e w' => e = .returned (.tuple #[]) ∧ NW w mc B q g1 c1 g2 c2 g3 c3 dn wi wv wf ⟨k, A, Bq, C, xo, xi⟩ v ⟨(c.regs.set A (rAt c.regs Bq)).set 0 0, c.data, c.held, c.pc, c.ended⟩ w') := by
  have y0 := s.ins.cell 0 _ rfl; have y1 := s.ins.cell 1 _ rfl; have y2 := s.ins.cell 2 _ rfl; have y3 := s.ins.cell 3 _ rfl; have y4 := s.ins.cell 4 _ rfl; have y5 := s.ins.cell 5 _ rfl
  have x0 := s.core.cell 0 _ rfl; have x1 := s.core.cell 1 _ rfl; have x2 := s.core.cell 2 _ rfl
  have v1 := s.ev.cell 1 _ rfl
  have f0 := s.fn.cell 0 _ rfl
  have p0 := s.fm.h1.cell 0 _ rfl
  obtain ⟨zb, hzb, hrb, czb, fzb⟩ := s.reg hB
  have HRB := Lib.hid hrb
  clear hrb hzb
  have hA8 : (A : Int) < 8 := by omega
  have hB8 : (Bq : Int) < 8 := by omega
  have SD := Lib.hid s.drew; have H0 := Lib.hid h0
  obtain ⟨zu, hzu, _, czu, fzu⟩ := s.drew.reg hA
  have WC := Lib.hid (write_any wi (w.heap.size + 1) q g1 c1 A zb wr.drew hA (s.drew.ins.cell 1 _ rfl) (s.drew.fm.h1.cell 0 _ rfl) (s.drew.core.cell 0 _ rfl) ⟨_, czu⟩ fzu)
  clear s h0 hzu czu fzu
  go_enter Try.func68, Try.ntmps68
  go_still_tail 9, (by kernel_rfl)
  change wpList _ _ _ _ _ wr.drew
  go_wp2_with fail
  refine WC.out.mono ?_
  intro e w' hw
  have HW := Lib.hid (SD.out.wrote H0.out hw)
  obtain rfl := hw.1
  clear hw
  go_wp2
  go_end0
  exact ⟨rfl, by rw [HRB.out]; exact HW.out⟩
set_option maxRecDepth 100000 in
set_option maxHeartbeats 4000000 in
theorem done5_any (w : World) (mc : List Value) (B q g1 c1 g2 c2 g3 c3 dn wi wv wf : Nat) (A Bq C : Nat) (xo xi : Int) (k : Int) (v : Ev) (c : Co) (wr : World) (hA : A < 8) (_hB : Bq < 8) (s : NW w mc B q g1 c1 g2 c2 g3 c3 dn wi wv wf ⟨k, A, Bq, C, xo, xi⟩ v c wr) (h0 : c.regs[0]? = some 0) (wn : Nat) (z : Int) (hn : wr.cell? ⟨wn, 0, none⟩ = some (.int .i64 z)) : Calls Try.prog 70 #[.pointer (some ⟨wf, 0, none⟩), .pointer (some ⟨wn, 0, none⟩)] wr (fun e w' => e = .returned (.tuple #[]) ∧ NW w mc B q g1 c1 g2 c2 g3 c3 dn wi wv wf ⟨k, A, Bq, C, xo, xi⟩ v ⟨(c.regs.set A z).set 0 0, c.data, c.held, c.pc, c.ended⟩ w') := by
  have y0 := s.ins.cell 0 _ rfl; have y1 := s.ins.cell 1 _ rfl; have y2 := s.ins.cell 2 _ rfl; have y3 := s.ins.cell 3 _ rfl; have y4 := s.ins.cell 4 _ rfl; have y5 := s.ins.cell 5 _ rfl
  have x0 := s.core.cell 0 _ rfl; have x1 := s.core.cell 1 _ rfl; have x2 := s.core.cell 2 _ rfl
  have v1 := s.ev.cell 1 _ rfl
  have f0 := s.fn.cell 0 _ rfl
  have p0 := s.fm.h1.cell 0 _ rfl
  obtain ⟨zu, hzu, _, czu, fzu⟩ := s.reg hA
  have S0 := Lib.hid s; have H0 := Lib.hid h0
  have WC := Lib.hid (write_any wi (w.heap.size + 1) q g1 c1 A z wr hA y1 p0 x0 ⟨_, czu⟩ fzu)
  clear s h0 hzu czu fzu
  go_enter Try.func70, Try.ntmps70
  go_wp2_with fail
  refine WC.out.mono ?_
  intro e w' hw
  have HW := Lib.hid (S0.out.wrote H0.out hw)
  obtain rfl := hw.1
  clear hw
  go_wp2
  go_end0
  exact ⟨rfl, HW.out⟩
set_option maxRecDepth 100000 in
set_option maxHeartbeats 4000000 in
theorem done6_any (w : World) (mc : List Value) (B q g1 c1 g2 c2 g3 c3 dn wi wv wf : Nat) (A Bq C : Nat) (xo xi : Int) (k : Int) (v : Ev) (c : Co) (wr : World) (hA : A < 8) (hB : Bq < 8) (s : NW w mc B q g1 c1 g2 c2 g3 c3 dn wi wv wf ⟨k, A, Bq, C, xo, xi⟩ v c wr) (h0 : c.regs[0]? = some 0) (AD : Nat) (hAD : AD < dn) (hv : v.addr = AD) : Calls Try.prog 71 #[.pointer (some ⟨wf, 0, none⟩), .pointer (some ⟨w.heap.size + 1, 0, none⟩), .pointer (some ⟨wv, 0, none⟩)] wr (fun e w' => e = .returned (.tuple #[]) ∧ NW w mc B q g1 c1 g2 c2 g3 c3 dn wi wv wf ⟨k, A, Bq, C, xo, xi⟩ v ⟨(c.regs.set A (rAt c.data AD)).set 0 0, c.data, c.held, c.pc, c.ended⟩ w') := by
  have y0 := s.ins.cell 0 _ rfl; have y1 := s.ins.cell 1 _ rfl; have y2 := s.ins.cell 2 _ rfl; have y3 := s.ins.cell 3 _ rfl; have y4 := s.ins.cell 4 _ rfl; have y5 := s.ins.cell 5 _ rfl
  have x0 := s.core.cell 0 _ rfl; have x1 := s.core.cell 1 _ rfl; have x2 := s.core.cell 2 _ rfl
  have v1 := s.ev.cell 1 _ rfl
  have f0 := s.fn.cell 0 _ rfl
  have p0 := s.fm.h1.cell 0 _ rfl
  rw [hv] at v1
  obtain ⟨zd, hzd, hrd, czd, fzd⟩ := s.dat hAD
  have HRD := Lib.hid hrd
  have hAD8 : (AD : Int) < (dn : Int) := by omega
  clear hrd hzd hv
  have hA8 : (A : Int) < 8 := by omega
  have hB8 : (Bq : Int) < 8 := by omega
  have SD := Lib.hid s.drew; have H0 := Lib.hid h0
  obtain ⟨zu, hzu, _, czu, fzu⟩ := s.drew.reg hA
  have WC := Lib.hid (write_any wi (w.heap.size + 1) q g1 c1 A zd wr.drew hA (s.drew.ins.cell 1 _ rfl) (s.drew.fm.h1.cell 0 _ rfl) (s.drew.core.cell 0 _ rfl) ⟨_, czu⟩ fzu)
  clear s h0 hzu czu fzu
  go_enter Try.func71, Try.ntmps71
  go_still_tail 9, (by kernel_rfl)
  change wpList _ _ _ _ _ wr.drew
  go_wp2_with fail
  refine WC.out.mono ?_
  intro e w' hw
  have HW := Lib.hid (SD.out.wrote H0.out hw)
  obtain rfl := hw.1
  clear hw
  go_wp2
  go_end0
  exact ⟨rfl, by rw [HRD.out]; exact HW.out⟩
set_option maxRecDepth 100000 in
set_option maxHeartbeats 4000000 in
theorem done7_any (w : World) (mc : List Value) (B q g1 c1 g2 c2 g3 c3 dn wi wv wf : Nat) (A Bq C : Nat) (xo xi : Int) (k : Int) (v : Ev) (c : Co) (wr : World) (hA : A < 8) (_hB : Bq < 8) (s : NW w mc B q g1 c1 g2 c2 g3 c3 dn wi wv wf ⟨k, A, Bq, C, xo, xi⟩ v c wr) (AD : Nat) (hAD : AD < dn) (hv : v.addr = AD) : Calls Try.prog 72 #[.pointer (some ⟨w.heap.size + 1, 0, none⟩), .pointer (some ⟨wi, 0, none⟩), .pointer (some ⟨wv, 0, none⟩)] wr (fun e w' => e = .returned (.tuple #[]) ∧ NW w mc B q g1 c1 g2 c2 g3 c3 dn wi wv wf ⟨k, A, Bq, C, xo, xi⟩ v ⟨c.regs, c.data.set AD (rAt c.regs A), c.held, c.pc, c.ended⟩ w') := by
  have y0 := s.ins.cell 0 _ rfl; have y1 := s.ins.cell 1 _ rfl; have y2 := s.ins.cell 2 _ rfl; have y3 := s.ins.cell 3 _ rfl; have y4 := s.ins.cell 4 _ rfl; have y5 := s.ins.cell 5 _ rfl
  have x0 := s.core.cell 0 _ rfl; have x1 := s.core.cell 1 _ rfl; have x2 := s.core.cell 2 _ rfl
  have v1 := s.ev.cell 1 _ rfl
  have f0 := s.fn.cell 0 _ rfl
  have p0 := s.fm.h1.cell 0 _ rfl
  rw [hv] at v1
  obtain ⟨za, hza, hra, cza, fza⟩ := s.reg hA
  obtain ⟨zd, hzd, hrd, czd, fzd⟩ := s.dat hAD
  have HRA := Lib.hid hra
  have hAD8 : (AD : Int) < (dn : Int) := by omega
  have hA8 : (A : Int) < 8 := by omega
  have SD := Lib.hid (s.setD AD za).drew
  clear hra hza hrd hzd hv s
  go_enter Try.func72, Try.ntmps72
  go_still_tail 15, (by kernel_rfl)
  change wpList _ _ _ _ _ wr.drew
  go_wp2
  go_end0
  exact ⟨rfl, by rw [HRA.out]; exact SD.out⟩
set_option maxRecDepth 100000 in
set_option maxHeartbeats 4000000 in
theorem done8_any (w : World) (mc : List Value) (B q g1 c1 g2 c2 g3 c3 dn wi wv wf : Nat) (A Bq C : Nat) (xo xi : Int) (k : Int) (v : Ev) (c : Co) (wr : World) (_hA : A < 8) (_hB : Bq < 8) (s : NW w mc B q g1 c1 g2 c2 g3 c3 dn wi wv wf ⟨k, A, Bq, C, xo, xi⟩ v c wr) (I : Nat) (hI : I < 4) (hxi : xi = I) (wl : Nat) (bl : Bool) (hl : wr.cell? ⟨wl, 0, none⟩ = some (.bool bl)) : Calls Try.prog 73 #[.pointer (some ⟨wl, 0, none⟩), .pointer (some ⟨w.heap.size + 1, 0, none⟩), .pointer (some ⟨wi, 0, none⟩)] wr (fun e w' => e = .returned (.tuple #[]) ∧ NW w mc B q g1 c1 g2 c2 g3 c3 dn wi wv wf ⟨k, A, Bq, C, xo, xi⟩ v ⟨c.regs, c.data, c.held.set I bl, c.pc, c.ended⟩ w') := by
  have y0 := s.ins.cell 0 _ rfl; have y1 := s.ins.cell 1 _ rfl; have y2 := s.ins.cell 2 _ rfl; have y3 := s.ins.cell 3 _ rfl; have y4 := s.ins.cell 4 _ rfl; have y5 := s.ins.cell 5 _ rfl
  have x0 := s.core.cell 0 _ rfl; have x1 := s.core.cell 1 _ rfl; have x2 := s.core.cell 2 _ rfl
  have v1 := s.ev.cell 1 _ rfl
  have f0 := s.fn.cell 0 _ rfl
  have p0 := s.fm.h1.cell 0 _ rfl
  rw [hxi] at y5
  obtain ⟨za, hza, hra, cza, fza⟩ := s.hld hI
  have hI8 : (I : Int) < 4 := by omega
  have SD := Lib.hid (s.setH I bl).drew
  clear hra hza s hxi
  go_enter Try.func73, Try.ntmps73
  go_still_tail 8, (by kernel_rfl)
  change wpList _ _ _ _ _ wr.drew
  go_wp2
  go_end0
  exact ⟨rfl, SD.out⟩
theorem done2_any (w : World) : Calls Try.prog 66 #[] w fun e w' => e = .returned (.tuple #[]) ∧ w' = w := by
  go_enter Try.func66, Try.ntmps66
  go_wp2
  go_end0
  exact ⟨rfl, rfl⟩
theorem done2_nw (w : World) (mc : List Value) (B q g1 c1 g2 c2 g3 c3 dn wi wv wf : Nat) (A Bq C : Nat) (xo xi : Int) (k : Int) (v : Ev) (c : Co) (wr : World) (_hA : A < 8) (_hB : Bq < 8) (s : NW w mc B q g1 c1 g2 c2 g3 c3 dn wi wv wf ⟨k, A, Bq, C, xo, xi⟩ v c wr) : Calls Try.prog 66 #[] wr (fun e w' => e = .returned (.tuple #[]) ∧ NW w mc B q g1 c1 g2 c2 g3 c3 dn wi wv wf ⟨k, A, Bq, C, xo, xi⟩ v c w') := (done2_any wr).mono fun e w' ⟨h1, h2⟩ => ⟨h1, by rw [h2]; exact s⟩
end Go.Proofs.Ytonbmijhbbodnaa
