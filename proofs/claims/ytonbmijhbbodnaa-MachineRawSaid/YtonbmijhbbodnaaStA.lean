/-
  The document's step: what stays as it is, and what the stores of a step do to it. Small laws.
-/
import Derived.Deep.RegionHeld3
import Derived.StillTailTactics
import Derived.Test.YtonbmijhbbodnaaImJ
import Derived.Test.YtonbmijhbbodnaaImI
import Derived.Test.YtonbmijhbbodnaaZInA
namespace Go.Proofs.Ytonbmijhbbodnaa
open Go.RowKit

def CoMod (q g1 g2 g3 : Nat) (k : Nat) : Prop := k = q ∨ k = g1 ∨ k = g2 ∨ k = g3
def StepRet (x : Ins) (cn dn : Nat) (B q g1 c1 g2 c2 g3 c3 : Nat) (c : Co) (w : World) (e : Ending) (w' : World) : Prop :=
  match stepP x cn dn c with
  | .inl er => e = .returned (.tuple #[EvV ev0, .int .i64 er]) ∧ Chg (CoMod q g1 g2 g3) w w'
  | .inr (v, d) => e = .returned (.tuple #[EvV v, .int .i64 0]) ∧ Has w' q (CoCells (some ⟨g1, 0, none⟩) 8 c1 (some ⟨g2, 0, none⟩) dn c2 (some ⟨g3, 0, none⟩) 4 c3 d.pc d.ended) ∧ CoOwn B w' g1 c1 g2 c2 g3 c3 8 dn 4 d.regs d.data d.held ∧ Chg (CoMod q g1 g2 g3) w w'
theorem flat_set {w : World} {g n c k i : Nat} {t : TypeId} {xs : List Value} (h : w.ownsRow g t 1 (.slice (some ⟨g, 0, none⟩) n c) k xs) (v : Value) : (w.setCell ⟨g, i, none⟩ v).ownsRow g t 1 (.slice (some ⟨g, 0, none⟩) n c) k (xs.set i v) := by
  refine ⟨by rw [List.length_set]; exact h.1, ?_⟩
  rcases h.2 with ⟨h1, _⟩ | ⟨g', cap, cur, h1, h2, h3, h4, h5, h6, h7⟩
  · cases h1
  · cases h1
    have hB : Blk w g t cur.toList := by unfold Blk; simpa using h3
    refine .inr ⟨g, c, (cur.toList.set i v).toArray, rfl, h2, hB.set i v, h4, h5, by simpa using h6, ?_⟩
    rw [← h7]
    simp [List.take_set]
theorem flat_fr {w : World} {B : Nat} {e : TypeId} {size g n c k : Nat} {xs : List Value} (h : w.ownsRow B e size (.slice (some ⟨g, 0, none⟩) n c) k xs) (hk : 0 < k) {i : Nat} : w.frozen? ⟨g, i, none⟩ = false := by
  rcases h.2 with ⟨h1, _⟩ | ⟨g', cap, cur, h1, h2, h3, _⟩
  · cases h1
  · cases h1
    simp [World.frozen?, h3]
theorem flat_other {w : World} {B g n c k : Nat} {t : TypeId} {xs : List Value} (h : w.ownsRow B t 1 (.slice (some ⟨g, 0, none⟩) n c) k xs) {p : Addr} (hp : g ≠ p.block) (v : Value) : (w.setCell p v).ownsRow B t 1 (.slice (some ⟨g, 0, none⟩) n c) k xs :=
  ownsRow_of h fun k hk => by simp [Value.ownBlock] at hk; subst hk; exact Below.heap_setCell w p v _ hp
theorem flat_alloc {w : World} {B : Nat} {v : Value} {size k : Nat} {t : TypeId} {xs : List Value} (h : w.ownsRow B t size v k xs) (o : Obj) : (w.alloc o).ownsRow B t size v k xs := h.alloc o
theorem ivs_set (l : List Int) (i : Nat) (z : Int) : (ivs l).set i (.int .i64 z) = ivs (l.set i z) := by unfold ivs; rw [List.map_set]; rfl
theorem bvs_set (l : List Bool) (i : Nat) (z : Bool) : (bvs l).set i (.bool z) = bvs (l.set i z) := by unfold bvs; rw [List.map_set]
theorem CoOwn.setR {B : Nat} {w : World} {g1 c1 g2 c2 g3 c3 rn dn hn : Nat} {regs data : List Int} {held : List Bool} (h : CoOwn B w g1 c1 g2 c2 g3 c3 rn dn hn regs data held) (i : Nat) (z : Int) : CoOwn B (w.setCell ⟨g1, i, none⟩ (.int .i64 z)) g1 c1 g2 c2 g3 c3 rn dn hn (regs.set i z) data held :=
  ⟨by rw [← ivs_set]; exact flat_set h.regs _, flat_other h.data (by have := h.lt1; simp; omega) _, flat_other h.held (by have := h.lt1; have := h.lt2; simp; omega) _, h.ge, h.lt1, h.lt2⟩
theorem CoOwn.setD {B : Nat} {w : World} {g1 c1 g2 c2 g3 c3 rn dn hn : Nat} {regs data : List Int} {held : List Bool} (h : CoOwn B w g1 c1 g2 c2 g3 c3 rn dn hn regs data held) (i : Nat) (z : Int) : CoOwn B (w.setCell ⟨g2, i, none⟩ (.int .i64 z)) g1 c1 g2 c2 g3 c3 rn dn hn regs (data.set i z) held :=
  ⟨flat_other h.regs (by have := h.lt1; simp; omega) _, by rw [← ivs_set]; exact flat_set h.data _, flat_other h.held (by have := h.lt1; have := h.lt2; simp; omega) _, h.ge, h.lt1, h.lt2⟩
theorem CoOwn.setH {B : Nat} {w : World} {g1 c1 g2 c2 g3 c3 rn dn hn : Nat} {regs data : List Int} {held : List Bool} (h : CoOwn B w g1 c1 g2 c2 g3 c3 rn dn hn regs data held) (i : Nat) (z : Bool) : CoOwn B (w.setCell ⟨g3, i, none⟩ (.bool z)) g1 c1 g2 c2 g3 c3 rn dn hn regs data (held.set i z) :=
  ⟨flat_other h.regs (by have := h.lt1; have := h.lt2; simp; omega) _, flat_other h.data (by have := h.lt2; simp; omega) _, by rw [← bvs_set]; exact flat_set h.held _, h.ge, h.lt1, h.lt2⟩
theorem CoOwn.other {B : Nat} {w : World} {g1 c1 g2 c2 g3 c3 rn dn hn : Nat} {regs data : List Int} {held : List Bool} (h : CoOwn B w g1 c1 g2 c2 g3 c3 rn dn hn regs data held) {p : Addr} (hp : g1 ≠ p.block ∧ g2 ≠ p.block ∧ g3 ≠ p.block) (v : Value) : CoOwn B (w.setCell p v) g1 c1 g2 c2 g3 c3 rn dn hn regs data held :=
  ⟨flat_other h.regs hp.1 _, flat_other h.data hp.2.1 _, flat_other h.held hp.2.2 _, h.ge, h.lt1, h.lt2⟩
theorem CoOwn.drewN {B : Nat} {w : World} {g1 c1 g2 c2 g3 c3 rn dn hn : Nat} {regs data : List Int} {held : List Bool} (h : CoOwn B w g1 c1 g2 c2 g3 c3 rn dn hn regs data held) (n : Nat) : CoOwn B (w.drewN n) g1 c1 g2 c2 g3 c3 rn dn hn regs data held := ⟨h.regs, h.data, h.held, h.ge, h.lt1, h.lt2⟩
theorem CoOwn.drew {B : Nat} {w : World} {g1 c1 g2 c2 g3 c3 rn dn hn : Nat} {regs data : List Int} {held : List Bool} (h : CoOwn B w g1 c1 g2 c2 g3 c3 rn dn hn regs data held) : CoOwn B w.drew g1 c1 g2 c2 g3 c3 rn dn hn regs data held := ⟨h.regs, h.data, h.held, h.ge, h.lt1, h.lt2⟩
theorem CoOwn.below {B : Nat} {w w' : World} {g1 c1 g2 c2 g3 c3 rn dn hn : Nat} {regs data : List Int} {held : List Bool} (h : CoOwn B w g1 c1 g2 c2 g3 c3 rn dn hn regs data held) (hb : Below w.heap.size w w') : CoOwn B w' g1 c1 g2 c2 g3 c3 rn dn hn regs data held := ⟨flat_below h.regs hb, flat_below h.data hb, flat_below h.held hb, h.ge, h.lt1, h.lt2⟩

/-- What is known within a step: the frame, the instruction, the event, the core. -/
structure SW (w : World) (mc : List Value) (B q g1 c1 g2 c2 g3 c3 dn wi wv : Nat) (x : Ins) (v : Ev) (c : Co) (wr : World) : Prop where
  fm : Fm (CoMod q g1 g2 g3) w wr [mc, EvCells ev0]
  ins : Has wr wi (ICells x)
  ev : Has wr wv (EvCells v)
  core : Has wr q (CoCells (some ⟨g1, 0, none⟩) 8 c1 (some ⟨g2, 0, none⟩) dn c2 (some ⟨g3, 0, none⟩) 4 c3 c.pc c.ended)
  own : CoOwn B wr g1 c1 g2 c2 g3 c3 8 dn 4 c.regs c.data c.held
  lt : q < w.heap.size ∧ g1 < w.heap.size ∧ g2 < w.heap.size ∧ g3 < w.heap.size
  ne : q ≠ g1 ∧ q ≠ g2 ∧ q ≠ g3
  at_ : w.heap.size + 2 ≤ wi ∧ wi < wv
variable {w wr : World} {mc : List Value} {B q g1 c1 g2 c2 g3 c3 dn wi wv : Nat} {x : Ins} {v : Ev} {c : Co}
theorem SW.drew (s : SW w mc B q g1 c1 g2 c2 g3 c3 dn wi wv x v c wr) : SW w mc B q g1 c1 g2 c2 g3 c3 dn wi wv x v c wr.drew := ⟨s.fm.drew, s.ins.drew, s.ev.drew, s.core.drew, s.own.drew, s.lt, s.ne, s.at_⟩
theorem SW.drewN (s : SW w mc B q g1 c1 g2 c2 g3 c3 dn wi wv x v c wr) (n : Nat) : SW w mc B q g1 c1 g2 c2 g3 c3 dn wi wv x v c (wr.drewN n) := ⟨s.fm.drewN n, s.ins.drewN n, s.ev.drewN n, s.core.drewN n, s.own.drewN n, s.lt, s.ne, s.at_⟩
theorem SW.setAddr (s : SW w mc B q g1 c1 g2 c2 g3 c3 dn wi wv x v c wr) (z : Int) : SW w mc B q g1 c1 g2 c2 g3 c3 dn wi wv x ⟨v.at_, z, v.jumped⟩ c (wr.setCell ⟨wv, 1, none⟩ (.int .i64 z)) := by
  have h1 := s.lt; have h2 := s.at_
  exact ⟨s.fm.far (.inr (by simp; omega)) _, s.ins.other (by simp; omega), s.ev.set1 _, s.core.other (by simp; omega), s.own.other (by simp; omega) _, s.lt, s.ne, s.at_⟩
theorem SW.setJump (s : SW w mc B q g1 c1 g2 c2 g3 c3 dn wi wv x v c wr) (z : Bool) : SW w mc B q g1 c1 g2 c2 g3 c3 dn wi wv x ⟨v.at_, v.addr, z⟩ c (wr.setCell ⟨wv, 2, none⟩ (.bool z)) := by
  have h1 := s.lt; have h2 := s.at_
  exact ⟨s.fm.far (.inr (by simp; omega)) _, s.ins.other (by simp; omega), s.ev.set2 _, s.core.other (by simp; omega), s.own.other (by simp; omega) _, s.lt, s.ne, s.at_⟩
theorem SW.setPC (s : SW w mc B q g1 c1 g2 c2 g3 c3 dn wi wv x v c wr) (z : Int) : SW w mc B q g1 c1 g2 c2 g3 c3 dn wi wv x v ⟨c.regs, c.data, c.held, z, c.ended⟩ (wr.setCell ⟨q, 3, none⟩ (.int .i64 z)) := by
  have h1 := s.lt; have h2 := s.at_; have h3 := s.ne
  exact ⟨s.fm.far (.inl ⟨h1.1, .inl rfl⟩) _, s.ins.other (by simp; omega), s.ev.other (by simp; omega), (s.core.set (k := 3) (by simp) _).at rfl, s.own.other (by simp; omega) _, s.lt, s.ne, s.at_⟩
theorem SW.setEnd (s : SW w mc B q g1 c1 g2 c2 g3 c3 dn wi wv x v c wr) (z : Bool) : SW w mc B q g1 c1 g2 c2 g3 c3 dn wi wv x v ⟨c.regs, c.data, c.held, c.pc, z⟩ (wr.setCell ⟨q, 4, none⟩ (.bool z)) := by
  have h1 := s.lt; have h2 := s.at_; have h3 := s.ne
  exact ⟨s.fm.far (.inl ⟨h1.1, .inl rfl⟩) _, s.ins.other (by simp; omega), s.ev.other (by simp; omega), (s.core.set (k := 4) (by simp) _).at rfl, s.own.other (by simp; omega) _, s.lt, s.ne, s.at_⟩
theorem SW.setR (s : SW w mc B q g1 c1 g2 c2 g3 c3 dn wi wv x v c wr) (i : Nat) (z : Int) : SW w mc B q g1 c1 g2 c2 g3 c3 dn wi wv x v ⟨c.regs.set i z, c.data, c.held, c.pc, c.ended⟩ (wr.setCell ⟨g1, i, none⟩ (.int .i64 z)) := by
  have h1 := s.lt; have h2 := s.at_; have h3 := s.ne
  exact ⟨s.fm.far (.inl ⟨h1.2.1, .inr (.inl rfl)⟩) _, s.ins.other (by simp; omega), s.ev.other (by simp; omega), s.core.other (by simp; omega), s.own.setR i z, s.lt, s.ne, s.at_⟩
theorem SW.setD (s : SW w mc B q g1 c1 g2 c2 g3 c3 dn wi wv x v c wr) (i : Nat) (z : Int) : SW w mc B q g1 c1 g2 c2 g3 c3 dn wi wv x v ⟨c.regs, c.data.set i z, c.held, c.pc, c.ended⟩ (wr.setCell ⟨g2, i, none⟩ (.int .i64 z)) := by
  have h1 := s.lt; have h2 := s.at_; have h3 := s.ne
  exact ⟨s.fm.far (.inl ⟨h1.2.2.1, .inr (.inr (.inl rfl))⟩) _, s.ins.other (by simp; omega), s.ev.other (by simp; omega), s.core.other (by simp; omega), s.own.setD i z, s.lt, s.ne, s.at_⟩
theorem SW.setH (s : SW w mc B q g1 c1 g2 c2 g3 c3 dn wi wv x v c wr) (i : Nat) (z : Bool) : SW w mc B q g1 c1 g2 c2 g3 c3 dn wi wv x v ⟨c.regs, c.data, c.held.set i z, c.pc, c.ended⟩ (wr.setCell ⟨g3, i, none⟩ (.bool z)) := by
  have h1 := s.lt; have h2 := s.at_; have h3 := s.ne
  exact ⟨s.fm.far (.inl ⟨h1.2.2.2, .inr (.inr (.inr rfl))⟩) _, s.ins.other (by simp; omega), s.ev.other (by simp; omega), s.core.other (by simp; omega), s.own.setH i z, s.lt, s.ne, s.at_⟩
/-- What the call leaves to its caller. -/
structure SE (w : World) (B q g1 c1 g2 c2 g3 c3 dn : Nat) (c : Co) (wr : World) : Prop where
  chg : Chg (CoMod q g1 g2 g3) w wr
  core : Has wr q (CoCells (some ⟨g1, 0, none⟩) 8 c1 (some ⟨g2, 0, none⟩) dn c2 (some ⟨g3, 0, none⟩) 4 c3 c.pc c.ended)
  own : CoOwn B wr g1 c1 g2 c2 g3 c3 8 dn 4 c.regs c.data c.held
  lt : q < w.heap.size ∧ g1 < w.heap.size ∧ g2 < w.heap.size ∧ g3 < w.heap.size
theorem SW.se (s : SW w mc B q g1 c1 g2 c2 g3 c3 dn wi wv x v c wr) : SE w B q g1 c1 g2 c2 g3 c3 dn c wr := ⟨s.fm.chg, s.core, s.own, s.lt⟩
/-- A store into the block of the result. -/
theorem SE.res (s : SE w B q g1 c1 g2 c2 g3 c3 dn c wr) (k : Nat) (u : Value) : SE w B q g1 c1 g2 c2 g3 c3 dn c (wr.setCell ⟨w.heap.size + 1, k, none⟩ u) := by
  have h1 := s.lt
  exact ⟨s.chg.setCell (fun h => by simp at h; omega) _, s.core.other (by simp; omega), s.own.other (by simp; omega) _, s.lt⟩
theorem SE.drew (s : SE w B q g1 c1 g2 c2 g3 c3 dn c wr) : SE w B q g1 c1 g2 c2 g3 c3 dn c wr.drew := ⟨s.chg.drew, s.core.drew, s.own.drew, s.lt⟩
theorem step_err {cn : Nat} {e : Ending} {w' : World} {er : Int} (h : stepP x cn dn c = .inl er) (he : e = .returned (.tuple #[EvV ev0, .int .i64 er])) (hb : Chg (CoMod q g1 g2 g3) w w') : StepRet x cn dn B q g1 c1 g2 c2 g3 c3 c w e w' := by
  unfold StepRet; rw [h]; exact ⟨he, hb⟩
theorem step_ok {cn : Nat} {e : Ending} {w' : World} {d : Co} (h : stepP x cn dn c = .inr (v, d)) (he : e = .returned (.tuple #[EvV v, .int .i64 0])) (s : SE w B q g1 c1 g2 c2 g3 c3 dn d w') : StepRet x cn dn B q g1 c1 g2 c2 g3 c3 c w e w' := by
  unfold StepRet; rw [h]; exact ⟨he, s.core, s.own, s.chg⟩
/-- The registers' cells. -/
theorem SW.reg (s : SW w mc B q g1 c1 g2 c2 g3 c3 dn wi wv x v c wr) {i : Nat} (hi : i < 8) : ∃ z, c.regs[i]? = some z ∧ rAt c.regs (i : Int) = z ∧ wr.cell? ⟨g1, i, none⟩ = some (.int .i64 z) ∧ wr.frozen? ⟨g1, i, none⟩ = false := by
  obtain ⟨z, hz⟩ : ∃ z, c.regs[i]? = some z := ⟨_, List.getElem?_eq_getElem (by have h := s.own.regs.1; rw [ivs_length] at h; omega)⟩
  obtain ⟨g, hg, _, lg, _, _, _, gc⟩ := flat_cells s.own.regs (by omega)
  cases hg
  exact ⟨z, hz, by unfold rAt; rw [Int.toNat_natCast, List.getD_eq_getElem?_getD, hz]; rfl, gc _ _ (ivs_get hz), flat_fr s.own.regs (by omega)⟩
theorem SW.dat (s : SW w mc B q g1 c1 g2 c2 g3 c3 dn wi wv x v c wr) {i : Nat} (hi : i < dn) : ∃ z, c.data[i]? = some z ∧ rAt c.data (i : Int) = z ∧ wr.cell? ⟨g2, i, none⟩ = some (.int .i64 z) ∧ wr.frozen? ⟨g2, i, none⟩ = false := by
  obtain ⟨z, hz⟩ : ∃ z, c.data[i]? = some z := ⟨_, List.getElem?_eq_getElem (by have h := s.own.data.1; rw [ivs_length] at h; omega)⟩
  obtain ⟨g, hg, _, lg, _, _, _, gc⟩ := flat_cells s.own.data (by omega)
  cases hg
  exact ⟨z, hz, by unfold rAt; rw [Int.toNat_natCast, List.getD_eq_getElem?_getD, hz]; rfl, gc _ _ (ivs_get hz), flat_fr s.own.data (by omega)⟩
theorem SW.hld (s : SW w mc B q g1 c1 g2 c2 g3 c3 dn wi wv x v c wr) {i : Nat} (hi : i < 4) : ∃ z, c.held[i]? = some z ∧ hAt c.held (i : Int) = z ∧ wr.cell? ⟨g3, i, none⟩ = some (.bool z) ∧ wr.frozen? ⟨g3, i, none⟩ = false := by
  obtain ⟨z, hz⟩ : ∃ z, c.held[i]? = some z := ⟨_, List.getElem?_eq_getElem (by have h := s.own.held.1; rw [bvs_length] at h; omega)⟩
  obtain ⟨g, hg, _, lg, _, _, _, gc⟩ := flat_cells s.own.held (by omega)
  cases hg
  exact ⟨z, hz, by unfold hAt; rw [Int.toNat_natCast, List.getD_eq_getElem?_getD, hz]; rfl, gc _ _ (bvs_get hz), flat_fr s.own.held (by omega)⟩
end Go.Proofs.Ytonbmijhbbodnaa
