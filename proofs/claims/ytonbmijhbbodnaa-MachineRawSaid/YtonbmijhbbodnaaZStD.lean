/-
  The document's Step.
  machine.Copy.
  The document's Step: the walk.
-/
import Derived.Test.YtonbmijhbbodnaaZSt10
import Derived.Test.YtonbmijhbbodnaaImF
import Derived.Test.YtonbmijhbbodnaaMsH
namespace Go.Proofs.Ytonbmijhbbodnaa
open Go.RowKit

def Or2 (K : Nat → Prop) (B : Nat) (k : Nat) : Prop := K k ∨ B ≤ k
/-- What Step leaves. -/
def StepR (m : Img) (c : Co) (K : Nat → Prop) (w : World) (e : Ending) (w' : World) : Prop :=
  ∃ ra rn rc da dn dc ha hn hc d v er, e = .returned (.tuple #[CoV ra rn rc da dn dc ha hn hc d.pc d.ended, EvV v, .int .i64 er]) ∧ StepIs m c d v er ∧ IsCo (Or2 K w.heap.size) w' ra rn rc da dn dc ha hn hc d ∧ Below w.heap.size w w'
theorem IsCo.wide {K K' : Nat → Prop} {w : World} {ra : Option Addr} {rn rc : Nat} {da : Option Addr} {dn dc : Nat} {ha : Option Addr} {hn hc : Nat} {c : Co} (h : IsCo K w ra rn rc da dn dc ha hn hc c) (hk : ∀ k, K k → K' k) : IsCo K' w ra rn rc da dn dc ha hn hc c :=
  ⟨Row.wide RInt.wider (fun k h _ => hk k h) h.regs, Row.wide RInt.wider (fun k h _ => hk k h) h.data, Row.wide (fun _ _ _ _ _ _ _ h => h) (fun k h _ => hk k h) h.held, h.pc⟩
theorem flat_i64 {w : World} {B n c : Nat} {K : Nat → Prop} {a : Option Addr} {l : List Int} (h : w.ownsRow B 3 1 (.slice a n c) n (ivs l)) (hl : ∀ z ∈ l, I64 z) (hm : n ≤ 1000000) (hK : ∀ j, B ≤ j → K j) : Ints K w a n c l := by
  have hlen : l.length = n := by have := h.1; rw [ivs_length] at this; omega
  obtain ⟨h1, h2, h3⟩ := flat_len h
  refine ⟨hlen, h2, by unfold maxLen at h3; omega, by omega, fun i x hx => ?_⟩
  have hi := (List.getElem?_eq_some_iff.1 hx).1
  obtain ⟨g, rfl, g1, g2, _, _, _, hc⟩ := flat_cells h (by omega)
  refine ⟨g, 0, rfl, hK g g1, g2, ?_, hl x (List.mem_of_getElem? hx)⟩
  rw [Nat.zero_add, Nat.mul_one]
  exact hc i _ (ivs_get hx)
theorem flat_bools {w : World} {B n c : Nat} {K : Nat → Prop} {a : Option Addr} {l : List Bool} (h : w.ownsRow B 4 1 (.slice a n c) n (bvs l)) (hm : n ≤ 1000000) (hK : ∀ j, B ≤ j → K j) : Bools K w a n c l := by
  have hlen : l.length = n := by have := h.1; rw [bvs_length] at this; omega
  obtain ⟨h1, h2, h3⟩ := flat_len h
  refine ⟨hlen, h2, by unfold maxLen at h3; omega, by omega, fun i x hx => ?_⟩
  have hi := (List.getElem?_eq_some_iff.1 hx).1
  obtain ⟨g, rfl, g1, g2, _, _, _, hc⟩ := flat_cells h (by omega)
  refine ⟨g, 0, rfl, hK g g1, g2, ?_⟩
  rw [Nat.zero_add, Nat.mul_one]
  exact hc i _ (bvs_get hx)
/-- Words stay words. -/
theorem wds_set {l : List Int} (h : wds l = true) (i : Nat) {z : Int} (hz : Wd z) : wds (l.set i z) = true := by
  unfold wds at h ⊢
  rw [List.all_eq_true] at h ⊢
  intro y hy
  rcases List.mem_or_eq_of_mem_set hy with h1 | h1
  · exact h y h1
  · subst h1; unfold Wd at hz; simp [wordB]; omega
theorem wds_at {l : List Int} (h : wds l = true) (i : Int) : Wd (rAt l i) := by
  unfold rAt
  rw [List.getD_eq_getElem?_getD]
  cases hx : l[i.toNat]? with
  | none => simp [Wd]
  | some z => exact wds_get h hx
theorem step_words {x : Ins} {cn : Nat} {D : Int} {c d : Co} {v : Ev} (h : stepP x cn D c = .inr (v, d)) (hch : chkI x = 0) (hr : wds c.regs = true) (hd : wds c.data = true) : wds d.regs = true ∧ wds d.data = true := by
  have hs := small_of hch
  unfold stepP at h
  split at h
  · cases h
  · split at h
    · cases h
    · cases h
      refine ⟨?_, ?_⟩
      · unfold effR
        refine wds_set ?_ 0 (by unfold Wd; omega)
        split
        · exact wds_set hr _ ⟨hs.i0, by have := hs.i1; omega⟩
        · split
          · exact wds_set hr _ (wds_at hr _)
          · split
            · exact wds_set hr _ (w32_wd _)
            · split
              · exact wds_set hr _ (wds_at hd _)
              · exact hr
      · unfold effD
        split
        · exact wds_set hd _ (wds_at hr _)
        · exact hd
theorem step_lens {x : Ins} {cn : Nat} {D : Int} {c d : Co} {v : Ev} (h : stepP x cn D c = .inr (v, d)) : d.regs.length = c.regs.length ∧ d.data.length = c.data.length ∧ d.held.length = c.held.length := by
  unfold stepP at h
  split at h
  · cases h
  · split at h
    · cases h
    · cases h
      refine ⟨?_, ?_, ?_⟩
      · unfold effR; (repeat' split) <;> simp
      · unfold effD; (repeat' split) <;> simp
      · unfold effH; (repeat' split) <;> simp
theorem wds_i64 {l : List Int} (h : wds l = true) : ∀ z ∈ l, I64 z := fun z hz => by
  obtain ⟨i, hi⟩ := List.getElem?_of_mem hz
  have := wds_get h hi
  unfold Wd at this
  exact ⟨by omega, by omega⟩

/-- Three lists that a call has made, one behind the other. -/
structure Thr (B : Nat) (w : World) (ra : Option Addr) (rn rc : Nat) (da : Option Addr) (dn dc : Nat) (ha : Option Addr) (hn hc : Nat) (c : Co) : Prop where
  own : ∃ B2 B3, w.ownsRow B 3 1 (.slice ra rn rc) rn (ivs c.regs) ∧ w.ownsRow B2 3 1 (.slice da dn dc) dn (ivs c.data) ∧ w.ownsRow B3 4 1 (.slice ha hn hc) hn (bvs c.held) ∧ B ≤ B2 ∧ B2 ≤ B3 ∧ (∀ k, (Value.slice ra rn rc).ownBlock = some k → k < B2) ∧ (∀ k, (Value.slice da dn dc).ownBlock = some k → k < B3)
theorem Thr.below {B : Nat} {w w' : World} {ra : Option Addr} {rn rc : Nat} {da : Option Addr} {dn dc : Nat} {ha : Option Addr} {hn hc : Nat} {c : Co} (h : Thr B w ra rn rc da dn dc ha hn hc c) (hb : Below w.heap.size w w') : Thr B w' ra rn rc da dn dc ha hn hc c := by
  obtain ⟨B2, B3, h1, h2, h3, h4⟩ := h.own
  exact ⟨B2, B3, flat_below h1 hb, flat_below h2 hb, flat_below h3 hb, h4⟩
theorem Thr.chg {B : Nat} {w w' : World} {ra : Option Addr} {rn rc : Nat} {da : Option Addr} {dn dc : Nat} {ha : Option Addr} {hn hc : Nat} {c : Co} (h : Thr B w ra rn rc da dn dc ha hn hc c) {M : Nat → Prop} (hb : Chg M w w') (hM : ∀ k, B ≤ k → ¬ M k) : Thr B w' ra rn rc da dn dc ha hn hc c := by
  obtain ⟨B2, B3, h1, h2, h3, h4, h5⟩ := h.own
  exact ⟨B2, B3, flat_of h1 hb (fun k hk _ => hM k hk), flat_of h2 hb (fun k hk _ => hM k (by omega)), flat_of h3 hb (fun k hk _ => hM k (by omega)), h4, h5⟩
theorem Thr.lower {B B' : Nat} {w : World} {ra : Option Addr} {rn rc : Nat} {da : Option Addr} {dn dc : Nat} {ha : Option Addr} {hn hc : Nat} {c : Co} (h : Thr B w ra rn rc da dn dc ha hn hc c) (hb : B' ≤ B) : Thr B' w ra rn rc da dn dc ha hn hc c := by
  obtain ⟨B2, B3, h1, h2, h3, h4, h5⟩ := h.own
  exact ⟨B2, B3, flat_ge h1 hb, h2, h3, Nat.le_trans hb h4, h5⟩
theorem Thr.co {B : Nat} {w : World} {ra : Option Addr} {rn rc : Nat} {da : Option Addr} {dn dc : Nat} {ha : Option Addr} {hn hc : Nat} {c : Co} (h : Thr B w ra rn rc da dn dc ha hn hc c) (h1 : 0 < rn) (h2 : 0 < dn) (h3 : 0 < hn) :
    ∃ g1 g2 g3, ra = some ⟨g1, 0, none⟩ ∧ da = some ⟨g2, 0, none⟩ ∧ ha = some ⟨g3, 0, none⟩ ∧ CoOwn B w g1 rc g2 dc g3 hc rn dn hn c.regs c.data c.held := by
  obtain ⟨B2, B3, o1, o2, o3, b1, b2, b3, b4⟩ := h.own
  obtain ⟨g1, rfl, l1, _⟩ := flat_cells o1 h1
  obtain ⟨g2, rfl, l2, _⟩ := flat_cells o2 h2
  obtain ⟨g3, rfl, l3, _⟩ := flat_cells o3 h3
  exact ⟨g1, g2, g3, rfl, rfl, rfl, own_self o1, own_self o2, own_self o3, l1, by have := b3 g1 rfl; omega, by have := b4 g2 rfl; omega⟩
theorem Thr.isco {B : Nat} {w : World} {ra : Option Addr} {rn rc : Nat} {da : Option Addr} {dn dc : Nat} {ha : Option Addr} {hn hc : Nat} {c : Co} (h : Thr B w ra rn rc da dn dc ha hn hc c) (h1 : ∀ z ∈ c.regs, I64 z) (h2 : ∀ z ∈ c.data, I64 z) (h3 : I64 c.pc) (hr : rn ≤ 1000000) (hd : dn ≤ 1000000) (hh : hn ≤ 1000000) {K : Nat → Prop} (hK : ∀ j, B ≤ j → K j) : IsCo K w ra rn rc da dn dc ha hn hc c := by
  obtain ⟨B2, B3, o1, o2, o3, b1, b2, b3, b4⟩ := h.own
  exact ⟨flat_i64 o1 h1 hr hK, flat_i64 o2 h2 hd (fun j hj => hK j (by omega)), flat_bools o3 hh (fun j hj => hK j (by omega)), h3⟩
def MCopyRet (rn dn hn : Nat) (c : Co) (w : World) (e : Ending) (w' : World) : Prop := ∃ ra rc da dc ha hc, e = .returned (CoV ra rn rc da dn dc ha hn hc c.pc c.ended) ∧ Thr w.heap.size w' ra rn rc da dn dc ha hn hc c ∧ Below w.heap.size w w'
set_option maxRecDepth 100000 in
set_option maxHeartbeats 8000000 in
theorem mcopy_any (K2 : Nat → Prop) (ra : Option Addr) (rn rc : Nat) (da : Option Addr) (dn dc : Nat) (ha : Option Addr) (hn hc : Nat) (c : Co) (w : World)
    (g : IsCo K2 w ra rn rc da dn dc ha hn hc c) (hr1 : rn ≤ 1000000) (hd1 : dn ≤ 1000000) (hh1 : hn ≤ 1000000) :
    Calls Try.prog 35 #[CoV ra rn rc da dn dc ha hn hc c.pc c.ended] w (MCopyRet rn dn hn c w) := by
  obtain ⟨regs, data, held, pc, en⟩ := c
  have F0 := Lib.hid (Fm.new (Fm.new (Fm.start Non w) rfl (CoCells ra rn rc da dn dc ha hn hc pc en) 36) (by simp) (CoCells none 0 0 none 0 0 none 0 0 0 false) 36)
  have G := Lib.hid g
  clear g
  go_enter Try.func35, Try.ntmps35
  go_upto_region 1 with fail
  obtain ⟨w1, hw1⟩ : ∃ w1, w1 = (w.alloc (.cells #[.slice ra rn rc, .slice da dn dc, .slice ha hn hc, .int .i64 pc, .bool en] 36)).alloc (.cells #[NIL, NIL, NIL, .int .i64 0, .bool false] 36) := ⟨_, rfl⟩
  rw [← hw1]
  have F1 := Lib.hid (show Fm Non w w1 [CoCells ra rn rc da dn dc ha hn hc pc en, CoCells none 0 0 none 0 0 none 0 0 0 false] by rw [hw1]; exact F0.out)
  clear hw1 F0
  have t0 := F1.out.h0
  have x0 := t0.cell 0 _ rfl; have x1 := t0.cell 1 _ rfl; have x2 := t0.cell 2 _ rfl
  clear t0
  refine hd_start 10 (fun w' => w'.cell? ⟨w.heap.size, 0, none⟩ = some (.slice ra rn rc) ∧ w'.cell? ⟨w.heap.size, 1, none⟩ = some (.slice da dn dc) ∧ w'.cell? ⟨w.heap.size, 2, none⟩ = some (.slice ha hn hc)) (by kernel_rfl) ⟨by kernel_rfl, by kernel_rfl, by kernel_rfl, by decide⟩ (by refine ⟨x0, x1, x2⟩) (fun ok => ?_)
  refine hd_t 0 ok rfl ?_
  go_frame
  refine hd_t 1 ok rfl ?_
  go_frame
  refine hd_t 3 ok rfl ?_
  go_frame
  refine hd_t 4 ok rfl ?_
  go_frame
  refine hd_t 6 ok rfl ?_
  go_frame
  refine hd_t 7 ok rfl ?_
  go_frame
  have F2 := Lib.hid F1.out.drew
  clear F1
  generalize w1.drew = w2 at F2 ⊢
  refine hd_only_l (c := 2) rfl (by decide) (by kernel_rfl) (fun K hK => ?_)
  go_simp
  go_at_call 62
  refine (clone_ints K2 ra rn rc regs w2 (G.out.below F2.out.below).regs hr1).mono ?_
  rintro e w3 ⟨ra', rc', rfl, o1, hb⟩
  have F3 := Lib.hid (Fm.call hb F2.out)
  have O1 := Lib.hid o1
  have Z1 := Lib.hid hb.size
  clear o1 hb x0 x1 x2
  have x0 := F3.out.h0.cell 0 _ rfl; have x1 := F3.out.h0.cell 1 _ rfl; have x2 := F3.out.h0.cell 2 _ rfl
  (try simp only [])
  refine hK _ _ (by refine ⟨?_, ?_, ?_⟩ <;> (first | exact x0 | exact x1 | exact x2)) ?_
  clear hK K
  (try go_frame)
  refine hd_t 9 ok rfl ?_
  go_frame
  refine hd_only_l (c := 5) rfl (by decide) (by kernel_rfl) (fun K hK => ?_)
  go_simp
  go_at_call 62
  refine (clone_ints K2 da dn dc data w3 (G.out.below F3.out.below).data hd1).mono ?_
  rintro e w4 ⟨da', dc', rfl, o2, hb⟩
  have F4 := Lib.hid (Fm.call hb F3.out)
  have O2 := Lib.hid o2
  have Z2 := Lib.hid hb.size
  have O1' := Lib.hid (flat_below O1.out hb)
  clear o2 hb x0 x1 x2
  have x0 := F4.out.h0.cell 0 _ rfl; have x1 := F4.out.h0.cell 1 _ rfl; have x2 := F4.out.h0.cell 2 _ rfl
  (try simp only [])
  refine hK _ _ (by refine ⟨?_, ?_, ?_⟩ <;> (first | exact x0 | exact x1 | exact x2)) ?_
  clear hK K
  (try go_frame)

  refine hd_only_l (c := 8) rfl (by decide) (by kernel_rfl) (fun K hK => ?_)
  go_simp
  go_at_call 63
  refine (clone_bools K2 ha hn hc held w4 (G.out.below F4.out.below).held hh1).mono ?_
  rintro e w5 ⟨ha', hc', rfl, o3, hb⟩
  have F5 := Lib.hid (Fm.call hb F4.out)
  have ZB := Lib.hid F2.out.size
  have T5 := Lib.hid (show Thr w2.heap.size w5 ra' rn rc' da' dn dc' ha' hn hc' ⟨regs, data, held, pc, en⟩ from ⟨w3.heap.size, w4.heap.size, flat_below O1'.out hb, flat_below O2.out hb, o3, Z1.out, Z2.out, fun k hk => (O1.out.lt k hk).2, fun k hk => (O2.out.lt k hk).2⟩)
  clear o3 hb x0 x1 x2
  have x0 := F5.out.h0.cell 0 _ rfl; have x1 := F5.out.h0.cell 1 _ rfl; have x2 := F5.out.h0.cell 2 _ rfl; have x3 := F5.out.h0.cell 3 _ rfl; have x4 := F5.out.h0.cell 4 _ rfl; have xf := F5.out.h0.free; have lt0 := F5.out.h0.lt (by simp)
  have y0 := F5.out.h1.cell 0 _ rfl; have y1 := F5.out.h1.cell 1 _ rfl; have y2 := F5.out.h1.cell 2 _ rfl; have y3 := F5.out.h1.cell 3 _ rfl; have y4 := F5.out.h1.cell 4 _ rfl; have yf := F5.out.h1.free; have lt1 := F5.out.h1.lt (by simp)
  (try simp only [])
  refine hK _ _ (by refine ⟨?_, ?_, ?_⟩ <;> (first | exact x0 | exact x1 | exact x2)) ?_
  clear hK K
  (try go_frame)

  clear ok
  refine hd_done (by kernel_rfl) ?_
  simp only [List.drop_succ_cons, List.drop_zero]
  go_wp2
  refine bodyPost_ret (v := CoV ra' rn rc' da' dn dc' ha' hn hc' pc en) (by simp [results, Try.results35, go_sem, y0, y1, y2, y3, y4]) rfl ⟨_, _, _, _, _, _, rfl, ?_, ?_⟩
  · have hz : w.heap.size + 2 ≤ w2.heap.size := by have := ZB.out; simpa using this
    refine (T5.out.chg (M := fun k => k < w2.heap.size) ?_ (fun k hk => by omega)).lower (by omega)
    repeat (first | with_reducible exact Chg.refl _ | (refine Chg.setCell ?_ (fun _ => by dsimp only; omega) _))
  · repeat (first | with_reducible exact F5.out.below | (refine Below.setCell ?_ (by dsimp only; omega) _))

theorem stepR_err {m : Img} {c : Co} {K : Nat → Prop} {w w' : World} {ra : Option Addr} {rn rc : Nat} {da : Option Addr} {dn dc : Nat} {ha : Option Addr} {hn hc : Nat} {er : Int} {e : Ending} (g : IsCo K w ra rn rc da dn dc ha hn hc c) (hs : StepIs m c c ev0 er) (hb : Below w.heap.size w w')
    (he : e = .returned (.tuple #[CoV ra rn rc da dn dc ha hn hc c.pc c.ended, EvV ev0, .int .i64 er])) : StepR m c K w e w' :=
  ⟨ra, rn, rc, da, dn, dc, ha, hn, hc, c, ev0, er, he, hs, (g.below hb).wide (fun _ h => .inl h), hb⟩
theorem stepR_ok {m : Img} {c d : Co} {K : Nat → Prop} {w w' : World} {B g1 c1 g2 c2 g3 c3 dn : Nat} {v : Ev} {e : Ending} (ho : CoOwn B w' g1 c1 g2 c2 g3 c3 8 dn 4 d.regs d.data d.held) (hB : w.heap.size ≤ B) (hr : wds d.regs = true) (hd : wds d.data = true) (hdn : dn ≤ 1024) (hp : I64 d.pc) (hs : StepIs m c d v 0) (hb : Below w.heap.size w w')
    (he : e = .returned (.tuple #[CoV (some ⟨g1, 0, none⟩) 8 c1 (some ⟨g2, 0, none⟩) dn c2 (some ⟨g3, 0, none⟩) 4 c3 d.pc d.ended, EvV v, .int .i64 0])) : StepR m c K w e w' :=
  ⟨_, _, _, _, _, _, _, _, _, d, v, 0, he, hs, ⟨flat_i64 ho.regs (wds_i64 hr) (by omega) (fun j hj => .inr (by have := ho.ge; omega)), flat_i64 ho.data (wds_i64 hd) (by omega) (fun j hj => .inr (by have := ho.ge; have := ho.lt1; omega)), flat_bools ho.held (by omega) (fun j hj => .inr (by have := ho.ge; have := ho.lt1; have := ho.lt2; omega)), hp⟩, hb⟩
theorem step_pc {x : Ins} {cn : Nat} {D : Int} {c d : Co} {v : Ev} (h : stepP x cn D c = .inr (v, d)) (hch : chkI x = 0) (h0 : 0 ≤ c.pc) (h1 : c.pc < cn) (hcn : cn ≤ 1024) : I64 d.pc := by
  have hs := small_of hch
  unfold stepP at h
  split at h
  · cases h
  · rename_i v' n hv
    split at h
    · cases h
    · cases h
      have i0 := hs.i0; have i1 := hs.i1
      have : n = x.imm ∨ n = c.pc ∨ n = c.pc + 1 := by
        unfold evP at hv
        (repeat' split at hv) <;> simp at hv <;> omega
      unfold I64
      dsimp only
      omega
theorem stepRet_chg {x : Ins} {cn dn B q g1 c1 g2 c2 g3 c3 : Nat} {c : Co} {w w' : World} {e : Ending} (h : StepRet x cn dn B q g1 c1 g2 c2 g3 c3 c w e w') : Chg (CoMod q g1 g2 g3) w w' := by
  unfold StepRet at h
  split at h
  · exact h.2
  · exact h.2.2.2
theorem stepRet_two {x : Ins} {cn dn B q g1 c1 g2 c2 g3 c3 : Nat} {c : Co} {w w' : World} {e : Ending} (h : StepRet x cn dn B q g1 c1 g2 c2 g3 c3 c w e w') :
    (∃ er, stepP x cn dn c = .inl er ∧ e = .returned (.tuple #[EvV ev0, .int .i64 er])) ∨ (∃ v d, stepP x cn dn c = .inr (v, d) ∧ e = .returned (.tuple #[EvV v, .int .i64 0]) ∧ Has w' q (CoCells (some ⟨g1, 0, none⟩) 8 c1 (some ⟨g2, 0, none⟩) dn c2 (some ⟨g3, 0, none⟩) 4 c3 d.pc d.ended) ∧ CoOwn B w' g1 c1 g2 c2 g3 c3 8 dn 4 d.regs d.data d.held) := by
  unfold StepRet at h
  split at h
  · rename_i er he; exact .inl ⟨er, he, h.1⟩
  · rename_i v d he; exact .inr ⟨v, d, he, h.1, h.2.1, h.2.2.1⟩
abbrev ZC : List Value := CoCells none 0 0 none 0 0 none 0 0 0 false
set_option maxRecDepth 100000 in
set_option maxHeartbeats 16000000 in
theorem rStep_any (K K2 : Nat → Prop) (ca : Option Addr) (cn cc : Nat) (D : Int) (ua : Option Addr) (un uc : Nat) (m : Img) (ra : Option Addr) (rn rc : Nat) (da : Option Addr) (dn dc : Nat) (ha : Option Addr) (hn hc : Nat) (c : Co) (w : World)
    (h : IsImg K w ca cn cc D ua un uc m) (g : IsCo K2 w ra rn rc da dn dc ha hn hc c) (hD0 : 0 < m.data) :
    Calls Try.prog 15 #[MV ca cn cc D ua un uc, CoV ra rn rc da dn dc ha hn hc c.pc c.ended] w (StepR m c K2 w) := by
  obtain ⟨regs, data, held, pc, en⟩ := c
  have F0 := Lib.hid (Fm.new (Fm.new (Fm.new (Fm.new (Fm.start Non w) rfl (MCells ca cn cc D ua un uc) 31) (by simp) (CoCells ra rn rc da dn dc ha hn hc pc en) 36) (by simp) ZC 36) (by simp) (EvCells ev0) 39)
  have H0 := Lib.hid h; have G0 := Lib.hid g; have HD0 := Lib.hid hD0
  clear h g hD0
  go_enter Try.func15, Try.ntmps15
  go_upto_region 1 with fail
  obtain ⟨w1, hw1⟩ : ∃ w1, w1 = (((w.alloc (.cells #[.slice ca cn cc, .int .i64 D, NIL, .slice ua un uc] 31)).alloc (.cells #[.slice ra rn rc, .slice da dn dc, .slice ha hn hc, .int .i64 pc, .bool en] 36)).alloc (.cells #[NIL, NIL, NIL, .int .i64 0, .bool false] 36)).alloc (.cells #[.int .i64 0, .int .i64 0, .bool false] 39) := ⟨_, rfl⟩
  rw [← hw1]
  have F1 := Lib.hid (show Fm Non w w1 [MCells ca cn cc D ua un uc, CoCells ra rn rc da dn dc ha hn hc pc en, ZC, EvCells ev0] by rw [hw1]; exact F0.out)
  have H1 := Lib.hid (H0.out.below F1.out.below)
  have G1 := Lib.hid (G0.out.below F1.out.below)
  clear hw1 F0
  have m0 := F1.out.h0.cell 0 _ rfl; have m1 := F1.out.h0.cell 1 _ rfl; have m2 := F1.out.h0.cell 2 _ rfl; have m3 := F1.out.h0.cell 3 _ rfl
  go_wp2_with fail
  refine (rcheckM_any K ca cn cc D ua un uc m w1 H1.out).mono ?_
  rintro e w2 ⟨r, rfl, hr, hb⟩
  have F2 := Lib.hid (Fm.call hb F1.out)
  have HR := Lib.hid hr
  have H2 := Lib.hid (H1.out.below hb); have G2 := Lib.hid (G1.out.below hb)
  clear hr hb m0 m1 m2 m3
  have x0 := F2.out.h1.cell 0 _ rfl; have x1 := F2.out.h1.cell 1 _ rfl; have x2 := F2.out.h1.cell 2 _ rfl; have x3 := F2.out.h1.cell 3 _ rfl; have x4 := F2.out.h1.cell 4 _ rfl
  have z0 := F2.out.h2.cell 0 _ rfl; have z1 := F2.out.h2.cell 1 _ rfl; have z2 := F2.out.h2.cell 2 _ rfl; have z3 := F2.out.h2.cell 3 _ rfl; have z4 := F2.out.h2.cell 4 _ rfl; have zf := F2.out.h2.free
  have e0 := F2.out.h3.cell 0 _ rfl; have e1 := F2.out.h3.cell 1 _ rfl; have e2 := F2.out.h3.cell 2 _ rfl; have ef := F2.out.h3.free
  have m0 := F2.out.h0.cell 0 _ rfl; have m1 := F2.out.h0.cell 1 _ rfl; have m2 := F2.out.h0.cell 2 _ rfl; have m3 := F2.out.h0.cell 3 _ rfl
  by_cases hr0 : r = 0
  · subst hr0
    have HC := Lib.hid (chk_ok HR.out)
    go_wp2_with fail
    refine (rvalid_any K K2 ca cn cc D ua un uc m ra rn rc da dn dc ha hn hc ⟨regs, data, held, pc, en⟩ w2 H2.out G2.out).mono ?_
    rintro e w3 ⟨b, rfl, hv, hb⟩
    have F3 := Lib.hid (Fm.call hb F2.out)
    have HV := Lib.hid hv
    have H3 := Lib.hid (H2.out.below hb); have G3 := Lib.hid (G2.out.below hb)
    clear hv hb x0 x1 x2 x3 x4 z0 z1 z2 z3 z4 zf e0 e1 e2 ef m0 m1 m2 m3
    have x0 := F3.out.h1.cell 0 _ rfl; have x1 := F3.out.h1.cell 1 _ rfl; have x2 := F3.out.h1.cell 2 _ rfl; have x3 := F3.out.h1.cell 3 _ rfl; have x4 := F3.out.h1.cell 4 _ rfl
    have z0 := F3.out.h2.cell 0 _ rfl; have z1 := F3.out.h2.cell 1 _ rfl; have z2 := F3.out.h2.cell 2 _ rfl; have z3 := F3.out.h2.cell 3 _ rfl; have z4 := F3.out.h2.cell 4 _ rfl; have zf := F3.out.h2.free
    have e0 := F3.out.h3.cell 0 _ rfl; have e1 := F3.out.h3.cell 1 _ rfl; have e2 := F3.out.h3.cell 2 _ rfl; have ef := F3.out.h3.free
    have m0 := F3.out.h0.cell 0 _ rfl; have m1 := F3.out.h0.cell 1 _ rfl; have m2 := F3.out.h0.cell 2 _ rfl; have m3 := F3.out.h0.cell 3 _ rfl
    cases b with
    | false =>
      have HN := Lib.hid (show StepIs m ⟨regs, data, held, pc, en⟩ ⟨regs, data, held, pc, en⟩ ev0 10 from .form fun h => by have := HV.out.2 h.2; cases this)
      go_wp2
      refine bodyPost_ret (v := .tuple #[CoV ra rn rc da dn dc ha hn hc pc en, EvV ev0, .int .i64 10]) (by simp [results, Try.results15, go_sem, z0, z1, z2, z3, z4, e0, e1, e2]) rfl (stepR_err G0.out HN.out ?_ rfl)
      repeat (first | with_reducible exact F3.out.below | (refine Below.setCell ?_ (by dsimp only; omega) _))
    | true =>
      have CK := Lib.hid (HV.out.1 rfl)
      cases en with
      | true =>
        have HN := Lib.hid (show StepIs m ⟨regs, data, held, pc, true⟩ ⟨regs, data, held, pc, true⟩ ev0 15 from .ended HR.out CK.out rfl)
        go_wp2
        refine bodyPost_ret (v := .tuple #[CoV ra rn rc da dn dc ha hn hc pc true, EvV ev0, .int .i64 15]) (by simp [results, Try.results15, go_sem, z0, z1, z2, z3, z4, e0, e1, e2]) rfl (stepR_err G0.out HN.out ?_ rfl)
        repeat (first | with_reducible exact F3.out.below | (refine Below.setCell ?_ (by dsimp only; omega) _))
      | false =>
        have hrn : rn = 8 := by have := CK.out.regs; rw [← this]; exact G3.out.regs.hlen.symm
        have hhn : hn = 4 := by have := CK.out.held; rw [← this]; exact G3.out.held.hlen.symm
        have hdn : (dn : Int) = D := by have h1 := CK.out.data; have h2 := H3.out.data; have h3 := G3.out.data.hlen; rw [h2, ← h1, ← h3]
        subst hrn hhn hdn
        have hD := Lib.hid (show 0 < dn ∧ dn ≤ 1024 from by
          have h1 := HD0.out; have h2 := H3.out.data; have h3 := HC.out.1
          unfold Limit at h3
          omega)
        have hcnl := Lib.hid (show cn ≤ 1024 from by have h3 := HC.out.1; have h4 := H3.out.code.hlen; unfold Limit at h3; omega)
        obtain ⟨pcn, hpcn⟩ := Int.eq_ofNat_of_zero_le CK.out.pc0
        simp only [] at hpcn
        subst hpcn
        obtain ⟨x, hx⟩ : ∃ x, m.code[pcn]? = some x := ⟨_, List.getElem?_eq_getElem (by have := CK.out.pc1; simp at this; exact this)⟩
        have HX := Lib.hid hx
        have HCH := Lib.hid (HC.out.2.1 x (List.mem_of_getElem? hx))
        clear hx
        go_wp2_with fail
        refine (rcopyc_any K2 ra 8 rc da dn dc ha 4 hc ⟨regs, data, held, pcn, false⟩ w3 G3.out (by omega) (by omega) hD.out.1 (by have := hD.out.2; omega) (by omega) (by omega)).mono ?_
        rintro e w4 ⟨g1, c1, g2, c2, g3, c3, rfl, ho, hb⟩
        have F4 := Lib.hid (Fm.call hb F3.out)
        have HO := Lib.hid ho
        have H4 := Lib.hid (H3.out.below hb)
        have SZ := Lib.hid hb.size
        clear ho hb x0 x1 x2 x3 x4 z0 z1 z2 z3 z4 zf e0 e1 e2 ef m0 m1 m2 m3
        have m0 := F4.out.h0.cell 0 _ rfl; have m1 := F4.out.h0.cell 1 _ rfl; have m2 := F4.out.h0.cell 2 _ rfl; have m3 := F4.out.h0.cell 3 _ rfl; have lm := F4.out.h0.lt (by simp)
        go_upto_region 6 with fail
        obtain ⟨w5, hw5⟩ : ∃ w5, w5 = w4.alloc (.cells #[.slice (some ⟨g1, 0, none⟩) 8 c1, .slice (some ⟨g2, 0, none⟩) dn c2, .slice (some ⟨g3, 0, none⟩) 4 c3, .int .i64 pcn, .bool false] 36) := ⟨_, rfl⟩
        rw [← hw5]
        have B5 := Lib.hid (show Below w4.heap.size w4 w5 by rw [hw5]; exact (Below.refl _ _).alloc (Nat.le_refl _) _)
        have F5 := Lib.hid (Fm.call B5.out F4.out)
        have H5 := Lib.hid (H4.out.below B5.out)
        have O5 := Lib.hid (HO.out.below B5.out)
        have Q5 := Lib.hid (show Has w5 w4.heap.size (CoCells (some ⟨g1, 0, none⟩) 8 c1 (some ⟨g2, 0, none⟩) dn c2 (some ⟨g3, 0, none⟩) 4 c3 pcn false) by rw [hw5]; exact Has.new w4 (CoCells (some ⟨g1, 0, none⟩) 8 c1 (some ⟨g2, 0, none⟩) dn c2 (some ⟨g3, 0, none⟩) 4 c3 pcn false) 36)
        have Z5 := Lib.hid (show w5.heap.size = w4.heap.size + 1 by rw [hw5]; simp)
        clear hw5 m0 m1 m2 m3 lm B5
        have GL := Lib.hid (show g1 < w4.heap.size ∧ g2 < w4.heap.size ∧ g3 < w4.heap.size from ⟨(HO.out.regs.lt g1 rfl).2, (HO.out.data.lt g2 rfl).2, (HO.out.held.lt g3 rfl).2⟩)
        have L4 := Lib.hid (show w.heap.size + 4 ≤ w4.heap.size by have := F4.out.size; simpa using this)
        generalize w4.heap.size = q at Q5 Z5 GL L4 ⊢
        have m0 := F5.out.h0.cell 0 _ rfl; have m1 := F5.out.h0.cell 1 _ rfl; have m2 := F5.out.h0.cell 2 _ rfl; have m3 := F5.out.h0.cell 3 _ rfl; have lm := F5.out.h0.lt (by simp)
        go_wp2_with fail
        refine Calls.mono (rstep_any K ca cn cc ua un uc m.code w3.heap.size q g1 c1 g2 c2 g3 c3 dn regs data held false x pcn w5 H5.out.code hcnl.out HX.out HCH.out Q5.out O5.out (by have := GL.out; omega) hD.out.2 CK.out.words CK.out.dwords) ?_
        intro e w6 hst
        have F6 := Lib.hid (Fm.chgd (stepRet_chg hst) F5.out (fun k hk => .inr (by have := GL.out; have := L4.out; have h9 := O5.out.ge; have h7 := O5.out.lt1; have h8 := O5.out.lt2; have := F3.out.size; unfold CoMod at hk; simp at *; omega)))
        have LG := Lib.hid (show w.heap.size + 4 ≤ g1 ∧ g1 < g2 ∧ g2 < g3 ∧ g3 < q by have := GL.out; have h9 := O5.out.ge; have h7 := O5.out.lt1; have h8 := O5.out.lt2; have := F3.out.size; simp at *; omega)
        have hsp := stepRet_two hst
        clear hst m0 m1 m2 m3 lm
        have HCL := Lib.hid H5.out.code.hlen; have HDT := Lib.hid H5.out.data
        rcases hsp with ⟨er, hs, rfl⟩ | ⟨v, d, hs, rfl, hq6, ho6⟩
        · have HE := Lib.hid (show StepIs m ⟨regs, data, held, pcn, false⟩ ⟨regs, data, held, pcn, false⟩ ev0 er from .err HR.out CK.out rfl x (by simp; exact HX.out) HCH.out er (by rw [HCL.out, ← HDT.out]; exact hs))
          rcases stepP_err hs with rfl | rfl
          all_goals
            clear hs
            have x0 := F6.out.h1.cell 0 _ rfl; have x1 := F6.out.h1.cell 1 _ rfl; have x2 := F6.out.h1.cell 2 _ rfl; have x3 := F6.out.h1.cell 3 _ rfl; have x4 := F6.out.h1.cell 4 _ rfl
            have z0 := F6.out.h2.cell 0 _ rfl; have z1 := F6.out.h2.cell 1 _ rfl; have z2 := F6.out.h2.cell 2 _ rfl; have z3 := F6.out.h2.cell 3 _ rfl; have z4 := F6.out.h2.cell 4 _ rfl; have zf := F6.out.h2.free
            have e0 := F6.out.h3.cell 0 _ rfl; have e1 := F6.out.h3.cell 1 _ rfl; have e2 := F6.out.h3.cell 2 _ rfl; have ef := F6.out.h3.free
            have m0 := F6.out.h0.cell 0 _ rfl; have m1 := F6.out.h0.cell 1 _ rfl; have m2 := F6.out.h0.cell 2 _ rfl; have m3 := F6.out.h0.cell 3 _ rfl
            go_upto_region 7 with fail
            obtain ⟨w7, hw7⟩ : ∃ w7, w7 = w6.alloc (.cells #[.int .i64 0, .int .i64 0, .bool false] 39) := ⟨_, rfl⟩
            rw [← hw7]
            have F7 := Lib.hid (show Fm Non w w7 [MCells ca cn cc dn ua un uc, CoCells ra 8 rc da dn dc ha 4 hc pcn false, ZC, EvCells ev0] by rw [hw7]; exact F6.out.more _)
            clear hw7 x0 x1 x2 x3 x4 z0 z1 z2 z3 z4 zf e0 e1 e2 ef m0 m1 m2 m3
            have x0 := F7.out.h1.cell 0 _ rfl; have x1 := F7.out.h1.cell 1 _ rfl; have x2 := F7.out.h1.cell 2 _ rfl; have x3 := F7.out.h1.cell 3 _ rfl; have x4 := F7.out.h1.cell 4 _ rfl
            have z0 := F7.out.h2.cell 0 _ rfl; have z1 := F7.out.h2.cell 1 _ rfl; have z2 := F7.out.h2.cell 2 _ rfl; have z3 := F7.out.h2.cell 3 _ rfl; have z4 := F7.out.h2.cell 4 _ rfl; have zf := F7.out.h2.free
            have e0 := F7.out.h3.cell 0 _ rfl; have e1 := F7.out.h3.cell 1 _ rfl; have e2 := F7.out.h3.cell 2 _ rfl; have ef := F7.out.h3.free
            have m0 := F7.out.h0.cell 0 _ rfl; have m1 := F7.out.h0.cell 1 _ rfl; have m2 := F7.out.h0.cell 2 _ rfl; have m3 := F7.out.h0.cell 3 _ rfl
            go_wp2
          · refine bodyPost_ret (v := .tuple #[CoV ra 8 rc da dn dc ha 4 hc pcn false, EvV ev0, .int .i64 12]) (by simp [results, Try.results15, go_sem, z0, z1, z2, z3, z4, e0, e1, e2]) rfl (stepR_err G0.out HE.out ?_ rfl)
            repeat (first | with_reducible exact F7.out.below | (refine Below.setCell ?_ (by dsimp only; omega) _))
          · refine bodyPost_ret (v := .tuple #[CoV ra 8 rc da dn dc ha 4 hc pcn false, EvV ev0, .int .i64 14]) (by simp [results, Try.results15, go_sem, z0, z1, z2, z3, z4, e0, e1, e2]) rfl (stepR_err G0.out HE.out ?_ rfl)
            repeat (first | with_reducible exact F7.out.below | (refine Below.setCell ?_ (by dsimp only; omega) _))
        · have HE := Lib.hid (show StepIs m ⟨regs, data, held, pcn, false⟩ d v 0 from .ok HR.out CK.out rfl x (by simp; exact HX.out) HCH.out v d (by rw [HCL.out, ← HDT.out]; exact hs))
          have HW := Lib.hid (step_words hs HCH.out CK.out.words CK.out.dwords)
          have HP := Lib.hid (step_pc hs HCH.out (by simp) (by have := CK.out.pc1; rw [HCL.out] at this; exact this) hcnl.out)
          have Q6 := Lib.hid hq6; have O6 := Lib.hid ho6
          clear hs hq6 ho6
          obtain ⟨dr, dd, dh, dp, de⟩ := d
          obtain ⟨va, vd, vj⟩ := v
          have x0 := F6.out.h1.cell 0 _ rfl; have x1 := F6.out.h1.cell 1 _ rfl; have x2 := F6.out.h1.cell 2 _ rfl; have x3 := F6.out.h1.cell 3 _ rfl; have x4 := F6.out.h1.cell 4 _ rfl
          have z0 := F6.out.h2.cell 0 _ rfl; have z1 := F6.out.h2.cell 1 _ rfl; have z2 := F6.out.h2.cell 2 _ rfl; have z3 := F6.out.h2.cell 3 _ rfl; have z4 := F6.out.h2.cell 4 _ rfl; have zf := F6.out.h2.free
          have e0 := F6.out.h3.cell 0 _ rfl; have e1 := F6.out.h3.cell 1 _ rfl; have e2 := F6.out.h3.cell 2 _ rfl; have ef := F6.out.h3.free
          have m0 := F6.out.h0.cell 0 _ rfl; have m1 := F6.out.h0.cell 1 _ rfl; have m2 := F6.out.h0.cell 2 _ rfl; have m3 := F6.out.h0.cell 3 _ rfl
          go_upto_region 9 with fail
          obtain ⟨w7, hw7⟩ : ∃ w7, w7 = w6.alloc (.cells #[.int .i64 va, .int .i64 vd, .bool vj] 39) := ⟨_, rfl⟩
          rw [← hw7]
          have F7 := Lib.hid (show Fm Non w w7 [MCells ca cn cc dn ua un uc, CoCells ra 8 rc da dn dc ha 4 hc pcn false, ZC, EvCells ev0] by rw [hw7]; exact F6.out.more _)
          have l6 : q < w6.heap.size := Q6.out.lt (by simp)
          have Q7 := Lib.hid (show Has w7 q (CoCells (some ⟨g1, 0, none⟩) 8 c1 (some ⟨g2, 0, none⟩) dn c2 (some ⟨g3, 0, none⟩) 4 c3 dp de) by rw [hw7]; exact Q6.out.old l6)
          have O7 := Lib.hid (show CoOwn w3.heap.size w7 g1 c1 g2 c2 g3 c3 8 dn 4 dr dd dh by rw [hw7]; exact O6.out.below ((Below.refl _ _).alloc (Nat.le_refl _) _))
          have V7 := Lib.hid (show Has w7 w6.heap.size (EvCells ⟨va, vd, vj⟩) by rw [hw7]; exact Has.new w6 (EvCells ⟨va, vd, vj⟩) 39)
          clear hw7 x0 x1 x2 x3 x4 z0 z1 z2 z3 z4 zf e0 e1 e2 ef m0 m1 m2 m3
          generalize w6.heap.size = qv at l6 V7 ⊢
          have lq : w.heap.size + 4 ≤ q := by have := LG.out; omega
          have lqv : w.heap.size + 4 ≤ qv := by omega
          have x0 := F7.out.h1.cell 0 _ rfl; have x1 := F7.out.h1.cell 1 _ rfl; have x2 := F7.out.h1.cell 2 _ rfl; have x3 := F7.out.h1.cell 3 _ rfl; have x4 := F7.out.h1.cell 4 _ rfl
          have z0 := F7.out.h2.cell 0 _ rfl; have z1 := F7.out.h2.cell 1 _ rfl; have z2 := F7.out.h2.cell 2 _ rfl; have z3 := F7.out.h2.cell 3 _ rfl; have z4 := F7.out.h2.cell 4 _ rfl; have zf := F7.out.h2.free
          have e0 := F7.out.h3.cell 0 _ rfl; have e1 := F7.out.h3.cell 1 _ rfl; have e2 := F7.out.h3.cell 2 _ rfl; have ef := F7.out.h3.free
          have m0 := F7.out.h0.cell 0 _ rfl; have m1 := F7.out.h0.cell 1 _ rfl; have m2 := F7.out.h0.cell 2 _ rfl; have m3 := F7.out.h0.cell 3 _ rfl
          have q0 := Q7.out.cell 0 _ rfl; have q1 := Q7.out.cell 1 _ rfl; have q2 := Q7.out.cell 2 _ rfl; have q3 := Q7.out.cell 3 _ rfl; have q4 := Q7.out.cell 4 _ rfl
          have v0 := V7.out.cell 0 _ rfl; have v1 := V7.out.cell 1 _ rfl; have v2 := V7.out.cell 2 _ rfl
          go_region_held3 (fun w' => w'.cell? ⟨q, 0, none⟩ = some (.slice (some ⟨g1, 0, none⟩) 8 c1) ∧ w'.cell? ⟨q, 1, none⟩ = some (.slice (some ⟨g2, 0, none⟩) dn c2) ∧ w'.cell? ⟨q, 2, none⟩ = some (.slice (some ⟨g3, 0, none⟩) 4 c3) ∧ w'.cell? ⟨q, 3, none⟩ = some (.int .i64 dp) ∧ w'.cell? ⟨q, 4, none⟩ = some (.bool de) ∧ w'.cell? ⟨qv, 0, none⟩ = some (.int .i64 va) ∧ w'.cell? ⟨qv, 1, none⟩ = some (.int .i64 vd) ∧ w'.cell? ⟨qv, 2, none⟩ = some (.bool vj))
            (((try dsimp only); (try go_split_ands); (repeat' apply And.intro); all_goals (repeat (first | with_reducible assumption | (with_reducible refine cell_set (by omega) ?_) | (with_reducible refine cell_alloc (by omega) ?_) | (with_reducible refine cell_drew ?_))))) (fail)
          have lg := LG.out
          clear q0 q1 q2 q3 q4 v0 v1 v2 m0 m1 m2 m3 x0 x1 x2 x3 x4
          all_goals
            go_wp2
            refine bodyPost_ret (v := .tuple #[CoV (some ⟨g1, 0, none⟩) 8 c1 (some ⟨g2, 0, none⟩) dn c2 (some ⟨g3, 0, none⟩) 4 c3 dp de, EvV ⟨va, vd, vj⟩, .int .i64 0]) (by simp [results, Try.results15, go_sem, z0, z1, z2, z3, z4, e0, e1, e2]) rfl (stepR_ok (c := ⟨regs, data, held, pcn, false⟩) (d := ⟨dr, dd, dh, dp, de⟩) (v := ⟨va, vd, vj⟩) (B := w3.heap.size) ?_ F3.out.below.size HW.out.1 HW.out.2 hD.out.2 HP.out HE.out ?_ rfl)
            · repeat (first | with_reducible exact O7.out | (with_reducible refine CoOwn.drew ?_) | (with_reducible refine CoOwn.other ?_ (by dsimp only; omega) _))
            · repeat (first | with_reducible exact F7.out.below | (with_reducible refine Below.drew ?_) | (with_reducible refine Below.setCell ?_ (by dsimp only; omega) _))
  · have er : (r != 0) = true := by simpa using hr0
    have HN := Lib.hid (show StepIs m ⟨regs, data, held, pc, en⟩ ⟨regs, data, held, pc, en⟩ ev0 10 from .form fun h => hr0 (HR.out.same h.1))
    go_wp2
    refine bodyPost_ret (v := .tuple #[CoV ra rn rc da dn dc ha hn hc pc en, EvV ev0, .int .i64 10]) (by simp [results, Try.results15, go_sem, z0, z1, z2, z3, z4, e0, e1, e2]) rfl (stepR_err G0.out HN.out ?_ rfl)
    repeat (first | with_reducible exact F2.out.below | (refine Below.setCell ?_ (by dsimp only; omega) _))
end Go.Proofs.Ytonbmijhbbodnaa
