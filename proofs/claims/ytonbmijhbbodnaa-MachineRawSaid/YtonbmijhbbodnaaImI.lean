/-
  The document's Copy of a core.
-/
import Derived.Test.YtonbmijhbbodnaaZMake
import Derived.Test.YtonbmijhbbodnaaZInN
import Derived.Test.YtonbmijhbbodnaaImD
namespace Go.Proofs.Ytonbmijhbbodnaa
open Go.RowKit

def bvs (l : List Bool) : List Value := l.map Value.bool
theorem bvs_length (l : List Bool) : (bvs l).length = l.length := List.length_map _
theorem bvs_get {l : List Bool} {i : Nat} {z : Bool} (h : l[i]? = some z) : (bvs l)[i]? = some (.bool z) := by unfold bvs; rw [List.getElem?_map, h]; rfl
theorem bvs_one {l : List Bool} : ∀ v ∈ bvs l, v.oneCell' = true := fun v h => by
  obtain ⟨z, _, rfl⟩ := List.mem_map.1 h; rfl
theorem Bools.src {K : Nat → Prop} {w : World} {a : Option Addr} {len cap : Nat} {xs : List Bool} (r : Bools K w a len cap xs) (h : 0 < len) : ∃ b o, a = some ⟨b, o, none⟩ ∧ K b ∧ b < w.heap.size ∧ ∀ j v, (bvs xs)[j]? = some v → w.cell? ((⟨b, o, none⟩ : Addr).add j) = some v := by
  obtain ⟨x, e⟩ : ∃ x, xs[0]? = some x := ⟨_, List.getElem?_eq_getElem (by rw [r.hlen]; exact h)⟩
  obtain ⟨b, o, rfl, e2, e3, _⟩ := r.row 0 _ e
  refine ⟨b, o, rfl, e2, e3, fun j v hv => ?_⟩
  unfold bvs at hv
  rw [List.getElem?_map] at hv
  cases hx : xs[j]? with
  | none => rw [hx] at hv; cases hv
  | some y =>
    rw [hx] at hv; cases hv
    obtain ⟨b', o', e, _, _, hc⟩ := r.row j y hx
    cases e
    rw [Go.WideShapes.add_plain]
    have : w.cell? ⟨b, o + j * 1, none⟩ = some (.bool y) := hc
    rwa [Nat.mul_one] at this
/-- A core whose three lists lie each in a block of its own, from B on. -/
structure CoOwn (B : Nat) (w : World) (g1 c1 g2 c2 g3 c3 rn dn hn : Nat) (regs data : List Int) (held : List Bool) : Prop where
  regs : w.ownsRow g1 3 1 (.slice (some ⟨g1, 0, none⟩) rn c1) rn (ivs regs)
  data : w.ownsRow g2 3 1 (.slice (some ⟨g2, 0, none⟩) dn c2) dn (ivs data)
  held : w.ownsRow g3 4 1 (.slice (some ⟨g3, 0, none⟩) hn c3) hn (bvs held)
  ge : B ≤ g1
  lt1 : g1 < g2
  lt2 : g2 < g3
def CopyRet (rn dn hn : Nat) (c : Co) (w : World) (e : Ending) (w' : World) : Prop := ∃ g1 c1 g2 c2 g3 c3, e = .returned (CoV (some ⟨g1, 0, none⟩) rn c1 (some ⟨g2, 0, none⟩) dn c2 (some ⟨g3, 0, none⟩) hn c3 c.pc c.ended) ∧ CoOwn w.heap.size w' g1 c1 g2 c2 g3 c3 rn dn hn c.regs c.data c.held ∧ Below w.heap.size w w'
theorem own_self {w : World} {B : Nat} {t : TypeId} {g n c k : Nat} {xs : List Value} (h : w.ownsRow B t 1 (.slice (some ⟨g, 0, none⟩) n c) k xs) : w.ownsRow g t 1 (.slice (some ⟨g, 0, none⟩) n c) k xs := by
  refine ⟨h.1, ?_⟩
  rcases h.2 with ⟨h1, _⟩ | ⟨g', cap, cur, h1, h2, h3⟩
  · cases h1
  · cases h1
    exact .inr ⟨g, c, cur, rfl, Nat.le_refl _, h3⟩
set_option maxRecDepth 100000 in
set_option maxHeartbeats 8000000 in
theorem rcopyc_any (K : Nat → Prop) (ra : Option Addr) (rn rc : Nat) (da : Option Addr) (dn dc : Nat) (ha : Option Addr) (hn hc : Nat) (c : Co) (w : World)
    (g : IsCo K w ra rn rc da dn dc ha hn hc c) (hr0 : 0 < rn) (hr1 : rn ≤ 2000) (hd0 : 0 < dn) (hd1 : dn ≤ 2000) (hh0 : 0 < hn) (hh1 : hn ≤ 2000) :
    Calls Try.prog 39 #[CoV ra rn rc da dn dc ha hn hc c.pc c.ended] w (CopyRet rn dn hn c w) := by
  obtain ⟨regs, data, held, pc, en⟩ := c
  have hrl := g.regs.hlen; have hdl := g.data.hlen; have hhl := g.held.hlen
  simp only [] at hrl hdl hhl
  have F0 := Lib.hid (Fm.new (Fm.new (Fm.start Non w) rfl (CoCells ra rn rc da dn dc ha hn hc pc en) 36) (by simp) (CoCells none 0 0 none 0 0 none 0 0 0 false) 36)
  have G := Lib.hid g
  clear g
  go_enter Try.func39, Try.ntmps39
  go_upto_region 1 with fail
  obtain ⟨w1, hw1⟩ : ∃ w1, w1 = (w.alloc (.cells #[.slice ra rn rc, .slice da dn dc, .slice ha hn hc, .int .i64 pc, .bool en] 36)).alloc (.cells #[NIL, NIL, NIL, .int .i64 0, .bool false] 36) := ⟨_, rfl⟩
  rw [← hw1]
  have F1 := Lib.hid (show Fm Non w w1 [CoCells ra rn rc da dn dc ha hn hc pc en, CoCells none 0 0 none 0 0 none 0 0 0 false] by rw [hw1]; exact F0.out)
  clear hw1 F0
  have t0 := F1.out.h0
  have x0 := t0.cell 0 _ rfl; have x1 := t0.cell 1 _ rfl; have x2 := t0.cell 2 _ rfl; have x3 := t0.cell 3 _ rfl; have x4 := t0.cell 4 _ rfl; have xf := t0.free; have lt0 := t0.lt (by simp)
  clear t0
  obtain ⟨b1, o1, rfl, _, _, s1⟩ := Ints.src (Ints.below G.out.regs F1.out.below) hr0
  have E1 := Lib.hid (F1.out.more (.cells (ivs []).toArray 3))
  have O1 := Lib.hid (owns_lit (B := w1.heap.size) (Blk.new w1 (ivs []) 3) (n := 0) rfl (by omega) (Nat.le_refl _))
  have S1 := Lib.hid s1
  have Z1 := Lib.hid (show w.heap.size + 2 ≤ w1.heap.size by have := F1.out.size; simpa using this)
  clear s1
  go_upto_region 2 with (at_builtin; refine wpList_append_flat rfl _ _ 22 rfl 3 Try.underlying22 info_int rfl (by decide) O1.out rfl (by simp) ⟨b1, o1, none⟩ rn _ (ivs regs) rfl (by rw [ivs_length]; omega) (fun j u hu => cell_later ((Below.refl _ _).alloc (Nat.le_refl _) _) (S1.out j u hu)) ivs_one hr0 (by omega) (by decide) ?_; intro g1 c1 q1 hap; have P1 := Lib.hid hap.out; clear hap; have H1 := Lib.hid (E1.out.chgd P1.out.chg (fun k hk => .inr (by have := (O1.out.lt k hk).1; have := Z1.out; simp at *; omega))); have y1 := H1.out.h0.cell 0 _ rfl; have yf1 := H1.out.h0.free; have ly1 := H1.out.h0.lt (by simp))
  obtain ⟨w2, hw2⟩ : ∃ w2, w2 = q1.setCell ⟨w.heap.size, 0, none⟩ (.slice (some ⟨g1, 0, none⟩) rn c1) := ⟨_, rfl⟩
  rw [← hw2]
  have K1 := Lib.hid (P1.out.owns.lt g1 rfl)
  have F2 := Lib.hid (show Fm Non w w2 [CoCells (some ⟨g1, 0, none⟩) rn c1 da dn dc ha hn hc pc en, CoCells none 0 0 none 0 0 none 0 0 0 false] by rw [hw2]; exact H1.out.set 0 0 _ rfl (by simp) _)
  have U1_1 := Lib.hid (show w2.ownsRow g1 3 1 (.slice (some ⟨g1, 0, none⟩) rn c1) rn (ivs regs) by
    rw [hw2]
    have h := own_self P1.out.owns
    rw [Nat.zero_add] at h
    exact flat_of h (M := fun k => k = w.heap.size) (Chg.setCell (M := fun k => k = w.heap.size) (Chg.refl _) (fun _ => rfl) _) (fun j h1 h2 e => by have := K1.out.1; have := Z1.out; omega))
  have G1_ := Lib.hid (show g1 < w2.heap.size by rw [hw2]; simpa using K1.out.2)
  clear hw2 x0 x1 x2 x3 x4 xf lt0
  have t1 := F2.out.h0
  have x0 := t1.cell 0 _ rfl; have x1 := t1.cell 1 _ rfl; have x2 := t1.cell 2 _ rfl; have x3 := t1.cell 3 _ rfl; have x4 := t1.cell 4 _ rfl; have xf := t1.free; have lt0 := t1.lt (by simp)
  clear t1
  obtain ⟨b2, o2, rfl, _, _, s2⟩ := Ints.src (Ints.below G.out.data F2.out.below) hd0
  have E2 := Lib.hid (F2.out.more (.cells (ivs []).toArray 3))
  have O2 := Lib.hid (owns_lit (B := w2.heap.size) (Blk.new w2 (ivs []) 3) (n := 0) rfl (by omega) (Nat.le_refl _))
  have S2 := Lib.hid s2
  have Z2 := Lib.hid (show w.heap.size + 2 ≤ w2.heap.size by have := F2.out.size; simpa using this)
  clear s2
  go_upto_region 3 with (at_builtin; refine wpList_append_flat rfl _ _ 22 rfl 3 Try.underlying22 info_int rfl (by decide) O2.out rfl (by simp) ⟨b2, o2, none⟩ dn _ (ivs data) rfl (by rw [ivs_length]; omega) (fun j u hu => cell_later ((Below.refl _ _).alloc (Nat.le_refl _) _) (S2.out j u hu)) ivs_one hd0 (by omega) (by decide) ?_; intro g2 c2 q2 hap; have P2 := Lib.hid hap.out; clear hap; have H2 := Lib.hid (E2.out.chgd P2.out.chg (fun k hk => .inr (by have := (O2.out.lt k hk).1; have := Z2.out; simp at *; omega))); have y2 := H2.out.h0.cell 1 _ rfl; have yf2 := H2.out.h0.free; have ly2 := H2.out.h0.lt (by simp))
  obtain ⟨w3, hw3⟩ : ∃ w3, w3 = q2.setCell ⟨w.heap.size, 1, none⟩ (.slice (some ⟨g2, 0, none⟩) dn c2) := ⟨_, rfl⟩
  rw [← hw3]
  have K2 := Lib.hid (P2.out.owns.lt g2 rfl)
  have F3 := Lib.hid (show Fm Non w w3 [CoCells (some ⟨g1, 0, none⟩) rn c1 (some ⟨g2, 0, none⟩) dn c2 ha hn hc pc en, CoCells none 0 0 none 0 0 none 0 0 0 false] by rw [hw3]; exact H2.out.set 0 1 _ rfl (by simp) _)
  have U2_2 := Lib.hid (show w3.ownsRow g2 3 1 (.slice (some ⟨g2, 0, none⟩) dn c2) dn (ivs data) by
    rw [hw3]
    have h := own_self P2.out.owns
    rw [Nat.zero_add] at h
    exact flat_of h (M := fun k => k = w.heap.size) (Chg.setCell (M := fun k => k = w.heap.size) (Chg.refl _) (fun _ => rfl) _) (fun j h1 h2 e => by have := K2.out.1; have := Z2.out; omega))
  have U1_2 := Lib.hid (show w3.ownsRow g1 3 1 (.slice (some ⟨g1, 0, none⟩) rn c1) rn (ivs regs) by
    rw [hw3]
    have h := ownsRow_of (w' := q2) U1_1.out (fun j hj => by
      have e : g1 = j := by simpa [Value.ownBlock] using hj
      subst e
      have hlt := (U1_1.out.lt g1 rfl).2
      rw [P2.out.chg.block g1 (by simp; omega) (fun e => by have := (O2.out.lt g1 e).1; omega)]
      exact Go.heap_alloc_old _ _ hlt)
    exact flat_of h (M := fun k => k = w.heap.size) (Chg.setCell (M := fun k => k = w.heap.size) (Chg.refl _) (fun _ => rfl) _) (fun j h1 h2 e => by have := K1.out.1; have := Z1.out; omega))
  have G2_ := Lib.hid (show g2 < w3.heap.size by rw [hw3]; simpa using K2.out.2)
  clear hw3 x0 x1 x2 x3 x4 xf lt0
  have t2 := F3.out.h0
  have x0 := t2.cell 0 _ rfl; have x1 := t2.cell 1 _ rfl; have x2 := t2.cell 2 _ rfl; have x3 := t2.cell 3 _ rfl; have x4 := t2.cell 4 _ rfl; have xf := t2.free; have lt0 := t2.lt (by simp)
  clear t2
  obtain ⟨b3, o3, rfl, _, _, s3⟩ := Bools.src (Row.below RBo.stays G.out.held F3.out.below) hh0
  have E3 := Lib.hid (F3.out.more (.cells (bvs []).toArray 4))
  have O3 := Lib.hid (owns_lit (B := w3.heap.size) (Blk.new w3 (bvs []) 4) (n := 0) rfl (by omega) (Nat.le_refl _))
  have S3 := Lib.hid s3
  have Z3 := Lib.hid (show w.heap.size + 2 ≤ w3.heap.size by have := F3.out.size; simpa using this)
  clear s3
  go_upto_region 4 with (at_builtin; refine wpList_append_flat rfl _ _ 33 rfl 4 Try.underlying33 info_bool rfl (by decide) O3.out rfl (by simp) ⟨b3, o3, none⟩ hn _ (bvs held) rfl (by rw [bvs_length]; omega) (fun j u hu => cell_later ((Below.refl _ _).alloc (Nat.le_refl _) _) (S3.out j u hu)) bvs_one hh0 (by omega) (by decide) ?_; intro g3 c3 q3 hap; have P3 := Lib.hid hap.out; clear hap; have H3 := Lib.hid (E3.out.chgd P3.out.chg (fun k hk => .inr (by have := (O3.out.lt k hk).1; have := Z3.out; simp at *; omega))); have y3 := H3.out.h0.cell 2 _ rfl; have yf3 := H3.out.h0.free; have ly3 := H3.out.h0.lt (by simp))
  obtain ⟨w4, hw4⟩ : ∃ w4, w4 = q3.setCell ⟨w.heap.size, 2, none⟩ (.slice (some ⟨g3, 0, none⟩) hn c3) := ⟨_, rfl⟩
  rw [← hw4]
  have K3 := Lib.hid (P3.out.owns.lt g3 rfl)
  have F4 := Lib.hid (show Fm Non w w4 [CoCells (some ⟨g1, 0, none⟩) rn c1 (some ⟨g2, 0, none⟩) dn c2 (some ⟨g3, 0, none⟩) hn c3 pc en, CoCells none 0 0 none 0 0 none 0 0 0 false] by rw [hw4]; exact H3.out.set 0 2 _ rfl (by simp) _)
  have U3_3 := Lib.hid (show w4.ownsRow g3 4 1 (.slice (some ⟨g3, 0, none⟩) hn c3) hn (bvs held) by
    rw [hw4]
    have h := own_self P3.out.owns
    rw [Nat.zero_add] at h
    exact flat_of h (M := fun k => k = w.heap.size) (Chg.setCell (M := fun k => k = w.heap.size) (Chg.refl _) (fun _ => rfl) _) (fun j h1 h2 e => by have := K3.out.1; have := Z3.out; omega))
  have U1_3 := Lib.hid (show w4.ownsRow g1 3 1 (.slice (some ⟨g1, 0, none⟩) rn c1) rn (ivs regs) by
    rw [hw4]
    have h := ownsRow_of (w' := q3) U1_2.out (fun j hj => by
      have e : g1 = j := by simpa [Value.ownBlock] using hj
      subst e
      have hlt := (U1_2.out.lt g1 rfl).2
      rw [P3.out.chg.block g1 (by simp; omega) (fun e => by have := (O3.out.lt g1 e).1; omega)]
      exact Go.heap_alloc_old _ _ hlt)
    exact flat_of h (M := fun k => k = w.heap.size) (Chg.setCell (M := fun k => k = w.heap.size) (Chg.refl _) (fun _ => rfl) _) (fun j h1 h2 e => by have := K1.out.1; have := Z1.out; omega))
  have U2_3 := Lib.hid (show w4.ownsRow g2 3 1 (.slice (some ⟨g2, 0, none⟩) dn c2) dn (ivs data) by
    rw [hw4]
    have h := ownsRow_of (w' := q3) U2_2.out (fun j hj => by
      have e : g2 = j := by simpa [Value.ownBlock] using hj
      subst e
      have hlt := (U2_2.out.lt g2 rfl).2
      rw [P3.out.chg.block g2 (by simp; omega) (fun e => by have := (O3.out.lt g2 e).1; omega)]
      exact Go.heap_alloc_old _ _ hlt)
    exact flat_of h (M := fun k => k = w.heap.size) (Chg.setCell (M := fun k => k = w.heap.size) (Chg.refl _) (fun _ => rfl) _) (fun j h1 h2 e => by have := K2.out.1; have := Z2.out; omega))
  have G3_ := Lib.hid (show g3 < w4.heap.size by rw [hw4]; simpa using K3.out.2)
  clear hw4 x0 x1 x2 x3 x4 xf lt0
  have t3 := F4.out.h0
  have x0 := t3.cell 0 _ rfl; have x1 := t3.cell 1 _ rfl; have x2 := t3.cell 2 _ rfl; have x3 := t3.cell 3 _ rfl; have x4 := t3.cell 4 _ rfl; have xf := t3.free; have lt0 := t3.lt (by simp)
  clear t3
  have t4 := F4.out.h1
  have z0 := t4.cell 0 _ rfl; have z1 := t4.cell 1 _ rfl; have z2 := t4.cell 2 _ rfl; have z3 := t4.cell 3 _ rfl; have z4 := t4.cell 4 _ rfl; have zf := t4.free
  clear t4
  obtain ⟨w5, hw5⟩ : ∃ w5, w5 = ((((w4.setCell ⟨w.heap.size + 1, 0, none⟩ (.slice (some ⟨g1, 0, none⟩) rn c1)).setCell ⟨w.heap.size + 1, 1, none⟩ (.slice (some ⟨g2, 0, none⟩) dn c2)).setCell ⟨w.heap.size + 1, 2, none⟩ (.slice (some ⟨g3, 0, none⟩) hn c3)).setCell ⟨w.heap.size + 1, 3, none⟩ (.int .i64 pc)).setCell ⟨w.heap.size + 1, 4, none⟩ (.bool en) := ⟨_, rfl⟩
  have CF := Lib.hid (show Chg (fun k => k = w.heap.size + 1) w4 w5 by
    rw [hw5]
    exact (((((Chg.refl w4).setCell (M := fun k => k = w.heap.size + 1) (fun _ => rfl) _).setCell (fun _ => rfl) _).setCell (fun _ => rfl) _).setCell (fun _ => rfl) _).setCell (fun _ => rfl) _)
  have FF := Lib.hid ((((((F4.out.set 1 0 _ rfl (by simp) (.slice (some ⟨g1, 0, none⟩) rn c1)).set 1 1 _ rfl (by simp) (.slice (some ⟨g2, 0, none⟩) dn c2)).set 1 2 _ rfl (by simp) (.slice (some ⟨g3, 0, none⟩) hn c3)).set 1 3 _ rfl (by simp) (.int .i64 pc)).set 1 4 _ rfl (by simp) (.bool en)))
  have CO := Lib.hid (show CoOwn w.heap.size w5 g1 c1 g2 c2 g3 c3 rn dn hn regs data held from
    ⟨flat_of U1_3.out CF.out (fun j h1 h2 e => by have := K1.out.1; have := Z1.out; omega), flat_of U2_3.out CF.out (fun j h1 h2 e => by have := K2.out.1; have := Z2.out; omega), flat_of U3_3.out CF.out (fun j h1 h2 e => by have := K3.out.1; have := Z3.out; omega),
     by have := K1.out.1; have := Z1.out; omega, by have := G1_.out; have := K2.out.1; omega, by have := G2_.out; have := K3.out.1; omega⟩)
  have BF := Lib.hid (show Below w.heap.size w w5 by rw [hw5]; exact FF.out.below)
  clear FF CF
  go_wp2_with fail
  rw [← hw5]
  exact bodyPost_ret (v := CoV (some ⟨g1, 0, none⟩) rn c1 (some ⟨g2, 0, none⟩) dn c2 (some ⟨g3, 0, none⟩) hn c3 pc en) (by rw [hw5]; simp [results, Try.results39, go_sem, z0, z1, z2, z3, z4]) rfl ⟨g1, c1, g2, c2, g3, c3, rfl, CO.out, BF.out⟩
end Go.Proofs.Ytonbmijhbbodnaa
