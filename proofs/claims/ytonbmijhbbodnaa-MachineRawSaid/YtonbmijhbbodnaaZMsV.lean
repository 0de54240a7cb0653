/-
  The sanity check of machine's laws.
  The statements' Step and Copy: the document's, handed on.
  Variables made in one statement while a deck is drawn from; a core that is filled by words from a deck. Small laws.
-/
import Derived.Test.YtonbmijhbbodnaaZMsT
import Derived.Test.YtonbmijhbbodnaaInQ
import Derived.Test.YtonbmijhbbodnaaZStD
import Derived.Test.YtonbmijhbbodnaaZHeadi
import Derived.Test.YtonbmijhbbodnaaZInW
import Derived.Test.YtonbmijhbbodnaaMsA
namespace Go.Proofs.Ytonbmijhbbodnaa
open Go.RowKit

theorem ien_in : IEN.In := by constructor <;> (unfold I64; decide)
set_option maxRecDepth 100000 in
set_option maxHeartbeats 16000000 in
theorem mawake_any (w : World) : Calls Try.prog 9 #[] w fun e w' => e = .returned (.bool true) ∧ Below w.heap.size w w' := by
  have F0 := Lib.hid (Fm.new (Fm.new (Fm.new (Fm.new (Fm.start Non w) rfl (ICells IEN) 50) (by simp) [.int .i64 0, .int .i64 1, NIL, NIL] 70) (by simp) (UCells ⟨#[]⟩ (some ⟨w.heap.size + 1, 0, none⟩) 1 1) 79) (by simp) (MCells (some ⟨w.heap.size, 0, none⟩) 1 1 0 (some ⟨w.heap.size + 1 + 1, 0, none⟩) 1 1) 31)
  go_enter Try.func9, Try.ntmps9
  go_upto_region 2 with fail
  obtain ⟨w1, hw1⟩ : ∃ w1, w1 = (((w.alloc (.cells #[.int .i64 10, .int .i64 0, .int .i64 0, .int .i64 0, .int .i64 0, .int .i64 0] 50)).alloc (.cells #[.int .i64 0, .int .i64 1, .slice none 0 0, .slice none 0 0] 70)).alloc (.cells #[.string ⟨#[]⟩, .slice (some ⟨w.heap.size + 1, 0, none⟩) 1 1, .slice none 0 0, .slice none 0 0, .slice none 0 0, .slice none 0 0, .slice none 0 0, .slice none 0 0, .slice none 0 0, .slice none 0 0] 79)).alloc (.cells #[.slice (some ⟨w.heap.size, 0, none⟩) 1 1, .int .i64 0, .slice none 0 0, .slice (some ⟨w.heap.size + 1 + 1, 0, none⟩) 1 1] 31) := ⟨_, rfl⟩
  rw [← hw1]
  have F1 := Lib.hid (show Fm Non w w1 [ICells IEN, [.int .i64 0, .int .i64 1, NIL, NIL], UCells ⟨#[]⟩ (some ⟨w.heap.size + 1, 0, none⟩) 1 1, MCells (some ⟨w.heap.size, 0, none⟩) 1 1 0 (some ⟨w.heap.size + 1 + 1, 0, none⟩) 1 1] by rw [hw1]; exact F0.out)
  clear hw1 F0
  have NL := Lib.hid (show ∀ w' : World, Below w1.heap.size w1 w' → NdL (fun _ => True) w' (some ⟨w.heap.size + 1, 0, none⟩) 1 1 [⟨0, 1, [], []⟩] from fun w' hb => by
    have hn := F1.out.h1.below hb (F1.out.h1.lt (by simp))
    refine ⟨rfl, Nat.le_refl _, by omega, by omega, fun i x hx => ?_⟩
    match i, hx with
    | 0, hx =>
      cases hx
      exact ⟨w.heap.size + 1, 0, rfl, trivial, hn.lt (by simp), hn.cell 0 _ rfl, hn.cell 1 _ rfl, by show I64 _; dsimp only; unfold I64; omega, by show I64 _; dsimp only; unfold I64; omega, ⟨_, _, _, hn.cell 2 _ rfl, Row.nil _ _ _ _ _ (by omega)⟩, ⟨_, _, _, hn.cell 3 _ rfl, Row.nil _ _ _ _ _ (by omega)⟩⟩)
  have IM := Lib.hid (show IsImg (fun _ => True) w1 (some ⟨w.heap.size, 0, none⟩) 1 1 0 (some ⟨w.heap.size + 1 + 1, 0, none⟩) 1 1 exImg by
    have hc := F1.out.h0; have hu := F1.out.h2
    refine ⟨⟨rfl, Nat.le_refl _, by omega, by omega, fun i x hx => ?_⟩, rfl, by show I64 0; unfold I64; omega, ⟨rfl, Nat.le_refl _, by omega, by omega, fun i x hx => ?_⟩⟩
    · match i, hx with
      | 0, hx => cases hx; exact ⟨w.heap.size, 0, rfl, trivial, hc.lt (by simp), fun j v hj => by rw [Nat.zero_mul, Nat.zero_add]; exact hc.cell j v hj, ien_in⟩
    · match i, hx with
      | 0, hx =>
        cases hx
        refine ⟨w.heap.size + 1 + 1, 0, rfl, trivial, hu.lt (by simp), ⟨_, hu.cell 0 _ rfl⟩, ⟨_, _, _, hu.cell 1 _ rfl, NL.out w1 (Below.refl _ _)⟩, fun i h1 h2 => ?_⟩
        rw [Nat.zero_mul, Nat.zero_add]
        match i, h1, h2 with
        | 2, _, _ => exact hu.cell 2 _ rfl
        | 3, _, _ => exact hu.cell 3 _ rfl
        | 4, _, _ => exact hu.cell 4 _ rfl
        | 5, _, _ => exact hu.cell 5 _ rfl
        | 6, _, _ => exact hu.cell 6 _ rfl
        | 7, _, _ => exact hu.cell 7 _ rfl
        | 8, _, _ => exact hu.cell 8 _ rfl
        | 9, _, _ => exact hu.cell 9 _ rfl)
  have m0 := F1.out.h3.cell 0 _ rfl; have m1 := F1.out.h3.cell 1 _ rfl; have m2 := F1.out.h3.cell 2 _ rfl; have m3 := F1.out.h3.cell 3 _ rfl
  go_wp2_with fail
  refine (run_one _ _ 1 1 0 _ 1 1 w1 IM.out).mono ?_
  rintro _ w2 ⟨qk, g, c, rfl, hg, hgl, hb⟩
  have N2 := Lib.hid (NL.out w2 hb)
  have F2 := Lib.hid (Fm.call hb F1.out)
  have G2 := Lib.hid hg
  clear hb hg m0 m1 m2 m3 F1 IM NL
  have LS := Lib.hid (show w.heap.size + 4 ≤ w2.heap.size by have := F2.out.size; simpa using this)
  go_upto_region 3 with fail
  obtain ⟨w3, hw3⟩ : ∃ w3, w3 = w2.alloc (.cells #[NIL, NIL, NIL, .slice (some ⟨qk, 0, none⟩) 1 1, .int .i64 1] 81) := ⟨_, rfl⟩
  rw [← hw3]
  obtain ⟨qo, hqo⟩ : ∃ qo, qo = w2.heap.size := ⟨_, rfl⟩
  rw [← hqo]
  have B3 := Lib.hid (show Below w2.heap.size w2 w3 by rw [hw3]; exact (Below.refl _ _).alloc (Nat.le_refl _) _)
  have F3 := Lib.hid (Fm.call B3.out F2.out)
  have O3 := Lib.hid (show Has w3 qo [NIL, NIL, NIL, .slice (some ⟨qk, 0, none⟩) 1 1, .int .i64 1] by rw [hw3, hqo]; exact Has.new w2 _ 81)
  have G3 := Lib.hid (G2.out.below B3.out hgl)
  have N3 := Lib.hid (Row.below RNd.stays N2.out B3.out)
  clear hw3 hqo F2 G2 N2
  have e0 := G3.out.cell 0 _ rfl; have e1 := G3.out.cell 1 _ rfl; have e2 := G3.out.cell 2 _ rfl
  have o4 := O3.out.cell 4 _ rfl
  have m3 := F3.out.h3.cell 3 _ rfl
  have t0 := F3.out.h2
  have u0 := t0.cell 0 _ rfl; have u1 := t0.cell 1 _ rfl; have u2 := t0.cell 2 _ rfl; have u3 := t0.cell 3 _ rfl; have u4 := t0.cell 4 _ rfl; have u5 := t0.cell 5 _ rfl; have u6 := t0.cell 6 _ rfl; have u7 := t0.cell 7 _ rfl; have u8 := t0.cell 8 _ rfl; have u9 := t0.cell 9 _ rfl
  clear t0
  go_wp2_with fail
  refine (nodes_one (fun _ => True) ⟨#[]⟩ _ 1 g c w3 N3.out G3.out (G3.out.lt (by simp))).mono ?_
  rintro _ w4 ⟨b, k, rfl, hi, hb⟩
  have F4 := Lib.hid (Fm.call hb F3.out)
  have I4 := Lib.hid hi
  clear hi hb e0 e1 e2 o4 m3 u0 u1 u2 u3 u4 u5 u6 u7 u8 u9
  have B5 := Lib.hid ((Below.refl w4.heap.size w4).alloc (Nat.le_refl _) (.cells (ivs [0]).toArray 3))
  go_wp2_with fail
  refine (sameints_eq (fun _ => True) (fun _ => True) _ _ 1 1 k 1 [0] _ (Row.below RInt.stays I4.out B5.out) (show Ints (fun _ => True) (w4.alloc (.cells (ivs [0]).toArray 3)) (some ⟨w4.heap.size, 0, none⟩) 1 1 [0] from ints_lead w4 [0] (by intro z hz; simp at hz; subst hz; unfold I64; omega) (by simp))).mono ?_
  rintro _ w6 ⟨rfl, hb⟩
  have F6 := Lib.hid (Fm.call hb (Fm.call B5.out F4.out))
  go_wp2
  go_ret
  exact ⟨rfl, F6.out.below⟩

def Nar (K : Nat → Prop) (B : Nat) (k : Nat) : Prop := K k ∧ k < B
theorem IsCo.nar {K : Nat → Prop} {w : World} {ra : Option Addr} {rn rc : Nat} {da : Option Addr} {dn dc : Nat} {ha : Option Addr} {hn hc : Nat} {c : Co} (h : IsCo K w ra rn rc da dn dc ha hn hc c) : IsCo (Nar K w.heap.size) w ra rn rc da dn dc ha hn hc c :=
  ⟨Row.wide RInt.wider (fun _k h hk => ⟨h, hk⟩) h.regs, Row.wide RInt.wider (fun _k h hk => ⟨h, hk⟩) h.data, Row.wide (fun _ _ _ _ _ _ _ h => h) (fun _k h hk => ⟨h, hk⟩) h.held, h.pc⟩
theorem IsCo.chg {K M : Nat → Prop} {w w' : World} {ra : Option Addr} {rn rc : Nat} {da : Option Addr} {dn dc : Nat} {ha : Option Addr} {hn hc : Nat} {c : Co} (h : IsCo K w ra rn rc da dn dc ha hn hc c) (k : Chg M w w') (hM : ∀ k, K k → ¬ M k) : IsCo K w' ra rn rc da dn dc ha hn hc c :=
  ⟨Row.chg RInt.stays h.regs k hM, Row.chg RInt.stays h.data k hM, Row.chg RBo.stays h.held k hM, h.pc⟩
theorem stepR_fin {m : Img} {c d : Co} {K M : Nat → Prop} {w w1 w2 w3 : World} {n : Nat} {ra : Option Addr} {rn rc : Nat} {da : Option Addr} {dn dc : Nat} {ha : Option Addr} {hn hc : Nat} {v : Ev} {er : Int} (hs : StepIs m c d v er) (hco : IsCo (Or2 (Nar K w.heap.size) w1.heap.size) w2 ra rn rc da dn dc ha hn hc d) (hw : w1.heap.size = w.heap.size + n)
    (hc3 : Chg M w2 w3) (hM : ∀ k, M k → w.heap.size ≤ k ∧ k < w.heap.size + n) (hb : Below w.heap.size w w2) : StepR m c K w (.returned (.tuple #[CoV ra rn rc da dn dc ha hn hc d.pc d.ended, EvV v, .int .i64 er])) w3 :=
  ⟨ra, rn, rc, da, dn, dc, ha, hn, hc, d, v, er, rfl, hs, (hco.chg hc3 (fun k hk hm => by have := hM k hm; rcases hk with hk | hk; exact absurd hk.2 (by omega); omega)).wide (fun k hk => by rcases hk with hk | hk; exact .inl hk.1; exact .inr (by omega)),
   hb.trans (hc3.below (fun k hk hm => by have := hM k hm; omega) hb.size)⟩
theorem CoOwn.lower {B B' : Nat} {w : World} {g1 c1 g2 c2 g3 c3 rn dn hn : Nat} {regs data : List Int} {held : List Bool} (h : CoOwn B w g1 c1 g2 c2 g3 c3 rn dn hn regs data held) (hB : B' ≤ B) : CoOwn B' w g1 c1 g2 c2 g3 c3 rn dn hn regs data held := ⟨h.regs, h.data, h.held, Nat.le_trans hB h.ge, h.lt1, h.lt2⟩
def MTwo (a b : Nat) (k : Nat) : Prop := k = a ∨ k = b
set_option maxRecDepth 100000 in
set_option maxHeartbeats 16000000 in
theorem mkStep_any (K K2 : Nat → Prop) (ca : Option Addr) (cn cc : Nat) (D : Int) (ua : Option Addr) (un uc : Nat) (m : Img) (ra : Option Addr) (rn rc : Nat) (da : Option Addr) (dn dc : Nat) (ha : Option Addr) (hn hc : Nat) (c : Co) (w : World)
    (h : IsImg K w ca cn cc D ua un uc m) (g : IsCo K2 w ra rn rc da dn dc ha hn hc c) (hD0 : 0 < m.data) :
    Calls Try.prog 29 #[MV ca cn cc D ua un uc, CoV ra rn rc da dn dc ha hn hc c.pc c.ended] w (StepR m c K2 w) := by
  obtain ⟨regs, data, held, pc, en⟩ := c
  have F0 := Lib.hid (Fm.new (Fm.new (Fm.new (Fm.new (Fm.start Non w) rfl (MCells ca cn cc D ua un uc) 31) (by simp) (CoCells ra rn rc da dn dc ha hn hc pc en) 36) (by simp) ZC 36) (by simp) (EvCells ev0) 39)
  have H0 := Lib.hid h; have G0 := Lib.hid g.nar; have HD0 := Lib.hid hD0
  clear h g hD0
  go_enter Try.func29, Try.ntmps29
  go_upto_region 1 with fail
  obtain ⟨w1, hw1⟩ : ∃ w1, w1 = (((w.alloc (.cells #[.slice ca cn cc, .int .i64 D, NIL, .slice ua un uc] 31)).alloc (.cells #[.slice ra rn rc, .slice da dn dc, .slice ha hn hc, .int .i64 pc, .bool en] 36)).alloc (.cells #[NIL, NIL, NIL, .int .i64 0, .bool false] 36)).alloc (.cells #[.int .i64 0, .int .i64 0, .bool false] 39) := ⟨_, rfl⟩
  rw [← hw1]
  have F1 := Lib.hid (show Fm Non w w1 [MCells ca cn cc D ua un uc, CoCells ra rn rc da dn dc ha hn hc pc en, ZC, EvCells ev0] by rw [hw1]; exact F0.out)
  have S1 := Lib.hid (show w1.heap.size = w.heap.size + 4 by rw [hw1]; simp)
  have H1 := Lib.hid (H0.out.below F1.out.below)
  have G1 := Lib.hid (G0.out.below F1.out.below)
  clear hw1 F0
  have m0 := F1.out.h0.cell 0 _ rfl; have m1 := F1.out.h0.cell 1 _ rfl; have m2 := F1.out.h0.cell 2 _ rfl; have m3 := F1.out.h0.cell 3 _ rfl
  have x0 := F1.out.h1.cell 0 _ rfl; have x1 := F1.out.h1.cell 1 _ rfl; have x2 := F1.out.h1.cell 2 _ rfl; have x3 := F1.out.h1.cell 3 _ rfl; have x4 := F1.out.h1.cell 4 _ rfl
  go_wp2_with fail
  refine Calls.mono (rStep_any K (Nar K2 w.heap.size) ca cn cc D ua un uc m ra rn rc da dn dc ha hn hc ⟨regs, data, held, pc, en⟩ w1 H1.out G1.out HD0.out) ?_
  rintro e w2 ⟨ra', rn', rc', da', dn', dc', ha', hn', hc', ⟨dr, dd, dh, dp, de⟩, ⟨va, vd, vj⟩, er, rfl, hs, hco, hb⟩
  have F2 := Lib.hid (Fm.call hb F1.out)
  have HS := Lib.hid hs; have HCO := Lib.hid hco
  clear hs hco hb m0 m1 m2 m3 x0 x1 x2 x3 x4
  have z0 := F2.out.h2.cell 0 _ rfl; have z1 := F2.out.h2.cell 1 _ rfl; have z2 := F2.out.h2.cell 2 _ rfl; have z3 := F2.out.h2.cell 3 _ rfl; have z4 := F2.out.h2.cell 4 _ rfl; have zf := F2.out.h2.free
  have e0 := F2.out.h3.cell 0 _ rfl; have e1 := F2.out.h3.cell 1 _ rfl; have e2 := F2.out.h3.cell 2 _ rfl; have ef := F2.out.h3.free
  go_wp2
  have CH := Lib.hid (Chg.refl (M := MTwo (w.heap.size + 2) (w.heap.size + 3)) w2)
  refine bodyPost_ret (v := .tuple #[CoV ra' rn' rc' da' dn' dc' ha' hn' hc' dp de, EvV ⟨va, vd, vj⟩, .int .i64 er]) (by simp [results, Try.results29, go_sem, z0, z1, z2, z3, z4, e0, e1, e2]) rfl ?_
  refine stepR_fin (HS.out) HCO.out S1.out (M := MTwo (w.heap.size + 2) (w.heap.size + 3)) ?_ (fun k hk => by unfold MTwo at hk; omega) F2.out.below
  repeat (first | with_reducible exact CH.out | (refine Chg.setCell ?_ (fun _ => by unfold MTwo; simp) _))
set_option maxRecDepth 100000 in
set_option maxHeartbeats 16000000 in
theorem mkCopy_any (K : Nat → Prop) (ra : Option Addr) (rn rc : Nat) (da : Option Addr) (dn dc : Nat) (ha : Option Addr) (hn hc : Nat) (c : Co) (w : World)
    (g : IsCo K w ra rn rc da dn dc ha hn hc c) (hr0 : 0 < rn) (hr1 : rn ≤ 2000) (hd0 : 0 < dn) (hd1 : dn ≤ 2000) (hh0 : 0 < hn) (hh1 : hn ≤ 2000) :
    Calls Try.prog 27 #[CoV ra rn rc da dn dc ha hn hc c.pc c.ended] w (CopyRet rn dn hn c w) := by
  obtain ⟨regs, data, held, pc, en⟩ := c
  have F0 := Lib.hid (Fm.new (Fm.new (Fm.start Non w) rfl (CoCells ra rn rc da dn dc ha hn hc pc en) 36) (by simp) ZC 36)
  have G0 := Lib.hid g
  clear g
  go_enter Try.func27, Try.ntmps27
  go_upto_region 1 with fail
  obtain ⟨w1, hw1⟩ : ∃ w1, w1 = (w.alloc (.cells #[.slice ra rn rc, .slice da dn dc, .slice ha hn hc, .int .i64 pc, .bool en] 36)).alloc (.cells #[NIL, NIL, NIL, .int .i64 0, .bool false] 36) := ⟨_, rfl⟩
  rw [← hw1]
  have F1 := Lib.hid (show Fm Non w w1 [CoCells ra rn rc da dn dc ha hn hc pc en, ZC] by rw [hw1]; exact F0.out)
  have S1 := Lib.hid (show w1.heap.size = w.heap.size + 2 by rw [hw1]; simp)
  have G1 := Lib.hid (G0.out.below F1.out.below)
  clear hw1 F0
  have x0 := F1.out.h0.cell 0 _ rfl; have x1 := F1.out.h0.cell 1 _ rfl; have x2 := F1.out.h0.cell 2 _ rfl; have x3 := F1.out.h0.cell 3 _ rfl; have x4 := F1.out.h0.cell 4 _ rfl
  go_wp2_with fail
  refine Calls.mono (rcopyc_any K ra rn rc da dn dc ha hn hc ⟨regs, data, held, pc, en⟩ w1 G1.out hr0 hr1 hd0 hd1 hh0 hh1) ?_
  rintro e w2 ⟨g1, c1, g2, c2, g3, c3, rfl, ho, hb⟩
  have F2 := Lib.hid (Fm.call hb F1.out)
  have HO := Lib.hid ho
  clear ho hb x0 x1 x2 x3 x4
  have z0 := F2.out.h1.cell 0 _ rfl; have z1 := F2.out.h1.cell 1 _ rfl; have z2 := F2.out.h1.cell 2 _ rfl; have z3 := F2.out.h1.cell 3 _ rfl; have z4 := F2.out.h1.cell 4 _ rfl; have zf := F2.out.h1.free
  have LG := Lib.hid (show w.heap.size + 2 ≤ g1 ∧ g1 < g2 ∧ g2 < g3 by have h9 := HO.out.ge; have h7 := HO.out.lt1; have h8 := HO.out.lt2; have := S1.out; omega)
  go_wp2
  have lg := LG.out
  refine bodyPost_ret (v := CoV (some ⟨g1, 0, none⟩) rn c1 (some ⟨g2, 0, none⟩) dn c2 (some ⟨g3, 0, none⟩) hn c3 pc en) (by simp [results, Try.results27, go_sem, z0, z1, z2, z3, z4]) rfl ⟨g1, c1, g2, c2, g3, c3, rfl, ?_, ?_⟩
  · refine CoOwn.lower (B := w1.heap.size) ?_ F1.out.below.size
    repeat (first | with_reducible exact HO.out | (with_reducible refine CoOwn.other ?_ (by dsimp only; omega) _))
  · repeat (first | with_reducible exact F2.out.below | (with_reducible refine Below.setCell ?_ (by dsimp only; omega) _))

/-- As AJ of Heada, with a deck that is drawn from. -/
structure AJD (d base : Nat) (w0 : World) (val : Nat → Nat → Value) (ty : Nat → TypeId) (cs : Nat → List Value) (al : Nat → Prop) (b : Nat → Bool) (v : Nat → Value) (q : Nat → Nat) (w' : World) : Prop where
  but : But d w0 w'
  deck : Deck w' d
  dlt : d < base
  size : base ≤ w'.heap.size
  have_ : ∀ i, al i → b i = true → v i = val i (q i) ∧ Blk w' (q i) (ty i) (cs i) ∧ base ≤ q i
  apart : ∀ i j, al i → al j → b i = true → b j = true → i ≠ j → q i ≠ q j
variable {d base : Nat} {w0 w' u : World} {val : Nat → Nat → Value} {ty : Nat → TypeId} {cs : Nat → List Value} {al : Nat → Prop} {b : Nat → Bool} {v : Nat → Value} {q : Nat → Nat}
theorem AJD.start (hb : base = w0.heap.size) (hw : But d w0 w') (hd : Deck w' d) (hl : d < base) (v : Nat → Value) : AJD d base w0 val ty cs al (fun _ => false) v (fun _ => 0) w' :=
  ⟨hw, hd, hl, by rw [hb]; exact hw.size, (fun i _ h => by cases h), (fun i j _ _ h => by cases h)⟩
/-- Nothing is made; the deck may be drawn from. -/
theorem AJD.keep (h : AJD d base w0 val ty cs al b v q w') (hu : But d w' u) (hd : Deck u d) {i : Nat} (hi : ¬ al i) (x : Value) : AJD d base w0 val ty cs al (setB b i) (setV v i x) q u := by
  refine ⟨h.but.trans hu, hd, h.dlt, Nat.le_trans h.size hu.size, fun j ha hj => ?_, fun j k ha hk hj hkk hne => ?_⟩
  · have e : ¬ j = i := fun e => hi (e ▸ ha)
    simp only [setB, e, if_false] at hj
    simp only [setV, e, if_false]
    obtain ⟨h1, h2, h3⟩ := h.have_ j ha hj
    exact ⟨h1, h2.of (hu.block (q j) h2.lt (by have := h.dlt; omega)), h3⟩
  · have e : ¬ j = i := fun e => hi (e ▸ ha)
    have e' : ¬ k = i := fun e => hi (e ▸ hk)
    simp only [setB, e, e', if_false] at hj hkk
    exact h.apart j k ha hk hj hkk hne
theorem AJD.step (h : AJD d base w0 val ty cs al b v q w') {i : Nat} (hi : b i = false) {x : Value} (hx : x = val i w'.heap.size) : AJD d base w0 val ty cs al (setB b i) (setV v i x) (fun j => if j = i then w'.heap.size else q j) (w'.alloc (.cells (cs i).toArray (ty i))) := by
  have hsz := h.size
  refine ⟨h.but.trans (But.of_below ((Below.refl _ _).alloc (Nat.le_refl _) _)), h.deck.below ((Below.refl _ _).alloc (Nat.le_refl _) _) (Nat.le_refl _), h.dlt, by rw [World.size_alloc]; omega, fun j ha hj => ?_, fun j k ha hk hj hkk hne => ?_⟩
  · by_cases e : j = i
    · subst e
      simp only [setV, if_true]
      exact ⟨hx, Blk.new w' (cs j) (ty j), hsz⟩
    · simp only [setB, e, if_false] at hj
      simp only [setV, e, if_false]
      obtain ⟨h1, h2, h3⟩ := h.have_ j ha hj
      exact ⟨h1, h2.old _, h3⟩
  · by_cases e : j = i
    · subst e
      have hkj : ¬ k = j := fun e => hne e.symm
      simp only [setB, hkj, if_false] at hkk
      have := (h.have_ k hk hkk).2.1.lt
      simp only [if_true, hkj, if_false]
      omega
    · by_cases e' : k = i
      · subst e'
        simp only [setB, e, if_false] at hj
        have := (h.have_ j ha hj).2.1.lt
        simp only [if_true, e, if_false]
        omega
      · simp only [setB, e, e', if_false] at hj hkk
        simp only [e, e', if_false]
        exact h.apart j k ha hk hj hkk hne

theorem RIns.wider : Wider RIns := fun _ _ _ _ _ _ _ h => h
theorem RAcc.wider : Wider RAcc := fun _ _ _ _ _ _ _ h => h
theorem RNd.wider : Wider RNd := fun _ _ _ _ _ _ hk ⟨h1, h2, h3, h4, ⟨a, n, c, h5, h6⟩, ⟨a', n', c', h7, h8⟩⟩ =>
  ⟨h1, h2, h3, h4, ⟨a, n, c, h5, Row.wide RInt.wider hk h6⟩, ⟨a', n', c', h7, Row.wide RAcc.wider hk h8⟩⟩
theorem RUn.wider : Wider RUn := fun _ _ _ _ _ _ hk ⟨h1, ⟨a, n, c, h2, h3⟩, h4⟩ => ⟨h1, ⟨a, n, c, h2, Row.wide RNd.wider hk h3⟩, h4⟩
theorem IsImg.nar {K : Nat → Prop} {w : World} {ca : Option Addr} {cn cc : Nat} {D : Int} {ua : Option Addr} {un uc : Nat} {m : Img} (h : IsImg K w ca cn cc D ua un uc m) : IsImg (Nar K w.heap.size) w ca cn cc D ua un uc m :=
  ⟨Row.wide RIns.wider (fun _k h hk => ⟨h, hk⟩) h.code, h.data, h.dI, Row.wide RUn.wider (fun _k h hk => ⟨h, hk⟩) h.units⟩
/-- A core under construction, beside its image. -/
structure McAt (w : World) (d B mq q0 q1 q2 q4 : Nat) (ca : Option Addr) (cn cc bu : Nat) (m : Img) (regs data : List Int) (held : List Bool) (p : Int) (wr : World) : Prop where
  below : Below w.heap.size w wr
  deck : Deck wr d
  img : IsImg (Nar (Ge B) mq) wr ca cn cc 6 (some ⟨bu, 0, none⟩) 1 1 m
  hm : Has wr mq (MCells ca cn cc 6 (some ⟨bu, 0, none⟩) 1 1)
  b0 : Blk wr q0 3 (ivs regs)
  b1 : Blk wr q1 3 (ivs data)
  b2 : Blk wr q2 4 (bvs held)
  b4 : Blk wr q4 36 (CoCells (some ⟨q0, 0, none⟩) 8 8 (some ⟨q1, 0, none⟩) 6 6 (some ⟨q2, 0, none⟩) 4 4 p false)
  ls : w.heap.size ≤ d ∧ d < B ∧ B ≤ mq ∧ mq < q0 ∧ mq < q1 ∧ mq < q2 ∧ mq < q4 ∧ q0 ≠ q1 ∧ q0 ≠ q2 ∧ q0 ≠ q4 ∧ q1 ≠ q2 ∧ q1 ≠ q4 ∧ q2 ≠ q4
  lr : regs.length = 8 ∧ data.length = 6 ∧ held.length = 4
  wd : (∀ z ∈ regs, I64 z) ∧ (∀ z ∈ data, I64 z) ∧ I64 p
variable {w wr : World} {B mq q0 q1 q2 q4 : Nat} {ca : Option Addr} {cn cc bu : Nat} {m : Img} {regs data : List Int} {held : List Bool} {p : Int}
theorem IsImg.chgN {K M : Nat → Prop} {w w' : World} {ca : Option Addr} {cn cc : Nat} {D : Int} {ua : Option Addr} {un uc : Nat} {m : Img} (h : IsImg K w ca cn cc D ua un uc m) (k : Chg M w w') (hM : ∀ k, K k → ¬ M k) : IsImg K w' ca cn cc D ua un uc m :=
  ⟨Row.chg RIns.stays h.code k hM, h.data, h.dI, Row.chg RUn.stays h.units k hM⟩
theorem McAt.word (h : McAt w d B mq q0 q1 q2 q4 ca cn cc bu m regs data held p wr) {w' : World} (hb : But d wr w') (hd : Deck w' d) : McAt w d B mq q0 q1 q2 q4 ca cn cc bu m regs data held p w' := by
  have l := h.ls
  have C : Chg (fun k => k = d) wr w' := ⟨hb.os, hb.tape, hb.output, hb.size, fun k hk hm => hb.block k hk hm⟩
  exact ⟨h.below.trans (C.below (fun k hk e => by omega) h.below.size), hd, h.img.chgN C (fun k hk e => by have := hk.1; unfold Ge at this; omega), hb.has h.hm (h.hm.lt (by simp)) (by omega), h.b0.chg C (by omega), h.b1.chg C (by omega), h.b2.chg C (by omega), h.b4.chg C (by omega), h.ls, h.lr, h.wd⟩
theorem McAt.drew (h : McAt w d B mq q0 q1 q2 q4 ca cn cc bu m regs data held p wr) : McAt w d B mq q0 q1 q2 q4 ca cn cc bu m regs data held p wr.drew :=
  h.word ⟨rfl, rfl, rfl, Nat.le_refl _, fun _ _ _ => rfl⟩ (h.deck.drewN 1)
theorem i64_set {l : List Int} (h : ∀ z ∈ l, I64 z) {i : Nat} {y : Int} (hy : I64 y) : ∀ z ∈ l.set i y, I64 z := fun z hz => by
  rcases List.mem_or_eq_of_mem_set hz with h' | rfl
  · exact h z h'
  · exact hy
theorem McAt.setR (h : McAt w d B mq q0 q1 q2 q4 ca cn cc bu m regs data held p wr) (i : Nat) {z : Int} (hz : I64 z) : McAt w d B mq q0 q1 q2 q4 ca cn cc bu m (regs.set i z) data held p (wr.setCell ⟨q0, i, none⟩ (.int .i64 z)) := by
  have l := h.ls
  have C : Chg (fun k => k = q0) wr (wr.setCell ⟨q0, i, none⟩ (.int .i64 z)) := Chg.setCell (M := fun k => k = q0) (p := ⟨q0, i, none⟩) (Chg.refl wr) (fun _ => rfl) _
  have hs := h.below.size
  exact ⟨h.below.trans (C.below (fun k hk e => by omega) hs), deck_chg h.deck C (fun j _ hj e => by omega), h.img.chgN C (fun k hk e => by have := hk.2; omega), C.has h.hm (h.hm.lt (by simp)) (by omega), (h.b0.set i _).at (by rw [ivs_set]), h.b1.chg C (by omega), h.b2.chg C (by omega), h.b4.chg C (by omega), h.ls, ⟨by rw [List.length_set]; exact h.lr.1, h.lr.2⟩, ⟨i64_set h.wd.1 hz, h.wd.2⟩⟩
theorem McAt.setD (h : McAt w d B mq q0 q1 q2 q4 ca cn cc bu m regs data held p wr) (i : Nat) {z : Int} (hz : I64 z) : McAt w d B mq q0 q1 q2 q4 ca cn cc bu m regs (data.set i z) held p (wr.setCell ⟨q1, i, none⟩ (.int .i64 z)) := by
  have l := h.ls
  have C : Chg (fun k => k = q1) wr (wr.setCell ⟨q1, i, none⟩ (.int .i64 z)) := Chg.setCell (M := fun k => k = q1) (p := ⟨q1, i, none⟩) (Chg.refl wr) (fun _ => rfl) _
  have hs := h.below.size
  exact ⟨h.below.trans (C.below (fun k hk e => by omega) hs), deck_chg h.deck C (fun j _ hj e => by omega), h.img.chgN C (fun k hk e => by have := hk.2; omega), C.has h.hm (h.hm.lt (by simp)) (by omega), h.b0.chg C (by omega), (h.b1.set i _).at (by rw [ivs_set]), h.b2.chg C (by omega), h.b4.chg C (by omega), h.ls, ⟨h.lr.1, by rw [List.length_set]; exact h.lr.2.1, h.lr.2.2⟩, ⟨h.wd.1, i64_set h.wd.2.1 hz, h.wd.2.2⟩⟩
theorem McAt.setH (h : McAt w d B mq q0 q1 q2 q4 ca cn cc bu m regs data held p wr) (i : Nat) (z : Bool) : McAt w d B mq q0 q1 q2 q4 ca cn cc bu m regs data (held.set i z) p (wr.setCell ⟨q2, i, none⟩ (.bool z)) := by
  have l := h.ls
  have C : Chg (fun k => k = q2) wr (wr.setCell ⟨q2, i, none⟩ (.bool z)) := Chg.setCell (M := fun k => k = q2) (p := ⟨q2, i, none⟩) (Chg.refl wr) (fun _ => rfl) _
  have hs := h.below.size
  exact ⟨h.below.trans (C.below (fun k hk e => by omega) hs), deck_chg h.deck C (fun j _ hj e => by omega), h.img.chgN C (fun k hk e => by have := hk.2; omega), C.has h.hm (h.hm.lt (by simp)) (by omega), h.b0.chg C (by omega), h.b1.chg C (by omega), (h.b2.set i _).at (by rw [bvs_set]), h.b4.chg C (by omega), h.ls, ⟨h.lr.1, h.lr.2.1, by rw [List.length_set]; exact h.lr.2.2⟩, h.wd⟩
theorem ints_hasW {w : World} {K : Nat → Prop} {b n : Nat} {l : List Int} (h : Has w b (ivs l)) (hb : b < w.heap.size) (hK : K b) (hn : n = l.length) (hl : ∀ z ∈ l, I64 z) (hm : n ≤ 1000) : Ints K w (some ⟨b, 0, none⟩) n n l :=
  ⟨hn.symm, Nat.le_refl _, by omega, by omega, fun i x hx => ⟨b, 0, rfl, hK, hb, by rw [Nat.zero_add, Nat.mul_one]; exact h.cell i _ (ivs_get hx), hl x (List.mem_of_getElem? hx)⟩⟩
theorem McAt.co (h : McAt w d B mq q0 q1 q2 q4 ca cn cc bu m regs data held p wr) : IsCo (fun k => k ≠ q4) wr (some ⟨q0, 0, none⟩) 8 8 (some ⟨q1, 0, none⟩) 6 6 (some ⟨q2, 0, none⟩) 4 4 ⟨regs, data, held, p, false⟩ := by
  have l := h.ls
  exact ⟨ints_hasW h.b0.has h.b0.lt (by omega) h.lr.1.symm h.wd.1 (by omega), ints_hasW h.b1.has h.b1.lt (by omega) h.lr.2.1.symm h.wd.2.1 (by omega),
    ⟨h.lr.2.2, Nat.le_refl _, by omega, by omega, fun i x hx => ⟨q2, 0, rfl, by omega, h.b2.lt, by rw [Nat.zero_add, Nat.mul_one]; exact h.b2.cell (bvs_get hx)⟩⟩, h.wd.2.2⟩
/-- A step keeps the lengths. -/
theorem step_lens3 {m : Img} {c d : Co} {v : Ev} {e : Int} (h : StepIs m c d v e) : d.regs.length = c.regs.length ∧ d.data.length = c.data.length ∧ d.held.length = c.held.length := by
  cases h with
  | form h => exact ⟨rfl, rfl, rfl⟩
  | ended _ _ _ => exact ⟨rfl, rfl, rfl⟩
  | err _ _ _ _ _ _ _ h => exact ⟨rfl, rfl, rfl⟩
  | ok =>
    rename_i hh
    exact step_lens hh
/-- The state of the law's loop: the core as the variable has it. -/
structure McLoop (w : World) (d B mq q4 : Nat) (ca : Option Addr) (cn cc bu : Nat) (m : Img) (ra : Option Addr) (rn rc : Nat) (da : Option Addr) (dn dc : Nat) (ha : Option Addr) (hn hc : Nat) (c : Co) (wr : World) : Prop where
  below : Below w.heap.size w wr
  img : IsImg (Nar (Ge B) mq) wr ca cn cc 6 (some ⟨bu, 0, none⟩) 1 1 m
  hm : Has wr mq (MCells ca cn cc 6 (some ⟨bu, 0, none⟩) 1 1)
  hcc : Has wr q4 (CoCells ra rn rc da dn dc ha hn hc c.pc c.ended)
  co : IsCo (fun k => k ≠ q4) wr ra rn rc da dn dc ha hn hc c
  ls : w.heap.size ≤ mq ∧ mq < q4 ∧ rn ≤ 1000000 ∧ dn ≤ 1000000 ∧ hn ≤ 1000000
theorem McAt.loop (h : McAt w d B mq q0 q1 q2 q4 ca cn cc bu m regs data held p wr) : McLoop w d B mq q4 ca cn cc bu m (some ⟨q0, 0, none⟩) 8 8 (some ⟨q1, 0, none⟩) 6 6 (some ⟨q2, 0, none⟩) 4 4 ⟨regs, data, held, p, false⟩ wr :=
  ⟨h.below, h.img, h.hm, h.b4.has, h.co, by have := h.ls; omega⟩
theorem McLoop.to {ra da ha : Option Addr} {rn rc dn dc hn hc : Nat} {c : Co} (h : McLoop w d B mq q4 ca cn cc bu m ra rn rc da dn dc ha hn hc c wr) {w' : World} (hb : Below wr.heap.size wr w') : McLoop w d B mq q4 ca cn cc bu m ra rn rc da dn dc ha hn hc c w' :=
  ⟨h.below.trans (hb.mono h.below.size), h.img.below hb, h.hm.below hb (h.hm.lt (by simp)), h.hcc.below hb (h.hcc.lt (by simp)), h.co.below hb, h.ls⟩
theorem st_limit {n : Nat} {code : List Ins} {nds : List Nd} (h : StOk n n code nds) (hn : n ≤ 1000) : ¬ Limit (stImg n code nds) := by
  have hcl : (code ++ [iEnd]).length = n + 1 := by simp [h.lc]
  intro hL
  unfold Limit stImg at hL
  simp only [hcl, List.length_singleton] at hL
  omega
theorem st_units {n : Nat} {code : List Ins} {nds : List Nd} (h : StOk n n code nds) (hn : n ≤ 1000) : UnitsOk (stImg n code nds).code (stImg n code nds).data 0 (stImg n code nds).units := by
  have hl : (nds ++ [ndE n]).length = n + 1 := by simp [h.ln]
  have hcl : (code ++ [iEnd]).length = n + 1 := by simp [h.lc]
  have hch := st_chain (n + 1) (nds ++ [ndE n]) 0 (fun i z hz => by
    obtain ⟨z', hz', f1, f2⟩ := st_first h (i := i) (by have := (List.getElem?_eq_some_iff.1 hz).1; omega)
    rw [hz] at hz'; cases hz'
    exact ⟨by rw [f1, Nat.zero_add], f2⟩) (by omega)
  show UnitsOk (code ++ [iEnd]) 6 0 [nds ++ [ndE n]]
  refine ⟨⟨by simp, by omega, by rw [hcl]; exact hch.1, fun k x hx => st_node h hn k x hx, st_ends h⟩, ?_⟩
  show endOf 0 _ = _
  rw [show (0 : Int) = ((0 : Nat) : Int) by rfl, hch.2, hl, hcl]
  simp
/-- The variable takes what a step left. -/
theorem McLoop.store {ra da ha : Option Addr} {rn rc dn dc hn hc : Nat} {c : Co} (h : McLoop w d B mq q4 ca cn cc bu m ra rn rc da dn dc ha hn hc c wr) {ra' da' ha' : Option Addr} {rn' rc' dn' dc' hn' hc' : Nat} {c' : Co}
    (g : IsCo (fun k => k ≠ q4) wr ra' rn' rc' da' dn' dc' ha' hn' hc' c') (hl : rn' ≤ 1000000 ∧ dn' ≤ 1000000 ∧ hn' ≤ 1000000) (hq : w.heap.size ≤ q4) :
    McLoop w d B mq q4 ca cn cc bu m ra' rn' rc' da' dn' dc' ha' hn' hc' c' (((((wr.setCell ⟨q4, 0, none⟩ (.slice ra' rn' rc')).setCell ⟨q4, 1, none⟩ (.slice da' dn' dc')).setCell ⟨q4, 2, none⟩ (.slice ha' hn' hc')).setCell ⟨q4, 3, none⟩ (.int .i64 c'.pc)).setCell ⟨q4, 4, none⟩ (.bool c'.ended)) := by
  have l := h.ls
  have C : Chg (fun k => k = q4) wr (((((wr.setCell ⟨q4, 0, none⟩ (.slice ra' rn' rc')).setCell ⟨q4, 1, none⟩ (.slice da' dn' dc')).setCell ⟨q4, 2, none⟩ (.slice ha' hn' hc')).setCell ⟨q4, 3, none⟩ (.int .i64 c'.pc)).setCell ⟨q4, 4, none⟩ (.bool c'.ended)) :=
    ((((((Chg.refl (M := fun k => k = q4) wr).setCell (M := fun k => k = q4) (p := ⟨q4, 0, none⟩) (fun _ => rfl) _).setCell (M := fun k => k = q4) (p := ⟨q4, 1, none⟩) (fun _ => rfl) _).setCell (M := fun k => k = q4) (p := ⟨q4, 2, none⟩) (fun _ => rfl) _).setCell (M := fun k => k = q4) (p := ⟨q4, 3, none⟩) (fun _ => rfl) _).setCell (M := fun k => k = q4) (p := ⟨q4, 4, none⟩) (fun _ => rfl) _)
  refine ⟨h.below.trans (C.below (fun k hk e => by omega) h.below.size), h.img.chgN C (fun k hk e => by have := hk.2; omega), C.has h.hm (h.hm.lt (by simp)) (by omega), ?_, ?_, by omega⟩
  · have := (((((h.hcc.set (k := 0) (by simp) (.slice ra' rn' rc')).set (k := 1) (by simp) (.slice da' dn' dc')).set (k := 2) (by simp) (.slice ha' hn' hc')).set (k := 3) (by simp) (.int .i64 c'.pc)).set (k := 4) (by simp) (.bool c'.ended))
    exact this
  · exact g.chg C (fun k hk e => hk e)
end Go.Proofs.Ytonbmijhbbodnaa
