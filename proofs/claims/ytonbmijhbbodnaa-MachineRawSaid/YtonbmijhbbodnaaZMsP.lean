/-
  The document's Same of two cores that are equal.
  machine.Next at the end of a job; machine.each of a job of one instruction. (printed by mkMsR.py)
  The sanity check's image of one instruction: slices.Concat of nothing, machine.filled, machine.there, machine.Begin.
  machine.each of a job of one instruction; machine.Nodes of its unit.
-/
import Derived.Deep.DeepCutAuto
import Derived.Deep.CutBlock
import Derived.Deep.RegionHeld3
import Derived.Laws.AppendOwnNone
import Derived.Maps.RangeWalk
import Derived.Maps.OwnOps
import Derived.Maps.OwnSet
import Derived.Test.YtonbmijhbbodnaaZStD
import Derived.Test.YtonbmijhbbodnaaInQ
import Derived.Test.YtonbmijhbbodnaaZMsJ
import Derived.Test.YtonbmijhbbodnaaZStB
import Derived.Test.YtonbmijhbbodnaaZInW
import Derived.Test.YtonbmijhbbodnaaMsE
import Derived.Test.YtonbmijhbbodnaaImI
namespace Go.Proofs.Ytonbmijhbbodnaa
open Go.RowKit

theorem Bools.get {K : Nat → Prop} {w : World} {a : Option Addr} {len cap : Nat} {l : List Bool} (r : Bools K w a len cap l) {i : Nat} (h : i < len) : ∃ b o z, a = some ⟨b, o, none⟩ ∧ l[i]? = some z ∧ w.cell? ⟨b, o + i, none⟩ = some (.bool z) ∧ b < w.heap.size := by
  obtain ⟨z, e⟩ : ∃ z, l[i]? = some z := ⟨_, List.getElem?_eq_getElem (by rw [r.hlen]; exact h)⟩
  obtain ⟨b, o, e1, e2, e3, e4⟩ := r.row i z e
  rw [Nat.mul_one] at e4
  exact ⟨b, o, z, e1, e, e4, e3⟩
set_option maxRecDepth 100000 in
set_option maxHeartbeats 8000000 in
theorem csame_any (K K' : Nat → Prop) (ra : Option Addr) (rn rc : Nat) (da : Option Addr) (dn dc : Nat) (ha : Option Addr) (hn hc : Nat) (pa : Option Addr) (pn pc : Nat) (ea : Option Addr) (en ec : Nat) (ga : Option Addr) (gn gc : Nat) (c : Co) (w : World)
    (g : IsCo K w ra rn rc da dn dc ha hn hc c) (h : IsCo K' w pa pn pc ea en ec ga gn gc c) :
    Calls Try.prog 16 #[CoV ra rn rc da dn dc ha hn hc c.pc c.ended, CoV pa pn pc ea en ec ga gn gc c.pc c.ended] w fun e w' => e = .returned (.bool true) ∧ Below w.heap.size w w' := by
  obtain ⟨regs, data, held, p, e⟩ := c
  have hgh : hn = gn := by rw [← g.held.hlen, h.held.hlen]
  subst hgh
  have hsz := g.held.hsz
  have hp := g.pc
  have hp0 := hp.1; have hp1 := hp.2
  have F0 := Lib.hid (Fm.new (Fm.new (Fm.start Non w) rfl (CoCells ra rn rc da dn dc ha hn hc p e) 36) (by simp) (CoCells pa pn pc ea en ec ga hn gc p e) 36)
  have G := Lib.hid g; have H := Lib.hid h
  clear g h hp
  have q1 : (p != p) = false := by simp
  have q2 : (e != e) = false := by simp
  go_enter Try.func16, Try.ntmps16
  go_upto_region 1 with fail
  obtain ⟨w1, hw1⟩ : ∃ w1, w1 = (w.alloc (.cells #[.slice ra rn rc, .slice da dn dc, .slice ha hn hc, .int .i64 p, .bool e] 36)).alloc (.cells #[.slice pa pn pc, .slice ea en ec, .slice ga hn gc, .int .i64 p, .bool e] 36) := ⟨_, rfl⟩
  rw [← hw1]
  have F1 := Lib.hid (show Fm Non w w1 [CoCells ra rn rc da dn dc ha hn hc p e, CoCells pa pn pc ea en ec ga hn gc p e] by rw [hw1]; exact F0.out)
  clear hw1 F0
  have x0 := F1.out.h0.cell 0 _ rfl; have x2 := F1.out.h0.cell 2 _ rfl; have x3 := F1.out.h0.cell 3 _ rfl; have x4 := F1.out.h0.cell 4 _ rfl
  have z0 := F1.out.h1.cell 0 _ rfl; have z2 := F1.out.h1.cell 2 _ rfl; have z3 := F1.out.h1.cell 3 _ rfl; have z4 := F1.out.h1.cell 4 _ rfl
  go_wp2_with fail
  refine (sameints_eq K K' ra pa rn pn rc pc regs w1 (G.out.below F1.out.below).regs (H.out.below F1.out.below).regs).mono ?_
  rintro _ w2 ⟨rfl, hb⟩
  have F2 := Lib.hid (Fm.call hb F1.out)
  clear hb x0 x2 x3 x4 z0 z2 z3 z4 F1
  have x1 := F2.out.h0.cell 1 _ rfl; have z1 := F2.out.h1.cell 1 _ rfl
  go_wp2_with fail
  refine (sameints_eq K K' da ea dn en dc ec data w2 (G.out.below F2.out.below).data (H.out.below F2.out.below).data).mono ?_
  rintro _ w3 ⟨rfl, hb⟩
  have F3 := Lib.hid (Fm.call hb F2.out)
  clear hb x1 z1 F2
  go_wp2
  go_loopw [5] (fun i wr => ∃ k : Nat, k ≤ hn ∧ i = .int .i64 k ∧ Fm Non w wr [CoCells ra rn rc da dn dc ha hn hc p e, CoCells pa pn pc ea en ec ga hn gc p e]) (fun i _ => hn - (intOf i).toNat)
  case atStart => exact ⟨0, Nat.zero_le _, rfl, F3.out⟩
  case round =>
    obtain ⟨k, hk, rfl, hfm⟩ := hrel
    have FR := Lib.hid hfm
    clear hfm F3
    have x2 := FR.out.h0.cell 2 _ rfl; have z2 := FR.out.h1.cell 2 _ rfl
    by_cases hlt : k < hn
    · obtain ⟨b1, o1, z, rfl, hz, c1, _⟩ := Bools.get (G.out.below FR.out.below).held hlt
      obtain ⟨b2, o2, z', rfl, hz', c2, _⟩ := Bools.get (H.out.below FR.out.below).held hlt
      rw [hz] at hz'
      cases hz'
      clear hz
      have q3 : (z != z) = false := by simp
      go_wp2
      go_quiet (fail)
      go_wp2
      go_roundw
      case rel => exact ⟨k + 1, by omega, by go_num, FR.out.drewN nq⟩
      case measure => simp [intOf]; omega
    · go_wp2
      go_ret
      exact ⟨rfl, FR.out.below⟩
end Go.Proofs.Ytonbmijhbbodnaa
namespace Go.Proofs.Ytonbmijhbbodnaa
open Go.RowKit

def OnlyB (q : Nat) (k : Nat) : Prop := k = q
abbrev IEN : Ins := ⟨10, 0, 0, 0, 0, 0⟩
set_option maxRecDepth 100000 in
set_option maxHeartbeats 16000000 in
theorem next_end (Kb : Nat → Prop) (ca : Option Addr) (cn cc : Nat) (D : Int) (ua : Option Addr) (un uc : Nat) (code : List Ins) (q : Nat) (ra : Option Addr) (rn rc_ : Nat) (da : Option Addr) (dn dc : Nat) (ha : Option Addr) (hn hc : Nat) (pc : Nat) (w : World)
    (rc : InsL Kb w ca cn cc code) (hcn : cn ≤ 1024) (hx : code[pc]? = some IEN) (hq : Has w q (CoCells ra rn rc_ da dn dc ha hn hc pc false)) :
    Calls Try.prog 37 #[MV ca cn cc D ua un uc, .pointer (some ⟨q, 0, none⟩)] w fun e w' => e = .returned (.tuple #[EvV ⟨pc, -1, false⟩, .int .i64 0]) ∧ Has w' q (CoCells ra rn rc_ da dn dc ha hn hc pc true) ∧ Chg (OnlyB q) w w' := by
  have hpl : pc < cn := by have := (List.getElem?_eq_some_iff.1 hx).1; have := rc.hlen; omega
  obtain ⟨b, o, x', rfl, hx', hxi, hKb, lb, a0, a1, a2, a3, a4, a5⟩ := InsL.get rc hpl
  rw [hx] at hx'
  cases hx'
  dsimp only at a0 a1 a2 a3 a4 a5
  have hq0 := hq.lt (by simp)
  have F0 := Lib.hid (Fm.new (Fm.new (Fm.new (Fm.start (OnlyB q) w) rfl (MCells (some ⟨b, o, none⟩) cn cc D ua un uc) 31) (by simp) [.pointer (some ⟨q, 0, none⟩)] 94) (by simp) (EvCells ev0) 39)
  have HQ := Lib.hid hq; have HX := Lib.hid hx
  clear rc hq hx
  go_enter Try.func37, Try.ntmps37
  go_upto_region 1 with fail
  obtain ⟨w1, hw1⟩ : ∃ w1, w1 = ((w.alloc (.cells #[.slice (some ⟨b, o, none⟩) cn cc, .int .i64 D, NIL, .slice ua un uc] 31)).alloc (.cells #[.pointer (some ⟨q, 0, none⟩)] 94)).alloc (.cells #[.int .i64 0, .int .i64 0, .bool false] 39) := ⟨_, rfl⟩
  rw [← hw1]
  have B1 : Below w.heap.size w w1 := by rw [hw1]; exact (((Below.refl _ _).alloc (Nat.le_refl _) _).alloc (by simp) _).alloc (by simp; omega) _
  have F1 := Lib.hid (show Fm (OnlyB q) w w1 [MCells (some ⟨b, o, none⟩) cn cc D ua un uc, [.pointer (some ⟨q, 0, none⟩)], EvCells ev0] by rw [hw1]; exact F0.out)
  have S1 : w1.heap.size = w.heap.size + 3 := by rw [hw1]; simp
  have Q1 := Lib.hid (HQ.out.below B1 hq0)
  have b0 := (B1.cell (p := ⟨b, o + pc * 6, none⟩) lb).trans a0
  have b1 := (B1.cell (p := ⟨b, o + pc * 6 + 1, none⟩) lb).trans a1
  have b2 := (B1.cell (p := ⟨b, o + pc * 6 + 2, none⟩) lb).trans a2
  have b3 := (B1.cell (p := ⟨b, o + pc * 6 + 3, none⟩) lb).trans a3
  have b4 := (B1.cell (p := ⟨b, o + pc * 6 + 4, none⟩) lb).trans a4
  have b5 := (B1.cell (p := ⟨b, o + pc * 6 + 5, none⟩) lb).trans a5
  have m0 := F1.out.h0.cell 0 _ rfl
  have p0 := F1.out.h1.cell 0 _ rfl
  have x3 := Q1.out.cell 3 _ rfl
  have lw1 : w.heap.size < w1.heap.size := by omega
  have lw2 : w.heap.size + 1 < w1.heap.size := by omega
  have lq1 : q < w1.heap.size := by omega
  have lb1 : b < w1.heap.size := by omega
  have SZ := Lib.hid S1
  clear hw1 F0 a0 a1 a2 a3 a4 a5 S1 B1
  have hpl' : (pc : Int) < (cn : Int) := by omega
  go_wp2
  go_region_held3 (fun w' => w'.cell? ⟨w.heap.size, 0, none⟩ = some (.slice (some ⟨b, o, none⟩) cn cc) ∧ w'.cell? ⟨w.heap.size + 1, 0, none⟩ = some (.pointer (some ⟨q, 0, none⟩)) ∧ w'.cell? ⟨q, 3, none⟩ = some (.int .i64 (pc : Int)) ∧ w'.cell? ⟨b, o + pc * 6, none⟩ = some (.int .i64 10) ∧ w'.cell? ⟨b, o + pc * 6 + 1, none⟩ = some (.int .i64 0) ∧ w'.cell? ⟨b, o + pc * 6 + 2, none⟩ = some (.int .i64 0) ∧ w'.cell? ⟨b, o + pc * 6 + 3, none⟩ = some (.int .i64 0) ∧ w'.cell? ⟨b, o + pc * 6 + 4, none⟩ = some (.int .i64 0) ∧ w'.cell? ⟨b, o + pc * 6 + 5, none⟩ = some (.int .i64 0))
    (((try dsimp only); (try go_split_ands); (repeat' apply And.intro); all_goals (repeat (first | with_reducible assumption | (with_reducible refine cell_set (by omega) ?_) | (with_reducible refine cell_alloc (by omega) ?_) | (with_reducible refine cell_drew ?_))))) (fail)
  obtain ⟨w2, hw2⟩ : ∃ w2, w2 = (w1.alloc (.cells #[.int .i64 10, .int .i64 0, .int .i64 0, .int .i64 0, .int .i64 0, .int .i64 0] 50)).drew := ⟨_, rfl⟩
  rw [← hw2]
  have F2 := Lib.hid (show Fm (OnlyB q) w w2 [MCells (some ⟨b, o, none⟩) cn cc D ua un uc, [.pointer (some ⟨q, 0, none⟩)], EvCells ev0] by rw [hw2]; exact (F1.out.more _).drew)
  have X2 := Lib.hid (show Has w2 w1.heap.size (ICells IEN) by rw [hw2]; exact (Has.new w1 (ICells IEN) 50).drew)
  have S2 := Lib.hid (show w2.heap.size = w1.heap.size + 1 by rw [hw2]; simp)
  have Q2 := Lib.hid (show Has w2 q (CoCells ra rn rc_ da dn dc ha hn hc pc false) by rw [hw2]; exact (Q1.out.old (by omega)).drew)
  clear hw2 b0 b1 b2 b3 b4 b5 m0 p0 x3
  have x3 := Q2.out.cell 3 _ rfl
  have p0 := F2.out.h1.cell 0 _ rfl
  have lq2 := Q2.out.lt (by simp)
  have lp2 := F2.out.h1.lt (by simp)
  have y0 := X2.out.cell 0 _ rfl
  have ly := X2.out.lt (by simp)
  go_upto_block 0 with fail
  obtain ⟨w3, hw3⟩ : ∃ w3, w3 = (w2.alloc (.cells #[.int .i64 (pc : Int), .int .i64 (-1), .bool false] 39)).alloc (.cells #[WRF w1.heap.size (w.heap.size + 1)] 116) := ⟨_, rfl⟩
  rw [← hw3]
  obtain ⟨wv, hwv⟩ : ∃ wv, wv = w2.heap.size := ⟨_, rfl⟩
  rw [← hwv]
  have LV := Lib.hid (show w.heap.size + 4 ≤ wv ∧ wv < w3.heap.size by have := SZ.out; have := S2.out; rw [hw3, hwv]; simp; omega)
  have F3 := Lib.hid (show Fm (OnlyB q) w w3 [MCells (some ⟨b, o, none⟩) cn cc D ua un uc, [.pointer (some ⟨q, 0, none⟩)], EvCells ev0] by rw [hw3]; exact (F2.out.more _).more _)
  have E3 := Lib.hid (show Has w3 wv (EvCells ⟨pc, -1, false⟩) by rw [hw3, hwv]; exact (Has.new w2 (EvCells ⟨pc, -1, false⟩) 39).old (by simp))
  have Q3 := Lib.hid (show Has w3 q (CoCells ra rn rc_ da dn dc ha hn hc pc false) by rw [hw3]; exact (Q2.out.old lq2).old (by simp; omega))
  clear hw3 hwv x3 p0 lq2 lp2 y0 ly F2 Q2 F1 Q1
  have p0 := F3.out.h1.cell 0 _ rfl; have x4 := Q3.out.cell 4 _ rfl; have xf := Q3.out.free
  go_upto_region 9 with fail
  obtain ⟨w4, hw4⟩ : ∃ w4, w4 = w3.setCell ⟨q, 4, none⟩ (.bool true) := ⟨_, rfl⟩
  rw [← hw4]
  have F4 := Lib.hid (show Fm (OnlyB q) w w4 [MCells (some ⟨b, o, none⟩) cn cc D ua un uc, [.pointer (some ⟨q, 0, none⟩)], EvCells ev0] by rw [hw4]; exact F3.out.far (.inl ⟨hq0, show OnlyB q q from rfl⟩) _)
  have E4 := Lib.hid (show Has w4 wv (EvCells ⟨pc, -1, false⟩) by rw [hw4]; exact E3.out.other (by have := LV.out; simp; omega))
  have Q4 := Lib.hid (show Has w4 q (CoCells ra rn rc_ da dn dc ha hn hc pc true) by rw [hw4]; exact (Q3.out.set (k := 4) (by simp) _).at rfl)
  clear hw4 p0 x4 xf F3 E3 Q3
  have v0 := E4.out.cell 0 _ rfl; have v1 := E4.out.cell 1 _ rfl; have v2 := E4.out.cell 2 _ rfl
  have r0 := F4.out.h2.cell 0 _ rfl; have r1 := F4.out.h2.cell 1 _ rfl; have r2 := F4.out.h2.cell 2 _ rfl; have rf := F4.out.h2.free
  go_wp2
  refine bodyPost_ret (v := .tuple #[EvV ⟨pc, -1, false⟩, .int .i64 0]) (by simp [results, Try.results37, go_sem, r0, r1, r2]) rfl ⟨rfl, ?_, ?_⟩
  · repeat (first | with_reducible exact Q4.out | (with_reducible refine Has.other (by dsimp only; omega) ?_))
    exact ((Q4.out.other (by simp; omega)).other (by simp; omega)).other (by simp; omega)
  · exact (((F4.out.chg.setCell (fun h => by simp at h; omega) _).setCell (fun h => by simp at h; omega) _).setCell (fun h => by simp at h; omega) _)
end Go.Proofs.Ytonbmijhbbodnaa
namespace Go.Proofs.Ytonbmijhbbodnaa
open Go.RowKit

theorem info_area : (Try.prog.info? 110).map (fun i => (i.zero, i.size, i.bytes)) = some (some (.agg #[.int .i64 0, .int .i64 0]), 2, 16) := by kernel_rfl
theorem growa_nil (w : World) : Calls Try.prog 141 #[NIL, .int .i64 0] w fun e w' => e = .returned NIL ∧ w' = w := by
  go_enter Try.func141, Try.ntmps141
  go_wp2
  go_ret
  exact ⟨rfl, rfl⟩
set_option maxRecDepth 100000 in
set_option maxHeartbeats 4000000 in
theorem concat_nils (b : Nat) (w : World) (h0 : w.cell? ⟨b, 0, none⟩ = some NIL) (h1 : w.cell? ⟨b, 1, none⟩ = some NIL) : Calls Try.prog 111 #[.slice (some ⟨b, 0, none⟩) 2 2] w fun e w' => e = .returned NIL ∧ w' = w := by
  obtain ⟨i0, hi, hz0, hz1, hz2⟩ := info_parts info_area
  go_enter Try.func111, Try.ntmps111
  go_wp2
  go_loopw [3, 11] (fun s i wr => ∃ k : Nat, k ≤ 2 ∧ i = .int .i64 k ∧ s = .int .i64 0 ∧ w = wr) (fun _ i _ => 2 - (intOf i).toNat)
  case atStart => exact ⟨0, by omega, rfl, rfl, rfl⟩
  case round =>
    obtain ⟨k, hk, rfl, rfl, hw⟩ := hrel
    subst hw
    rcases (show k = 0 ∨ k = 1 ∨ k = 2 by omega) with rfl | rfl | rfl
    · go_wp2
      go_roundw
      case rel => exact ⟨1, by omega, rfl, rfl, trivial⟩
      case measure => simp [intOf]
    · go_wp2
      go_roundw
      case rel => exact ⟨2, by omega, rfl, rfl, trivial⟩
      case measure => simp [intOf]
    · go_wp2_with fail
      refine (growa_nil w).mono ?_
      rintro e wo ⟨rfl, hw⟩
      subst hw
      go_wp2
      go_loopw [6, 27] (fun s i wr => ∃ k : Nat, k ≤ 2 ∧ i = .int .i64 k ∧ s = NIL ∧ wo = wr) (fun _ i _ => 2 - (intOf i).toNat)
      case atStart => exact ⟨0, by omega, rfl, rfl, rfl⟩
      case round =>
        obtain ⟨k, hk, rfl, rfl, hw⟩ := hrel
        subst hw
        rcases (show k = 0 ∨ k = 1 ∨ k = 2 by omega) with rfl | rfl | rfl
        · go_wp2_with (at_builtin; refine wpList_append_own_none rfl _ _ 28 rfl 0 110 i0 2 Try.underlying28 hi NIL 0 [] rfl ⟨rfl, .inl ⟨rfl, rfl⟩⟩ rfl ?_)
          go_roundw
          case rel => exact ⟨1, by omega, rfl, rfl, trivial⟩
          case measure => simp [intOf]
        · go_wp2_with (at_builtin; refine wpList_append_own_none rfl _ _ 28 rfl 0 110 i0 2 Try.underlying28 hi NIL 0 [] rfl ⟨rfl, .inl ⟨rfl, rfl⟩⟩ rfl ?_)
          go_roundw
          case rel => exact ⟨2, by omega, rfl, rfl, trivial⟩
          case measure => simp [intOf]
        · go_wp2
          go_ret
          exact ⟨rfl, rfl⟩
theorem filled_nil (w : World) : Calls Try.prog 87 #[NIL, NIL] w fun e w' => e = .returned (.bool true) ∧ w' = w := by
  go_enter Try.func87, Try.ntmps87
  go_wp2
  go_loopw [14] (fun i wr => i = .int .i64 0 ∧ w = wr) (fun _ _ => 0)
  case atStart => exact ⟨rfl, rfl⟩
  case round =>
    obtain ⟨rfl, hw⟩ := hrel
    subst hw
    go_wp2
    go_ret
    exact ⟨rfl, rfl⟩
set_option maxRecDepth 100000 in
set_option maxHeartbeats 4000000 in
theorem there_one (ca : Option Addr) (cn cc : Nat) (D : Int) (ua : Option Addr) (un uc : Nat) (s : ByteArray) (na : Option Addr) (nl nc : Nat) (w : World) :
    Calls Try.prog 88 #[MV ca cn cc D ua un uc, UV s na nl nc] w fun e w' => e = .returned (.bool true) ∧ Below w.heap.size w w' := by
  have F0 := Lib.hid (Fm.new (Fm.new (Fm.start Non w) rfl (MCells ca cn cc D ua un uc) 31) (by simp) (UCells s na nl nc) 79)
  go_enter Try.func88, Try.ntmps88
  go_upto_region 1 with fail
  obtain ⟨w1, hw1⟩ : ∃ w1, w1 = (w.alloc (.cells #[.slice ca cn cc, .int .i64 D, NIL, .slice ua un uc] 31)).alloc (.cells #[.string s, .slice na nl nc, NIL, NIL, NIL, NIL, NIL, NIL, NIL, NIL] 79) := ⟨_, rfl⟩
  rw [← hw1]
  have F1 := Lib.hid (show Fm Non w w1 [MCells ca cn cc D ua un uc, UCells s na nl nc] by rw [hw1]; exact F0.out)
  clear hw1 F0
  have m2 := F1.out.h0.cell 2 _ rfl; have u8 := F1.out.h1.cell 8 _ rfl; have u9 := F1.out.h1.cell 9 _ rfl; have u7 := F1.out.h1.cell 7 _ rfl
  go_wp2
  go_loopw [12] (fun i wr => i = .int .i64 0 ∧ w1 = wr) (fun _ _ => 0)
  case atStart => exact ⟨rfl, rfl⟩
  case round =>
    obtain ⟨rfl, hw⟩ := hrel
    subst hw
    have F2 := Lib.hid (F1.out.more (.cells #[NIL, NIL] 28))
    have C := Lib.hid (Has.new w1 [NIL, NIL] 28)
    go_wp2_with fail
    refine (concat_nils w1.heap.size _ (C.out.cell 0 _ rfl) (C.out.cell 1 _ rfl)).mono ?_
    rintro e w2 ⟨rfl, hw⟩
    subst hw
    clear m2 u8 u9 u7
    have u8 := F2.out.h1.cell 8 _ rfl; have u7 := F2.out.h1.cell 7 _ rfl
    obtain ⟨w3, hw3⟩ : ∃ w3, w3 = w1.alloc (.cells #[NIL, NIL] 28) := ⟨_, rfl⟩
    rw [← hw3]
    have F3 := Lib.hid (show Fm Non w w3 [MCells ca cn cc D ua un uc, UCells s na nl nc] by rw [hw3]; exact F2.out)
    clear hw3 F2 C u8 u7
    have u8 := F3.out.h1.cell 8 _ rfl; have u7 := F3.out.h1.cell 7 _ rfl
    go_wp2
    go_loopw [32] (fun i wr => i = .int .i64 0 ∧ w3 = wr) (fun _ _ => 0)
    case atStart => exact ⟨rfl, rfl⟩
    case round =>
      obtain ⟨rfl, hw⟩ := hrel
      subst hw
      go_wp2
      go_ret
      exact ⟨rfl, F3.out.below⟩
end Go.Proofs.Ytonbmijhbbodnaa
namespace Go.Proofs.Ytonbmijhbbodnaa
open Go.RowKit Go.Maps

theorem info_ev : (Try.prog.info? 39).map (fun i => (i.zero, i.size, i.bytes)) = some (some (.agg #[.int .i64 0, .int .i64 0, .bool false]), 3, 24) := by kernel_rfl
theorem ev_one {v : Ev} {u : Value} (h : u ∈ EvCells v) : u.oneCell' = true := by
  simp at h
  rcases h with rfl | rfl | rfl <;> rfl
/-- The function that keeps an event: a list that was empty has one. -/
theorem keep_ev (v : Ev) (p : Nat) (w : World) (hp : Has w p [NIL]) (hl : p < w.heap.size) :
    Calls Try.prog 60 #[EvV v, .pointer (some ⟨p, 0, none⟩)] w fun e w' => e = .returned (.tuple #[]) ∧ ∃ g c, Has w' p [.slice (some ⟨g, 0, none⟩) 1 c] ∧ Has w' g (EvCells v) ∧ w.heap.size ≤ g ∧ g < w'.heap.size ∧ 1 ≤ c ∧ c ≤ 9223372036854775807 ∧ Chg (OnlyB p) w w' := by
  obtain ⟨va, vd, vj⟩ := v
  have NE := Lib.hid (show Has ((w.alloc (.cells #[.int .i64 va, .int .i64 vd, .bool vj] 39)).alloc (.cells #[.int .i64 va, .int .i64 vd, .bool vj] 39)) (w.heap.size + 1) (EvCells ⟨va, vd, vj⟩) from (Has.new (w.alloc (.cells #[.int .i64 va, .int .i64 vd, .bool vj] 39)) (EvCells ⟨va, vd, vj⟩) 39).at' (by simp))
  have c0 := hp.cell 0 _ rfl; have cf := hp.free
  have O0 := Lib.hid (show ((w.alloc (.cells #[.int .i64 va, .int .i64 vd, .bool vj] 39)).alloc (.cells #[.int .i64 va, .int .i64 vd, .bool vj] 39)).ownsRow (w.heap.size + 2) 39 3 NIL 0 [] from ⟨rfl, .inl ⟨rfl, rfl⟩⟩)
  have HP := Lib.hid hp
  go_enter Try.func60, Try.ntmps60
  go_wp2_with (at_builtin; refine wpList_append_flat rfl _ _ 82 rfl 39 Try.underlying82 info_ev rfl (by decide) O0.out rfl (by simp <;> omega) ⟨w.heap.size + 1, 0, none⟩ 1 1 (EvCells ⟨va, vd, vj⟩) rfl rfl (fun j u hu => by rw [Go.WideShapes.add_plain, Nat.zero_add]; exact NE.out.cell j u hu) (fun u hu => ev_one hu) (by decide) (by omega) (by decide) ?_; intro g c6 w6 hap; have AP := Lib.hid hap.out; clear hap; have P6 := Lib.hid (AP.out.chg.has ((HP.out.old hl).old (by simp; omega)) (by simp; omega) (fun e => by simp [Value.ownBlock] at e)); have p0 := P6.out.cell 0 _ rfl; have pf := P6.out.free)
  obtain ⟨g', hg, hge, hlt, _, hc1, hc2, hcell⟩ := flat_cells AP.out.owns (by omega)
  cases hg
  unfold maxLen at hc2
  have hgp : g ≠ p := by omega
  have hfr := flat_free AP.out.owns
  go_end0
  refine ⟨rfl, g, c6, P6.out.set0 _, ?_, by omega, by simpa using hlt, by omega, by omega, ?_⟩
  · exact (show Has w6 g (EvCells ⟨va, vd, vj⟩) from ⟨fun i u h => hcell i u h, hfr⟩).other hgp
  · refine Chg.setCell (M := OnlyB p) ?_ (fun _ => show OnlyB p p from rfl) _
    exact (Chg.of_below (((Below.refl _ w).alloc (Nat.le_refl _) _).alloc (by simp) _)).trans AP.out.chg (fun k _ e => by simp [Value.ownBlock] at e)
theorem lawK : Go.Maps.Keyed Try.prog 3 := Go.Maps.int_keyed Try.underlying3
theorem zeroI (w : World) : (zeroValue 3).run Try.prog w = .ok (.int .i64 0) w := by kernel_rfl
set_option maxRecDepth 100000 in
set_option maxHeartbeats 8000000 in
theorem nodes_one (K : Nat → Prop) (s : ByteArray) (na : Option Addr) (nc : Nat) (g cg : Nat) (w : World) (rn : NdL K w na 1 nc [⟨0, 1, [], []⟩]) (hg : Has w g (EvCells ⟨0, -1, false⟩)) (hgl : g < w.heap.size) :
    Calls Try.prog 33 #[UV s na 1 nc, .slice (some ⟨g, 0, none⟩) 1 cg] w fun e w' => ∃ b c, e = .returned (.slice (some ⟨b, 0, none⟩) 1 c) ∧ Ints (fun _ => True) w' (some ⟨b, 0, none⟩) 1 c [0] ∧ Below w.heap.size w w' := by
  have F0 := Lib.hid (Fm.new (Fm.start Non w) rfl (UCells s na 1 nc) 79)
  obtain ⟨nb, no, x, ya, yl, yc, aa, al, ac, rfl, hx, _, lnb, _, _, g0, g1, _, _, _, _⟩ := NdL.get rn (i := 0) (by omega)
  cases hx
  dsimp only at g0 g1
  simp only [Nat.zero_mul, Nat.add_zero] at g0 g1
  have hmm := @run_makeMap Try.prog
  have hkey : keyOf Try.prog 3 (Value.int .i64 0) = some (Lit.int .i64 0) := keyOf_int_mk Try.underlying3 (by decide)
  go_enter Try.func33, Try.ntmps33
  go_wp2
  refine wp_loop_rounds 2 ?_
  rw [rounds_succ]
  obtain ⟨w1, hw1⟩ : ∃ w1, w1 = (w.alloc (.cells #[.string s, .slice (some ⟨nb, no, none⟩) 1 nc, NIL, NIL, NIL, NIL, NIL, NIL, NIL, NIL] 79)).alloc (.map #[] 0) := ⟨_, rfl⟩
  rw [← hw1]
  have F1 := Lib.hid (show Fm Non w w1 [UCells s (some ⟨nb, no, none⟩) 1 nc] by rw [hw1]; exact F0.out.more _)
  have OM := Lib.hid (show w1.ownsMap Try.prog 3 (plainElem (H := Unit) Try.prog 3) (w.heap.size + 1) 0 (.map []) by rw [hw1]; have h := World.ownsMap_made (H := Unit) (w.alloc (.cells #[.string s, .slice (some ⟨nb, no, none⟩) 1 nc, NIL, NIL, NIL, NIL, NIL, NIL, NIL, NIL] 79)) Try.prog 3 (plainElem (H := Unit) Try.prog 3); rwa [World.size_alloc] at h)
  have Z1 := Lib.hid (show w1.heap.size = w.heap.size + 2 by rw [hw1]; simp)
  have G1 := Lib.hid (hg.below F1.out.below hgl)
  have d0 := (F1.out.below.cell (p := ⟨nb, no, none⟩) lnb).trans g0
  have u1 := F1.out.h0.cell 1 _ rfl
  have hg0 := hg
  clear hw1 F0 g0 g1 hg
  go_wp2_with (at_mapUpdate; refine wpList_mapUpdate_own _ rfl _ _ _ 112 rfl 3 3 lawK Try.underlying112 _ (w.heap.size + 1) 0 _ rfl OM.out (by unfold maxLen; omega) _ _ _ rfl rfl hkey _ [] (plainElem_int Try.underlying3 (by decide)) ?_; intro w3 hown1 hgrow1)
  have OM3 := Lib.hid hown1
  have B3 := Lib.hid (show Below w.heap.size w w3 from F1.out.below.grown hgrow1 (by have := Z1.out; omega) (fun k hk => by cases hk; omega))
  have G3 := Lib.hid (hg0.below B3.out hgl)
  clear hown1 hgrow1 d0 u1
  rw [rounds_succ]
  go_wp2
  refine wp_loop_rounds 2 ?_
  rw [rounds_succ]
  have e0 := G3.out.cell 0 _ rfl; have e1 := G3.out.cell 1 _ rfl; have e2 := G3.out.cell 2 _ rfl
  have OMA := Lib.hid (OM3.out.alloc (.cells #[.int .i64 0, .int .i64 (-1), .bool false] 39))
  have hh : Maps.has (DataW.put (H := Unit) (.map []) (.int .i64 0) (.lit (.int .i64 0))) (.int .i64 0) = true := rfl
  have HAT := Lib.hid (show ∀ c : Int, (DataW.put (H := Unit) (.map []) (.int .i64 0) (.lit (.int .i64 0))).atKey (.int .i64 0) (.lit (.int .i64 0)) = .lit (.int .i64 c) → c = 0 from fun c h => by simpa [DataW.put, DataW.atKey, DataW.insert, Lit.sameKey, eq_comm] using h)
  have O0 := Lib.hid (show ((w3.alloc (.cells #[.int .i64 0, .int .i64 (-1), .bool false] 39)).alloc (.cells #[.int .i64 0] 3)).ownsRow (w3.heap.size + 1) 3 1 NIL 0 (ivs []) from ⟨rfl, .inl ⟨rfl, rfl⟩⟩)
  have NE := Lib.hid (show Has ((w3.alloc (.cells #[.int .i64 0, .int .i64 (-1), .bool false] 39)).alloc (.cells #[.int .i64 0] 3)) (w3.heap.size + 1) (ivs [0]) from (Has.new (w3.alloc (.cells #[.int .i64 0, .int .i64 (-1), .bool false] 39)) (ivs [0]) 3).at' (by simp))
  go_wp2_with (first | (at_lookup; refine wpList_lookup_own_ok_int _ rfl _ _ 112 rfl 3 3 .i64 lawK Try.underlying112 Try.underlying3 (zeroI _) (w.heap.size + 1) 1 _ rfl OMA.out _ _ rfl hkey ?_; intro c hat hwc; obtain rfl := HAT.out c hat; rw [hh]) | (at_builtin; refine wpList_append_flat rfl _ _ 22 rfl 3 Try.underlying22 info_int rfl (by decide) O0.out rfl (by simp <;> omega) ⟨w3.heap.size + 1, 0, none⟩ 1 1 (ivs [0]) rfl rfl (fun j u hu => by rw [Go.WideShapes.add_plain, Nat.zero_add]; exact NE.out.cell j u hu) ivs_one (by decide) (by omega) (by decide) ?_; intro g6 c6 w6 hap))
  have IO := Lib.hid (show Ints (fun _ => True) w6 (some ⟨g6, 0, none⟩) 1 c6 [0] from flat_i64 (l := [0]) hap.out.owns (by intro z hz; simp at hz; subst hz; unfold I64; omega) (by omega) (fun _ _ => trivial))
  have B6 := Lib.hid (show Below w.heap.size w w6 from (B3.out.trans ((((Below.refl w3.heap.size w3).alloc (Nat.le_refl _) _).alloc (by simp) _).mono B3.out.size)).trans ((hap.out.chg.below (B := w.heap.size) (fun k _ e => by simp [Value.ownBlock] at e) (by have := B3.out.size; simp; omega))))
  clear hap
  rw [rounds_succ]
  go_wp2
  go_ret
  exact ⟨g6, c6, rfl, IO.out, B6.out⟩
set_option maxRecDepth 100000 in
set_option maxHeartbeats 8000000 in
/-- A job that ends at its first instruction. -/
theorem each_one (Kb : Nat → Prop) (ca : Option Addr) (cn cc : Nat) (D : Int) (ua : Option Addr) (un uc : Nat) (code : List Ins) (q p : Nat) (ra : Option Addr) (rn rc_ : Nat) (da : Option Addr) (dn dc : Nat) (ha : Option Addr) (hn hc : Nat) (w : World)
    (rc : InsL Kb w ca cn cc code) (hcn : cn ≤ 1024) (hx : code[0]? = some IEN) (hq : Has w q (CoCells ra rn rc_ da dn dc ha hn hc 0 false)) (hp : Has w p [NIL]) (hpq : p ≠ q) :
    Calls Try.prog 59 #[MV ca cn cc D ua un uc, .pointer (some ⟨q, 0, none⟩), .int .i64 9, .func (.func 60) #[] #[.pointer (some ⟨p, 0, none⟩)]] w fun e w' => e = .returned (.int .i64 0) ∧ (∃ g c, Has w' p [.slice (some ⟨g, 0, none⟩) 1 c] ∧ Has w' g (EvCells ⟨0, -1, false⟩) ∧ w.heap.size ≤ g ∧ g < w'.heap.size ∧ 1 ≤ c ∧ c ≤ 9223372036854775807) ∧ Has w' q (CoCells ra rn rc_ da dn dc ha hn hc 0 true) ∧ Chg (fun k => k = q ∨ k = p) w w' := by
  have lq := hq.lt (by simp); have lp := hp.lt (by simp)
  have F0 := Lib.hid (Fm.new (Fm.start (fun k => k = q ∨ k = p) w) rfl (MCells ca cn cc D ua un uc) 31)
  have RC := Lib.hid rc; have HQ := Lib.hid hq; have HP := Lib.hid hp; have HX := Lib.hid hx
  clear rc hq hp hx
  go_enter Try.func59, Try.ntmps59
  go_upto_region 1 with fail
  obtain ⟨w1, hw1⟩ : ∃ w1, w1 = w.alloc (.cells #[.slice ca cn cc, .int .i64 D, NIL, .slice ua un uc] 31) := ⟨_, rfl⟩
  rw [← hw1]
  have B1 := Lib.hid (show Below w.heap.size w w1 by rw [hw1]; exact (Below.refl _ _).alloc (Nat.le_refl _) _)
  have F1 := Lib.hid (show Fm (fun k => k = q ∨ k = p) w w1 [MCells ca cn cc D ua un uc] by rw [hw1]; exact F0.out)
  have Q1 := Lib.hid (HQ.out.below B1.out lq)
  have P1 := Lib.hid (HP.out.below B1.out lp)
  clear hw1 F0
  have m0 := F1.out.h0.cell 0 _ rfl; have m1 := F1.out.h0.cell 1 _ rfl; have m2 := F1.out.h0.cell 2 _ rfl; have m3 := F1.out.h0.cell 3 _ rfl
  have x4 := Q1.out.cell 4 _ rfl
  go_wp2
  refine wp_loop_rounds 2 ?_
  rw [rounds_succ]
  go_wp2_with fail
  refine (next_end Kb ca cn cc D ua un uc code q ra rn rc_ da dn dc ha hn hc 0 w1 (Row.below RIns.stays RC.out B1.out) hcn HX.out Q1.out).mono ?_
  rintro _ w2 ⟨rfl, hq2, hc2⟩
  have Z2 := Lib.hid hc2.size
  have F2 := Lib.hid (Fm.chgd hc2 F1.out (fun k hk => .inl ⟨by cases hk; exact lq, .inl hk⟩))
  have P2 := Lib.hid (hc2.has P1.out (P1.out.lt (by simp)) (fun h => hpq h))
  have Q2 := Lib.hid hq2
  clear hq2 hc2 m0 m1 m2 m3 x4
  have B3 := Lib.hid ((Below.refl w2.heap.size w2).alloc (Nat.le_refl _) (.cells #[.int .i64 0, .int .i64 (-1), .bool false] 39))
  have P3 := Lib.hid (P2.out.below B3.out (P2.out.lt (by simp)))
  have Q3 := Lib.hid (Q2.out.below B3.out (Q2.out.lt (by simp)))
  have F3 := Lib.hid (Fm.call B3.out F2.out)
  have Z3 := Lib.hid B3.out.size
  go_wp2_with fail
  refine (keep_ev ⟨0, -1, false⟩ p _ P3.out (P3.out.lt (by simp))).mono ?_
  rintro _ w4 ⟨rfl, g, c, hpv, hgv, hgl, hgm, hc0, hc1, hch⟩
  have F4 := Lib.hid (Fm.chgd hch F3.out (fun k hk => .inl ⟨by cases hk; exact lp, .inr hk⟩))
  have Q4 := Lib.hid (hch.has Q3.out (Q3.out.lt (by simp)) (fun h => hpq h.symm))
  have RES := Lib.hid (show ∃ g c, Has w4 p [.slice (some ⟨g, 0, none⟩) 1 c] ∧ Has w4 g (EvCells ⟨0, -1, false⟩) ∧ w.heap.size ≤ g ∧ g < w4.heap.size ∧ 1 ≤ c ∧ c ≤ 9223372036854775807 from ⟨g, c, hpv, hgv, by have := Z2.out; have := Z3.out; have := F1.out.size; simp at *; omega, hgm, hc0, hc1⟩)
  clear hpv hgv hgl hgm hc0 hc1 hch
  go_wp2
  rw [rounds_succ]
  have x4 := Q4.out.cell 4 _ rfl
  go_wp2
  go_ret
  exact ⟨rfl, RES.out, Q4.out, F4.out.chg⟩
end Go.Proofs.Ytonbmijhbbodnaa
