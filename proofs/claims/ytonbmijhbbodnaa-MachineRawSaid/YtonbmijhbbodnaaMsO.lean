/-
  timeboundlaw21.straight. (printed by mkMsO.py)
-/
import Derived.Deep.CutBlock
import Derived.Deep.DeepCutAuto
import Derived.Outline
import Derived.Test.YtonbmijhbbodnaaZInW
import Derived.Test.YtonbmijhbbodnaaMsA
namespace Go.Proofs.Ytonbmijhbbodnaa
open Go.RowKit

def StrRet (d : Nat) (w : World) (e : Ending) (w' : World) : Prop := ∃ ca cc bu n code nds, e = .returned (MV ca (n + 1) cc 6 (some ⟨bu, 0, none⟩) 1 1) ∧ 2 ≤ n ∧ n ≤ 13 ∧ StOk n n code nds ∧ IsImg (Ge (w.heap.size + 3)) w' ca (n + 1) cc 6 (some ⟨bu, 0, none⟩) 1 1 (stImg n code nds) ∧ Deck w' d ∧ But d w w'
/-- The instruction and the node of a round, and the block of its successors. -/
structure Mid (wr : World) (d px pn pz : Nat) (k1 : Int) (xc zc : List Value) (wx : World) : Prop where
  hx : Has wx px xc
  hz : Has wx pz zc
  hn : Blk wx pn 3 [.int .i64 k1]
  but : But d wr wx
  deck : Deck wx d
  ls : d < wr.heap.size ∧ wr.heap.size ≤ px ∧ px < pn ∧ pn < pz ∧ pz < wx.heap.size
variable {wr wx : World} {d px pn pz : Nat} {k1 : Int} {xc zc : List Value}
theorem Mid.setX (s : Mid wr d px pn pz k1 xc zc wx) (j : Nat) (v : Value) (hj : j < xc.length := by simp) : Mid wr d px pn pz k1 (xc.set j v) zc (wx.setCell ⟨px, j, none⟩ v) := by
  have h := s.ls
  exact ⟨s.hx.set hj v, s.hz.other (by simp; omega), s.hn.other (by simp; omega) _, s.but.other (by simp; omega) _, s.deck.other (by simp; omega) _, by simpa using s.ls⟩
theorem Mid.setZ (s : Mid wr d px pn pz k1 xc zc wx) (j : Nat) (v : Value) (hj : j < zc.length := by simp [rawC]) : Mid wr d px pn pz k1 xc (zc.set j v) (wx.setCell ⟨pz, j, none⟩ v) := by
  have h := s.ls
  exact ⟨s.hx.other (by simp; omega), s.hz.set hj v, s.hn.other (by simp; omega) _, s.but.other (by simp; omega) _, s.deck.other (by simp; omega) _, by simpa using s.ls⟩
theorem Mid.to (s : Mid wr d px pn pz k1 xc zc wx) {w' : World} (b : But d wx w') (hd : Deck w' d) : Mid wr d px pn pz k1 xc zc w' := by
  have h := s.ls
  exact ⟨b.has s.hx (by omega) (by omega), b.has s.hz (by omega) (by omega), s.hn.of (b.block pn (by omega) (by omega)), s.but.trans b, hd, ⟨h.1, h.2.1, h.2.2.1, h.2.2.2.1, Nat.lt_of_lt_of_le h.2.2.2.2 b.size⟩⟩
theorem Mid.alloc (s : Mid wr d px pn pz k1 xc zc wx) (o : Obj) : Mid wr d px pn pz k1 xc zc (wx.alloc o) :=
  s.to (But.of_below ((Below.refl _ _).alloc (Nat.le_refl _) _)) (s.deck.below ((Below.refl _ _).alloc (Nat.le_refl _) _) (Nat.le_refl _))
set_option maxRecDepth 100000 in
set_option maxHeartbeats 16000000 in
theorem straight_any (d : Nat) (w : World) (hd : Deck w d) : Calls Try.prog 11 #[.pointer (some ⟨d, 0, none⟩)] w (StrRet d w) := by
  have hdl := hd.lt
  have HD := Lib.hid hd
  have F0 := Lib.hid (Fm.new (Fm.new (Fm.new (Fm.start Non w) rfl [NIL, .int .i64 0, NIL, NIL] 31) (by simp) [NIL, .int .i64 6, NIL, NIL] 31) (by simp) [.string ESTR, NIL, NIL, NIL, NIL, NIL, NIL, NIL, NIL, NIL] 79)
  clear hd
  go_enter Try.func11, Try.ntmps11
  go_upto_region 3 with fail
  obtain ⟨w1, hw1⟩ : ∃ w1, w1 = ((w.alloc (.cells #[NIL, .int .i64 0, NIL, NIL] 31)).alloc (.cells #[NIL, .int .i64 6, NIL, NIL] 31)).alloc (.cells #[.string ESTR, NIL, NIL, NIL, NIL, NIL, NIL, NIL, NIL, NIL] 79) := ⟨_, rfl⟩
  rw [← hw1]
  have S1 := Lib.hid (show StAt w d 0 0 [] [] NIL NIL [] w1 by
    rw [hw1]
    exact ⟨F0.out.h0, F0.out.h1, F0.out.h2, ⟨rfl, .inl ⟨rfl, rfl⟩⟩, ⟨rfl, .inl ⟨rfl, rfl⟩⟩, ⟨rfl, fun i r z h => by simp at h⟩, HD.out.below F0.out.below (Nat.le_refl _), But.of_below F0.out.below, hdl⟩)
  clear hw1 F0
  go_wp2_with fail
  refine (next_any d 12 (by omega) (by omega) w1 S1.out.deck).mono ?_
  rintro e w2 ⟨r, rfl, r0, r1, hdk, hbt⟩
  have S2 := Lib.hid (S1.out.to hbt hdk)
  obtain ⟨n, hn⟩ := Int.eq_ofNat_of_zero_le (show 0 ≤ 2 + r by omega)
  have hn : 2 + r = (n : Int) := hn
  have hn2 : 2 ≤ n ∧ n ≤ 13 := by omega
  clear S1 hdk hbt r0 r1
  go_wp2
  clear hn
  go_loopw [6] (fun i wr => ∃ (k : Nat) (code : List Ins) (nds : List Nd) (cv nv : Value) (raws : List RawN), k ≤ n ∧ i = .int .i64 k ∧ StAt w d k k code nds cv nv raws wr ∧ StOk n k code nds) (fun i _ => n - (intOf i).toNat)
  case atStart => exact ⟨0, [], [], NIL, NIL, [], Nat.zero_le _, rfl, S2.out, StOk.nil n⟩
  case round =>
    obtain ⟨k, code, nds, cv, nv, raws, hk, rfl, hst, hok⟩ := hrel
    have SR := Lib.hid hst; have OK := Lib.hid hok
    obtain ⟨hn2a, hn2b⟩ := hn2
    clear hst hok S2
    by_cases hlt : k < n
    · go_wp2_with fail
      refine (next_any d 10 (by omega) (by omega) wr SR.out.deck).mono ?_
      rintro e w1 ⟨xk, rfl, xk0, xk1, hdk, hbt⟩
      have D1 := Lib.hid hdk; have B1 := Lib.hid hbt
      have wsz := hbt.size
      have dlr : d < wr.heap.size := by have := SR.out.size; omega
      clear hdk hbt
      go_wp2_with fail
      obtain ⟨w2, hw2⟩ : ∃ w2, w2 = ((w1.alloc (.cells #[.int .i64 xk, .int .i64 0, .int .i64 0, .int .i64 0, .int .i64 0, .int .i64 0] 50)).alloc (.cells #[.int .i64 ((k : Int) + 1)] 3)).alloc (.cells #[.int .i64 k, .int .i64 1, .slice (some ⟨w1.heap.size + 1, 0, none⟩) 1 1, NIL] 70) := ⟨_, rfl⟩
      rw [← hw2]
      obtain ⟨px, hpx⟩ : ∃ px, px = w1.heap.size := ⟨_, rfl⟩
      obtain ⟨pn, hpn⟩ : ∃ pn, pn = px + 1 := ⟨_, rfl⟩
      obtain ⟨pz, hpz⟩ : ∃ pz, pz = pn + 1 := ⟨_, rfl⟩
      have M2 := Lib.hid (show Mid wr d px pn pz ((k : Int) + 1) (ICells ⟨xk, 0, 0, 0, 0, 0⟩) (rawC ⟨k, 1, some pn, 1, none, 0⟩) w2 by
        rw [hw2, hpz, hpn, hpx]
        have A1 := (Below.refl w1.heap.size w1).alloc (Nat.le_refl _) (.cells #[.int .i64 xk, .int .i64 0, .int .i64 0, .int .i64 0, .int .i64 0, .int .i64 0] 50)
        have A2 := A1.alloc (by simp) (.cells #[.int .i64 ((k : Int) + 1)] 3)
        have A3 := A2.alloc (by simp; omega) (.cells #[.int .i64 k, .int .i64 1, .slice (some ⟨w1.heap.size + 1, 0, none⟩) 1 1, NIL] 70)
        refine ⟨((Has.new w1 (ICells ⟨xk, 0, 0, 0, 0, 0⟩) 50).old (by simp)).old (by simp; omega), (Has.new ((w1.alloc (.cells #[.int .i64 xk, .int .i64 0, .int .i64 0, .int .i64 0, .int .i64 0, .int .i64 0] 50)).alloc (.cells #[.int .i64 ((k : Int) + 1)] 3)) (rawC ⟨k, 1, some (w1.heap.size + 1), 1, none, 0⟩) 70).at' (by simp), ((Blk.new (w1.alloc (.cells #[.int .i64 xk, .int .i64 0, .int .i64 0, .int .i64 0, .int .i64 0, .int .i64 0] 50)) [.int .i64 ((k : Int) + 1)] 3).old _).at' (by simp), B1.out.trans (But.of_below A3), D1.out.below A3 (Nat.le_refl _), dlr, wsz, by omega, by omega, by simp⟩)
      rw [← hpx, ← hpn, ← hpz]
      have hls : px < pn ∧ pn < pz ∧ wr.heap.size ≤ px := by omega
      clear hw2 hpx hpn hpz D1 B1 wsz
      refine (next_any d 8 (by omega) (by omega) w2 M2.out.deck).mono ?_
      rintro e w3 ⟨ra, rfl, ra0, ra1, hdk, hbt⟩
      have M3 := Lib.hid (M2.out.to hbt hdk)
      clear hdk hbt M2
      go_wp2_with fail
      refine (next_any d 8 (by omega) (by omega) w3 M3.out.deck).mono ?_
      rintro e w4 ⟨rb, rfl, rb0, rb1, hdk, hbt⟩
      have M4 := Lib.hid (M3.out.to hbt hdk)
      clear hdk hbt M3
      go_wp2_with fail
      refine (next_any d 8 (by omega) (by omega) w4 M4.out.deck).mono ?_
      rintro e w5 ⟨rc, rfl, rc0, rc1, hdk, hbt⟩
      have M5 := Lib.hid (M4.out.to hbt hdk)
      clear hdk hbt M4
      have y0 := M5.out.hx.cell 0 _ rfl
      go_upto_block 2 with fail
      clear y0
      go_cut [37, 44, 50, 61, 78, 85, 100] (fun _ _ _ _ _ _ _ wx => ∃ (x : Ins) (r : RawN) (z : Nd), Has wx px (ICells x) ∧ Has wx pz (rawC r) ∧ RawOk wx (w.heap.size + 3) r z ∧ SOk n k x z ∧ But d wr wx ∧ Deck wx d)
      case first =>
        as_aux_lemma =>
          have hw3 := SR.out.size
          clear SR OK
          rcases (show xk = 0 ∨ xk = 1 ∨ xk = 2 ∨ xk = 3 ∨ xk = 4 ∨ xk = 5 ∨ xk = 6 ∨ xk = 7 ∨ xk = 8 ∨ xk = 9 by omega) with rfl | rfl | rfl | rfl | rfl | rfl | rfl | rfl | rfl | rfl
          · have wl := M5.out.ls
            have y0 := M5.out.hx.cell 0 _ rfl; have y1 := M5.out.hx.cell 1 _ rfl; have y2 := M5.out.hx.cell 2 _ rfl; have y3 := M5.out.hx.cell 3 _ rfl; have y4 := M5.out.hx.cell 4 _ rfl; have y5 := M5.out.hx.cell 5 _ rfl; have yf := M5.out.hx.free
            have u0 := M5.out.hz.cell 0 _ rfl; have u1 := M5.out.hz.cell 1 _ rfl; have u2 := M5.out.hz.cell 2 _ rfl; have u3 := M5.out.hz.cell 3 _ rfl; have uf := M5.out.hz.free
            go_wp2_with fail
            have MF := Lib.hid (M5.out)
            go_meet
            exact ⟨⟨0, 0, 0, 0, 0, 0⟩, ⟨k, 1, (some pn), 1, none, 0⟩, ⟨k, 1, skN n k ⟨0, 0, 0, 0, 0, 0⟩, skA k ⟨0, 0, 0, 0, 0, 0⟩⟩, MF.out.hx, MF.out.hz, ⟨rfl, rfl, by show I64 _; dsimp only; unfold I64; omega, by show I64 _; dsimp only; unfold I64; decide, by simp [skN], by simp [skA], by simp, by simp [skN] <;> (unfold I64; omega), by simp [skA] <;> (unfold I64; omega), ⟨MF.out.hn, by omega⟩, rfl⟩, ⟨by simp [chkI, kn, fldOf, goodI, regB, opB] <;> omega, by simp, by simp, by simp, rfl⟩, MF.out.but, MF.out.deck⟩
          · have wl := M5.out.ls
            have y0 := M5.out.hx.cell 0 _ rfl; have y1 := M5.out.hx.cell 1 _ rfl; have y2 := M5.out.hx.cell 2 _ rfl; have y3 := M5.out.hx.cell 3 _ rfl; have y4 := M5.out.hx.cell 4 _ rfl; have y5 := M5.out.hx.cell 5 _ rfl; have yf := M5.out.hx.free
            have u0 := M5.out.hz.cell 0 _ rfl; have u1 := M5.out.hz.cell 1 _ rfl; have u2 := M5.out.hz.cell 2 _ rfl; have u3 := M5.out.hz.cell 3 _ rfl; have uf := M5.out.hz.free
            go_wp2_with fail
            refine (dword_any d w5 M5.out.deck).mono ?_
            rintro e w6 ⟨wz, rfl, hwd, hdk, hbt⟩
            have M6 := Lib.hid (M5.out.to hbt hdk)
            clear hdk hbt y0 y1 y2 y3 y4 y5 yf u0 u1 u2 u3 uf
            have y0 := M6.out.hx.cell 0 _ rfl; have y1 := M6.out.hx.cell 1 _ rfl; have y2 := M6.out.hx.cell 2 _ rfl; have y3 := M6.out.hx.cell 3 _ rfl; have y4 := M6.out.hx.cell 4 _ rfl; have y5 := M6.out.hx.cell 5 _ rfl; have yf := M6.out.hx.free
            have u0 := M6.out.hz.cell 0 _ rfl; have u1 := M6.out.hz.cell 1 _ rfl; have u2 := M6.out.hz.cell 2 _ rfl; have u3 := M6.out.hz.cell 3 _ rfl; have uf := M6.out.hz.free
            obtain ⟨wd0, wd1⟩ := hwd
            go_wp2_with fail
            have MF := Lib.hid (M6.out.setX 1 (.int .i64 ra) |>.setX 5 (.int .i64 wz))
            go_meet
            exact ⟨⟨1, ra, 0, 0, 0, wz⟩, ⟨k, 1, (some pn), 1, none, 0⟩, ⟨k, 1, skN n k ⟨1, ra, 0, 0, 0, wz⟩, skA k ⟨1, ra, 0, 0, 0, wz⟩⟩, MF.out.hx, MF.out.hz, ⟨rfl, rfl, by show I64 _; dsimp only; unfold I64; omega, by show I64 _; dsimp only; unfold I64; decide, by simp [skN], by simp [skA], by simp, by simp [skN] <;> (unfold I64; omega), by simp [skA] <;> (unfold I64; omega), ⟨MF.out.hn, by omega⟩, rfl⟩, ⟨by simp [chkI, kn, fldOf, goodI, regB, opB] <;> omega, by simp, by simp, by simp, rfl⟩, MF.out.but, MF.out.deck⟩
          · have wl := M5.out.ls
            have y0 := M5.out.hx.cell 0 _ rfl; have y1 := M5.out.hx.cell 1 _ rfl; have y2 := M5.out.hx.cell 2 _ rfl; have y3 := M5.out.hx.cell 3 _ rfl; have y4 := M5.out.hx.cell 4 _ rfl; have y5 := M5.out.hx.cell 5 _ rfl; have yf := M5.out.hx.free
            have u0 := M5.out.hz.cell 0 _ rfl; have u1 := M5.out.hz.cell 1 _ rfl; have u2 := M5.out.hz.cell 2 _ rfl; have u3 := M5.out.hz.cell 3 _ rfl; have uf := M5.out.hz.free
            go_wp2_with fail
            have MF := Lib.hid (M5.out.setX 1 (.int .i64 ra) |>.setX 2 (.int .i64 rb))
            go_meet
            exact ⟨⟨2, ra, rb, 0, 0, 0⟩, ⟨k, 1, (some pn), 1, none, 0⟩, ⟨k, 1, skN n k ⟨2, ra, rb, 0, 0, 0⟩, skA k ⟨2, ra, rb, 0, 0, 0⟩⟩, MF.out.hx, MF.out.hz, ⟨rfl, rfl, by show I64 _; dsimp only; unfold I64; omega, by show I64 _; dsimp only; unfold I64; decide, by simp [skN], by simp [skA], by simp, by simp [skN] <;> (unfold I64; omega), by simp [skA] <;> (unfold I64; omega), ⟨MF.out.hn, by omega⟩, rfl⟩, ⟨by simp [chkI, kn, fldOf, goodI, regB, opB] <;> omega, by simp, by simp, by simp, rfl⟩, MF.out.but, MF.out.deck⟩
          · have wl := M5.out.ls
            have y0 := M5.out.hx.cell 0 _ rfl; have y1 := M5.out.hx.cell 1 _ rfl; have y2 := M5.out.hx.cell 2 _ rfl; have y3 := M5.out.hx.cell 3 _ rfl; have y4 := M5.out.hx.cell 4 _ rfl; have y5 := M5.out.hx.cell 5 _ rfl; have yf := M5.out.hx.free
            have u0 := M5.out.hz.cell 0 _ rfl; have u1 := M5.out.hz.cell 1 _ rfl; have u2 := M5.out.hz.cell 2 _ rfl; have u3 := M5.out.hz.cell 3 _ rfl; have uf := M5.out.hz.free
            go_wp2_with fail
            refine (dop_any d w5 M5.out.deck).mono ?_
            rintro e w6 ⟨ro, rfl, o0, o1, hdk, hbt⟩
            have M6 := Lib.hid (M5.out.to hbt hdk)
            clear hdk hbt y0 y1 y2 y3 y4 y5 yf u0 u1 u2 u3 uf
            have y0 := M6.out.hx.cell 0 _ rfl; have y1 := M6.out.hx.cell 1 _ rfl; have y2 := M6.out.hx.cell 2 _ rfl; have y3 := M6.out.hx.cell 3 _ rfl; have y4 := M6.out.hx.cell 4 _ rfl; have y5 := M6.out.hx.cell 5 _ rfl; have yf := M6.out.hx.free
            have u0 := M6.out.hz.cell 0 _ rfl; have u1 := M6.out.hz.cell 1 _ rfl; have u2 := M6.out.hz.cell 2 _ rfl; have u3 := M6.out.hz.cell 3 _ rfl; have uf := M6.out.hz.free
            go_wp2_with fail
            have MF := Lib.hid (M6.out.setX 1 (.int .i64 ra) |>.setX 2 (.int .i64 rb) |>.setX 3 (.int .i64 rc) |>.setX 4 (.int .i64 ro))
            go_meet
            exact ⟨⟨3, ra, rb, rc, ro, 0⟩, ⟨k, 1, (some pn), 1, none, 0⟩, ⟨k, 1, skN n k ⟨3, ra, rb, rc, ro, 0⟩, skA k ⟨3, ra, rb, rc, ro, 0⟩⟩, MF.out.hx, MF.out.hz, ⟨rfl, rfl, by show I64 _; dsimp only; unfold I64; omega, by show I64 _; dsimp only; unfold I64; decide, by simp [skN], by simp [skA], by simp, by simp [skN] <;> (unfold I64; omega), by simp [skA] <;> (unfold I64; omega), ⟨MF.out.hn, by omega⟩, rfl⟩, ⟨by simp [chkI, kn, fldOf, goodI, regB, opB] <;> omega, by simp, by simp, by simp, rfl⟩, MF.out.but, MF.out.deck⟩
          · have wl := M5.out.ls
            have y0 := M5.out.hx.cell 0 _ rfl; have y1 := M5.out.hx.cell 1 _ rfl; have y2 := M5.out.hx.cell 2 _ rfl; have y3 := M5.out.hx.cell 3 _ rfl; have y4 := M5.out.hx.cell 4 _ rfl; have y5 := M5.out.hx.cell 5 _ rfl; have yf := M5.out.hx.free
            have u0 := M5.out.hz.cell 0 _ rfl; have u1 := M5.out.hz.cell 1 _ rfl; have u2 := M5.out.hz.cell 2 _ rfl; have u3 := M5.out.hz.cell 3 _ rfl; have uf := M5.out.hz.free
            go_wp2_with fail
            refine (next_any d 2 (by omega) (by omega) w5 M5.out.deck).mono ?_
            rintro e w6 ⟨rq, rfl, q0, q1, hdk, hbt⟩
            have M6 := Lib.hid (M5.out.to hbt hdk)
            clear hdk hbt y0 y1 y2 y3 y4 y5 yf u0 u1 u2 u3 uf
            have y0 := M6.out.hx.cell 0 _ rfl; have y1 := M6.out.hx.cell 1 _ rfl; have y2 := M6.out.hx.cell 2 _ rfl; have y3 := M6.out.hx.cell 3 _ rfl; have y4 := M6.out.hx.cell 4 _ rfl; have y5 := M6.out.hx.cell 5 _ rfl; have yf := M6.out.hx.free
            have u0 := M6.out.hz.cell 0 _ rfl; have u1 := M6.out.hz.cell 1 _ rfl; have u2 := M6.out.hz.cell 2 _ rfl; have u3 := M6.out.hz.cell 3 _ rfl; have uf := M6.out.hz.free
            rcases (show rq = 0 ∨ rq = 1 by omega) with rfl | rfl
            · go_wp2_with fail
              refine (next_any d 7 (by omega) (by omega) w6 M6.out.deck).mono ?_
              rintro e w7 ⟨ri, rfl, i0, i1, hdk, hbt⟩
              have M7 := Lib.hid (M6.out.to hbt hdk)
              clear hdk hbt y0 y1 y2 y3 y4 y5 yf u0 u1 u2 u3 uf
              have y0 := M7.out.hx.cell 0 _ rfl; have y1 := M7.out.hx.cell 1 _ rfl; have y2 := M7.out.hx.cell 2 _ rfl; have y3 := M7.out.hx.cell 3 _ rfl; have y4 := M7.out.hx.cell 4 _ rfl; have y5 := M7.out.hx.cell 5 _ rfl; have yf := M7.out.hx.free
              have u0 := M7.out.hz.cell 0 _ rfl; have u1 := M7.out.hz.cell 1 _ rfl; have u2 := M7.out.hz.cell 2 _ rfl; have u3 := M7.out.hz.cell 3 _ rfl; have uf := M7.out.hz.free
              have wl7 := M7.out.ls
              go_wp2_with fail
              have MF := Lib.hid (M7.out.setX 1 (.int .i64 ra) |>.setX 2 (.int .i64 0) |>.setX 5 (.int .i64 ri) |>.setZ 3 (.slice (some ⟨w7.heap.size, 0, none⟩) 1 1) |>.alloc (.cells #[.int .i64 k, .int .i64 0, .int .i64 5] 89))
              go_meet
              exact ⟨⟨4, ra, 0, 0, 0, ri⟩, ⟨k, 1, (some pn), 1, (some w7.heap.size), 1⟩, ⟨k, 1, skN n k ⟨4, ra, 0, 0, 0, ri⟩, skA k ⟨4, ra, 0, 0, 0, ri⟩⟩, MF.out.hx, MF.out.hz, ⟨rfl, rfl, by show I64 _; dsimp only; unfold I64; omega, by show I64 _; dsimp only; unfold I64; decide, by simp [skN], by simp [skA], by simp, by simp [skN] <;> (unfold I64; omega), by simp [skA] <;> (unfold I64; omega), ⟨MF.out.hn, by omega⟩, ⟨(Blk.new _ [.int .i64 k, .int .i64 0, .int .i64 5] 89).at' (by simp), by omega⟩⟩, ⟨by simp [chkI, kn, fldOf, goodI, regB, opB] <;> omega, by simp, by simp, by simp, rfl⟩, MF.out.but, MF.out.deck⟩
            · go_wp2_with fail
              refine (next_any d 7 (by omega) (by omega) w6 M6.out.deck).mono ?_
              rintro e w7 ⟨ri, rfl, i0, i1, hdk, hbt⟩
              have M7 := Lib.hid (M6.out.to hbt hdk)
              clear hdk hbt y0 y1 y2 y3 y4 y5 yf u0 u1 u2 u3 uf
              have y0 := M7.out.hx.cell 0 _ rfl; have y1 := M7.out.hx.cell 1 _ rfl; have y2 := M7.out.hx.cell 2 _ rfl; have y3 := M7.out.hx.cell 3 _ rfl; have y4 := M7.out.hx.cell 4 _ rfl; have y5 := M7.out.hx.cell 5 _ rfl; have yf := M7.out.hx.free
              have u0 := M7.out.hz.cell 0 _ rfl; have u1 := M7.out.hz.cell 1 _ rfl; have u2 := M7.out.hz.cell 2 _ rfl; have u3 := M7.out.hz.cell 3 _ rfl; have uf := M7.out.hz.free
              have wl7 := M7.out.ls
              go_wp2_with fail
              have MF := Lib.hid (M7.out.setX 1 (.int .i64 ra) |>.setX 2 (.int .i64 rb) |>.setX 5 (.int .i64 ri) |>.setZ 3 (.slice (some ⟨w7.heap.size, 0, none⟩) 1 1) |>.alloc (.cells #[.int .i64 k, .int .i64 0, .int .i64 5] 89))
              go_meet
              exact ⟨⟨4, ra, rb, 0, 0, ri⟩, ⟨k, 1, (some pn), 1, (some w7.heap.size), 1⟩, ⟨k, 1, skN n k ⟨4, ra, rb, 0, 0, ri⟩, skA k ⟨4, ra, rb, 0, 0, ri⟩⟩, MF.out.hx, MF.out.hz, ⟨rfl, rfl, by show I64 _; dsimp only; unfold I64; omega, by show I64 _; dsimp only; unfold I64; decide, by simp [skN], by simp [skA], by simp, by simp [skN] <;> (unfold I64; omega), by simp [skA] <;> (unfold I64; omega), ⟨MF.out.hn, by omega⟩, ⟨(Blk.new _ [.int .i64 k, .int .i64 0, .int .i64 5] 89).at' (by simp), by omega⟩⟩, ⟨by simp [chkI, kn, fldOf, goodI, regB, opB] <;> omega, by simp, by simp, by simp, rfl⟩, MF.out.but, MF.out.deck⟩
          · have wl := M5.out.ls
            have y0 := M5.out.hx.cell 0 _ rfl; have y1 := M5.out.hx.cell 1 _ rfl; have y2 := M5.out.hx.cell 2 _ rfl; have y3 := M5.out.hx.cell 3 _ rfl; have y4 := M5.out.hx.cell 4 _ rfl; have y5 := M5.out.hx.cell 5 _ rfl; have yf := M5.out.hx.free
            have u0 := M5.out.hz.cell 0 _ rfl; have u1 := M5.out.hz.cell 1 _ rfl; have u2 := M5.out.hz.cell 2 _ rfl; have u3 := M5.out.hz.cell 3 _ rfl; have uf := M5.out.hz.free
            go_wp2_with fail
            refine (next_any d 2 (by omega) (by omega) w5 M5.out.deck).mono ?_
            rintro e w6 ⟨rq, rfl, q0, q1, hdk, hbt⟩
            have M6 := Lib.hid (M5.out.to hbt hdk)
            clear hdk hbt y0 y1 y2 y3 y4 y5 yf u0 u1 u2 u3 uf
            have y0 := M6.out.hx.cell 0 _ rfl; have y1 := M6.out.hx.cell 1 _ rfl; have y2 := M6.out.hx.cell 2 _ rfl; have y3 := M6.out.hx.cell 3 _ rfl; have y4 := M6.out.hx.cell 4 _ rfl; have y5 := M6.out.hx.cell 5 _ rfl; have yf := M6.out.hx.free
            have u0 := M6.out.hz.cell 0 _ rfl; have u1 := M6.out.hz.cell 1 _ rfl; have u2 := M6.out.hz.cell 2 _ rfl; have u3 := M6.out.hz.cell 3 _ rfl; have uf := M6.out.hz.free
            rcases (show rq = 0 ∨ rq = 1 by omega) with rfl | rfl
            · go_wp2_with fail
              refine (next_any d 7 (by omega) (by omega) w6 M6.out.deck).mono ?_
              rintro e w7 ⟨ri, rfl, i0, i1, hdk, hbt⟩
              have M7 := Lib.hid (M6.out.to hbt hdk)
              clear hdk hbt y0 y1 y2 y3 y4 y5 yf u0 u1 u2 u3 uf
              have y0 := M7.out.hx.cell 0 _ rfl; have y1 := M7.out.hx.cell 1 _ rfl; have y2 := M7.out.hx.cell 2 _ rfl; have y3 := M7.out.hx.cell 3 _ rfl; have y4 := M7.out.hx.cell 4 _ rfl; have y5 := M7.out.hx.cell 5 _ rfl; have yf := M7.out.hx.free
              have u0 := M7.out.hz.cell 0 _ rfl; have u1 := M7.out.hz.cell 1 _ rfl; have u2 := M7.out.hz.cell 2 _ rfl; have u3 := M7.out.hz.cell 3 _ rfl; have uf := M7.out.hz.free
              have wl7 := M7.out.ls
              go_wp2_with fail
              have MF := Lib.hid (M7.out.setX 1 (.int .i64 ra) |>.setX 2 (.int .i64 0) |>.setX 5 (.int .i64 ri) |>.setZ 3 (.slice (some ⟨w7.heap.size, 0, none⟩) 1 1) |>.alloc (.cells #[.int .i64 k, .int .i64 0, .int .i64 5] 89))
              go_meet
              exact ⟨⟨5, ra, 0, 0, 0, ri⟩, ⟨k, 1, (some pn), 1, (some w7.heap.size), 1⟩, ⟨k, 1, skN n k ⟨5, ra, 0, 0, 0, ri⟩, skA k ⟨5, ra, 0, 0, 0, ri⟩⟩, MF.out.hx, MF.out.hz, ⟨rfl, rfl, by show I64 _; dsimp only; unfold I64; omega, by show I64 _; dsimp only; unfold I64; decide, by simp [skN], by simp [skA], by simp, by simp [skN] <;> (unfold I64; omega), by simp [skA] <;> (unfold I64; omega), ⟨MF.out.hn, by omega⟩, ⟨(Blk.new _ [.int .i64 k, .int .i64 0, .int .i64 5] 89).at' (by simp), by omega⟩⟩, ⟨by simp [chkI, kn, fldOf, goodI, regB, opB] <;> omega, by simp, by simp, by simp, rfl⟩, MF.out.but, MF.out.deck⟩
            · go_wp2_with fail
              refine (next_any d 7 (by omega) (by omega) w6 M6.out.deck).mono ?_
              rintro e w7 ⟨ri, rfl, i0, i1, hdk, hbt⟩
              have M7 := Lib.hid (M6.out.to hbt hdk)
              clear hdk hbt y0 y1 y2 y3 y4 y5 yf u0 u1 u2 u3 uf
              have y0 := M7.out.hx.cell 0 _ rfl; have y1 := M7.out.hx.cell 1 _ rfl; have y2 := M7.out.hx.cell 2 _ rfl; have y3 := M7.out.hx.cell 3 _ rfl; have y4 := M7.out.hx.cell 4 _ rfl; have y5 := M7.out.hx.cell 5 _ rfl; have yf := M7.out.hx.free
              have u0 := M7.out.hz.cell 0 _ rfl; have u1 := M7.out.hz.cell 1 _ rfl; have u2 := M7.out.hz.cell 2 _ rfl; have u3 := M7.out.hz.cell 3 _ rfl; have uf := M7.out.hz.free
              have wl7 := M7.out.ls
              go_wp2_with fail
              have MF := Lib.hid (M7.out.setX 1 (.int .i64 ra) |>.setX 2 (.int .i64 rb) |>.setX 5 (.int .i64 ri) |>.setZ 3 (.slice (some ⟨w7.heap.size, 0, none⟩) 1 1) |>.alloc (.cells #[.int .i64 k, .int .i64 0, .int .i64 5] 89))
              go_meet
              exact ⟨⟨5, ra, rb, 0, 0, ri⟩, ⟨k, 1, (some pn), 1, (some w7.heap.size), 1⟩, ⟨k, 1, skN n k ⟨5, ra, rb, 0, 0, ri⟩, skA k ⟨5, ra, rb, 0, 0, ri⟩⟩, MF.out.hx, MF.out.hz, ⟨rfl, rfl, by show I64 _; dsimp only; unfold I64; omega, by show I64 _; dsimp only; unfold I64; decide, by simp [skN], by simp [skA], by simp, by simp [skN] <;> (unfold I64; omega), by simp [skA] <;> (unfold I64; omega), ⟨MF.out.hn, by omega⟩, ⟨(Blk.new _ [.int .i64 k, .int .i64 0, .int .i64 5] 89).at' (by simp), by omega⟩⟩, ⟨by simp [chkI, kn, fldOf, goodI, regB, opB] <;> omega, by simp, by simp, by simp, rfl⟩, MF.out.but, MF.out.deck⟩
          · have wl := M5.out.ls
            have y0 := M5.out.hx.cell 0 _ rfl; have y1 := M5.out.hx.cell 1 _ rfl; have y2 := M5.out.hx.cell 2 _ rfl; have y3 := M5.out.hx.cell 3 _ rfl; have y4 := M5.out.hx.cell 4 _ rfl; have y5 := M5.out.hx.cell 5 _ rfl; have yf := M5.out.hx.free
            have u0 := M5.out.hz.cell 0 _ rfl; have u1 := M5.out.hz.cell 1 _ rfl; have u2 := M5.out.hz.cell 2 _ rfl; have u3 := M5.out.hz.cell 3 _ rfl; have uf := M5.out.hz.free
            go_wp2_with fail
            have MF := Lib.hid (M5.out.setX 5 (.int .i64 n) |>.setZ 2 (.slice (some ⟨w5.heap.size, 0, none⟩) 1 1) |>.alloc (.cells #[.int .i64 n] 3))
            go_meet
            exact ⟨⟨6, 0, 0, 0, 0, n⟩, ⟨k, 1, (some w5.heap.size), 1, none, 0⟩, ⟨k, 1, skN n k ⟨6, 0, 0, 0, 0, n⟩, skA k ⟨6, 0, 0, 0, 0, n⟩⟩, MF.out.hx, MF.out.hz, ⟨rfl, rfl, by show I64 _; dsimp only; unfold I64; omega, by show I64 _; dsimp only; unfold I64; decide, by simp [skN], by simp [skA], by simp, by simp [skN] <;> (unfold I64; omega), by simp [skA] <;> (unfold I64; omega), ⟨(Blk.new _ [.int .i64 n] 3).at' (by simp), by omega⟩, rfl⟩, ⟨by simp [chkI, kn, fldOf, goodI, regB, opB] <;> omega, by simp, by simp, by simp, rfl⟩, MF.out.but, MF.out.deck⟩
          · have wl := M5.out.ls
            have y0 := M5.out.hx.cell 0 _ rfl; have y1 := M5.out.hx.cell 1 _ rfl; have y2 := M5.out.hx.cell 2 _ rfl; have y3 := M5.out.hx.cell 3 _ rfl; have y4 := M5.out.hx.cell 4 _ rfl; have y5 := M5.out.hx.cell 5 _ rfl; have yf := M5.out.hx.free
            have u0 := M5.out.hz.cell 0 _ rfl; have u1 := M5.out.hz.cell 1 _ rfl; have u2 := M5.out.hz.cell 2 _ rfl; have u3 := M5.out.hz.cell 3 _ rfl; have uf := M5.out.hz.free
            go_wp2_with fail
            refine (next_any d ((n : Int) + 1) (by omega) (by omega) w5 M5.out.deck).mono ?_
            rintro e w6 ⟨ri, rfl, i0, i1, hdk, hbt⟩
            have M6 := Lib.hid (M5.out.to hbt hdk)
            clear hdk hbt y0 y1 y2 y3 y4 y5 yf u0 u1 u2 u3 uf
            have y0 := M6.out.hx.cell 0 _ rfl; have y1 := M6.out.hx.cell 1 _ rfl; have y2 := M6.out.hx.cell 2 _ rfl; have y3 := M6.out.hx.cell 3 _ rfl; have y4 := M6.out.hx.cell 4 _ rfl; have y5 := M6.out.hx.cell 5 _ rfl; have yf := M6.out.hx.free
            have u0 := M6.out.hz.cell 0 _ rfl; have u1 := M6.out.hz.cell 1 _ rfl; have u2 := M6.out.hz.cell 2 _ rfl; have u3 := M6.out.hz.cell 3 _ rfl; have uf := M6.out.hz.free
            have wl6 := M6.out.ls
            go_wp2_with fail
            have MF := Lib.hid (M6.out.setX 1 (.int .i64 ra) |>.setX 5 (.int .i64 ri) |>.setZ 2 (.slice (some ⟨w6.heap.size, 0, none⟩) 2 2) |>.alloc (.cells #[.int .i64 ((k : Int) + 1), .int .i64 ri] 3))
            go_meet
            exact ⟨⟨7, ra, 0, 0, 0, ri⟩, ⟨k, 1, (some w6.heap.size), 2, none, 0⟩, ⟨k, 1, skN n k ⟨7, ra, 0, 0, 0, ri⟩, skA k ⟨7, ra, 0, 0, 0, ri⟩⟩, MF.out.hx, MF.out.hz, ⟨rfl, rfl, by show I64 _; dsimp only; unfold I64; omega, by show I64 _; dsimp only; unfold I64; decide, by simp [skN], by simp [skA], by simp, by simp [skN] <;> (unfold I64; omega), by simp [skA] <;> (unfold I64; omega), ⟨(Blk.new _ [.int .i64 ((k : Int) + 1), .int .i64 ri] 3).at' (by simp), by omega⟩, rfl⟩, ⟨by simp [chkI, kn, fldOf, goodI, regB, opB] <;> omega, by simp, by simp, by simp <;> omega, rfl⟩, MF.out.but, MF.out.deck⟩
          · have wl := M5.out.ls
            have y0 := M5.out.hx.cell 0 _ rfl; have y1 := M5.out.hx.cell 1 _ rfl; have y2 := M5.out.hx.cell 2 _ rfl; have y3 := M5.out.hx.cell 3 _ rfl; have y4 := M5.out.hx.cell 4 _ rfl; have y5 := M5.out.hx.cell 5 _ rfl; have yf := M5.out.hx.free
            have u0 := M5.out.hz.cell 0 _ rfl; have u1 := M5.out.hz.cell 1 _ rfl; have u2 := M5.out.hz.cell 2 _ rfl; have u3 := M5.out.hz.cell 3 _ rfl; have uf := M5.out.hz.free
            go_wp2_with fail
            refine (next_any d 2 (by omega) (by omega) w5 M5.out.deck).mono ?_
            rintro e w6 ⟨ri, rfl, i0, i1, hdk, hbt⟩
            have M6 := Lib.hid (M5.out.to hbt hdk)
            clear hdk hbt y0 y1 y2 y3 y4 y5 yf u0 u1 u2 u3 uf
            have y0 := M6.out.hx.cell 0 _ rfl; have y1 := M6.out.hx.cell 1 _ rfl; have y2 := M6.out.hx.cell 2 _ rfl; have y3 := M6.out.hx.cell 3 _ rfl; have y4 := M6.out.hx.cell 4 _ rfl; have y5 := M6.out.hx.cell 5 _ rfl; have yf := M6.out.hx.free
            have u0 := M6.out.hz.cell 0 _ rfl; have u1 := M6.out.hz.cell 1 _ rfl; have u2 := M6.out.hz.cell 2 _ rfl; have u3 := M6.out.hz.cell 3 _ rfl; have uf := M6.out.hz.free
            go_wp2_with fail
            have MF := Lib.hid (M6.out.setX 5 (.int .i64 ri))
            go_meet
            exact ⟨⟨8, 0, 0, 0, 0, ri⟩, ⟨k, 1, (some pn), 1, none, 0⟩, ⟨k, 1, skN n k ⟨8, 0, 0, 0, 0, ri⟩, skA k ⟨8, 0, 0, 0, 0, ri⟩⟩, MF.out.hx, MF.out.hz, ⟨rfl, rfl, by show I64 _; dsimp only; unfold I64; omega, by show I64 _; dsimp only; unfold I64; decide, by simp [skN], by simp [skA], by simp, by simp [skN] <;> (unfold I64; omega), by simp [skA] <;> (unfold I64; omega), ⟨MF.out.hn, by omega⟩, rfl⟩, ⟨by simp [chkI, kn, fldOf, goodI, regB, opB] <;> omega, by simp, by simp, by simp, rfl⟩, MF.out.but, MF.out.deck⟩
          · have wl := M5.out.ls
            have y0 := M5.out.hx.cell 0 _ rfl; have y1 := M5.out.hx.cell 1 _ rfl; have y2 := M5.out.hx.cell 2 _ rfl; have y3 := M5.out.hx.cell 3 _ rfl; have y4 := M5.out.hx.cell 4 _ rfl; have y5 := M5.out.hx.cell 5 _ rfl; have yf := M5.out.hx.free
            have u0 := M5.out.hz.cell 0 _ rfl; have u1 := M5.out.hz.cell 1 _ rfl; have u2 := M5.out.hz.cell 2 _ rfl; have u3 := M5.out.hz.cell 3 _ rfl; have uf := M5.out.hz.free
            go_wp2_with fail
            refine (next_any d 2 (by omega) (by omega) w5 M5.out.deck).mono ?_
            rintro e w6 ⟨ri, rfl, i0, i1, hdk, hbt⟩
            have M6 := Lib.hid (M5.out.to hbt hdk)
            clear hdk hbt y0 y1 y2 y3 y4 y5 yf u0 u1 u2 u3 uf
            have y0 := M6.out.hx.cell 0 _ rfl; have y1 := M6.out.hx.cell 1 _ rfl; have y2 := M6.out.hx.cell 2 _ rfl; have y3 := M6.out.hx.cell 3 _ rfl; have y4 := M6.out.hx.cell 4 _ rfl; have y5 := M6.out.hx.cell 5 _ rfl; have yf := M6.out.hx.free
            have u0 := M6.out.hz.cell 0 _ rfl; have u1 := M6.out.hz.cell 1 _ rfl; have u2 := M6.out.hz.cell 2 _ rfl; have u3 := M6.out.hz.cell 3 _ rfl; have uf := M6.out.hz.free
            go_wp2_with fail
            have MF := Lib.hid (M6.out.setX 5 (.int .i64 ri))
            go_meet
            exact ⟨⟨9, 0, 0, 0, 0, ri⟩, ⟨k, 1, (some pn), 1, none, 0⟩, ⟨k, 1, skN n k ⟨9, 0, 0, 0, 0, ri⟩, skA k ⟨9, 0, 0, 0, 0, ri⟩⟩, MF.out.hx, MF.out.hz, ⟨rfl, rfl, by show I64 _; dsimp only; unfold I64; omega, by show I64 _; dsimp only; unfold I64; decide, by simp [skN], by simp [skA], by simp, by simp [skN] <;> (unfold I64; omega), by simp [skA] <;> (unfold I64; omega), ⟨MF.out.hn, by omega⟩, rfl⟩, ⟨by simp [chkI, kn, fldOf, goodI, regB, opB] <;> omega, by simp, by simp, by simp, rfl⟩, MF.out.but, MF.out.deck⟩
      case rest =>
        obtain ⟨x, r, z, hx, hz, hro, hsok, hbut, hdeck⟩ := hcut
        obtain ⟨w6, hw6⟩ : ∃ w6 : World, w6 = wc := ⟨_, rfl⟩
        rw [← hw6] at hx hz hro hbut hdeck ⊢
        have lz := hz.lt (by simp [rawC])
        have S6 := Lib.hid (SR.out.to hbut hdeck)
        have HZ := Lib.hid hz; have RO := Lib.hid hro; have SK := Lib.hid hsok
        have CLT := Lib.hid (show ∀ k, cv.ownBlock = some k → k ≠ pz from fun k e => by have := (SR.out.code.lt k e).2; omega)
        have LZ := Lib.hid (show w.heap.size + 3 ≤ pz ∧ pz < w6.heap.size by have := SR.out.size; omega)
        obtain ⟨yk, ya, yb, yc, yo, yi⟩ := x
        obtain ⟨rf, rc_, rnb, rnl, rab, ral⟩ := r
        have y0 := hx.cell 0 _ rfl; have y1 := hx.cell 1 _ rfl; have y2 := hx.cell 2 _ rfl; have y3 := hx.cell 3 _ rfl; have y4 := hx.cell 4 _ rfl; have y5 := hx.cell 5 _ rfl
        have m0 := S6.out.hm.cell 0 _ rfl
        have OW := Lib.hid (flat_below S6.out.code ((Below.refl w6.heap.size w6).alloc (Nat.le_refl _) (.cells (ICells ⟨yk, ya, yb, yc, yo, yi⟩).toArray 50)))
        clear hw6 hx hz hro hsok hbut hdeck lz M5 SR
        go_upto_region 31 with (at_builtin; refine wpList_append_flat rfl _ _ 27 rfl 50 Try.underlying27 info_ins rfl (by decide) OW.out rfl (by have := S6.out.size; simp; omega) ⟨w6.heap.size, 0, none⟩ 1 1 (ics [⟨yk, ya, yb, yc, yo, yi⟩]) rfl rfl (fun j u hu => by rw [Go.WideShapes.add_plain, Nat.zero_add]; exact (Blk.new w6 (ICells ⟨yk, ya, yb, yc, yo, yi⟩) 50).cell hu) ics_one (by decide) (by omega) (by decide) ?_; intro g c7 q1 hap; have AP := Lib.hid hap.out; clear hap; have m0 := (S6.out.codeHm AP.out).cell 0 _ rfl; have mf := (S6.out.codeHm AP.out).free)
        obtain ⟨w7, hw7⟩ : ∃ w7, w7 = q1.setCell ⟨w.heap.size + 1, 0, none⟩ (.slice (some ⟨g, 0, none⟩) (k + 1) c7) := ⟨_, rfl⟩
        rw [← hw7]
        have S7 := Lib.hid (show StAt w d (k + 1) k (code ++ [⟨yk, ya, yb, yc, yo, yi⟩]) nds (.slice (some ⟨g, 0, none⟩) (k + 1) c7) nv raws w7 by rw [hw7]; exact S6.out.addCode AP.out)
        have C7 := Lib.hid (show Chg (fun b => cv.ownBlock = some b ∨ b = w.heap.size + 1) w6 w7 by rw [hw7]; exact S6.out.codeChg AP.out)
        have R7 := Lib.hid (S6.out.codeRaw C7.out RO.out)
        have Z7 := Lib.hid (S6.out.codeHas C7.out HZ.out LZ.out.2 LZ.out.1 CLT.out)
        clear hw7 y0 y1 y2 y3 y4 y5 m0 mf AP OW S6 C7 RO HZ
        have z0 := Z7.out.cell 0 _ rfl; have z1 := Z7.out.cell 1 _ rfl; have z2 := Z7.out.cell 2 _ rfl; have z3 := Z7.out.cell 3 _ rfl
        have n1 := S7.out.hu.cell 1 _ rfl
        have NW_ := Lib.hid (flat_below S7.out.nodes ((Below.refl w7.heap.size w7).alloc (Nat.le_refl _) (.cells (rawC ⟨rf, rc_, rnb, rnl, rab, ral⟩).toArray 70)))
        go_wp2_with (at_builtin; refine wpList_append_flat rfl _ _ 71 rfl 70 Try.underlying71 info_nd rfl (by decide) NW_.out rfl (by have := S7.out.size; simp; omega) ⟨w7.heap.size, 0, none⟩ 1 1 (rawC ⟨rf, rc_, rnb, rnl, rab, ral⟩) rfl rfl (fun j u hu => by rw [Go.WideShapes.add_plain, Nat.zero_add]; exact (Blk.new w7 (rawC ⟨rf, rc_, rnb, rnl, rab, ral⟩) 70).cell hu) (rawC_one _) (by decide) (by omega) (by decide) ?_; intro g2 c8 q2 hap; have AQ := Lib.hid hap.out; clear hap; have n1 := (S7.out.nodeHu AQ.out).cell 1 _ rfl; have nf := (S7.out.nodeHu AQ.out).free)
        obtain ⟨w8, hw8⟩ : ∃ w8, w8 = q2.setCell ⟨w.heap.size + 1 + 1, 1, none⟩ (.slice (some ⟨g2, 0, none⟩) (k + 1) c8) := ⟨_, rfl⟩
        rw [← hw8]
        have S8 := Lib.hid (show StAt w d (k + 1) (k + 1) (code ++ [⟨yk, ya, yb, yc, yo, yi⟩]) (nds ++ [z]) (.slice (some ⟨g, 0, none⟩) (k + 1) c7) (.slice (some ⟨g2, 0, none⟩) (k + 1) c8) (raws ++ [⟨rf, rc_, rnb, rnl, rab, ral⟩]) w8 by rw [hw8]; exact S7.out.addNode R7.out AQ.out)
        clear hw8 z0 z1 z2 z3 n1 nf NW_ AQ S7
        go_roundw
        case rel => exact ⟨k + 1, _, _, _, _, _, by omega, by go_num, S8.out, OK.out.snoc SK.out⟩
        case measure => simp [intOf]; omega
    · obtain rfl : k = n := by omega
      have m0 := SR.out.hm.cell 0 _ rfl
      have OW := Lib.hid (flat_below SR.out.code ((Below.refl wr.heap.size wr).alloc (Nat.le_refl _) (.cells (ICells iEnd).toArray 50)))
      go_upto_region 33 with (at_builtin; refine wpList_append_flat rfl _ _ 27 rfl 50 Try.underlying27 info_ins rfl (by decide) OW.out rfl (by have := SR.out.size; simp; omega) ⟨wr.heap.size, 0, none⟩ 1 1 (ics [iEnd]) rfl rfl (fun j u hu => by rw [Go.WideShapes.add_plain, Nat.zero_add]; exact (Blk.new wr (ICells iEnd) 50).cell hu) ics_one (by decide) (by omega) (by decide) ?_; intro g c7 q1 hap; have AP := Lib.hid hap.out; clear hap; have m0 := (SR.out.codeHm AP.out).cell 0 _ rfl; have mf := (SR.out.codeHm AP.out).free)
      obtain ⟨w7, hw7⟩ : ∃ w7, w7 = q1.setCell ⟨w.heap.size + 1, 0, none⟩ (.slice (some ⟨g, 0, none⟩) (k + 1) c7) := ⟨_, rfl⟩
      rw [← hw7]
      have S7 := Lib.hid (show StAt w d (k + 1) k (code ++ [iEnd]) nds (.slice (some ⟨g, 0, none⟩) (k + 1) c7) nv raws w7 by rw [hw7]; exact SR.out.addCode AP.out)
      clear hw7 m0 mf AP OW SR
      have n1 := S7.out.hu.cell 1 _ rfl
      have NW_ := Lib.hid (flat_below S7.out.nodes ((Below.refl w7.heap.size w7).alloc (Nat.le_refl _) (.cells (rawC ⟨k, 1, none, 0, none, 0⟩).toArray 70)))
      go_upto_region 34 with (at_builtin; refine wpList_append_flat rfl _ _ 71 rfl 70 Try.underlying71 info_nd rfl (by decide) NW_.out rfl (by have := S7.out.size; simp; omega) ⟨w7.heap.size, 0, none⟩ 1 1 (rawC ⟨k, 1, none, 0, none, 0⟩) rfl rfl (fun j u hu => by rw [Go.WideShapes.add_plain, Nat.zero_add]; exact (Blk.new w7 (rawC ⟨k, 1, none, 0, none, 0⟩) 70).cell hu) (rawC_one _) (by decide) (by omega) (by decide) ?_; intro g2 c8 q2 hap; have AQ := Lib.hid hap.out; clear hap; have n1 := (S7.out.nodeHu AQ.out).cell 1 _ rfl; have nf := (S7.out.nodeHu AQ.out).free)
      obtain ⟨w8, hw8⟩ : ∃ w8, w8 = q2.setCell ⟨w.heap.size + 1 + 1, 1, none⟩ (.slice (some ⟨g2, 0, none⟩) (k + 1) c8) := ⟨_, rfl⟩
      rw [← hw8]
      have S8 := Lib.hid (show StAt w d (k + 1) (k + 1) (code ++ [iEnd]) (nds ++ [ndE k]) (.slice (some ⟨g, 0, none⟩) (k + 1) c7) (.slice (some ⟨g2, 0, none⟩) (k + 1) c8) (raws ++ [⟨k, 1, none, 0, none, 0⟩]) w8 by
        rw [hw8]
        exact S7.out.addNode (show RawOk w7 (w.heap.size + 3) ⟨k, 1, none, 0, none, 0⟩ (ndE k) from ⟨rfl, rfl, by show I64 _; dsimp only; unfold I64; omega, by show I64 _; dsimp only; unfold I64; decide, rfl, rfl, by simp, by simp, by simp, rfl, rfl⟩) AQ.out)
      clear hw8 n1 nf NW_ AQ S7
      have h0 := S8.out.hr; have h1 := S8.out.hm; have h2 := S8.out.hu
      have r0 := h0.cell 0 _ rfl; have r1 := h0.cell 1 _ rfl; have r2 := h0.cell 2 _ rfl; have r3 := h0.cell 3 _ rfl; have rf := h0.free
      have m0 := h1.cell 0 _ rfl; have m1 := h1.cell 1 _ rfl; have m2 := h1.cell 2 _ rfl; have m3 := h1.cell 3 _ rfl; have mf := h1.free
      have n0 := h2.cell 0 _ rfl; have n1 := h2.cell 1 _ rfl; have n2 := h2.cell 2 _ rfl; have n3 := h2.cell 3 _ rfl; have n4 := h2.cell 4 _ rfl; have n5 := h2.cell 5 _ rfl; have n6 := h2.cell 6 _ rfl; have n7 := h2.cell 7 _ rfl; have n8 := h2.cell 8 _ rfl; have n9 := h2.cell 9 _ rfl
      have lsz := S8.out.size
      have l0 : w.heap.size < w8.heap.size := by omega
      have l1 : w.heap.size + 1 < w8.heap.size := by omega
      have l2 : w.heap.size + 1 + 1 < w8.heap.size := by omega
      clear h0 h1 h2
      go_wp2
      obtain ⟨wE, hwE⟩ : ∃ wE, wE = ((((w8.setCell ⟨w.heap.size + 1, 3, none⟩ (.slice (some ⟨w8.heap.size, 0, none⟩) 1 1)).setCell ⟨w.heap.size, 0, none⟩ (.slice (some ⟨g, 0, none⟩) (k + 1) c7)).setCell ⟨w.heap.size, 1, none⟩ (.int .i64 6)).setCell ⟨w.heap.size, 2, none⟩ (.slice none 0 0)).setCell ⟨w.heap.size, 3, none⟩ (.slice (some ⟨w8.heap.size, 0, none⟩) 1 1) := ⟨_, rfl⟩
      rw [← hwE]
      have CE := Lib.hid (show Chg (fun j => j < w.heap.size + 3) w8 wE by
        rw [hwE]
        repeat (first | with_reducible exact Chg.refl _ | (with_reducible refine Chg.setCell ?_ (fun _ => by dsimp only; omega) _)))
      have DE := Lib.hid (show Deck wE d by
        have := S8.out.dlt
        rw [hwE]
        repeat (first | with_reducible exact S8.out.deck | (with_reducible refine Deck.other ?_ (by dsimp only; omega) _)))
      have BE := Lib.hid (show But d w wE by
        rw [hwE]
        repeat (first | with_reducible exact S8.out.but | (with_reducible refine But.other ?_ (by dsimp only; omega) _)))
      have RE := Lib.hid (show Has wE w.heap.size [.slice (some ⟨g, 0, none⟩) (k + 1) c7, .int .i64 6, NIL, .slice (some ⟨w8.heap.size, 0, none⟩) 1 1] by
        rw [hwE]
        exact (((((S8.out.hr.other (by simp)).set (k := 0) (by simp) _).set (k := 1) (by simp) _).set (k := 2) (by simp) _).set (k := 3) (by simp) _).at rfl)
      have ZE : wE.heap.size = w8.heap.size := by rw [hwE]; simp
      clear hwE r0 r1 r2 r3 rf m0 m1 m2 m3 mf n0 n1 n2 n3 n4 n5 n6 n7 n8 n9
      obtain ⟨wF, hwF⟩ : ∃ wF, wF = wE.alloc (.cells #[.string ESTR, .slice (some ⟨g2, 0, none⟩) (k + 1) c8, NIL, NIL, NIL, NIL, NIL, NIL, NIL, NIL] 79) := ⟨_, rfl⟩
      rw [← hwF]
      have AF := Lib.hid (show Below wE.heap.size wE wF by rw [hwF]; exact (Below.refl _ _).alloc (Nat.le_refl _) _)
      have HB := Lib.hid (show Has wF w8.heap.size [.string ESTR, .slice (some ⟨g2, 0, none⟩) (k + 1) c8, NIL, NIL, NIL, NIL, NIL, NIL, NIL, NIL] by rw [hwF, ← ZE]; exact Has.new wE [.string ESTR, .slice (some ⟨g2, 0, none⟩) (k + 1) c8, NIL, NIL, NIL, NIL, NIL, NIL, NIL, NIL] 79)
      have RF := RE.out.below AF.out (by omega)
      have r0 := RF.cell 0 _ rfl; have r1 := RF.cell 1 _ rfl; have r2 := RF.cell 2 _ rfl; have r3 := RF.cell 3 _ rfl
      clear hwF RF
      refine bodyPost_ret (v := MV (some ⟨g, 0, none⟩) (k + 1) c7 6 (some ⟨w8.heap.size, 0, none⟩) 1 1) (by simp [results, Try.results11, go_sem, r0, r1, r2, r3]) rfl ?_
      obtain ⟨ca, cc, he, him⟩ := S8.out.img OK.out (by omega) (CE.out.tr AF.out) HB.out (by omega)
      cases he
      exact ⟨_, _, _, k, code, nds, rfl, hn2a, hn2b, OK.out, him, DE.out.below AF.out (Nat.le_refl _), BE.out.trans (But.of_below AF.out)⟩
end Go.Proofs.Ytonbmijhbbodnaa
