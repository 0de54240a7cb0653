/-
  timeboundlaw24.MustValid returns true, whatever its arguments are. No condition.
-/
import Derived.Test.YtikhbijobkkhgaaMuBa
import Derived.Test.YtikhbijobkkhgaaMuAa
import Derived.Test.YtikhbijobkkhgaaMuJ
import Derived.Test.YtikhbijobkkhgaaMuV
import Derived.Test.YtikhbijobkkhgaaQuiet
import Derived.Test.YtikhbijobkkhgaaHeadr
import Derived.Deep.DeepCutAuto
namespace Go.Proofs.Ytikhbijobkkhgaa
open Go.RowKit

structure VI (w : World) (S W L bX b9 : Nat) (a : Option Addr) (len cap : Nat) (m : List (List (List Int))) (wx : World) : Prop where
  hX : Has wx bX [.int .i64 S, .int .i64 W, .int .i64 L]
  h9 : Has wx b9 [.slice a len cap]
  cub : Cube (fun _ => True) wx a len cap m
  chg : Chg (Ge w.heap.size) w wx
theorem OCub.ct {w : World} {fp : Nat → Prop} {a : Option Addr} {n cap : Nat} {X : List (List (List Int))} (h : OCub w fp (.slice a n cap) X) : Cube (fun _ => True) w a n cap X := h.read (fun _ _ => trivial)

set_option maxRecDepth 100000 in
set_option maxHeartbeats 8000000 in
theorem valid_law (a0 : Option Addr) (len0 cap0 : Nat) (z0 : List Int) (P B : Int) (wP : (Lit.int .i64 P).wf = true) (wB : (Lit.int .i64 B).wf = true) (w : World) (w0 : IsRow .i64 w a0 len0 cap0 z0) :
    Calls Try.prog 3 #[.slice a0 len0 cap0, .int .i64 P, .int .i64 B] w fun e w' => e = .returned (.bool true) ∧ Below w.heap.size w w' := by
  have hP : -9223372036854775808 ≤ P ∧ P ≤ 9223372036854775807 := by simpa [Lit.wf, IntKind.min, IntKind.max, IntKind.signed, IntKind.bits] using wP
  have hB : -9223372036854775808 ≤ B ∧ B ≤ 9223372036854775807 := by simpa [Lit.wf, IntKind.min, IntKind.max, IntKind.signed, IntKind.bits] using wB
  obtain ⟨P0, P1⟩ := hP
  obtain ⟨B0, B1⟩ := hB
  have W0 := Lib.hid w0
  clear w0 wP wB
  have MD0 := Lib.hid (fun w => dmod_any P 4 (by omega) (by omega) P0 P1 w)
  have MD1 := Lib.hid (fun w => dmod_any B 40 (by omega) (by omega) B0 B1 w)
  have MD3 := Lib.hid (fun w => dmod_any B 1048580 (by omega) (by omega) B0 B1 w)
  have p0 := Int.emod_nonneg P (show (4 : Int) ≠ 0 by omega); have p1 := Int.emod_lt_of_pos P (show (0 : Int) < 4 by omega)
  have q0 := Int.emod_nonneg B (show (40 : Int) ≠ 0 by omega); have q1 := Int.emod_lt_of_pos B (show (0 : Int) < 40 by omega)
  have u0 := Int.emod_nonneg B (show (1048580 : Int) ≠ 0 by omega); have u1 := Int.emod_lt_of_pos B (show (0 : Int) < 1048580 by omega)
  generalize P % 4 = p at *
  generalize B % 40 = q at *
  generalize B % 1048580 = u at *
  go_enter Try.func3, Try.ntmps3
  go_wp2_with fail
  refine (new_any a0 len0 cap0 z0 _ W0.out).mono ?_
  rintro e w2 ⟨rfl, hd2, hb2⟩
  have D2 := Lib.hid hd2; have C2 := Lib.hid (Chg.of_below (M := Ge w.heap.size) hb2); clear hd2 hb2
  go_wp2_with fail
  refine (m2cache_any w.heap.size _ D2.out).mono ?_
  rintro e w3 ⟨S, W, L, rfl, g1, g2, g3, g4, g5, hd3, hc3⟩
  have hC := Lib.hid (show COk S W L from ⟨by omega, by omega, by omega, by omega, by omega, by omega⟩)
  have WP := Lib.hid (show 0 < W by omega)
  have D3 := Lib.hid (Deck.k_alloc (o := .cells #[.int .i64 S, .int .i64 W, .int .i64 L] 26) hd3)
  have C3 := Lib.hid ((C2.out.gt hc3 (Nat.le_refl _)).alloc (.cells #[.int .i64 S, .int .i64 W, .int .i64 L] 26))
  have X3 := Lib.hid (CVar.new (d := w.heap.size) (S := S) (W := W) (L := L) (w := w3) hd3.lt)
  have L3 := Lib.hid hd3.lt
  clear hd3 hc3 D2 C2
  have c0 := X3.out.has.cell 0 _ rfl; have c1 := X3.out.has.cell 1 _ rfl; have c2 := X3.out.has.cell 2 _ rfl; have lx := X3.out.lt
  go_wp2_with fail
  refine (m2must_any S W L hC.out (by omega) (by omega) w.heap.size _ D3.out).mono ?_
  rintro e w4 ⟨U, ma, mc, m, rfl, ho4, hm4, hU4, hd4, hc4⟩
  have HM := Lib.hid hm4
  have FW := Lib.hid (hm4.fews (by omega) (by omega) (by omega))
  have s4 := hc4.size
  simp only [World.size_alloc] at s4
  have SZ4 := Lib.hid s4
  have X4 := Lib.hid ((X3.out.keep hc4).keep (Chg.dka w4 (.cells #[.slice ma S mc] 30)))
  have Y4 := Lib.hid (SVar.new (d := w.heap.size) hd4.lt (ho4.nd D3.out.lt))
  have C4 := Lib.hid ((C3.out.gt hc4 (Nat.le_refl _)).alloc (.cells #[.slice ma S mc] 30))
  have D4 := Lib.hid (Deck.k_alloc (o := .cells #[.slice ma S mc] 30) hd4)
  clear c0 c1 c2 lx ho4 hm4 hU4 hd4 hc4 X3 C3 D3 s4
  have y0 := Y4.out.has.cell 0 _ rfl; have ly := Y4.out.lt
  have c0 := X4.out.has.cell 0 _ rfl; have c1 := X4.out.has.cell 1 _ rfl; have c2 := X4.out.has.cell 2 _ rfl; have lx := X4.out.lt
  go_wp2_with fail
  refine (rcopy3_any (Nd w.heap.size) ma S mc m _ Y4.out.cub FW.out).mono ?_
  rintro e w5 ⟨na, nn, nc, rfl, ho5, hb5⟩
  obtain rfl : S = nn := by have h1 := ho5.ct.hlen; have h2 := HM.out.len; omega
  have s5 := hb5.size
  simp only [World.size_alloc] at s5
  have X5 := Lib.hid (X4.out.keep (Chg.dk hb5)); have D5 := Lib.hid (Deck.k_below hb5 D4.out); have C5 := Lib.hid (C4.out.tr hb5)
  have Y5 := Lib.hid (Y4.out.has.below hb5 Y4.out.lt)
  have O5 := Lib.hid (ho5.bt1)
  simp only [World.size_alloc] at O5
  have s4 := SZ4.out
  have l3 := L3.out
  clear y0 ly c0 c1 c2 lx ho5 hb5 X4 Y4 C4 D4
  have y0 := Y5.out.cell 0 _ rfl; have yf := Y5.out.free; have ly := Y5.out.lt (by simp)
  generalize hbx : w3.heap.size = bX at *
  generalize hb9 : w4.heap.size = b9 at *
  have C6 := Lib.hid (C5.out.setCell (p := ⟨b9, 0, none⟩) (fun e => by unfold Ge; simp; omega) (.slice na S nc))
  have D6 := Lib.hid (D5.out.other (p := ⟨b9, 0, none⟩) (show w.heap.size < b9 by omega) (.slice na S nc))
  have X6 := Lib.hid (X5.out.has.other (p := ⟨b9, 0, none⟩) (v := .slice na S nc) (show bX ≠ b9 by omega))
  have Y6 := Lib.hid (Y5.out.set0 (.slice na S nc))
  have O6 := Lib.hid (OCub.k_set (b := b9) (k := 0) (u := .slice na S nc) (fun i hi => by have := hi.1; omega) O5.out)
  have i9 : bX < b9 := by omega
  have id : w.heap.size < bX := by omega
  clear X5 D5 C5 Y5 O5 hbx hb9 L3 SZ4 s4 l3 s5
  have c0 := X6.out.cell 0 _ rfl; have c1 := X6.out.cell 1 _ rfl; have c2 := X6.out.cell 2 _ rfl
  obtain ⟨wv, hwv⟩ : ∃ wv : World, wv = w5.setCell ⟨b9, 0, none⟩ (.slice na S nc) := ⟨_, rfl⟩
  go_upto_if 24 with fail
  rw [← hwv] at X6 Y6 O6 C6 D6 c0 c1 c2 ⊢
  clear hwv
  go_cut [10] (fun _ wx => ∃ a len cap m, VI w S W L bX b9 a len cap m wx)
  case first =>
    as_aux_lemma =>
      by_cases hS : S = 0
      · have hS0 : decide (0 < S) = false := by simpa using hS
        go_wp2_with fail
        go_meet
        exact ⟨_, _, _, _, X6.out, Y6.out, O6.out.ct, C6.out⟩
      · have hS0 : 0 < S := by omega
        go_wp2_with fail
        refine (next_any w.heap.size _ (by omega) (by omega) _ D6.out).mono ?_
        rintro e w6 ⟨r, rfl, r0, r1, hd6, hb6⟩
        obtain ⟨s, rfl⟩ : ∃ s : Nat, r = (s : Int) := ⟨r.toNat, by omega⟩
        have r1' : s < S := by omega
        obtain ⟨g, hg⟩ : ∃ g, m[s]? = some g := ⟨_, List.getElem?_eq_getElem (by rw [HM.out.len]; exact r1')⟩
        have GW := Lib.hid (HM.out.set s g hg).len
        have HG := Lib.hid hg
        have ML := Lib.hid HM.out.len
        have X7 := Lib.hid (hb6.chg.has X6.out (X6.out.lt (by simp)) (by omega))
        have Y7 := Lib.hid (hb6.chg.has Y6.out (Y6.out.lt (by simp)) (by omega))
        have O7 := Lib.hid (OCub.loc.chg O6.out hb6.chg (fun i hi _ e => by have := hi.1; omega))
        have C7 := Lib.hid (C6.out.gt hb6.chg (Nat.le_refl _))
        have ly := Y7.out.lt (by simp)
        clear hg hd6 hb6 X6 Y6 O6 C6 D6 c0 c1 c2 HM
        go_wp2_with fail
        refine (MD0.out _).mono ?_
        rintro e w7 ⟨rfl, rfl⟩
        have hs0 : (0 : Int) ≤ (s : Int) := by omega
        have hW0 : 0 < W := by omega
        by_cases h0 : p = 0
        · subst h0
          obtain ⟨ob, obc, u9, fq, pk⟩ := OwnRow.pick OMat.loc O7.out HG.out
          have pf := pk.form
          rw [ML.out] at pf
          simp only [Value.slice.injEq] at pf
          obtain ⟨pf1, _, pf3⟩ := pf
          subst pf1
          obtain rfl : obc = nc := pf3.symm
          obtain ⟨ua, uc, hu9⟩ : ∃ ua uc, u9 = .slice ua W uc := by obtain ⟨a, c, h⟩ := pk.elem.form; exact ⟨a, c, by rw [h, GW.out]⟩
          subst hu9
          have hoc := pk.hcap; rw [ML.out] at hoc
          have hom := pk.hmax
          have n9 : ¬ fq b9 := fun h => by have := (pk.sub b9 h).1.1; omega
          have nX : ¬ fq bX := fun h => by have := (pk.sub bX h).1.1; omega
          have nb := pk.nb
          have ob9 : ob ≠ b9 := fun h => by have := pk.own.1; omega
          have obX : ob ≠ bX := fun h => by have := pk.own.1; omega
          have y0 := Y7.out.cell 0 _ rfl; have p0 := pk.cell
          have PK := Lib.hid pk
          clear pk
          go_upto_region 9 with fail
          refine hd_start 10 (fun w' => w'.cell? ⟨b9, 0, none⟩ = some (.slice (some ⟨ob, 0, none⟩) S obc) ∧ w'.cell? ⟨ob, s, none⟩ = some (.slice ua W uc)) (by kernel_rfl) ⟨by kernel_rfl, by kernel_rfl, by kernel_rfl, by decide⟩ (by refine ⟨y0, p0⟩) (fun ok => ?_)
          refine hd_take_l (i := 0) (v := ?_) ok rfl (by decide) (by kernel_rfl) (by kernel_rfl) (fun _ _ _ h => h) (Or.inl ⟨by kernel_rfl, ?_⟩) ?_
          rotate_left
          · (intro w hSw; (try dsimp only at hSw); (try go_split_ands); go_simp; (try (with_reducible rfl)))
          go_frame
          refine hd_take_l (i := 1) (v := ?_) ok rfl (by decide) (by kernel_rfl) (by kernel_rfl) (fun _ _ _ h => h) (Or.inl ⟨by kernel_rfl, ?_⟩) ?_
          rotate_left
          · (intro w hSw; (try dsimp only at hSw); (try go_split_ands); go_simp; (try (with_reducible rfl)))
          go_frame
          refine hd_take_l (i := 2) (v := ?_) ok rfl (by decide) (by kernel_rfl) (by kernel_rfl) (fun _ _ _ h => h) (Or.inl ⟨by kernel_rfl, ?_⟩) ?_
          rotate_left
          · (intro w hSw; (try dsimp only at hSw); (try go_split_ands); go_simp; (try (with_reducible rfl)))
          go_frame
          refine hd_take_l (i := 3) (v := ?_) ok rfl (by decide) (by kernel_rfl) (by kernel_rfl) (fun _ _ _ h => h) (Or.inl ⟨by kernel_rfl, ?_⟩) ?_
          rotate_left
          · (intro w hSw; (try dsimp only at hSw); (try go_split_ands); go_simp; (try (with_reducible rfl)))
          go_frame
          refine hd_take_l (i := 4) (v := ?_) ok rfl (by decide) (by kernel_rfl) (by kernel_rfl) (fun _ _ _ h => h) (Or.inl ⟨by kernel_rfl, ?_⟩) ?_
          rotate_left
          · (intro w hSw; (try dsimp only at hSw); (try go_split_ands); go_simp; (try (with_reducible rfl)))
          go_frame
          refine hd_take_l (i := 5) (v := ?_) ok rfl (by decide) (by kernel_rfl) (by kernel_rfl) (fun _ _ _ h => h) (Or.inl ⟨by kernel_rfl, ?_⟩) ?_
          rotate_left
          · (intro w hSw; (try dsimp only at hSw); (try go_split_ands); go_simp; (try (with_reducible rfl)))
          go_frame
          refine hd_take_l (i := 6) (v := ?_) ok rfl (by decide) (by kernel_rfl) (by kernel_rfl) (fun _ _ _ h => h) (Or.inl ⟨by kernel_rfl, ?_⟩) ?_
          rotate_left
          · (intro w hSw; (try dsimp only at hSw); (try go_split_ands); go_simp; (try (with_reducible rfl)))
          go_frame
          refine hd_take_l (i := 7) (v := ?_) ok rfl (by decide) (by kernel_rfl) (by kernel_rfl) (fun _ _ _ h => h) (Or.inl ⟨by kernel_rfl, ?_⟩) ?_
          rotate_left
          · (intro w hSw; (try dsimp only at hSw); (try go_split_ands); go_simp; (try (with_reducible rfl)))
          go_frame
          refine hd_only_l (c := 8) rfl (by decide) (by kernel_rfl) (fun K hK => ?_)
          go_simp
          have cA : Chg Non w7 (w7.alloc (.cells #[.slice none 0 0] 22)).drew := ((Chg.refl w7).alloc _).drew
          have sA : (w7.alloc (.cells #[.slice none 0 0] 22)).drew.heap.size = w7.heap.size + 1 := by simp
          have BA := Lib.hid (Blk.new w7 [.slice none 0 0] 22).drew
          have EL := Lib.hid (OMat.loc.chg PK.out.elem cA (fun _ _ _ h => h))
          have CA := Lib.hid cA; have SA := Lib.hid sA
          have y1 := cA.cell (fun h => h) y0; have p1 := cA.cell (fun h => h) p0
          clear cA sA y0 p0
          (try simp only [])
          refine hK _ _ (by refine ⟨?_, ?_⟩ <;> (first | exact y1 | exact p1)) ?_
          clear hK K
          (try go_frame)
          refine hd_only_l (c := 9) rfl (by decide) (by kernel_rfl) (fun K hK => ?_)
          refine step_append_one rfl _ _ 35 rfl 22 Try.underlying35 info_sl rfl (by decide) OInts.loc EL.out rfl w7.heap.size (.slice none 0 0) 22 BA.out rfl (x := []) (fun _ => .inl ⟨rfl, rfl⟩) rfl (by have := GW.out; omega) ?_
          intro v9 w9 hap
          obtain ⟨va, vn, vc, rfl⟩ : ∃ a n c, v9 = .slice a n c := by obtain ⟨a, c, h⟩ := hap.out.1.form; exact ⟨a, _, c, h⟩
          have c9 := hap.out.2
          have y2 := c9.cell n9 y1; have p2 := c9.cell nb p1
          have C9 := Lib.hid ((CA.out.mono (fun _ _ h => h.elim)).trans (M := fq) c9 (fun _ _ h => h))
          (try simp only [])
          refine hK _ _ (by refine ⟨?_, ?_⟩ <;> (first | exact y2 | exact p2)) ?_
          clear hK K
          (try go_frame)
          have pf2 := c9.frz nb (by have := PK.out.lt; have := SA.out; omega) (frz_later (b := ob) CA.out.below0 PK.out.lt PK.out.free)
          have pl2 : ob < w9.heap.size := by have := PK.out.lt; have := SA.out; have := c9.size; omega
          have SW := Lib.hid (PK.out.swap w9 _ (.slice va vn vc) _ C9.out hap.out.1.lt (fun j hj => ⟨hj.1.elim .inl (fun h => .inr (by have := SA.out; omega)), hj.2⟩))
          have X9 := Lib.hid ((C9.out.has X7.out (X7.out.lt (by simp)) nX).other (p := ⟨ob, s, none⟩) (v := .slice va vn vc) (fun e => obX e.symm))
          have Y9 := Lib.hid ((C9.out.has Y7.out ly n9).other (p := ⟨ob, s, none⟩) (v := .slice va vn vc) (fun e => ob9 e.symm))
          have CF := Lib.hid ((C7.out.trans C9.out (fun j hj h => by have := (PK.out.sub j h).1.1; unfold Ge; omega)).setCell (p := ⟨ob, s, none⟩) (fun e => by unfold Ge; have := PK.out.own.1; simp; omega) (.slice va vn vc))
          clear ok y1 p1 y2 hap c9 C9 CA EL BA X7 Y7 O7 C7
          refine hd_done (by kernel_rfl) ?_
          simp only [List.drop_succ_cons, List.drop_zero]
          go_wp2_with fail
          go_meet
          exact ⟨_, _, _, _, X9.out, Y9.out, OCub.ct SW.out, CF.out⟩
        · by_cases h1 : p = 1
          · subst h1
            obtain ⟨Z, hZ⟩ : ∃ Z, g[0]? = some Z := ⟨_, List.getElem?_eq_getElem (by rw [GW.out]; omega)⟩
            have HZ := Lib.hid hZ
            have ZL := Lib.hid ((FW.out.2 g (List.mem_of_getElem? HG.out)).2 Z (List.mem_of_getElem? hZ))
            clear hZ
            obtain ⟨ob, obc, cb, cc, u9, fq, pk⟩ := OCub.pick2 O7.out HG.out HZ.out
            have pf := pk.form
            rw [ML.out] at pf
            simp only [Value.slice.injEq] at pf
            obtain ⟨pf1, _, pf3⟩ := pf
            subst pf1
            obtain rfl : obc = nc := pf3.symm
            obtain ⟨zl, hzl⟩ : ∃ zl, Z.length = zl := ⟨_, rfl⟩
            obtain ⟨ua, uc, hu9⟩ : ∃ ua uc, u9 = .slice ua zl uc := by obtain ⟨a, c, h⟩ := pk.elem.form; exact ⟨a, c, by rw [h, hzl]⟩
            subst hu9
            have HZL := Lib.hid hzl
            rw [hzl] at ZL
            clear hzl
            have hcc := pk.hcap2; rw [GW.out] at hcc
            have hcm := pk.hmax2
            have hoc := pk.hcap; rw [ML.out] at hoc
            have hom := pk.hmax
            have n9 : ¬ fq b9 := fun h => by have := (pk.sub b9 h).1.1; omega
            have nX : ¬ fq bX := fun h => by have := (pk.sub bX h).1.1; omega
            have nb := pk.nb
            have obb := pk.ne
            have cb9 : cb ≠ b9 := fun h => by have := pk.ownc.1; omega
            have cbX : cb ≠ bX := fun h => by have := pk.ownc.1; omega
            have nc' := pk.nc
            have y0 := Y7.out.cell 0 _ rfl; have p0 := pk.cell; have q9 := pk.cell2
            rw [GW.out] at p0
            have PK := Lib.hid pk
            clear pk
            have qw : IntKind.i64.wrap (q - 2) = q - 2 := IntWalk.i64_in _ (by omega)
            go_upto_region 11 with fail
            refine hd_start 17 (fun w' => w'.cell? ⟨b9, 0, none⟩ = some (.slice (some ⟨ob, 0, none⟩) S obc) ∧ w'.cell? ⟨ob, s, none⟩ = some (.slice (some ⟨cb, 0, none⟩) W cc) ∧ w'.cell? ⟨cb, 0, none⟩ = some (.slice ua zl uc)) (by kernel_rfl) ⟨by kernel_rfl, by kernel_rfl, by kernel_rfl, by decide⟩ (by refine ⟨y0, p0, q9⟩) (fun ok => ?_)
            refine hd_take_l (i := 0) (v := ?_) ok rfl (by decide) (by kernel_rfl) (by kernel_rfl) (fun _ _ _ h => h) (Or.inl ⟨by kernel_rfl, ?_⟩) ?_
            rotate_left
            · (intro w hSw; (try dsimp only at hSw); (try go_split_ands); go_simp; (try (with_reducible rfl)))
            go_frame
            refine hd_take_l (i := 1) (v := ?_) ok rfl (by decide) (by kernel_rfl) (by kernel_rfl) (fun _ _ _ h => h) (Or.inl ⟨by kernel_rfl, ?_⟩) ?_
            rotate_left
            · (intro w hSw; (try dsimp only at hSw); (try go_split_ands); go_simp; (try (with_reducible rfl)))
            go_frame
            refine hd_take_l (i := 2) (v := ?_) ok rfl (by decide) (by kernel_rfl) (by kernel_rfl) (fun _ _ _ h => h) (Or.inl ⟨by kernel_rfl, ?_⟩) ?_
            rotate_left
            · (intro w hSw; (try dsimp only at hSw); (try go_split_ands); go_simp; (try (with_reducible rfl)))
            go_frame
            refine hd_take_l (i := 3) (v := ?_) ok rfl (by decide) (by kernel_rfl) (by kernel_rfl) (fun _ _ _ h => h) (Or.inl ⟨by kernel_rfl, ?_⟩) ?_
            rotate_left
            · (intro w hSw; (try dsimp only at hSw); (try go_split_ands); go_simp; (try (with_reducible rfl)))
            go_frame
            refine hd_take_l (i := 4) (v := ?_) ok rfl (by decide) (by kernel_rfl) (by kernel_rfl) (fun _ _ _ h => h) (Or.inl ⟨by kernel_rfl, ?_⟩) ?_
            rotate_left
            · (intro w hSw; (try dsimp only at hSw); (try go_split_ands); go_simp; (try (with_reducible rfl)))
            go_frame
            refine hd_take_l (i := 5) (v := ?_) ok rfl (by decide) (by kernel_rfl) (by kernel_rfl) (fun _ _ _ h => h) (Or.inl ⟨by kernel_rfl, ?_⟩) ?_
            rotate_left
            · (intro w hSw; (try dsimp only at hSw); (try go_split_ands); go_simp; (try (with_reducible rfl)))
            go_frame
            refine hd_take_l (i := 6) (v := ?_) ok rfl (by decide) (by kernel_rfl) (by kernel_rfl) (fun _ _ _ h => h) (Or.inl ⟨by kernel_rfl, ?_⟩) ?_
            rotate_left
            · (intro w hSw; (try dsimp only at hSw); (try go_split_ands); go_simp; (try (with_reducible rfl)))
            go_frame
            refine hd_take_l (i := 7) (v := ?_) ok rfl (by decide) (by kernel_rfl) (by kernel_rfl) (fun _ _ _ h => h) (Or.inl ⟨by kernel_rfl, ?_⟩) ?_
            rotate_left
            · (intro w hSw; (try dsimp only at hSw); (try go_split_ands); go_simp; (try (with_reducible rfl)))
            go_frame
            refine hd_take_l (i := 8) (v := ?_) ok rfl (by decide) (by kernel_rfl) (by kernel_rfl) (fun _ _ _ h => h) (Or.inl ⟨by kernel_rfl, ?_⟩) ?_
            rotate_left
            · (intro w hSw; (try dsimp only at hSw); (try go_split_ands); go_simp; (try (with_reducible rfl)))
            go_frame
            refine hd_take_l (i := 9) (v := ?_) ok rfl (by decide) (by kernel_rfl) (by kernel_rfl) (fun _ _ _ h => h) (Or.inl ⟨by kernel_rfl, ?_⟩) ?_
            rotate_left
            · (intro w hSw; (try dsimp only at hSw); (try go_split_ands); go_simp; (try (with_reducible rfl)))
            go_frame
            refine hd_take_l (i := 10) (v := ?_) ok rfl (by decide) (by kernel_rfl) (by kernel_rfl) (fun _ _ _ h => h) (Or.inl ⟨by kernel_rfl, ?_⟩) ?_
            rotate_left
            · (intro w hSw; (try dsimp only at hSw); (try go_split_ands); go_simp; (try (with_reducible rfl)))
            go_frame
            refine hd_take_l (i := 11) (v := ?_) ok rfl (by decide) (by kernel_rfl) (by kernel_rfl) (fun _ _ _ h => h) (Or.inl ⟨by kernel_rfl, ?_⟩) ?_
            rotate_left
            · (intro w hSw; (try dsimp only at hSw); (try go_split_ands); go_simp; (try (with_reducible rfl)))
            go_frame
            refine hd_take_l (i := 12) (v := ?_) ok rfl (by decide) (by kernel_rfl) (by kernel_rfl) (fun _ _ _ h => h) (Or.inl ⟨by kernel_rfl, ?_⟩) ?_
            rotate_left
            · (intro w hSw; (try dsimp only at hSw); (try go_split_ands); go_simp; (try (with_reducible rfl)))
            go_frame
            refine hd_only_l (c := 13) rfl (by decide) (by kernel_rfl) (fun K hK => ?_)
            go_simp
            go_at_call 14
            refine (MD1.out _).mono ?_
            rintro e w8 ⟨rfl, rfl⟩
            (try simp only [])
            refine hK _ _ (by refine ⟨?_, ?_, ?_⟩ <;> (first | exact y0 | exact p0 | exact q9)) ?_
            clear hK K
            (try go_frame)
            refine hd_take_l (i := 14) (v := ?_) ok rfl (by decide) (by kernel_rfl) (by kernel_rfl) (fun _ _ _ h => h) (Or.inl ⟨by kernel_rfl, ?_⟩) ?_
            rotate_left
            · (intro w hSw; (try dsimp only at hSw); (try go_split_ands); go_simp; (try (with_reducible rfl)))
            go_frame
            refine hd_only_l (c := 15) rfl (by decide) (by kernel_rfl) (fun K hK => ?_)
            go_simp
            have cA : Chg Non w7 (w7.alloc (.cells #[.int .i64 (q - 2)] 3)).drew := ((Chg.refl w7).alloc _).drew
            have sA : (w7.alloc (.cells #[.int .i64 (q - 2)] 3)).drew.heap.size = w7.heap.size + 1 := by simp
            have BA := Lib.hid (Blk.new w7 [.int .i64 (q - 2)] 3).drew
            have EL := Lib.hid (OInts.loc.chg PK.out.elem cA (fun _ _ _ h => h))
            have CA := Lib.hid cA; have SA := Lib.hid sA
            have y1 := cA.cell (fun h => h) y0; have p1 := cA.cell (fun h => h) p0; have q1' := cA.cell (fun h => h) q9
            clear cA sA y0 p0 q9
            (try simp only [])
            refine hK _ _ (by refine ⟨?_, ?_, ?_⟩ <;> (first | exact y1 | exact p1 | exact q1')) ?_
            clear hK K
            (try go_frame)
            refine hd_only_l (c := 16) rfl (by decide) (by kernel_rfl) (fun K hK => ?_)
            refine step_append_o rfl _ _ 22 rfl Try.underlying22 info_int EL.out rfl (one_ints BA.out (by omega)) rfl (by have := HZL.out; have := ZL.out; omega) ?_
            intro v9 w9 hap
            obtain ⟨va, vn, vc, rfl⟩ : ∃ a n c, v9 = .slice a n c := by obtain ⟨a, c, h⟩ := hap.out.1.form; exact ⟨a, _, c, h⟩
            have c9 := hap.out.2
            have y2 := c9.cell n9 y1; have p2 := c9.cell nb p1; have q2 := c9.cell nc' q1'
            have C9 := Lib.hid ((CA.out.mono (fun _ _ h => h.elim)).trans (M := fq) c9 (fun _ _ h => h))
            (try simp only [])
            refine hK _ _ (by refine ⟨?_, ?_, ?_⟩ <;> (first | exact y2 | exact p2 | exact q2)) ?_
            clear hK K
            (try go_frame)
            have pf2 := c9.frz nc' (by have := PK.out.lt2; have := SA.out; omega) (frz_later (b := cb) CA.out.below0 PK.out.lt2 PK.out.free2)
            have pl2 : cb < w9.heap.size := by have := PK.out.lt2; have := SA.out; have := c9.size; omega
            have SW := Lib.hid (PK.out.swap w9 _ (.slice va vn vc) _ C9.out hap.out.1.lt (fun j hj => ⟨hj.1.elim .inl (fun h => .inr (by have := SA.out; omega)), hj.2⟩))
            have X9 := Lib.hid ((C9.out.has X7.out (X7.out.lt (by simp)) nX).other (p := ⟨cb, 0, none⟩) (v := .slice va vn vc) (fun e => cbX e.symm))
            have Y9 := Lib.hid ((C9.out.has Y7.out ly n9).other (p := ⟨cb, 0, none⟩) (v := .slice va vn vc) (fun e => cb9 e.symm))
            have CF := Lib.hid ((C7.out.trans C9.out (fun j hj h => by have := (PK.out.sub j h).1.1; unfold Ge; omega)).setCell (p := ⟨cb, 0, none⟩) (fun e => by unfold Ge; have := PK.out.ownc.1; simp; omega) (.slice va vn vc))
            clear ok y1 p1 q1' y2 p2 hap c9 C9 CA EL BA X7 Y7 O7 C7
            refine hd_done (by kernel_rfl) ?_
            simp only [List.drop_succ_cons, List.drop_zero]
            go_wp2_with fail
            go_meet
            exact ⟨_, _, _, _, X9.out, Y9.out, OCub.ct SW.out.1, CF.out⟩
          · by_cases h2 : p = 2
            · subst h2
              obtain ⟨ob, obc, u9, fq, pk⟩ := OwnRow.pick OMat.loc O7.out HG.out
              have pf := pk.form
              rw [ML.out] at pf
              simp only [Value.slice.injEq] at pf
              obtain ⟨pf1, _, pf3⟩ := pf
              subst pf1
              obtain rfl : obc = nc := pf3.symm
              have hoc := pk.hcap; rw [ML.out] at hoc
              have hom := pk.hmax
              clear pk
              obtain ⟨V, rfl⟩ : ∃ V, S = V + 1 := ⟨S - 1, by omega⟩
              have TK := Lib.hid (Row.tail (OCub.read (K := fun k => k ≠ b9) (fun k hk => by have := hk.1; omega) O7.out))
              simp only [Nat.zero_add] at TK
              have y0 := Y7.out.cell 0 _ rfl; have yf := Y7.out.free
              by_cases hcap : obc = 1
              · subst hcap
                obtain rfl : V = 0 := by omega
                go_wp2_with fail
                go_meet
                exact ⟨_, _, _, _, X7.out.other (show bX ≠ b9 by omega), Y7.out.set0 _, Row.nil _ _ _ _ _ (by decide), C7.out.setCell (fun e => by unfold Ge; simp; omega) _⟩
              · have cs := Lib.hid (show Chg (fun k => k = b9) w7 (w7.setCell ⟨b9, 0, none⟩ (.slice (some ⟨ob, 1, none⟩) V (obc - 1))) from Chg.setCell (M := fun k => k = b9) (Chg.refl _) (fun _ => rfl) _)
                have T8 := Lib.hid (Cube.chg TK.out cs.out (fun _ h => h))
                go_wp2_with fail
                go_meet
                exact ⟨_, _, _, _, X7.out.other (show bX ≠ b9 by omega), Y7.out.set0 _, T8.out.wide (RSl.wider (RSl.wider RInt.wider)) (fun _ _ _ => trivial), C7.out.setCell (fun e => by unfold Ge; simp; omega) _⟩
            · obtain rfl : p = 3 := by omega
              obtain ⟨Z, hZ⟩ : ∃ Z, g[W - 1]? = some Z := ⟨_, List.getElem?_eq_getElem (by rw [GW.out]; omega)⟩
              have HZ := Lib.hid hZ
              have ZL := Lib.hid ((FW.out.2 g (List.mem_of_getElem? HG.out)).2 Z (List.mem_of_getElem? hZ))
              clear hZ
              obtain ⟨ob, obc, cb, cc, u9, fq, pk⟩ := OCub.pick2 O7.out HG.out HZ.out
              have pf := pk.form
              rw [ML.out] at pf
              simp only [Value.slice.injEq] at pf
              obtain ⟨pf1, _, pf3⟩ := pf
              subst pf1
              obtain rfl : obc = nc := pf3.symm
              obtain ⟨zl, hzl⟩ : ∃ zl, Z.length = zl := ⟨_, rfl⟩
              obtain ⟨ua, uc, hu9⟩ : ∃ ua uc, u9 = .slice ua zl uc := by obtain ⟨a, c, h⟩ := pk.elem.form; exact ⟨a, c, by rw [h, hzl]⟩
              subst hu9
              have HZL := Lib.hid hzl
              rw [hzl] at ZL
              clear hzl
              have hcc := pk.hcap2; rw [GW.out] at hcc
              have hcm := pk.hmax2
              have hoc := pk.hcap; rw [ML.out] at hoc
              have hom := pk.hmax
              have n9 : ¬ fq b9 := fun h => by have := (pk.sub b9 h).1.1; omega
              have nX : ¬ fq bX := fun h => by have := (pk.sub bX h).1.1; omega
              have nb := pk.nb
              have obb := pk.ne
              have cb9 : cb ≠ b9 := fun h => by have := pk.ownc.1; omega
              have cbX : cb ≠ bX := fun h => by have := pk.ownc.1; omega
              have nc' := pk.nc
              have y0 := Y7.out.cell 0 _ rfl; have p0 := pk.cell; have q9 := pk.cell2; have c1 := X7.out.cell 1 _ rfl
              have w1 : ((W : Int) - 1).toNat = W - 1 := by omega
              have w2 : (0 : Int) ≤ (W : Int) - 1 := by omega
              have w3 : (W : Int) - 1 < (W : Int) := by omega
              have w5 : (1 : Int) ≤ (W : Int) := by omega
              have w4 : IntKind.i64.wrap ((W : Int) - 1) = (W : Int) - 1 := IntWalk.i64_in _ (by omega)
              rw [GW.out] at p0
              have PK := Lib.hid pk
              clear pk
              go_upto_region 15 with fail
              refine hd_start 22 (fun w' => w'.cell? ⟨b9, 0, none⟩ = some (.slice (some ⟨ob, 0, none⟩) S obc) ∧ w'.cell? ⟨ob, s, none⟩ = some (.slice (some ⟨cb, 0, none⟩) W cc) ∧ w'.cell? ⟨cb, W - 1, none⟩ = some (.slice ua zl uc) ∧ w'.cell? ⟨bX, 1, none⟩ = some (.int .i64 W)) (by kernel_rfl) ⟨by kernel_rfl, by kernel_rfl, by kernel_rfl, by decide⟩ (by refine ⟨y0, p0, q9, c1⟩) (fun ok => ?_)
              refine hd_take_l (i := 0) (v := ?_) ok rfl (by decide) (by kernel_rfl) (by kernel_rfl) (fun _ _ _ h => h) (Or.inl ⟨by kernel_rfl, ?_⟩) ?_
              rotate_left
              · (intro w hSw; (try dsimp only at hSw); (try go_split_ands); go_simp; (try (with_reducible rfl)))
              go_frame
              refine hd_take_l (i := 1) (v := ?_) ok rfl (by decide) (by kernel_rfl) (by kernel_rfl) (fun _ _ _ h => h) (Or.inl ⟨by kernel_rfl, ?_⟩) ?_
              rotate_left
              · (intro w hSw; (try dsimp only at hSw); (try go_split_ands); go_simp; (try (with_reducible rfl)))
              go_frame
              refine hd_take_l (i := 2) (v := ?_) ok rfl (by decide) (by kernel_rfl) (by kernel_rfl) (fun _ _ _ h => h) (Or.inl ⟨by kernel_rfl, ?_⟩) ?_
              rotate_left
              · (intro w hSw; (try dsimp only at hSw); (try go_split_ands); go_simp; (try (with_reducible rfl)))
              go_frame
              refine hd_take_l (i := 3) (v := ?_) ok rfl (by decide) (by kernel_rfl) (by kernel_rfl) (fun _ _ _ h => h) (Or.inl ⟨by kernel_rfl, ?_⟩) ?_
              rotate_left
              · (intro w hSw; (try dsimp only at hSw); (try go_split_ands); go_simp; (try (with_reducible rfl)))
              go_frame
              refine hd_take_l (i := 4) (v := ?_) ok rfl (by decide) (by kernel_rfl) (by kernel_rfl) (fun _ _ _ h => h) (Or.inl ⟨by kernel_rfl, ?_⟩) ?_
              rotate_left
              · (intro w hSw; (try dsimp only at hSw); (try go_split_ands); go_simp; (try (with_reducible rfl)))
              go_frame
              refine hd_take_l (i := 5) (v := ?_) ok rfl (by decide) (by kernel_rfl) (by kernel_rfl) (fun _ _ _ h => h) (Or.inl ⟨by kernel_rfl, ?_⟩) ?_
              rotate_left
              · (intro w hSw; (try dsimp only at hSw); (try go_split_ands); go_simp; (try (with_reducible rfl)))
              go_frame
              refine hd_take_l (i := 6) (v := ?_) ok rfl (by decide) (by kernel_rfl) (by kernel_rfl) (fun _ _ _ h => h) (Or.inl ⟨by kernel_rfl, ?_⟩) ?_
              rotate_left
              · (intro w hSw; (try dsimp only at hSw); (try go_split_ands); go_simp; (try (with_reducible rfl)))
              go_frame
              refine hd_take_l (i := 7) (v := ?_) ok rfl (by decide) (by kernel_rfl) (by kernel_rfl) (fun _ _ _ h => h) (Or.inl ⟨by kernel_rfl, ?_⟩) ?_
              rotate_left
              · (intro w hSw; (try dsimp only at hSw); (try go_split_ands); go_simp; (try (with_reducible rfl)))
              go_frame
              refine hd_take_l (i := 8) (v := ?_) ok rfl (by decide) (by kernel_rfl) (by kernel_rfl) (fun _ _ _ h => h) (Or.inl ⟨by kernel_rfl, ?_⟩) ?_
              rotate_left
              · (intro w hSw; (try dsimp only at hSw); (try go_split_ands); go_simp; (try (with_reducible rfl)))
              go_frame
              refine hd_take_l (i := 11) (v := ?_) ok rfl (by decide) (by kernel_rfl) (by kernel_rfl) (fun _ _ _ h => h) (Or.inl ⟨by kernel_rfl, ?_⟩) ?_
              rotate_left
              · (intro w hSw; (try dsimp only at hSw); (try go_split_ands); go_simp; (try (with_reducible rfl)))
              go_frame
              refine hd_take_l (i := 12) (v := ?_) ok rfl (by decide) (by kernel_rfl) (by kernel_rfl) (fun _ _ _ h => h) (Or.inl ⟨by kernel_rfl, ?_⟩) ?_
              rotate_left
              · (intro w hSw; (try dsimp only at hSw); (try go_split_ands); go_simp; (try (with_reducible rfl)))
              go_frame
              refine hd_take_l (i := 13) (v := ?_) ok rfl (by decide) (by kernel_rfl) (by kernel_rfl) (fun _ _ _ h => h) (Or.inl ⟨by kernel_rfl, ?_⟩) ?_
              rotate_left
              · (intro w hSw; (try dsimp only at hSw); (try go_split_ands); go_simp; (try (with_reducible rfl)))
              go_frame
              refine hd_take_l (i := 14) (v := ?_) ok rfl (by decide) (by kernel_rfl) (by kernel_rfl) (fun _ _ _ h => h) (Or.inl ⟨by kernel_rfl, ?_⟩) ?_
              rotate_left
              · (intro w hSw; (try dsimp only at hSw); (try go_split_ands); go_simp; (try (with_reducible rfl)))
              go_frame
              refine hd_take_l (i := 15) (v := ?_) ok rfl (by decide) (by kernel_rfl) (by kernel_rfl) (fun _ _ _ h => h) (Or.inl ⟨by kernel_rfl, ?_⟩) ?_
              rotate_left
              · (intro w hSw; (try dsimp only at hSw); (try go_split_ands); go_simp; (try (with_reducible rfl)))
              go_frame
              refine hd_take_l (i := 16) (v := ?_) ok rfl (by decide) (by kernel_rfl) (by kernel_rfl) (fun _ _ _ h => h) (Or.inl ⟨by kernel_rfl, ?_⟩) ?_
              rotate_left
              · (intro w hSw; (try dsimp only at hSw); (try go_split_ands); go_simp; (try (with_reducible rfl)))
              go_frame
              refine hd_take_l (i := 17) (v := ?_) ok rfl (by decide) (by kernel_rfl) (by kernel_rfl) (fun _ _ _ h => h) (Or.inl ⟨by kernel_rfl, ?_⟩) ?_
              rotate_left
              · (intro w hSw; (try dsimp only at hSw); (try go_split_ands); go_simp; (try (with_reducible rfl)))
              go_frame
              refine hd_take_l (i := 18) (v := ?_) ok rfl (by decide) (by kernel_rfl) (by kernel_rfl) (fun _ _ _ h => h) (Or.inl ⟨by kernel_rfl, ?_⟩) ?_
              rotate_left
              · (intro w hSw; (try dsimp only at hSw); (try go_split_ands); go_simp; (try (with_reducible rfl)))
              go_frame
              refine hd_take_l (i := 19) (v := ?_) ok rfl (by decide) (by kernel_rfl) (by kernel_rfl) (fun _ _ _ h => h) (Or.inl ⟨by kernel_rfl, ?_⟩) ?_
              rotate_left
              · (intro w hSw; (try dsimp only at hSw); (try go_split_ands); go_simp; (try (with_reducible rfl)))
              go_frame
              refine hd_take_l (i := 20) (v := ?_) ok rfl (by decide) (by kernel_rfl) (by kernel_rfl) (fun _ _ _ h => h) (Or.inl ⟨by kernel_rfl, ?_⟩) ?_
              rotate_left
              · (intro w hSw; (try dsimp only at hSw); (try go_split_ands); go_simp; (try (with_reducible rfl)))
              go_frame
              refine hd_only_l (c := 9) rfl (by decide) (by kernel_rfl) (fun K hK => ?_)
              go_simp
              go_at_call 14
              refine (MD3.out _).mono ?_
              rintro e w8 ⟨rfl, rfl⟩
              (try simp only [])
              refine hK _ _ (by refine ⟨?_, ?_, ?_, ?_⟩ <;> (first | exact y0 | exact p0 | exact q9 | exact c1)) ?_
              clear hK K
              (try go_frame)

              refine hd_only_l (c := 10) rfl (by decide) (by kernel_rfl) (fun K hK => ?_)
              go_simp
              have cA : Chg Non w7 (w7.alloc (.cells #[.int .i64 u] 3)).drew := ((Chg.refl w7).alloc _).drew
              have sA : (w7.alloc (.cells #[.int .i64 u] 3)).drew.heap.size = w7.heap.size + 1 := by simp
              have BA := Lib.hid (Blk.new w7 [.int .i64 u] 3).drew
              have EL := Lib.hid (OInts.loc.chg PK.out.elem cA (fun _ _ _ h => h))
              have CA := Lib.hid cA; have SA := Lib.hid sA
              have y1 := cA.cell (fun h => h) y0; have p1 := cA.cell (fun h => h) p0; have q1' := cA.cell (fun h => h) q9; have d1 := cA.cell (fun h => h) c1
              clear cA sA y0 p0 q9 c1
              (try simp only [])
              refine hK _ _ (by refine ⟨?_, ?_, ?_, ?_⟩ <;> (first | exact y1 | exact p1 | exact q1' | exact d1)) ?_
              clear hK K
              (try go_frame)
              refine hd_only_l (c := 21) rfl (by decide) (by kernel_rfl) (fun K hK => ?_)
              refine step_append_o rfl _ _ 22 rfl Try.underlying22 info_int (one_own BA.out (by omega)) rfl (OInts.read (K := fun _ => True) (fun _ _ => trivial) EL.out) rfl (by have := HZL.out; have := ZL.out; show 1 + zl ≤ 1000000; omega) ?_
              intro v9 w9 hap
              obtain ⟨va, vn, vc, rfl⟩ : ∃ a n c, v9 = .slice a n c := by obtain ⟨a, c, h⟩ := hap.out.1.form; exact ⟨a, _, c, h⟩
              have c9 := hap.out.2
              have e9 : ∀ j, j < w7.heap.size → ¬ (j = w7.heap.size) := fun j h e => by omega
              have y2 := c9.cell (e9 _ ly) y1; have p2 := c9.cell (e9 _ PK.out.lt) p1; have q2 := c9.cell (e9 _ PK.out.lt2) q1'; have d2 := c9.cell (e9 _ (by omega)) d1
              have C9 := Lib.hid ((CA.out.mono (fun _ _ h => h.elim)).trans (M := fq) c9 (fun k hk e => by omega))
              (try simp only [])
              refine hK _ _ (by refine ⟨?_, ?_, ?_, ?_⟩ <;> (first | exact y2 | exact p2 | exact q2 | exact d2)) ?_
              clear hK K
              (try go_frame)
              have pf2 := c9.frz (e9 _ PK.out.lt2) (by have := PK.out.lt2; have := SA.out; omega) (frz_later (b := cb) CA.out.below0 PK.out.lt2 PK.out.free2)
              have pl2 : cb < w9.heap.size := by have := PK.out.lt2; have := SA.out; have := c9.size; omega
              have SW := Lib.hid (PK.out.swap w9 _ (.slice va vn vc) _ C9.out hap.out.1.lt (fun j hj => ⟨.inr (hj.1.elim (fun h => by omega) (fun h => by have := SA.out; omega)), hj.2⟩))
              have X9 := Lib.hid ((C9.out.has X7.out (X7.out.lt (by simp)) nX).other (p := ⟨cb, W - 1, none⟩) (v := .slice va vn vc) (fun e => cbX e.symm))
              have Y9 := Lib.hid ((C9.out.has Y7.out ly n9).other (p := ⟨cb, W - 1, none⟩) (v := .slice va vn vc) (fun e => cb9 e.symm))
              have CF := Lib.hid ((C7.out.trans C9.out (fun j hj h => by have := (PK.out.sub j h).1.1; unfold Ge; omega)).setCell (p := ⟨cb, W - 1, none⟩) (fun e => by unfold Ge; have := PK.out.ownc.1; simp; omega) (.slice va vn vc))
              clear ok y1 p1 q1' y2 p2 hap c9 C9 CA EL BA X7 Y7 O7 C7
              refine hd_done (by kernel_rfl) ?_
              simp only [List.drop_succ_cons, List.drop_zero]
              go_wp2_with fail
              go_meet
              exact ⟨_, _, _, _, X9.out, Y9.out, OCub.ct SW.out.1, CF.out⟩
  case rest =>
    obtain ⟨a, len, cap, m, hv⟩ := hcut
    have HV := Lib.hid hv
    clear hv X6 Y6 O6 C6 D6 c0 c1 c2 HM FW MD0 MD1 MD3
    obtain ⟨b, hb⟩ : ∃ b : Bool, b = true ↔ ValidM S W m := by
      by_cases h : ValidM S W m
      · exact ⟨true, by simp [h]⟩
      · exact ⟨false, by simp [h]⟩
    have AX := Lib.hid (fun s : BelowW wc => (mvalid_any S W L hC.out (fun _ => True) a len cap m s.world (Row.below (RSl.stays (RSl.stays RInt.stays)) HV.out.cub s.ok)).mono (fun _ _ h => h.to hb))
    have AY := Lib.hid (fun s : BelowW wc => (rvalid_any S W L hC.out (fun _ => True) a len cap m s.world (Row.below (RSl.stays (RSl.stays RInt.stays)) HV.out.cub s.ok)).mono (fun _ _ h => h.to hb))
    have x0 := fun s : BelowW wc => (HV.out.hX.every (HV.out.hX.lt (by simp)) s).cell 0 _ rfl; have x1 := fun s : BelowW wc => (HV.out.hX.every (HV.out.hX.lt (by simp)) s).cell 1 _ rfl; have x2 := fun s : BelowW wc => (HV.out.hX.every (HV.out.hX.lt (by simp)) s).cell 2 _ rfl
    have y1 := fun s : BelowW wc => (HV.out.h9.every (HV.out.h9.lt (by simp)) s).cell 0 _ rfl
    have hbb : (b == b) = true := by simp
    clear hb
    go_upto_region 16 with fail
    refine wp_region_below (by kernel_rfl) (by kernel_rfl) ?_
    repeat (go_big_quiet_step ((first | (go_at_call 15; with_reducible exact calls_below _ (AX.out _)) | (go_at_call 16; with_reducible exact calls_below _ (AY.out _)) | (go_at_call 17; with_reducible exact calls_below _ (awake_any _)))))
    refine wpQuiet_nil ?_
    rintro w' ⟨s, rfl⟩
    have CF := Lib.hid (HV.out.chg.tr s.ok)
    clear x0 x1 x2 y1
    go_wp2
    go_ret
    exact ⟨rfl, Chg.below (M := Ge w.heap.size) CF.out (fun j hj h => by unfold Ge at h; omega) (Nat.le_refl _)⟩
end Go.Proofs.Ytikhbijobkkhgaa
