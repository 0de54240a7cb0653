/-
  timeboundlaw22.CacheRuns returns true, whatever its list and numbers are. No condition.
-/
import Derived.Test.YtdkpfifnegndmaaKeep5
import Derived.Test.YtdkpfifnegndmaaRunI
import Derived.Test.YtdkpfifnegndmaaQuiet
import Derived.Deep.DeepCutAuto
namespace Go.Proofs.Ytdkpfifnegndmaa
open Go.RowKit

theorem ints_lit {w : World} {b : Nat} {zs : List Int} (h : Blk w b 3 (ivs zs)) (hs : zs.length ≤ 1000) (hz : ∀ z ∈ zs, -9223372036854775808 ≤ z ∧ z ≤ 9223372036854775807) : Ints (fun _ => True) w (some ⟨b, 0, none⟩) zs.length zs.length zs :=
  Ints.blk (sp := []) (by rw [List.append_nil]; exact h) rfl (Nat.le_refl _) (by omega) (by omega) trivial hz

theorem ints_blk4 {w : World} {b : Nat} {A r : Int} (h : Blk w b 3 [.int .i64 A, .int .i64 (A + 1), .int .i64 A, .int .i64 r]) (hA : 0 ≤ A ∧ A < 60) (hr : 0 ≤ r ∧ r < 60) :
    Ints (fun _ => True) w (some ⟨b, 0, none⟩) 4 4 [A, A + 1, A, r] ∧ ∀ z ∈ [A, A + 1, A, r], 0 ≤ z ∧ z ≤ 1048576 := by
  have hz : ∀ z ∈ [A, A + 1, A, r], 0 ≤ z ∧ z ≤ 1048576 := fun z hz => by
    simp only [List.mem_cons, List.not_mem_nil, or_false] at hz
    rcases hz with rfl | rfl | rfl | rfl <;> omega
  exact ⟨ints_lit (zs := [A, A + 1, A, r]) h (by simp) (fun z h => by have := hz z h; omega), hz⟩

set_option maxRecDepth 100000 in
set_option maxHeartbeats 8000000 in
theorem runs_law (a0 : Option Addr) (len0 cap0 : Nat) (z0 : List Int) (P B : Int) (wP : (Lit.int .i64 P).wf = true) (wB : (Lit.int .i64 B).wf = true) (w : World) (w0 : IsRow .i64 w a0 len0 cap0 z0) :
    Calls Try.prog 8 #[.slice a0 len0 cap0, .int .i64 P, .int .i64 B] w fun e w' => e = .returned (.bool true) ∧ Below w.heap.size w w' := by
  have hl0 := w0.lens
  have hP : -9223372036854775808 ≤ P ∧ P ≤ 9223372036854775807 := by simpa [Lit.wf, IntKind.min, IntKind.max, IntKind.signed, IntKind.bits] using wP
  have hB : -9223372036854775808 ≤ B ∧ B ≤ 9223372036854775807 := by simpa [Lit.wf, IntKind.min, IntKind.max, IntKind.signed, IntKind.bits] using wB
  obtain ⟨P0, P1⟩ := hP
  obtain ⟨B0, B1⟩ := hB
  clear wP wB
  by_cases hf : len0 ≤ 400
  · have FEW := Lib.hid ((few_any a0 len0 cap0 w hl0).1 hf)
    have W0 := Lib.hid w0
    clear w0 hf
    go_enter Try.func8, Try.ntmps8
    go_wp2_with fail
    refine FEW.out.mono ?_
    rintro e w' ⟨rfl, rfl⟩
    go_wp2_with fail
    refine (new_any a0 len0 cap0 z0 _ W0.out).mono ?_
    rintro e w2 ⟨rfl, hd2, hb2⟩
    have D2 := Lib.hid hd2; have C2 := Lib.hid (Chg.of_below (M := Ge w'.heap.size) hb2); clear hd2 hb2
    go_wp2_with fail
    refine (mcache_any w'.heap.size _ D2.out).mono ?_
    rintro e w3 ⟨S, W, L, rfl, g1, g2, g3, g4, g5, hd3, hc3⟩
    have hC := Lib.hid (show COk S W L from ⟨by omega, by omega, by omega, by omega, by omega, by omega⟩)
    have D3 := Lib.hid (hd3.chg (M := Non) ((Chg.refl w3).alloc (.cells #[.int .i64 S, .int .i64 W, .int .i64 L] 29)) (fun _ _ _ h => h))
    have C3 := Lib.hid ((C2.out.trans hc3 (fun k hk e => by omega)).alloc (.cells #[.int .i64 S, .int .i64 W, .int .i64 L] 29))
    have X3 := Lib.hid (Has.new w3 [.int .i64 S, .int .i64 W, .int .i64 L] 29)
    have l3 : w'.heap.size < w3.heap.size := by have := hd3.lt; omega
    clear hd3 hc3 C2 D2 FEW W0
    go_wp2_with fail
    refine (mlines2_any S W L hC.out w'.heap.size _ D3.out).mono ?_
    rintro e w4 ⟨oa, on, oc, ss, rfl, ho4, hv4, hd4, hc4⟩
    have V4 := Lib.hid hv4
    have l4 : w3.heap.size < w4.heap.size := by have := hc4.size; simp at this; omega
    have O4 := Lib.hid (OMat.loc.below (omat_own' (d := w'.heap.size) (cb := w3.heap.size) (bx := w4.heap.size) (ho4.ge (B' := w3.heap.size + 1) (by simp)).bt (by omega) (by omega) (Nat.le_refl _)) ((Below.refl _ _).alloc (Nat.le_refl _) (.cells #[.slice oa on oc] 33)))
    have X4 := Lib.hid ((hc4.has X3.out (by simp) (by omega)).old (o := .cells #[.slice oa on oc] 33) (by omega))
    have Y4 := Lib.hid (Has.new w4 [.slice oa on oc] 33)
    have C4 := Lib.hid ((C3.out.trans hc4 (fun k hk e => by omega)).alloc (.cells #[.slice oa on oc] 33))
    have D4 := Lib.hid (hd4.below ((Below.refl _ _).alloc (Nat.le_refl _) (.cells #[.slice oa on oc] 33)) (Nat.le_refl _))
    have ON := Lib.hid (show One w' w'.heap.size w3.heap.size w4.heap.size S W L (w4.alloc (.cells #[.slice oa on oc] 33)) oa on oc ss from ⟨X4.out, Y4.out, O4.out, D4.out, C4.out⟩)
    clear hv4 hd4 hc4 ho4 X3 C3 D3 X4 Y4 O4 C4 D4
    go_wp2
    obtain ⟨wv, hwv⟩ : ∃ wv, wv = w4.alloc (.cells #[.slice oa on oc] 33) := ⟨_, rfl⟩
    rw [← hwv] at ON ⊢
    clear hwv
    go_loopw [10] (fun i wr => ∃ (k : Nat) (xa : Option Addr) (xn xc : Nat) (ss : List (List Int)), k ≤ 30 ∧ i = .int .i64 k ∧ ValidP S W ss ∧ One w' w'.heap.size w3.heap.size w4.heap.size S W L wr xa xn xc ss) (fun i _ => 30 - (intOf i).toNat)
    case atStart => exact ⟨0, _, _, _, _, Nat.zero_le _, rfl, V4.out, ON.out⟩
    case round =>
      clear ON V4
      obtain ⟨k, xa, xn, xc, ss, hk, rfl, vv, on'⟩ := hrel
      have VV := Lib.hid vv; have ON := Lib.hid on'; clear vv on'
      have xl : xn = S := by have := (OMat.read (K := fun _ => True) (fun _ _ => trivial) ON.out.mx).hlen; have := VV.out.1; omega
      have hxn : xn ≤ 1000000 := by omega
      have XL := Lib.hid xl; clear xl
      go_upto_region 7 with fail
      go_cut [31] (fun s31 wx => ∃ b : Bool, s31 = .bool b ∧ (b = true → k < 30) ∧ One w' w'.heap.size w3.heap.size w4.heap.size S W L wx xa xn xc ss)
      case first =>
        by_cases hlt : k < 30
        · go_wp2_with fail
          refine (left_any w'.heap.size _ ON.out.dk).mono ?_
          rintro e w5 ⟨lb, rfl, hd5, hb5⟩
          go_wp2
          go_meet
          exact ⟨lb, rfl, fun _ => hlt, ON.out.below hb5⟩
        · go_wp2
          go_meet
          exact ⟨false, rfl, fun h => (by cases h), ON.out⟩
      case rest =>
      obtain ⟨lb, rfl, hlb, on2⟩ := hcut
      have O2 := Lib.hid on2
      clear on2 ON
      cases lb with
      | true =>
        have hlt : k < 30 := hlb rfl
        clear hlb
        go_upto_region 9 with fail
        go_cut [11, 12, 13] (fun s11 s12 s13 wx => ∃ A s p : Int, 0 ≤ A ∧ A < 60 ∧ s11 = .int .i64 A ∧ s12 = .int .i64 s ∧ s13 = .int .i64 p ∧ One w' w'.heap.size w3.heap.size w4.heap.size S W L wx xa xn xc ss)
        case first =>
          go_wp2_with fail
          refine (next_any w'.heap.size 60 (by omega) (by omega) _ O2.out.dk).mono ?_
          rintro e w6 ⟨r1, rfl, r10, r11, hd6, hb6⟩
          have O6 := Lib.hid (O2.out.next hb6.chg hd6 l3 (by omega))
          go_wp2_with fail
          refine (next_any w'.heap.size 6 (by omega) (by omega) _ O6.out.dk).mono ?_
          rintro e w7 ⟨r2, rfl, r20, r21, hd7, hb7⟩
          have O7 := Lib.hid (O6.out.next hb7.chg hd7 l3 (by omega))
          go_wp2_with fail
          refine (next_any w'.heap.size 5 (by omega) (by omega) _ O7.out.dk).mono ?_
          rintro e w8 ⟨r3, rfl, r30, r31, hd8, hb8⟩
          have O8 := Lib.hid (O7.out.next hb8.chg hd8 l3 (by omega))
          go_wp2
          go_meet
          exact ⟨r1, _, _, r10, r11, rfl, rfl, rfl, O8.out⟩
        case rest =>
        obtain ⟨A, s, p, A0, A1, rfl, rfl, rfl, on3⟩ := hcut
        have O3 := Lib.hid on3
        clear on3 O2
        have c0 := O3.out.hc.cell 0 _ rfl; have c1 := O3.out.hc.cell 1 _ rfl; have c2 := O3.out.hc.cell 2 _ rfl; have x0 := O3.out.hx.cell 0 _ rfl
        have AG := Lib.hid (show ∀ (w : World) (ra4 : Int) (b : Nat), Mat (fun _ => True) w xa xn xc ss → (Ints (fun _ => True) w (some ⟨b, 0, none⟩) 4 4 [A, A + 1, A, ra4] ∧ ∀ z ∈ [A, A + 1, A, ra4], 0 ≤ z ∧ z ≤ 1048576) → Calls Try.prog 23 #[CV S W L, .agg #[.slice xa xn xc], .int .i64 A, .int .i64 s, .int .i64 p, .slice (some ⟨b, 0, none⟩) 4 4] w fun e w' => e = .returned (.bool true) ∧ Below w.heap.size w w' from fun w ra4 b r h => agree_any S W L hC.out (fun _ => True) xa xn xc ss w r (by omega) A A0 (by omega) s p (fun _ => True) (some ⟨b, 0, none⟩) 4 4 [A, A + 1, A, ra4] h.1 h.2)
        have q1 : IntKind.i64.wrap (A + 1) = A + 1 := IntWalk.i64_in _ (by omega)
        go_upto_region 10 with fail
        go_cut [55] (fun s55 wx => s55 = .bool false ∧ One w' w'.heap.size w3.heap.size w4.heap.size S W L wx xa xn xc ss)
        case first =>
          go_region_held3 (fun w' => w'.cell? ⟨w3.heap.size, 0, none⟩ = some (.int .i64 S) ∧ w'.cell? ⟨w3.heap.size, 1, none⟩ = some (.int .i64 W) ∧ w'.cell? ⟨w3.heap.size, 2, none⟩ = some (.int .i64 L) ∧ w'.cell? ⟨w4.heap.size, 0, none⟩ = some (.slice xa xn xc)) (((try dsimp only); (try go_split_ands); (repeat' apply And.intro); all_goals (first | (with_reducible assumption) | (refine cell_drew ?_; with_reducible assumption))))
            (first
              | (go_at_call 15; refine (next_any w'.heap.size 60 (by omega) (by omega) _ (by exact O3.out.dk.k_drew)).mono ?_; rintro e w9 ⟨r4, rfl, r40, r41, hd9, hb9⟩; have P9 := Lib.hid ((O3.out.below ((Below.refl _ _).drew)).next hb9.chg hd9 l3 (by omega)); have u0 := P9.out.hc.cell 0 _ rfl; have u1 := P9.out.hc.cell 1 _ rfl; have u2 := P9.out.hc.cell 2 _ rfl; have u3 := P9.out.hx.cell 0 _ rfl; have O9 := Lib.hid (P9.out.below ((Below.refl _ _).alloc (Nat.le_refl _) (.cells #[.int .i64 A, .int .i64 (A + 1), .int .i64 A, .int .i64 r4] 3))); have v0 := O9.out.hc.cell 0 _ rfl; have v1 := O9.out.hc.cell 1 _ rfl; have v2 := O9.out.hc.cell 2 _ rfl; have v3 := O9.out.hx.cell 0 _ rfl; have AGR := Lib.hid (AG.out _ r4 w9.heap.size (OMat.read (fun _ _ => trivial) O9.out.mx) (ints_blk4 (Blk.new w9 [.int .i64 A, .int .i64 (A + 1), .int .i64 A, .int .i64 r4] 3) (by omega) (by omega))))
              | (go_at_call 23; refine AGR.out.mono ?_; rintro e wz ⟨rfl, hbz⟩; have Q9 := Lib.hid (O9.out.below hbz); have y0 := Q9.out.hc.cell 0 _ rfl; have y1 := Q9.out.hc.cell 1 _ rfl; have y2 := Q9.out.hc.cell 2 _ rfl; have y3 := Q9.out.hx.cell 0 _ rfl))
          all_goals
            go_wp2_with fail
            go_meet
            exact ⟨rfl, Q9.out⟩
        case rest =>
        obtain ⟨rfl, on4⟩ := hcut
        have O4 := Lib.hid on4
        clear on4 O3 c0 c1 c2 x0 AG q1
        go_wp2_with fail
        refine (next_any w'.heap.size 6 (by omega) (by omega) _ O4.out.dk).mono ?_
        rintro e w6 ⟨r5, rfl, r50, r51, hd6, hb6⟩
        have O6 := Lib.hid (O4.out.next hb6.chg hd6 l3 (by omega))
        clear O4 hd6 hb6
        have c0 := O6.out.hc.cell 0 _ rfl; have c1 := O6.out.hc.cell 1 _ rfl; have c2 := O6.out.hc.cell 2 _ rfl; have x0 := O6.out.hx.cell 0 _ rfl
        by_cases hr5 : r5 = 5
        · have hrb : (r5 == 5) = true := by simp [hr5]
          by_cases hin : 0 ≤ s ∧ s < S ∧ 0 ≤ p ∧ p < W
          · obtain ⟨sn, rfl⟩ := Int.eq_ofNat_of_zero_le hin.1
            obtain ⟨pn, rfl⟩ := Int.eq_ofNat_of_zero_le hin.2.2.1
            obtain ⟨x, hx⟩ : ∃ x, ss[sn]? = some x := ⟨_, List.getElem?_eq_getElem (by have := VV.out.1; have := hin.2.1; omega)⟩
            have VU := Lib.hid (drp_valid (p := pn) VV.out hx (by have := (VV.out.2 sn x hx).1; omega))
            have RD := Lib.hid (fun w r => rdrop_ok S W L hC.out (fun _ => True) xa xn xc ss w r VV.out sn pn x hx (by omega))
            clear hx hin
            go_wp2_with fail
            refine (RD.out _ (OMat.read (fun _ _ => trivial) O6.out.mx)).mono ?_
            rintro e w8 ⟨ua, un, uc, rfl, ho8, hb8⟩
            have O8 := Lib.hid (O6.out.put hb8 (omat_own ho8 (by have := O6.out.dk.lt; omega) (by have := O6.out.hc.lt (by simp); omega) (by have := O6.out.hx.lt (by simp); omega)) l3 l4)
            have hx8 := O6.out.hx.below hb8 (O6.out.hx.lt (by simp))
            clear c0 c1 c2 x0 ho8 hb8 RD
            have x0 := hx8.cell 0 _ rfl; have xf := hx8.free; have lx := hx8.lt (by simp)
            go_wp2
            go_roundw
            case rel => exact ⟨k + 1, ua, un, uc, _, by omega, by go_num, VU.out, O8.out⟩
            case measure => simp [intOf]; omega
          · have RD := Lib.hid (fun w r => rdrop_range S W L hC.out (fun _ => True) xa xn xc ss w r VV.out s p hin)
            clear hin
            go_wp2_with fail
            refine (RD.out _ (OMat.read (fun _ _ => trivial) O6.out.mx)).mono ?_
            rintro e w8 ⟨rfl, hb8⟩
            have O8 := Lib.hid (O6.out.put hb8 (OMat.loc.below O6.out.mx hb8) l3 l4)
            have hx8 := O6.out.hx.below hb8 (O6.out.hx.lt (by simp))
            clear c0 c1 c2 x0 hb8 RD
            have x0 := hx8.cell 0 _ rfl; have xf := hx8.free; have lx := hx8.lt (by simp)
            go_wp2
            go_roundw
            case rel => exact ⟨k + 1, xa, xn, xc, ss, by omega, by go_num, VV.out, O8.out⟩
            case measure => simp [intOf]; omega
        · have hrb : (r5 == 5) = false := by simp [hr5]
          have VU := Lib.hid (tch_valid hC.out VV.out A0 (show A ≤ 1048576 by omega))
          have RD := Lib.hid (fun w r => rtouch_ok S W L hC.out (fun _ => True) xa xn xc ss w r VV.out A A0 (by omega))
          go_wp2_with fail
          refine (RD.out _ (OMat.read (fun _ _ => trivial) O6.out.mx)).mono ?_
          rintro e w8 ⟨ua, un, uc, rfl, ho8, hb8⟩
          have O8 := Lib.hid (O6.out.put hb8 (omat_own ho8 (by have := O6.out.dk.lt; omega) (by have := O6.out.hc.lt (by simp); omega) (by have := O6.out.hx.lt (by simp); omega)) l3 l4)
          have hx8 := O6.out.hx.below hb8 (O6.out.hx.lt (by simp))
          clear c0 c1 c2 x0 ho8 hb8 RD
          have x0 := hx8.cell 0 _ rfl; have xf := hx8.free; have lx := hx8.lt (by simp)
          go_wp2
          go_roundw
          case rel => exact ⟨k + 1, ua, un, uc, _, by omega, by go_num, VU.out, O8.out⟩
          case measure => simp [intOf]; omega
      | false =>
        clear hlb hk
        have c0 := O2.out.hc.cell 0 _ rfl; have c1 := O2.out.hc.cell 1 _ rfl; have c2 := O2.out.hc.cell 2 _ rfl; have x0 := O2.out.hx.cell 0 _ rfl
        go_upto_if 78 with fail
        go_cut [14] (fun s14 wx => ∃ ss', One w' w'.heap.size w3.heap.size w4.heap.size S W L wx xa xn xc ss')
        case first =>
          by_cases hS : S = 0
          · have h0 : ¬ 0 < xn := by have := XL.out; omega
            have h0' : ¬ (0 : Int) < (xn : Int) := by omega
            go_wp2
            go_meet
            exact ⟨ss, O2.out⟩
          · have h0 : 0 < xn := by have := XL.out; omega
            have h0' : (0 : Int) < (xn : Int) := by omega
            obtain ⟨q, hq⟩ : ∃ q : Nat, P % (xn : Int) = (q : Int) := ⟨(P % (xn : Int)).toNat, by have := Int.emod_nonneg P (show (xn : Int) ≠ 0 by omega); omega⟩
            have hql : (q : Int) < (xn : Int) := by rw [← hq]; exact Int.emod_lt_of_pos _ h0'
            have hq0 : (0 : Int) ≤ (q : Int) := by omega
            obtain ⟨i, hi⟩ : ∃ i : Nat, B % (W : Int) = (i : Int) := ⟨(B % (W : Int)).toNat, by have := Int.emod_nonneg B (show (W : Int) ≠ 0 by omega); omega⟩
            have hil : (i : Int) < (W : Int) := by rw [← hi]; exact Int.emod_lt_of_pos _ (by omega)
            have hi0 : (0 : Int) ≤ (i : Int) := by omega
            obtain ⟨v, hv⟩ : ∃ v : Int, P % 40 = v := ⟨_, rfl⟩
            have hv0 : 0 ≤ v := by rw [← hv]; exact Int.emod_nonneg _ (by omega)
            have hv1 : v < 40 := by rw [← hv]; exact Int.emod_lt_of_pos _ (by omega)
            have MD1 := Lib.hid (fun w => (show Calls Try.prog 26 #[.int .i64 P, .int .i64 (xn : Int)] w fun e w' => e = .returned (.int .i64 (q : Int)) ∧ w' = w from hq ▸ dmod_any P xn h0' (by omega) P0 P1 w))
            have MD2 := Lib.hid (fun w => (show Calls Try.prog 26 #[.int .i64 B, .int .i64 (W : Int)] w fun e w' => e = .returned (.int .i64 (i : Int)) ∧ w' = w from hi ▸ dmod_any B W (by omega) (by omega) B0 B1 w))
            have MD3 := Lib.hid (fun w => (show Calls Try.prog 26 #[.int .i64 P, .int .i64 40] w fun e w' => e = .returned (.int .i64 v) ∧ w' = w from hv ▸ dmod_any P 40 (by omega) (by omega) P0 P1 w))
            obtain ⟨x, hx⟩ : ∃ x, ss[q]? = some x := ⟨_, List.getElem?_eq_getElem (by have := VV.out.1; have := XL.out; omega)⟩
            have hxW : x.length = W := by have := (VV.out.2 q x hx).1; omega
            obtain ⟨b, rb, rc, sp, f, op⟩ := OMat.openAt O2.out.mx hx (by omega)
            obtain rfl := op.ea
            have hbc := op.cell
            rw [hxW] at hbc
            have OP := Lib.hid op; have HXW := Lib.hid hxW
            clear op hx hxW hq hi hv
            go_upto_region 16 with fail
            go_quiet ((go_at_call 26; exact Calls.quiet_of_same (MD1.out _)))
            have BQ := Lib.hid (OP.out.blk.drewN nq)
            clear c0 c1 c2 x0 hbc
            go_wp2_with fail
            refine (MD2.out _).mono ?_
            rintro e wq ⟨rfl, rfl⟩
            go_wp2_with fail
            refine (MD3.out _).mono ?_
            rintro e wq ⟨rfl, rfl⟩
            obtain ⟨v1, e1⟩ := BQ.out.some0 (i := i) (by rw [List.length_append, ivs_length]; have := HXW.out; omega)
            have ef := BQ.out.free i; have el := BQ.out.lt
            have q9 : IntKind.i64.wrap (v - 2) = v - 2 := IntWalk.i64_in _ (by omega)
            go_wp2
            go_meet
            have hc : Chg f wc ((wc.drewN nq).setCell ⟨rb, i, none⟩ (.int .i64 (v - 2))) := ((Chg.refl wc).drewN nq).setCell (fun _ => OP.out.own) _
            refine ⟨ss.set q (x.set i (v - 2)), O2.out.rows hc OP.out.sub (OP.out.back _ _ hc (by rw [List.length_set]) ((BQ.out.set i _).at ?_) ?_)⟩
            · rw [List.set_append_left _ _ (by rw [ivs_length]; have := HXW.out; omega)]
              unfold ivs
              rw [List.map_set]; rfl
            · intro z hz
              rcases List.mem_or_eq_of_mem_set hz with hz | rfl
              · exact OP.out.rng z hz
              · omega
        case rest =>
        obtain ⟨ss', on5⟩ := hcut
        have O5 := Lib.hid on5
        clear on5 O2 c0 c1 c2 x0 VV
        have c0 := O5.out.hc.cell 0 _ rfl; have c1 := O5.out.hc.cell 1 _ rfl; have c2 := O5.out.hc.cell 2 _ rfl; have x0 := O5.out.hx.cell 0 _ rfl
        have AG := Lib.hid (fun w r b => agree_any S W L hC.out (fun _ => True) xa xn xc ss' w r (by omega) 7 (by omega) (by omega) 0 0 (fun _ => True) (some ⟨b, 0, none⟩) 3 3 [1, 2, 3])
        obtain ⟨wy, hwy⟩ : ∃ wy : World, wy = wc := ⟨_, rfl⟩
        rw [← hwy] at O5 c0 c1 c2 x0 ⊢
        clear hwy
        have O9 := Lib.hid (O5.out.below ((Below.refl _ _).alloc (Nat.le_refl _) (.cells #[.int .i64 1, .int .i64 2, .int .i64 3] 3)))
        have B9 := Lib.hid (show Blk (wy.alloc (.cells #[.int .i64 1, .int .i64 2, .int .i64 3] 3)) wy.heap.size 3 (ivs [1, 2, 3]) from Blk.new wy _ _)
        go_wp2_with fail
        refine (AG.out _ (OMat.read (fun _ _ => trivial) O9.out.mx) wy.heap.size (ints_lit (zs := [1, 2, 3]) B9.out (by decide) (by decide)) (by decide)).mono ?_
        rintro e wz ⟨rfl, hbz⟩
        have O10 := Lib.hid (O9.out.below hbz)
        clear c0 c1 c2 x0
        go_wp2_with fail
        refine (awake_any _).mono ?_
        rintro e wy2 ⟨rfl, hby⟩
        go_wp2
        go_ret
        exact ⟨rfl, (O10.out.chg.tr hby).below (fun j hj h => by unfold Ge at h; omega) (Nat.le_refl _)⟩
  · have FEW := Lib.hid ((few_any a0 len0 cap0 w hl0).2 hf)
    clear w0 hf
    go_enter Try.func8, Try.ntmps8
    go_wp2_with fail
    refine FEW.out.mono ?_
    rintro e w' ⟨rfl, rfl⟩
    go_wp2_with fail
    refine (awake_any _).mono ?_
    rintro e w9 ⟨rfl, hb9⟩
    go_wp2
    go_ret
    exact ⟨rfl, hb9⟩
end Go.Proofs.Ytdkpfifnegndmaa
