/-
  timeboundlaw22.CacheWithin returns true, whatever its list and numbers are. No condition.
-/
import Derived.Test.YtdkpfifnegndmaaCacheN
import Derived.Test.YtdkpfifnegndmaaCacheL
import Derived.Test.YtdkpfifnegndmaaCacheO
import Derived.Test.YtdkpfifnegndmaaCacheP
import Derived.Test.YtdkpfifnegndmaaKeep
import Derived.Test.YtdkpfifnegndmaaQuiet
import Derived.Deep.DeepCutAuto
namespace Go.Proofs.Ytdkpfifnegndmaa
open Go.RowKit

theorem mul_line (n L : Nat) (hL : 1 ≤ L) (r : Int) (h0 : 0 ≤ r) (h1 : r < L) : ((n : Int) * (L : Int) + r) / (L : Int) = n := by
  rw [Int.add_comm, Int.add_mul_ediv_right _ _ (by omega), Int.ediv_eq_zero_of_lt h0 h1]; omega

theorem tch_other {S L : Nat} {ss : List (List Int)} {n : Nat} {m : Int} (hm : m / (L : Int) = n) (hS : 1 ≤ S) {s : Nat} (hs : s ≠ ((n : Int) % (S : Int)).toNat) : (tch S L ss m)[s]? = ss[s]? := by
  unfold tch accS
  rw [if_neg (by omega), hm, List.getElem?_set_ne (fun e => hs e.symm)]
theorem tch_own {S W L : Nat} {ss : List (List Int)} {n : Nat} {m : Int} (hm : m / (L : Int) = n) (hS : 1 ≤ S) (hv : ValidP S W ss) : ∃ x, (tch S L ss m)[((n : Int) % (S : Int)).toNat]? = some x ∧ x[0]? = some (n : Int) := by
  unfold tch accS
  have := hv.1
  have := setof_lt hS n
  rw [if_neg (by omega), hm, List.getElem?_set_self (by omega)]
  exact ⟨_, rfl, rfl⟩

set_option maxRecDepth 100000 in
set_option maxHeartbeats 1000000 in
theorem within_law (a0 : Option Addr) (len0 cap0 : Nat) (z0 : List Int) (A O : Int) (wA : (Lit.int .u8 A).wf = true) (wO : (Lit.int .u8 O).wf = true) (w : World) (w0 : IsRow .i64 w a0 len0 cap0 z0) :
    Calls Try.prog 7 #[.slice a0 len0 cap0, .int .u8 A, .int .u8 O] w fun e w' => e = .returned (.bool true) ∧ Below w.heap.size w w' := by
  have hl0 := w0.lens
  have hA : 0 ≤ A ∧ A ≤ 255 := by simpa [Lit.wf, IntKind.min, IntKind.max, IntKind.signed, IntKind.bits] using wA
  have hO : 0 ≤ O ∧ O ≤ 255 := by simpa [Lit.wf, IntKind.min, IntKind.max, IntKind.signed, IntKind.bits] using wO
  obtain ⟨A0, A1⟩ := hA
  obtain ⟨O0, O1⟩ := hO
  clear wA wO
  by_cases hf : len0 ≤ 400
  · have FEW := Lib.hid ((few_any a0 len0 cap0 w hl0).1 hf)
    have W0 := Lib.hid w0
    clear w0 hf
    go_enter Try.func7, Try.ntmps7
    go_wp2_with fail
    refine FEW.out.mono ?_
    rintro e w' ⟨rfl, rfl⟩
    go_wp2_with fail
    refine (new_any a0 len0 cap0 z0 _ W0.out).mono ?_
    rintro e w2 ⟨rfl, hd2, hb2⟩
    have D2 := Lib.hid hd2; have C2 := Lib.hid (Chg.of_below (M := Ge w'.heap.size) hb2); clear hd2 hb2
    go_wp2_with fail
    refine (mcache_any w'.heap.size _ D2.out).mono ?_
    rintro e w3 ⟨S, W, L, rfl, g1, g2, g3, g4, g5, hd3, hc3⟩
    have hC := Lib.hid (show COk S W L from ⟨by omega, by omega, by omega, by omega, by omega, by omega⟩)
    have D3 := Lib.hid (hd3.chg (M := Non) ((Chg.refl w3).alloc (.cells #[.int .i64 S, .int .i64 W, .int .i64 L] 29)) (fun _ _ _ h => h))
    have C3 := Lib.hid ((C2.out.trans hc3 (fun k hk e => by omega)).alloc (.cells #[.int .i64 S, .int .i64 W, .int .i64 L] 29))
    have X3 := Lib.hid (Has.new w3 [.int .i64 S, .int .i64 W, .int .i64 L] 29)
    have l3 : w'.heap.size < w3.heap.size := by have := hd3.lt; omega
    clear hd3 hc3
    go_wp2_with fail
    refine (mlines2_any S W L hC.out w'.heap.size _ D3.out).mono ?_
    rintro e w4 ⟨oa, on, oc, ss, rfl, ho4, hv4, hd4, hc4⟩
    have V4 := Lib.hid hv4
    have O5 := Lib.hid (OMat.loc.chg (M := Non) (ho4.ge (B' := w3.heap.size + 1) (by simp)).bt ((Chg.refl w4).alloc (.cells #[.slice oa on oc] 33)) (fun _ _ _ h => h))
    have X4 := Lib.hid ((hc4.has X3.out (by simp) (by omega)).old (o := .cells #[.slice oa on oc] 33) (by have := hc4.size; simp at this; omega))
    have Y4 := Lib.hid (Has.new w4 [.slice oa on oc] 33)
    have C4 := Lib.hid ((C3.out.trans hc4 (fun k hk e => by omega)).alloc (.cells #[.slice oa on oc] 33))
    have l4 : w3.heap.size < w4.heap.size := by have := hc4.size; simp at this; omega
    have hon : on ≤ 1000000 := by have := (OMat.read (K := fun _ => True) (fun _ _ => trivial) O5.out).hlen; have := V4.out.1; omega
    clear hv4 hd4 hc4 ho4 X3 C3 C2 D2 D3
    have c0 := X4.out.cell 0 _ rfl; have c1 := X4.out.cell 1 _ rfl; have c2 := X4.out.cell 2 _ rfl; have lx := X4.out.lt (by simp); have y0 := Y4.out.cell 0 _ rfl; have ly := Y4.out.lt (by simp)
    have hln : A / (L : Int) = ((A / (L : Int)).toNat : Nat) := by have := Int.ediv_nonneg A0 (show 0 ≤ (L : Int) by omega); omega
    have hnb : (A / (L : Int)).toNat ≤ 255 := by have := Int.ediv_le_self (L : Int) A0; omega
    have cl := fun w => line_any S W L hC.out A A0 (by omega) w
    rw [hln] at cl
    obtain ⟨n, hn⟩ : ∃ n, n = (A / (L : Int)).toNat := ⟨_, rfl⟩
    rw [← hn] at cl hnb
    have CL := Lib.hid cl
    clear cl hn hln
    have hm0 : 0 ≤ (n : Int) * (L : Int) := Int.mul_nonneg (by omega) (by omega)
    have hm1 : (n : Int) * (L : Int) ≤ 1020 := Int.le_trans (Int.mul_le_mul_of_nonneg_left (c := (n : Int)) (show (L : Int) ≤ 4 by omega) (by omega)) (by omega)
    have hr0 : 0 ≤ O % (L : Int) := Int.emod_nonneg _ (by omega)
    have hr1 : O % (L : Int) < (L : Int) := Int.emod_lt_of_pos _ (by omega)
    have hd1 := mul_line n L g4 0 (by omega) (by omega)
    have hd2 := mul_line n L g4 (O % (L : Int)) hr0 hr1
    rw [Int.add_zero] at hd1
    have e12 := tch_line (S := S) (L := L) (ss := ss) (hd2.trans hd1.symm)
    have V5 := Lib.hid (tch_valid (n := (n : Int) * (L : Int)) hC.out V4.out hm0 (by omega))
    have T1 := Lib.hid (fun w r => touch_ok S W L hC.out (fun _ => True) oa on oc ss w r V4.out ((n : Int) * (L : Int)) hm0 (by omega))
    have t2 := fun w r => touch_ok S W L hC.out (fun _ => True) oa on oc ss w r V4.out ((n : Int) * (L : Int) + O % (L : Int)) (by omega) (by omega)
    rw [e12.1, e12.2] at t2
    have T2 := Lib.hid t2
    have hD1 := Lib.hid hd1
    clear t2 e12 hd1 hd2
    obtain ⟨tt, htt⟩ : ∃ tt, tt = tch S L ss ((n : Int) * (L : Int)) := ⟨_, rfl⟩
    obtain ⟨hit, hhit⟩ : ∃ hit, hit = thit S L ss ((n : Int) * (L : Int)) := ⟨_, rfl⟩
    rw [← htt] at T1 T2 V5
    rw [← hhit] at T1 T2
    have HTT := Lib.hid htt; clear htt hhit
    go_wp2_with fail
    refine (CL.out _).mono ?_
    rintro e w5 ⟨rfl, hb5⟩
    have X5 := Lib.hid (X4.out.below hb5 lx); have Y5 := Lib.hid (Y4.out.below hb5 ly); have O6 := Lib.hid (OMat.loc.below O5.out hb5); have C5 := Lib.hid (C4.out.tr hb5)
    clear c0 c1 c2 lx y0 ly hb5
    have c0 := X5.out.cell 0 _ rfl; have c1 := X5.out.cell 1 _ rfl; have c2 := X5.out.cell 2 _ rfl; have lx := X5.out.lt (by simp); have y0 := Y5.out.cell 0 _ rfl; have ly := Y5.out.lt (by simp)
    go_wp2_with fail
    refine (T1.out _ (OMat.read (fun _ _ => trivial) O6.out)).mono ?_
    rintro e w6 ⟨ta, tn, tc, rfl, ho6, hb6⟩
    have X6 := Lib.hid ((X5.out.below hb6 lx).old (o := .cells #[.slice ta tn tc] 33) (Nat.lt_of_lt_of_le lx hb6.size)); have Y6 := Lib.hid ((Y5.out.below hb6 ly).old (o := .cells #[.slice ta tn tc] 33) (Nat.lt_of_lt_of_le ly hb6.size))
    have al6 : Below w6.heap.size w6 (w6.alloc (.cells #[.slice ta tn tc] 33)) := (Below.refl _ _).alloc (Nat.le_refl _) _
    have O7 := Lib.hid (OMat.loc.below (OMat.loc.below O6.out hb6) al6); have C6 := Lib.hid ((C5.out.tr hb6).tr al6)
    have A6 := Lib.hid (OMat.loc.below ho6 al6)
    have Z6 := Lib.hid (Has.new w6 [.slice ta tn tc] 33)
    clear c0 c1 c2 lx y0 ly hb6 ho6 al6
    have c0 := X6.out.cell 0 _ rfl; have c1 := X6.out.cell 1 _ rfl; have c2 := X6.out.cell 2 _ rfl; have lx := X6.out.lt (by simp); have y0 := Y6.out.cell 0 _ rfl; have ly := Y6.out.lt (by simp)
    go_upto_region 8 with fail
    obtain ⟨wv, hwv⟩ : ∃ wv, wv = w6.alloc (.cells #[.slice ta tn tc] 33) := ⟨_, rfl⟩
    rw [← hwv] at X6 Y6 O7 C6 A6 Z6 c0 c1 c2 lx y0 ly ⊢
    clear hwv
    go_cut [14, 15, 16] (fun s14 s15 s16 wx => ∃ b xa xn xc, s14 = .pointer (some ⟨b, 0, none⟩) ∧ s15 = .bool hit ∧ s16 = .int .i64 0 ∧ Has wx b [.slice xa xn xc] ∧ Mat (fun _ => True) wx xa xn xc tt ∧ Chg Non wv wx)
    case first =>
      have q1 : IntKind.i64.wrap ((n : Int) * (L : Int)) = (n : Int) * (L : Int) := IntWalk.i64_in _ (by omega)
      have q2 : O.tmod (L : Int) = O % (L : Int) := Int.tmod_eq_emod_of_nonneg O0
      have q3 : IntKind.i64.wrap ((n : Int) * (L : Int) + O % (L : Int)) = (n : Int) * (L : Int) + O % (L : Int) := IntWalk.i64_in _ (by omega)
      have q4 : ¬ L = 0 := by omega
      have q5 : IntKind.i64.wrap (O % (L : Int)) = O % (L : Int) := IntWalk.i64_in _ (by omega)
      have q6 : IntKind.i64.wrap O = O := IntWalk.i64_in _ (by omega)
      go_region_held3 (fun w' => w'.cell? ⟨w3.heap.size, 0, none⟩ = some (.int .i64 S) ∧ w'.cell? ⟨w3.heap.size, 1, none⟩ = some (.int .i64 W) ∧ w'.cell? ⟨w3.heap.size, 2, none⟩ = some (.int .i64 L) ∧ w'.cell? ⟨w4.heap.size, 0, none⟩ = some (.slice oa on oc)) (((try dsimp only); (try go_split_ands); (repeat' apply And.intro); all_goals (repeat (first | assumption | (refine cell_later hb8 ?_) | (refine cell_alloc (by first | assumption | omega) ?_) | (refine cell_set (by omega) ?_) | (refine cell_drew ?_)))))
        (first
          | (go_at_call 16; refine (T2.out _ (by first | exact OMat.read (fun _ _ => trivial) (OMat.loc.below O7.out ((Below.refl _ _).drew)) | exact OMat.read (fun _ _ => trivial) (OMat.loc.below O7.out (((Below.refl _ _).drew).alloc (Nat.le_refl _) _)))).mono ?_; rintro e w8 ⟨xa, xn, xc, rfl, ho8, hb8⟩; have l8 := Nat.lt_of_lt_of_le lx (Nat.le_trans (by first | exact Nat.le_refl _ | (simp; done)) hb8.size); have m8 := Nat.lt_of_lt_of_le ly (Nat.le_trans (by first | exact Nat.le_refl _ | (simp; done)) hb8.size); try (have x8 := ((Has.new wv.drew [.slice none 0 0] 33).below hb8 (by simp)).at' (show _ = wv.heap.size from rfl); have e8 := x8.cell 0 _ rfl; have f8 := x8.free; have n8 := x8.lt (by simp))))
      all_goals
        go_wp2_with fail
        go_meet
        first
          | exact ⟨w8.heap.size, xa, xn, xc, rfl, rfl, rfl, Has.new w8 _ _, OMat.read (fun _ _ => trivial) (OMat.loc.below ho8 ((Below.refl _ _).alloc (Nat.le_refl _) _)), ((Chg.refl wv).drew.tr hb8).alloc _⟩
          | exact ⟨wv.heap.size, xa, xn, xc, rfl, rfl, rfl, x8.set0 _, OMat.read (fun _ _ => trivial) (OMat.loc.chg (M := fun j => j = wv.heap.size) ho8 (Chg.setCell (M := fun j => j = wv.heap.size) (Chg.refl _) (fun _ => rfl) _) (fun j hj _ e => by unfold Ge at hj; simp at hj; omega)), (((Chg.refl wv).drew.alloc _).tr hb8).setCell (fun h => by simp at h) _⟩
    case rest =>
      obtain ⟨b, xa, xn, xc, rfl, rfl, rfl, hx, mx, hcc⟩ := hcut
      have X7 := Lib.hid (hcc.has X6.out lx id); have Y7 := Lib.hid (hcc.has Y6.out ly id); have Z7 := Lib.hid (hcc.has Z6.out (Z6.out.lt (by simp)) id)
      have O8 := Lib.hid (OMat.read (K := fun _ => True) (fun _ _ => trivial) (OMat.loc.chg O7.out hcc (fun _ _ _ h => h))); have A7 := Lib.hid (OMat.read (K := fun _ => True) (fun _ _ => trivial) (OMat.loc.chg A6.out hcc (fun _ _ _ h => h)))
      have MX := Lib.hid mx; have HX := Lib.hid hx; have C7 := Lib.hid (C6.out.trans hcc (fun _ _ h => h.elim))
      clear c0 c1 c2 lx y0 ly hx mx hcc X6 Y6 Z6 O7 A6 C6 X5 Y5 O6 C5 X4 Y4 O5 C4
      have htn : tn = S := by have := A7.out.hlen; have := V5.out.1; omega
      have hon' : on = S := by have := O8.out.hlen; have := V4.out.1; omega
      subst htn
      have hts : ((tn : Int) != (tn : Int)) = false := by simp
      have hh : (hit != hit) = false := by cases hit <;> rfl
      have c0 := X7.out.cell 0 _ rfl; have c1 := X7.out.cell 1 _ rfl; have c2 := X7.out.cell 2 _ rfl; have lx := X7.out.lt (by simp); have z0 := Z7.out.cell 0 _ rfl; have lz := Z7.out.lt (by simp); have h0 := HX.out.cell 0 _ rfl; have lh := HX.out.lt (by simp)
      go_wp2_with fail
      refine (same_yes (fun _ => True) (fun _ => True) _ _ _ _ _ _ tt _ A7.out MX.out).mono ?_
      rintro e w9 ⟨rfl, hb9⟩
      have X9 := Lib.hid (X7.out.below hb9 lx); have Y9 := Lib.hid (Y7.out.below hb9 (Y7.out.lt (by simp))); have Z9 := Lib.hid (Z7.out.below hb9 lz); have O9 := Lib.hid (O8.out.below hb9); have A9 := Lib.hid (A7.out.below hb9); have C9 := Lib.hid (C7.out.tr hb9)
      clear c0 c1 c2 lx z0 lz h0 lh hb9
      have c0 := X9.out.cell 0 _ rfl; have z0 := Z9.out.cell 0 _ rfl; have lz := Z9.out.lt (by simp); have lx := X9.out.lt (by simp)
      go_wp2
      clear c0 z0 lz lx
      obtain ⟨wd, rfl⟩ : ∃ wd : World, wd = w9 := ⟨_, rfl⟩
      go_loopw [17] (fun i wr => ∃ k : Nat, k ≤ tn ∧ i = .int .i64 k ∧ Chg Non wd wr) (fun i _ => tn - (intOf i).toNat)
      case atStart => exact ⟨0, Nat.zero_le _, rfl, Chg.refl _⟩
      case round =>
        obtain ⟨k, hk, rfl, n1⟩ := hrel
        obtain ⟨wo, rfl⟩ : ∃ wo : World, wo = wr := ⟨_, rfl⟩
        have N1 := Lib.hid n1; clear n1
        have XX := Lib.hid (N1.out.has X9.out (X9.out.lt (by simp)) id)
        have c0 := XX.out.cell 0 _ rfl; have lx := XX.out.lt (by simp)
        by_cases hlt : k < tn
        · have q0 : (0 : Int) ≤ (k : Int) := by omega
          have q1 : (k : Int) < (tn : Int) := by omega
          obtain ⟨q, hq⟩ : ∃ q, q = ((n : Int) % (tn : Int)).toNat := ⟨_, rfl⟩
          have hqq : (n : Int) % (tn : Int) = (q : Nat) := by have := Int.emod_nonneg (n : Int) (show (tn : Int) ≠ 0 by omega); omega
          have cs := fun w => (show Calls Try.prog 21 #[CV tn W L, .int .i64 n] w fun e w' => e = .returned (.int .i64 (q : Int)) ∧ Below w.heap.size w w' from hqq ▸ setof_any tn W L hC.out (by omega) n (by omega) (by omega) w)
          have CS := Lib.hid cs
          have hoth := fun (h : k ≠ q) => tch_other (S := tn) (L := L) (ss := ss) (m := (n : Int) * (L : Int)) hD1.out (by omega) (hq ▸ h)
          have hown := tch_own (S := tn) (W := W) (L := L) (ss := ss) (m := (n : Int) * (L : Int)) hD1.out (by omega) V4.out
          rw [← HTT.out] at hoth hown
          rw [← hq] at hown
          have HO := Lib.hid hoth; have HW := Lib.hid hown
          clear cs hq hqq hoth hown
          obtain ⟨b1, o1, x, ra, rl, rc, rfl, hx, hcx, hrx, _, hbx⟩ := Rows.get A9.out hlt
          obtain ⟨b2, o2, y, sa, sl, sc, rfl, hy, hcy, hry, _, hby⟩ := Rows.get O9.out (show k < on by omega)
          have hxW := (V5.out.2 k x hx).1
          have hyW := (V4.out.2 k y hy).1
          obtain rfl : rl = W := by have := hrx.hlen; omega
          obtain rfl : sl = rl := by have := hry.hlen; omega
          have hrc : (sl : Int) ≤ 3 := by omega
          have HXX := Lib.hid hx; have HYY := Lib.hid hy; have RX := Lib.hid hrx; have RY := Lib.hid hry; have HCX := Lib.hid hcx; have HCY := Lib.hid hcy; have HHX := Lib.hid hbx; have HHY := Lib.hid hby
          clear hx hy hrx hry hcx hcy hxW hyW hbx hby
          go_wp2
          clear c0 lx
          go_loopw [18] (fun j wr => ∃ m : Nat, m ≤ sl ∧ j = .int .i64 m ∧ Chg Non wd wr) (fun j _ => sl - (intOf j).toNat)
          case atStart => exact ⟨0, Nat.zero_le _, rfl, N1.out⟩
          case round =>
            obtain ⟨m, hm, rfl, n2⟩ := hrel
            have N2 := Lib.hid n2; clear n2
            have X2 := Lib.hid (N2.out.has X9.out (X9.out.lt (by simp)) id); have Y2 := Lib.hid (N2.out.has Y9.out (Y9.out.lt (by simp)) id); have Z2 := Lib.hid (N2.out.has Z9.out (Z9.out.lt (by simp)) id)
            have c0 := X2.out.cell 0 _ rfl; have c1 := X2.out.cell 1 _ rfl; have c2 := X2.out.cell 2 _ rfl; have lx := X2.out.lt (by simp); have z0 := Z2.out.cell 0 _ rfl; have lz := Z2.out.lt (by simp)
            have hcx := N2.out.cell id HCX.out
            have hbx := Nat.lt_of_lt_of_le HHX.out N2.out.size
            by_cases hml : m < sl
            · have m0 : (0 : Int) ≤ (m : Int) := by omega
              have m1 : (m : Int) < (sl : Int) := by omega
              by_cases hkq : k = q
              · subst hkq
                have hne : ((k : Int) != (k : Int)) = false := by simp
                go_wp2_with fail
                have x0 := fun s : BelowW wr => (X2.out.every lx s).cell 0 _ rfl; have x1 := fun s : BelowW wr => (X2.out.every lx s).cell 1 _ rfl; have x2 := fun s : BelowW wr => (X2.out.every lx s).cell 2 _ rfl
                refine wp_region_below (by kernel_rfl) (by kernel_rfl) ?_
                repeat (go_big_quiet_step ((go_at_call 21; with_reducible exact calls_below _ (CS.out _))))
                refine wpQuiet_nil ?_
                rintro w' ⟨s, rfl⟩
                have N3 := Lib.hid (N2.out.tr s.ok)
                clear x0 x1 x2
                go_wp2
                go_roundw
                case rel => exact ⟨m + 1, by omega, by go_num, N3.out⟩
                case measure => simp [intOf]; omega
              · have hne : ((k : Int) != (q : Int)) = true := by simp; omega
                obtain rfl : x = y := by have := HO.out hkq; rw [HXX.out, HYY.out] at this; cases this; rfl
                obtain ⟨b3, o3, z, rfl, hz, hcz, _, _, _, hb3⟩ := Ints.get RX.out hml
                obtain ⟨b4, o4, z', rfl, hz', hcz', _, _, _, hb4⟩ := Ints.get RY.out hml
                obtain rfl : z = z' := by rw [hz] at hz'; cases hz'; rfl
                have hzz : (z != z) = false := by simp
                have d1 := N2.out.cell id hcz; have d2 := N2.out.cell id hcz'; have d3 := N2.out.cell id HCY.out
                clear hz hz' hcz hcz'
                go_wp2_with fail
                have x0 := fun s : BelowW wr => (X2.out.every lx s).cell 0 _ rfl; have x1 := fun s : BelowW wr => (X2.out.every lx s).cell 1 _ rfl; have x2 := fun s : BelowW wr => (X2.out.every lx s).cell 2 _ rfl
                have x3 := fun s : BelowW wr => (Y2.out.every (Y2.out.lt (by simp)) s).cell 0 _ rfl; have x4 := fun s : BelowW wr => (Z2.out.every lz s).cell 0 _ rfl
                have x5 := fun s : BelowW wr => cell_later s.ok hcx; have x6 := fun s : BelowW wr => cell_later s.ok d1; have x7 := fun s : BelowW wr => cell_later s.ok d2; have x8 := fun s : BelowW wr => cell_later s.ok d3
                have hko : (k : Int) < (on : Int) := by omega
                refine wp_region_below (by kernel_rfl) (by kernel_rfl) ?_
                repeat (go_big_quiet_step ((go_at_call 21; with_reducible exact calls_below _ (CS.out _))))
                refine wpQuiet_nil ?_
                rintro w' ⟨s, rfl⟩
                have N3 := Lib.hid (N2.out.tr s.ok)
                clear x0 x1 x2 x3 x4 x5 x6 x7 x8 d1 d2 d3
                go_wp2
                go_roundw
                case rel => exact ⟨m + 1, by omega, by go_num, N3.out⟩
                case measure => simp [intOf]; omega
            · by_cases hkq : k = q
              · subst hkq
                have hne : ((k : Int) == (k : Int)) = true := by simp
                have hwl : ((sl : Int) != (sl : Int)) = false := by simp
                obtain ⟨x', hx', hx0⟩ := HW.out
                obtain rfl : x = x' := by rw [HXX.out] at hx'; cases hx'; rfl
                obtain ⟨b3, o3, z, rfl, hz, hcz, _, _, _, hb3⟩ := Ints.get RX.out (show 0 < sl by omega)
                obtain rfl : z = (n : Int) := by rw [hx0] at hz; cases hz; rfl
                have hzz : ((n : Int) != (n : Int)) = false := by simp
                have s0 : (0 : Int) < (sl : Int) := by omega
                have hcz0 : wd.cell? ⟨b3, o3, none⟩ = some (.int .i64 (n : Int)) := hcz
                have d1 := N2.out.cell id hcz0
                clear hz hx' hx0 hcz hcz0
                go_wp2_with fail
                have x0 := fun s : BelowW wr => (X2.out.every lx s).cell 0 _ rfl; have x1 := fun s : BelowW wr => (X2.out.every lx s).cell 1 _ rfl; have x2 := fun s : BelowW wr => (X2.out.every lx s).cell 2 _ rfl
                have x4 := fun s : BelowW wr => (Z2.out.every lz s).cell 0 _ rfl
                have x5 := fun s : BelowW wr => cell_later s.ok hcx; have x6 := fun s : BelowW wr => cell_later s.ok d1
                refine wp_region_below (by kernel_rfl) (by kernel_rfl) ?_
                repeat (go_big_quiet_step ((go_at_call 21; with_reducible exact calls_below _ (CS.out _))))
                refine wpQuiet_nil ?_
                rintro w' ⟨s, rfl⟩
                have N3 := Lib.hid (N2.out.tr s.ok)
                clear x0 x1 x2 x4 x5 x6 d1
                go_wp2
                go_roundw
                case rel => exact ⟨k + 1, by omega, by go_num, N3.out⟩
                case measure => simp [intOf]; omega
              · have hne : ((k : Int) == (q : Int)) = false := by simp; omega
                go_wp2_with fail
                have x0 := fun s : BelowW wr => (X2.out.every lx s).cell 0 _ rfl; have x1 := fun s : BelowW wr => (X2.out.every lx s).cell 1 _ rfl; have x2 := fun s : BelowW wr => (X2.out.every lx s).cell 2 _ rfl
                refine wp_region_below (by kernel_rfl) (by kernel_rfl) ?_
                repeat (go_big_quiet_step ((go_at_call 21; with_reducible exact calls_below _ (CS.out _))))
                refine wpQuiet_nil ?_
                rintro w' ⟨s, rfl⟩
                have N3 := Lib.hid (N2.out.tr s.ok)
                clear x0 x1 x2
                go_wp2
                go_roundw
                case rel => exact ⟨k + 1, by omega, by go_num, N3.out⟩
                case measure => simp [intOf]; omega
        · go_wp2_with fail
          refine (awake_any _).mono ?_
          rintro e wz ⟨rfl, hbz⟩
          go_wp2
          go_ret
          exact ⟨rfl, ((C9.out.trans N1.out (fun _ _ h => h.elim)).tr hbz).below (fun j hj h => by unfold Ge at h; omega) (Nat.le_refl _)⟩
  · have FEW := Lib.hid ((few_any a0 len0 cap0 w hl0).2 hf)
    clear w0 hf
    go_enter Try.func7, Try.ntmps7
    go_wp2_with fail
    refine FEW.out.mono ?_
    rintro e w' ⟨rfl, rfl⟩
    go_wp2_with fail
    refine (awake_any _).mono ?_
    rintro e w9 ⟨rfl, hb9⟩
    go_wp2
    go_ret
    exact ⟨rfl, hb9⟩
end Go.Proofs.Ytdkpfifnegndmaa
