/-
  The document's Join.
-/
import Derived.Test.YtikhbijobkkhgaaMuO
namespace Go.Proofs.Ytikhbijobkkhgaa
open Go.RowKit

set_option maxHeartbeats 8000000 in
theorem rjoin_any (U V : List Int) (hU : U.length ≤ 1000) (S W L : Nat) (hc : COk S W L) (m q : List (List (List Int))) (hm : MSt U S W m) (hq : MSt V S W q) (K K' : Nat → Prop) (a : Option Addr) (len cap : Nat) (a' : Option Addr) (len' cap' : Nat) (w : World) (r : Cube K w a len cap m) (r' : Cube K' w a' len' cap' q) :
    Calls Try.prog 21 #[CV S W L, .agg #[.slice a len cap], .agg #[.slice a' len' cap']] w (StRet (joinM W m q) w) := by
  have hl := r.hlen; have h6 := r.hsz; have hl' := r'.hlen
  have hS : len = S := by rw [← hl]; exact hm.len
  subst hS
  have hS' : len' = len := by rw [← hl']; exact hq.len
  subst hS'
  have hC := Lib.hid hc
  obtain ⟨g1, g2, g3, g4, g5, g6⟩ := hc
  have F0 := Lib.hid (Fm.new (Fm.new (Fm.new (Fm.new (Fm.start Non w) rfl [.int .i64 len', .int .i64 W, .int .i64 L] 26) (by simp) [.slice a len' cap] 30) (by simp) [.slice a' len' cap'] 30) (by simp) [.slice none 0 0] 30)
  have TP := Lib.hid (fun w => rtop_any len' W L hC.out w)
  have HR := Lib.hid r; have HR' := Lib.hid r'; have HM := Lib.hid hm; have HQ := Lib.hid hq
  have ML := Lib.hid (joinM_len (W := W) hm.len hq.len)
  clear r r' hm hq hl hl'
  go_enter Try.func21, Try.ntmps21
  go_wp2_with fail
  refine (TP.out _).mono ?_
  rintro e w1 ⟨oa, on, oc, rfl, ho1, hb1⟩
  have F1 := Lib.hid ((Fm.call hb1 F0.out).more (.cells #[.slice oa on oc] 30))
  have s1 := (Fm.call hb1 F0.out).size
  simp only [List.length_append, List.length_cons, List.length_nil, Nat.zero_add] at s1
  have hon : len' = on := by
    obtain ⟨_, _, e⟩ := ho1.form
    simp only [Value.slice.injEq] at e
    rw [e.2.1, topS_len]
  subst hon
  have O1 := Lib.hid (OCub.loc.below (ho1.narrow (A := w.heap.size + 4) (by simp)) ((Below.refl _ _).alloc (Nat.le_refl _) (.cells #[.slice oa len' oc] 30)))
  have X1 := Lib.hid (Has.new w1 [.slice oa len' oc] 30)
  have t1 := Fm.call hb1 F0.out
  have c0 := t1.h1.cell 0 _ rfl; have lt0 := t1.h1.lt (by simp); have d0 := t1.h2.cell 0 _ rfl; have lt2 := t1.h2.lt (by simp)
  have T0 := Lib.hid (show fil (List.replicate W []) (joinM W m q) 0 = topS len' W by rw [fil_zero, ML.out]; rfl)
  clear hb1 ho1 t1
  obtain ⟨wA, hA⟩ : ∃ wA, wA = w1.alloc (.cells #[.slice oa len' oc] 30) := ⟨_, rfl⟩
  have hAs : wA.heap.size = w1.heap.size + 1 := by rw [hA]; simp
  have OA := Lib.hid (show OCub wA (Rm (w.heap.size + 4) w1.heap.size wA) (.slice oa len' oc) (topS len' W) from OwnRow.wid _ _ _ _ _ _ (fun i hi => .inl hi) (by rw [hA]; exact O1.out))
  have FA := Lib.hid (show Fm Non w wA [[.int .i64 len', .int .i64 W, .int .i64 L], [.slice a len' cap], [.slice a' len' cap'], [.slice none 0 0]] from by rw [hA]; exact F1.out)
  have XA := Lib.hid (show Has wA w1.heap.size [.slice oa len' oc] from by rw [hA]; exact X1.out)
  have HA := Lib.hid hA
  have hRm : ∀ i, Rm (w.heap.size + 4) w1.heap.size wA i → w.heap.size + 4 ≤ i ∧ i ≠ w1.heap.size := fun i hi => by
    rcases hi with h | h
    · have h1 := h.1; have h2 := h.2; omega
    · omega
  have RMX := Lib.hid hRm
  clear hA O1 F1 X1 hRm
  go_wp2
  clear c0 lt0 d0 lt2
  go_loopw [20] (fun i wr => ∃ k : Nat, k ≤ len' ∧ i = .int .i64 k ∧ OCub wr (Rm (w.heap.size + 4) w1.heap.size wA) (.slice oa len' oc) (fil (List.replicate W []) (joinM W m q) k) ∧ Chg (Rm (w.heap.size + 4) w1.heap.size wA) wA wr) (fun i _ => len' - (intOf i).toNat)
  case atStart => exact ⟨0, Nat.zero_le _, rfl, by rw [T0.out, ← HA.out]; exact OA.out, by rw [← HA.out]; exact Chg.refl _⟩
  case round =>
    obtain ⟨k, hk, rfl, ho, hC1⟩ := hrel
    have O2 := Lib.hid ho; have C2 := Lib.hid hC1
    have F2 := Lib.hid (FA.out.chgd C2.out (fun j hj => .inr (by have := (RMX.out j hj).1; simp; omega)))
    have X2 := Lib.hid (C2.out.has XA.out (by omega) (fun h => (RMX.out _ h).2 rfl))
    have t0 := F2.out.h1.cell 0 _ rfl; have t0l := F2.out.h1.lt (by simp)
    clear ho hC1
    by_cases hlt : k < len'
    · obtain ⟨f, hf, _, hfw⟩ := HM.out.at hlt
      obtain ⟨g, hg, _, hgw⟩ := HQ.out.at hlt
      obtain ⟨gb, go, f', ra, rl, rc, rfl, hx, hcw, hrx, _, hbw⟩ := Rows.get HR.out hlt
      have hff : f' = f := by rw [hf] at hx; cases hx; rfl
      subst hff
      obtain ⟨gb', go', g', ra', rl', rc', rfl, hx', hcw', hrx', _, hbw'⟩ := Rows.get HR'.out hlt
      have hgg : g' = g := by rw [hg] at hx'; cases hx'; rfl
      subst hgg
      have JG := Lib.hid (joinM_get (W := W) hf hg)
      have FW := Lib.hid hfw; have GW := Lib.hid hgw
      have hrl := hrx.hlen
      have hrW : rl = W := by rw [← hrl]; exact hfw.len
      subst hrW
      have cw := (F2.out.below.cell (p := ⟨gb, go + k, none⟩) hbw).trans hcw
      have RX := Lib.hid hrx; have RX' := Lib.hid hrx'; have RL := Lib.hid hrl; have CW := Lib.hid hcw; have CW' := Lib.hid hcw'
      have FI := Lib.hid (fun (x : Int) (w' : World) (hb : Below w.heap.size w w') => place_any K' ra' rl' rc' g' x w' (RX'.out.below (RSl.stays RInt.stays) hb))
      have I0 := Lib.hid (show (fil (List.replicate rl []) (joinM rl m q) k).set k (joinP rl f' g' 0) = fil (List.replicate rl []) (joinM rl m q) k from set_same (fil_get _ (by rw [ML.out]; exact hlt)))
      have hXl : k < (fil (List.replicate rl []) (joinM rl m q) k).length := by rw [fil_length _ _ (by rw [ML.out]; exact hk), ML.out]; exact hlt
      clear hf hfw hg hgw hx hcw hrx hx' hcw' hrx' hrl
      obtain ⟨wo, hwo⟩ : ∃ wo : World, wo = wr := ⟨_, rfl⟩
      subst hwo
      have h4 : (0 : Int) ≤ (k : Int) := by omega
      have h5 : (k : Int) < (len' : Int) := by omega
      go_wp2
      clear t0 t0l cw
      go_loopw [29] (fun i wr => ∃ i' : Nat, i' ≤ rl ∧ i = .int .i64 i' ∧ OCub wr (Rm (w.heap.size + 4) w1.heap.size wA) (.slice oa len' oc) ((fil (List.replicate rl []) (joinM rl m q) k).set k (joinP rl f' g' i')) ∧ Chg (Rm (w.heap.size + 4) w1.heap.size wA) wA wr) (fun i _ => rl - (intOf i).toNat)
      case atStart => exact ⟨0, Nat.zero_le _, rfl, by rw [I0.out]; exact O2.out, C2.out⟩
      case round =>
        obtain ⟨i, hi, rfl, ho, hC3⟩ := hrel
        have O3 := Lib.hid ho; have C3 := Lib.hid hC3
        have F3 := Lib.hid (FA.out.chgd C3.out (fun j hj => .inr (by have := (RMX.out j hj).1; simp; omega)))
        have t0 := F3.out.h1.cell 0 _ rfl; have t0l := F3.out.h1.lt (by simp)
        have cw := (F3.out.below.cell (p := ⟨gb, go + k, none⟩) hbw).trans CW.out
        clear ho hC3
        by_cases hli : i < rl
        · obtain ⟨lb, lo, l, la, ll, lc, rfl, hz, hcz, hrz, _, hbz⟩ := Rows.get RX.out hli
          have hll := hrz.hlen; have hl6 := hrz.hsz
          subst hll
          have cz := (F3.out.below.cell (p := ⟨lb, lo + i, none⟩) hbz).trans hcz
          have HZ := Lib.hid hz; have RZ := Lib.hid hrz
          have hgd : f'.getD i [] = l := by rw [List.getD_eq_getElem?_getD, hz]; rfl
          have HD := Lib.hid hgd
          clear hz hcz hrz hgd
          obtain ⟨wp, hwp⟩ : ∃ wp : World, wp = wr := ⟨_, rfl⟩
          subst hwp
          have h6 : (0 : Int) ≤ (i : Int) := by omega
          have h7 : (i : Int) < (rl : Int) := by omega
          go_wp2
          clear t0 t0l cw cz
          go_loopw [36] (fun v wr => ∃ j : Nat, j ≤ l.length ∧ v = .int .i64 j ∧ OCub wr (Rm (w.heap.size + 4) w1.heap.size wA) (.slice oa len' oc) ((fil (List.replicate rl []) (joinM rl m q) k).set k (joinL g' i (joinP rl f' g' i) (l.take j))) ∧ Chg (Rm (w.heap.size + 4) w1.heap.size wA) wA wr) (fun v _ => l.length - (intOf v).toNat)
          case atStart => exact ⟨0, Nat.zero_le _, rfl, O3.out, C3.out⟩
          case round =>
            obtain ⟨j, hj, rfl, ho, hC4⟩ := hrel
            have O4 := Lib.hid ho; have C4 := Lib.hid hC4
            have F4 := Lib.hid (FA.out.chgd C4.out (fun j hj => .inr (by have := (RMX.out j hj).1; simp; omega)))
            have X4 := Lib.hid (C4.out.has XA.out (by omega) (fun h => (RMX.out _ h).2 rfl))
            have hs4 := C4.out.size
            clear ho hC4
            by_cases hlj : j < l.length
            · obtain ⟨xb, xo, x, rfl, hxx, hcx, hx1, hx2, _, hbx⟩ := Ints.get RZ.out hlj
              have cx := (F4.out.below.cell (p := ⟨xb, xo + j, none⟩) hbx).trans hcx
              have JS := Lib.hid (joinL_snoc (g := g') (i := i) (out := joinP rl f' g' i) hxx)
              have WS := Lib.hid (joinL_pre FW.out GW.out hli HZ.out j)
              have t0 := F4.out.h2.cell 0 _ rfl; have t0l := F4.out.h2.lt (by simp)
              have cw := (F4.out.below.cell (p := ⟨gb', go' + k, none⟩) hbw').trans CW'.out
              clear hxx hcx
              generalize joinL g' i (joinP rl f' g' i) (l.take j) = X at *
              by_cases hp : plc g' x < g'.length
              · have JI := Lib.hid (joinStep_in (i := i) (out := X) hp)
                have hpW : plc g' x < rl := by rw [GW.out.len] at hp; exact hp
                have FX := Lib.hid (FI.out x)
                rw [show findI g' x = ((plc g' x : Nat) : Int) from if_pos hp] at FX
                clear hp
                generalize plc g' x = pp at *
                go_wp2_with fail
                refine (FX.out _ F4.out.below).mono ?_
                rintro e w5 ⟨rfl, rfl⟩
                clear t0 t0l cw cx
                obtain ⟨lx, hlx⟩ : ∃ lx, X[max i pp]? = some lx := ⟨_, List.getElem?_eq_getElem (by rw [WS.out.len]; omega)⟩
                obtain ⟨b2, bc2, c, dc, u, fq, p⟩ := OCub.pick2 O4.out (set_get hXl) hlx
                have pf := p.form
                rw [List.length_set, fil_length _ _ (by rw [ML.out]; exact hk), ML.out] at pf
                simp only [Value.slice.injEq] at pf
                obtain ⟨pf1, _, pf3⟩ := pf
                subst pf1
                obtain rfl : bc2 = oc := pf3.symm
                obtain ⟨ua, uc, rfl⟩ := p.elem.form
                have e0 := p.cell; have e1 := p.cell2; have e2 := p.free2; have e3 := p.lt2; have e4 := p.lt; have e5 := p.hcap2; have e7 := p.hcap
                rw [WS.out.len] at e0 e5
                rw [List.length_set, fil_length _ _ (by rw [ML.out]; exact hk), ML.out] at e7
                have hne := p.ne
                have hnx := (RMX.out _ p.ownc).2
                have x0 := X4.out.cell 0 _ rfl
                have hmx : max (i : Int) (pp : Int) = ((max i pp : Nat) : Int) := by omega
                have hm0 : (0 : Int) ≤ ((max i pp : Nat) : Int) := by omega
                have hm1 : ((max i pp : Nat) : Int) < (rl : Int) := by omega
                have PUT := Lib.hid (rput_any (fun _ => True) ua lx.length uc lx x ⟨hx1, hx2⟩ wr.drew (OInts.read (fun _ _ => trivial) (OInts.loc.chg (M := Non) p.elem ((Chg.refl wr).drew) (fun _ _ _ h => h))) ((PS.lns hU).short WS.out _ _ hlx).2)
                have HPX := Lib.hid (put_get (x := x) hlx)
                have PP := Lib.hid p
                clear p hlx
                generalize max i pp = mx at *
                have x00 : wr.drew.cell? ⟨w1.heap.size, 0, none⟩ = some (.slice (some ⟨b2, 0, none⟩) len' bc2) := x0
                have e00 : wr.drew.cell? ⟨b2, k, none⟩ = some (.slice (some ⟨c, 0, none⟩) rl dc) := e0
                go_wp2
                go_region_law ((first | (go_simp; go_at_call 48; ((with_reducible refine PUT.out.mono ?_); rintro e w5 ⟨v5, rfl, ho5, hb5⟩; obtain ⟨vn, va, vc, rfl⟩ : ∃ n a c, v5 = .slice a n c := (by obtain ⟨a, c, h⟩ := ho5.form; exact ⟨_, a, c, h⟩); have f1 := cell_later hb5 e1; have f2 := frz_later hb5 e3 e2; have f3 : c < w5.heap.size := Nat.lt_of_lt_of_le e3 hb5.size; have f4 := cell_later hb5 x00; have f5 := cell_later hb5 e00))))
                all_goals
                  have sw := PP.out.swap w5 _ (.slice va vn vc) _ (Chg.of_below (w := wr) (w' := w5) ⟨hb5.os, hb5.tape, hb5.output, hb5.size, hb5.block⟩) ho5.lt (fun i hi => ⟨.inr hi.1, hi.2⟩)
                  rw [set_twice, ← HPX.out] at sw
                  have O6 := Lib.hid (OwnRow.wid _ _ _ (Rm (w.heap.size + 4) w1.heap.size wA) _ _ (fun i hi => hi.elim id (fun h => .inr (by omega))) sw.1)
                  have C6 := Lib.hid (C4.out.trans sw.2 (fun i _ h => h))
                  clear sw ho5 hb5 f1 f2 f3 f4 f5
                  go_wp2
                  go_roundw
                  case rel => exact ⟨j + 1, by omega, by go_num, by rw [JS.out, JI.out]; exact O6.out, C6.out⟩
                  case measure => simp [intOf]; omega
              · have JO := Lib.hid (joinStep_out (i := i) (out := X) hp)
                have FX := Lib.hid (FI.out x)
                rw [show findI g' x = -1 from if_neg hp] at FX
                clear hp
                go_wp2_with fail
                refine (FX.out _ F4.out.below).mono ?_
                rintro e w5 ⟨rfl, rfl⟩
                clear t0 t0l cw cx
                go_wp2
                go_roundw
                case rel => exact ⟨j + 1, by omega, by go_num, by rw [JS.out, JO.out]; exact O4.out, C4.out⟩
                case measure => simp [intOf]; omega
            · have hjl : j = l.length := by omega
              subst hjl
              rw [List.take_length] at O4
              go_wp2
              go_roundw
              case rel => exact ⟨i + 1, by omega, by go_num, by rw [joinP_succ, HD.out]; exact O4.out, C4.out⟩
              case measure => simp [intOf]; omega
        · have hil : i = rl := by omega
          subst hil
          have JE := Lib.hid (show joinP i f' g' i = joinS i f' g' by unfold joinS; rw [RL.out])
          rw [JE.out, fil_set _ JG.out] at O3
          go_wp2
          go_roundw
          case rel => exact ⟨k + 1, by omega, by go_num, O3.out, C3.out⟩
          case measure => simp [intOf]; omega
    · have hkl : k = len' := by omega
      subst hkl
      have hfa := fil_all (List.replicate W []) (joinM W m q)
      rw [ML.out] at hfa
      rw [hfa] at O2
      clear hfa
      have x0 := X2.out.cell 0 _ rfl; have x1 := X2.out.lt (by simp)
      have e0 := F2.out.h3.cell 0 _ rfl; have ef := F2.out.h3.free; have lt1 := F2.out.h3.lt (by simp)
      go_wp2
      refine bodyPost_ret (v := .agg #[.slice oa k oc]) (by simp [results, Try.results21, go_sem, e0]) rfl ⟨oa, k, oc, rfl, ?_, (F2.out.set 3 0 [.slice none 0 0] rfl (by simp) _).below⟩
      exact OwnRow.wid _ _ _ _ _ _ (fun i hi => by have := (RMX.out i hi).1; unfold Ge; omega) (OCub.loc.chg (M := fun j => j = w.heap.size + 3) O2.out (Chg.setCell (M := fun j => j = w.heap.size + 3) (Chg.refl _) (fun _ => rfl) _) (fun j hj _ e => by have := (RMX.out j hj).1; omega))
end Go.Proofs.Ytikhbijobkkhgaa
