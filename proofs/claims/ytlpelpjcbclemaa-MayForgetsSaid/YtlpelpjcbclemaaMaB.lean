/-
  ages.Use with the test of may.Touch: the ages in a set behind the use of a line.
-/
import Derived.Test.YtlpelpjcbclemaaMuG
import Derived.Test.YtlpelpjcbclemaaMaA
namespace Go.Proofs.Ytlpelpjcbclemaa
open Go.RowKit

theorem yclo_any (i h b : Nat) (w : World) (hc : w.cell? ⟨b, 0, none⟩ = some (.int .i64 h)) :
    Calls Try.prog 42 #[.int .i64 i, .pointer (some ⟨b, 0, none⟩)] w fun e w' => e = .returned (.bool (decide (i < h + 1))) ∧ w = w' := by
  go_enter Try.func42, Try.ntmps42
  go_wp2
  go_ret
  exact ⟨ret_b (by rw [decide_eq_decide]; omega), rfl⟩
set_option maxHeartbeats 4000000 in
theorem yuse_any (U : List Int) (P : Int → Prop) (hU : Lns U P) (W : Nat) (hW : 1 ≤ W) (hW4 : W ≤ 4) (g : List (List Int)) (hg : WSet P W g) (n : Int) (hn : P n) (hq : Nat) (hqW : hq ≤ W) (K : Nat → Prop) (a : Option Addr) (len cap : Nat) (b : Nat) (w : World) (r : Mat K w a len cap g) (hc : w.cell? ⟨b, 0, none⟩ = some (.int .i64 hq)) :
    Calls Try.prog 41 #[.slice a len cap, .int .i64 n, .func (.func 42) #[] #[.pointer (some ⟨b, 0, none⟩)]] w (MatRet (useY W n hq g) w) := by
  have hlen := r.hlen
  have hgW := hg.len
  have hlW : len = W := by omega
  subst hlW
  have hm1 := fun w => make_rows len (by omega) w .i64 .i64
  have HR := Lib.hid r; have HG := Lib.hid hg; have HU := Lib.hid hU; have HC := Lib.hid hc; have HN := Lib.hid hn; have HL := Lib.hid hlen
  have hbl := World.block_lt_of_cell? w _ hc
  have hnr := hU.range hn
  clear r hg hU hc hn hlen hgW
  have B0 := Lib.hid ((Below.refl w.heap.size w).alloc (Nat.le_refl _) (.cells (zeros (.slice none 0 0) len).toArray 22))
  have O0 := Lib.hid (OMat.nils (fp := Ge w.heap.size) (Blk.new w (zeros (.slice none 0 0) len) 22) (Nat.le_refl _) (by omega))
  go_enter Try.func41, Try.ntmps41
  go_wp2
  go_loopw [17] (fun i wr => ∃ k : Nat, k ≤ len ∧ i = .int .i64 k ∧ OMat wr (Ge w.heap.size) (.slice (some ⟨w.heap.size, 0, none⟩) len len) (useP len n (hq + 1) g k) ∧ Below w.heap.size w wr) (fun i _ => len - (intOf i).toNat)
  case atStart => exact ⟨0, Nat.zero_le _, rfl, O0.out, B0.out⟩
  case round =>
    obtain ⟨k, hk, rfl, ho, hB⟩ := hrel
    have O1 := Lib.hid ho; have B1 := Lib.hid hB
    clear ho hB
    have US := Lib.hid (useP_spec (W := len) (n := n) (h := hq + 1) HG.out k)
    by_cases hlt : k < len
    · obtain ⟨gb, go, l, ra, rl, rc, rfl, hx, hcw, hrx, _, hbw⟩ := Rows.get HR.out hlt
      have hrl := hrx.hlen; have hr6 := hrx.hsz
      subst hrl
      have hcw' := (B1.out.cell (p := ⟨gb, go + k, none⟩) hbw).trans hcw
      have hgd : g.getD k [] = l := by rw [List.getD_eq_getElem?_getD, hx]; rfl
      have HX := Lib.hid hx; have RX := Lib.hid hrx; have HD := Lib.hid hgd
      clear hx hcw hrx hgd
      obtain ⟨wo, hwo⟩ : ∃ wo : World, wo = wr := ⟨_, rfl⟩
      subst hwo
      go_wp2
      go_loopw [24] (fun i wr => ∃ j : Nat, j ≤ l.length ∧ i = .int .i64 j ∧ OMat wr (Ge w.heap.size) (.slice (some ⟨w.heap.size, 0, none⟩) len len) (useL n (hq + 1) k (useP len n (hq + 1) g k) (l.take j)) ∧ Below w.heap.size w wr) (fun i _ => l.length - (intOf i).toNat)
      case atStart => exact ⟨0, Nat.zero_le _, rfl, O1.out, B1.out⟩
      case round =>
        obtain ⟨j, hj, rfl, ho, hB⟩ := hrel
        have O2 := Lib.hid ho; have B2 := Lib.hid hB
        clear ho hB
        by_cases hlj : j < l.length
        · obtain ⟨lb, lo, x, rfl, hz, hcz, hz1, hz2, _, hbz⟩ := Ints.get RX.out hlj
          have hcz' := (B2.out.cell (p := ⟨lb, lo + j, none⟩) hbz).trans hcz
          have hch := (B2.out.cell (p := ⟨b, 0, none⟩) hbl).trans HC.out
          have HT := Lib.hid (show useL n (hq + 1) k (useP len n (hq + 1) g k) (l.take (j + 1)) = useStep n (hq + 1) k (useL n (hq + 1) k (useP len n (hq + 1) g k) (l.take j)) x by rw [List.take_add_one, hz]; unfold useL; rw [List.foldl_append]; rfl)
          have hxl : x ∈ l := List.mem_of_getElem? hz
          have WS := Lib.hid (useL_spec (n := n) (h := hq + 1) (a := k) (l := l.take j) US.out.1 ((HG.out.asc k l HX.out).sublist (List.take_sublist _ _)) (fun y hy => ⟨HG.out.mem k y ⟨l, HX.out, List.mem_of_mem_take hy⟩, fun i hi => by
            obtain ⟨_, a, ha, hat, _⟩ := (US.out.2 i y).1 hi
            have := HG.out.once _ _ _ hat ⟨l, HX.out, List.mem_of_mem_take hy⟩
            omega⟩)).1
          have PX := Lib.hid (HG.out.mem k x ⟨l, HX.out, hxl⟩)
          clear hcz hz hxl
          have AP := Lib.hid (fun (age : Nat) (ha : age ≤ 100) (w' : World) (ho : OMat w' (Ge w.heap.size) (.slice (some ⟨w.heap.size, 0, none⟩) len len) (useL n (hq + 1) k (useP len n (hq + 1) g k) (l.take j))) => aput_any (Ge w.heap.size) _ len len _ w' ho WS.out.len (HU.out.short WS.out) age x ha ⟨hz1, hz2⟩)
          by_cases hxn : x = n
          · have hb : (x == n) = true := by simp [hxn]
            have HE := Lib.hid (show useStep n (hq + 1) k (useL n (hq + 1) k (useP len n (hq + 1) g k) (l.take j)) x = useL n (hq + 1) k (useP len n (hq + 1) g k) (l.take j) from if_pos hxn)
            clear hxn
            go_wp2
            go_roundw
            case rel => exact ⟨j + 1, by omega, by go_num, by rw [HT.out, HE.out]; exact O2.out, B2.out⟩
            case measure => simp [intOf]; omega
          · have hb : (x == n) = false := by simp [hxn]
            have HE := Lib.hid (show useStep n (hq + 1) k (useL n (hq + 1) k (useP len n (hq + 1) g k) (l.take j)) x = put (useL n (hq + 1) k (useP len n (hq + 1) g k) (l.take j)) (dst (hq + 1) k) x from if_neg hxn)
            clear hxn
            have hs := B2.out.size
            by_cases hkh : k < hq + 1
            · have hd : decide (k < hq + 1) = true := by simpa using hkh
              have HDS := Lib.hid (show dst (hq + 1) k = k + 1 from if_pos hkh)
              have TC := Lib.hid (yclo_any k hq b wr hch)
              rw [hd] at TC
              clear hd hkh
              go_wp2_with fail
              refine TC.out.mono ?_
              rintro e w5 ⟨rfl, rfl⟩
              go_wp2_with fail
              refine (AP.out (k + 1) (by omega) _ O2.out).mono ?_
              rintro e w6 ⟨rfl, ho, hc6⟩
              have O3 := Lib.hid (ho.step hs); have B3 := Lib.hid (B2.out.trans (hc6.below (fun i hi h => by unfold Ge at h; omega) hs))
              clear ho hc6
              go_wp2
              go_roundw
              case rel => exact ⟨j + 1, by omega, by go_num, by rw [HT.out, HE.out, HDS.out]; exact O3.out, B3.out⟩
              case measure => simp [intOf]; omega
            · have hd : decide (k < hq + 1) = false := by simpa using hkh
              have HDS := Lib.hid (show dst (hq + 1) k = k from if_neg hkh)
              have TC := Lib.hid (yclo_any k hq b wr hch)
              rw [hd] at TC
              clear hd hkh
              go_wp2_with fail
              refine TC.out.mono ?_
              rintro e w5 ⟨rfl, rfl⟩
              go_wp2_with fail
              refine (AP.out k (by omega) _ O2.out).mono ?_
              rintro e w6 ⟨rfl, ho, hc6⟩
              have O3 := Lib.hid (ho.step hs); have B3 := Lib.hid (B2.out.trans (hc6.below (fun i hi h => by unfold Ge at h; omega) hs))
              clear ho hc6
              go_wp2
              go_roundw
              case rel => exact ⟨j + 1, by omega, by go_num, by rw [HT.out, HE.out, HDS.out]; exact O3.out, B3.out⟩
              case measure => simp [intOf]; omega
        · have hjl : j = l.length := by omega
          subst hjl
          rw [List.take_length] at O2
          go_wp2
          go_roundw
          case rel => exact ⟨k + 1, by omega, by go_num, by rw [useP_succ, HD.out]; exact O2.out, B2.out⟩
          case measure => simp [intOf]; omega
    · have hkl : k = len := by omega
      subst hkl
      have hs := B1.out.size
      have HE := Lib.hid (show useY k n hq g = put (useP k n (hq + 1) g k) 0 n by unfold useY; rw [HL.out])
      have AP := Lib.hid (aput_any (Ge w.heap.size) _ k k _ wr O1.out US.out.1.len (HU.out.short US.out.1) 0 n (by omega) hnr)
      go_wp2_with fail
      refine AP.out.mono ?_
      rintro e w6 ⟨rfl, ho, hc6⟩
      have O3 := Lib.hid (ho.step hs); have B3 := Lib.hid (B1.out.trans (hc6.below (fun i hi h => by unfold Ge at h; omega) hs))
      clear ho hc6
      go_wp2
      go_ret
      exact ⟨_, rfl, by rw [HE.out]; exact O3.out, B3.out⟩
end Go.Proofs.Ytlpelpjcbclemaa
