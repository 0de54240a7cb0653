/-
  ages.Use: the ages in a set behind the use of a line.
-/
import Derived.Test.YtikhbijobkkhgaaMuF
import Derived.Test.YtikhbijobkkhgaaCacheD
namespace Go.Proofs.Ytikhbijobkkhgaa
open Go.RowKit

/-- Lines of few numbers. -/
structure Lns (U : List Int) (P : Int → Prop) : Prop where
  sub : ∀ x, P x → x ∈ U ∧ 0 ≤ x ∧ x ≤ 1048576
  len : U.length ≤ 1000
theorem Lns.short {U : List Int} {P : Int → Prop} (h : Lns U P) {W : Nat} {g : List (List Int)} (hg : WSet P W g) : ∀ (i : Nat) l, g[i]? = some l → Asc l ∧ l.length ≤ 10000 := fun i l hl =>
  ⟨hg.asc i l hl, by
    have := asc_short (U := U) (hg.asc i l hl) fun x hx => (h.sub x (hg.mem i x ⟨l, hl, hx⟩)).1
    have := h.len; omega⟩
theorem Lns.range {U : List Int} {P : Int → Prop} (h : Lns U P) {x : Int} (hx : P x) : -9223372036854775808 ≤ x ∧ x ≤ 9223372036854775807 := by have := h.sub x hx; omega
theorem OMat.nils {w : World} {fp : Nat → Prop} {b n : Nat} (h : Blk w b 22 (zeros (.slice none 0 0) n)) (hf : fp b) (hn : n ≤ 1000000) : OMat w fp (.slice (some ⟨b, 0, none⟩) n n) (List.replicate n []) := by
  refine .inr ⟨b, n, zeros (.slice none 0 0) n, [], fun _ _ => False, by rw [List.length_replicate], ⟨by rw [List.append_nil]; exact h, by rw [zeros_length, List.length_replicate], by simp, by omega, by rw [List.length_replicate]; omega, hf, fun i x hx => ?_, fun _ _ _ h => h.elim, fun _ _ _ _ _ h => h.elim⟩⟩
  rw [List.getElem?_replicate] at hx
  split at hx
  · cases hx; exact ⟨_, zeros_get (by assumption), .inl ⟨rfl, rfl⟩⟩
  · cases hx
theorem tclo_any (i h b : Nat) (w : World) (hc : w.cell? ⟨b, 0, none⟩ = some (.int .i64 h)) :
    Calls Try.prog 45 #[.int .i64 i, .pointer (some ⟨b, 0, none⟩)] w fun e w' => e = .returned (.bool (decide (i < h))) ∧ w = w' := by
  go_enter Try.func45, Try.ntmps45
  go_wp2
  go_ret
  exact ⟨ret_b (by simp), rfl⟩

def MatRet (g : List (List Int)) (w : World) (e : Ending) (w' : World) : Prop := ∃ v, e = .returned v ∧ OMat w' (Ge w.heap.size) v g ∧ Below w.heap.size w w'
/-- What an operation in place leaves of a list that a call owns from B on. -/
theorem OMat.step {B : Nat} {w w' : World} {v : Value} {g : List (List Int)} (r : OMat w' (Grown (Ge B) w) v g) (hB : B ≤ w.heap.size) : OMat w' (Ge B) v g := OwnRow.wid _ w' _ _ v g (fun _k hk => hk.elim id (fun h => Nat.le_trans hB h)) r
set_option maxHeartbeats 4000000 in
theorem ause_any (U : List Int) (P : Int → Prop) (hU : Lns U P) (W : Nat) (hW : 1 ≤ W) (hW4 : W ≤ 4) (g : List (List Int)) (hg : WSet P W g) (n : Int) (hn : P n) (K : Nat → Prop) (a : Option Addr) (len cap : Nat) (b : Nat) (w : World) (r : Mat K w a len cap g) (hc : w.cell? ⟨b, 0, none⟩ = some (.int .i64 (plc g n : Nat))) :
    Calls Try.prog 44 #[.slice a len cap, .int .i64 n, .func (.func 45) #[] #[.pointer (some ⟨b, 0, none⟩)]] w (MatRet (useS W n g) w) := by
  have hlen := r.hlen
  have hgW := hg.len
  have hlW : len = W := by omega
  subst hlW
  have hm1 := fun w => make_rows len (by omega) w .i64 .i64
  have HR := Lib.hid r; have HG := Lib.hid hg; have HU := Lib.hid hU; have HC := Lib.hid hc; have HN := Lib.hid hn; have HL := Lib.hid hlen
  have hbl := World.block_lt_of_cell? w _ hc
  have hpl := plc_le g n
  obtain ⟨h, hh⟩ : ∃ h, h = plc g n := ⟨_, rfl⟩
  have HH := Lib.hid hh
  rw [← hh] at HC hpl
  have hnr := hU.range hn
  clear r hg hU hc hn hh hlen hgW
  have B0 := Lib.hid ((Below.refl w.heap.size w).alloc (Nat.le_refl _) (.cells (zeros (.slice none 0 0) len).toArray 22))
  have O0 := Lib.hid (OMat.nils (fp := Ge w.heap.size) (Blk.new w (zeros (.slice none 0 0) len) 22) (Nat.le_refl _) (by omega))
  go_enter Try.func44, Try.ntmps44
  go_wp2
  go_loopw [17] (fun i wr => ∃ k : Nat, k ≤ len ∧ i = .int .i64 k ∧ OMat wr (Ge w.heap.size) (.slice (some ⟨w.heap.size, 0, none⟩) len len) (useP len n h g k) ∧ Below w.heap.size w wr) (fun i _ => len - (intOf i).toNat)
  case atStart => exact ⟨0, Nat.zero_le _, rfl, O0.out, B0.out⟩
  case round =>
    obtain ⟨k, hk, rfl, ho, hB⟩ := hrel
    have O1 := Lib.hid ho; have B1 := Lib.hid hB
    clear ho hB
    have US := Lib.hid (useP_spec (W := len) (n := n) (h := h) HG.out k)
    by_cases hlt : k < len
    · obtain ⟨gb, go, l, ra, rl, rc, rfl, hx, hcw, hrx, _, hbw⟩ := Rows.get HR.out hlt
      have hrl := hrx.hlen; have hr6 := hrx.hsz
      subst hrl
      have hcw' := (B1.out.cell (p := ⟨gb, go + k, none⟩) hbw).trans hcw
      have hgd : g.getD k [] = l := by rw [List.getD_eq_getElem?_getD, hx]; rfl
      have HX := Lib.hid hx; have RX := Lib.hid hrx; have HD := Lib.hid hgd
      clear hx hcw hrx hgd
      obtain ⟨wo, hwo⟩ : ∃ wo : World, wo = wr := ⟨_, rfl⟩
      subst hwo
      go_wp2
      go_loopw [24] (fun i wr => ∃ j : Nat, j ≤ l.length ∧ i = .int .i64 j ∧ OMat wr (Ge w.heap.size) (.slice (some ⟨w.heap.size, 0, none⟩) len len) (useL n h k (useP len n h g k) (l.take j)) ∧ Below w.heap.size w wr) (fun i _ => l.length - (intOf i).toNat)
      case atStart => exact ⟨0, Nat.zero_le _, rfl, O1.out, B1.out⟩
      case round =>
        obtain ⟨j, hj, rfl, ho, hB⟩ := hrel
        have O2 := Lib.hid ho; have B2 := Lib.hid hB
        clear ho hB
        by_cases hlj : j < l.length
        · obtain ⟨lb, lo, x, rfl, hz, hcz, hz1, hz2, _, hbz⟩ := Ints.get RX.out hlj
          have hcz' := (B2.out.cell (p := ⟨lb, lo + j, none⟩) hbz).trans hcz
          have hch := (B2.out.cell (p := ⟨b, 0, none⟩) hbl).trans HC.out
          have HT := Lib.hid (show useL n h k (useP len n h g k) (l.take (j + 1)) = useStep n h k (useL n h k (useP len n h g k) (l.take j)) x by rw [List.take_add_one, hz]; unfold useL; rw [List.foldl_append]; rfl)
          have hxl : x ∈ l := List.mem_of_getElem? hz
          have WS := Lib.hid (useL_spec (n := n) (h := h) (a := k) (l := l.take j) US.out.1 ((HG.out.asc k l HX.out).sublist (List.take_sublist _ _)) (fun y hy => ⟨HG.out.mem k y ⟨l, HX.out, List.mem_of_mem_take hy⟩, fun i hi => by
            obtain ⟨_, a, ha, hat, _⟩ := (US.out.2 i y).1 hi
            have := HG.out.once _ _ _ hat ⟨l, HX.out, List.mem_of_mem_take hy⟩
            omega⟩)).1
          have PX := Lib.hid (HG.out.mem k x ⟨l, HX.out, hxl⟩)
          clear hcz hz hxl
          have AP := Lib.hid (fun (age : Nat) (ha : age ≤ 100) (w' : World) (ho : OMat w' (Ge w.heap.size) (.slice (some ⟨w.heap.size, 0, none⟩) len len) (useL n h k (useP len n h g k) (l.take j))) => aput_any (Ge w.heap.size) _ len len _ w' ho WS.out.len (HU.out.short WS.out) age x ha ⟨hz1, hz2⟩)
          by_cases hxn : x = n
          · have hb : (x == n) = true := by simp [hxn]
            have HE := Lib.hid (show useStep n h k (useL n h k (useP len n h g k) (l.take j)) x = useL n h k (useP len n h g k) (l.take j) from if_pos hxn)
            clear hxn
            go_wp2
            go_roundw
            case rel => exact ⟨j + 1, by omega, by go_num, by rw [HT.out, HE.out]; exact O2.out, B2.out⟩
            case measure => simp [intOf]; omega
          · have hb : (x == n) = false := by simp [hxn]
            have HE := Lib.hid (show useStep n h k (useL n h k (useP len n h g k) (l.take j)) x = put (useL n h k (useP len n h g k) (l.take j)) (dst h k) x from if_neg hxn)
            clear hxn
            have hs := B2.out.size
            by_cases hkh : k < h
            · have hd : decide (k < h) = true := by simpa using hkh
              have HDS := Lib.hid (show dst h k = k + 1 from if_pos hkh)
              have TC := Lib.hid (tclo_any k h b wr hch)
              rw [hd] at TC
              clear hd hkh
              go_wp2_with fail
              refine TC.out.mono ?_
              rintro e w5 ⟨rfl, rfl⟩
              go_wp2_with fail
              refine (AP.out (k + 1) (by omega) _ O2.out).mono ?_
              rintro e w6 ⟨rfl, ho, hc6⟩
              have O3 := Lib.hid (ho.step hs); have B3 := Lib.hid (B2.out.trans (hc6.below (fun i hi h => by unfold Ge at h; omega) hs))
              clear ho hc6
              go_wp2
              go_roundw
              case rel => exact ⟨j + 1, by omega, by go_num, by rw [HT.out, HE.out, HDS.out]; exact O3.out, B3.out⟩
              case measure => simp [intOf]; omega
            · have hd : decide (k < h) = false := by simpa using hkh
              have HDS := Lib.hid (show dst h k = k from if_neg hkh)
              have TC := Lib.hid (tclo_any k h b wr hch)
              rw [hd] at TC
              clear hd hkh
              go_wp2_with fail
              refine TC.out.mono ?_
              rintro e w5 ⟨rfl, rfl⟩
              go_wp2_with fail
              refine (AP.out k (by omega) _ O2.out).mono ?_
              rintro e w6 ⟨rfl, ho, hc6⟩
              have O3 := Lib.hid (ho.step hs); have B3 := Lib.hid (B2.out.trans (hc6.below (fun i hi h => by unfold Ge at h; omega) hs))
              clear ho hc6
              go_wp2
              go_roundw
              case rel => exact ⟨j + 1, by omega, by go_num, by rw [HT.out, HE.out, HDS.out]; exact O3.out, B3.out⟩
              case measure => simp [intOf]; omega
        · have hjl : j = l.length := by omega
          subst hjl
          rw [List.take_length] at O2
          go_wp2
          go_roundw
          case rel => exact ⟨k + 1, by omega, by go_num, by rw [useP_succ, HD.out]; exact O2.out, B2.out⟩
          case measure => simp [intOf]; omega
    · have hkl : k = len := by omega
      subst hkl
      have hs := B1.out.size
      have HE := Lib.hid (show useS k n g = put (useP k n h g k) 0 n by unfold useS; rw [← HH.out, HL.out])
      have AP := Lib.hid (aput_any (Ge w.heap.size) _ k k _ wr O1.out US.out.1.len (HU.out.short US.out.1) 0 n (by omega) hnr)
      go_wp2_with fail
      refine AP.out.mono ?_
      rintro e w6 ⟨rfl, ho, hc6⟩
      have O3 := Lib.hid (ho.step hs); have B3 := Lib.hid (B1.out.trans (hc6.below (fun i hi h => by unfold Ge at h; omega) hs))
      clear ho hc6
      go_wp2
      go_ret
      exact ⟨_, rfl, by rw [HE.out]; exact O3.out, B3.out⟩
end Go.Proofs.Ytikhbijobkkhgaa
