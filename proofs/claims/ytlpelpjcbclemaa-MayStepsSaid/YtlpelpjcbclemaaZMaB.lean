/-
  ages.Use with the test of may.Touch: the ages in a set behind the use of a line.
  may.set, may.Age, the document's Age: the age of a line in a state of lines that can be there.
-/
import Derived.Test.YtlpelpjcbclemaaZMuG
import Derived.Test.YtlpelpjcbclemaaMaA
import Derived.Test.YtlpelpjcbclemaaZMuK
namespace Go.Proofs.Ytlpelpjcbclemaa
open Go.RowKit

theorem yclo_any (i h b : Nat) (w : World) (hc : w.cell? ⟨b, 0, none⟩ = some (.int .i64 h)) :
    Calls Try.prog 42 #[.int .i64 i, .pointer (some ⟨b, 0, none⟩)] w fun e w' => e = .returned (.bool (decide (i < h + 1))) ∧ w = w' := by
  go_enter Try.func42, Try.ntmps42
  go_wp2
  go_ret
  exact ⟨ret_b (by rw [decide_eq_decide]; omega), rfl⟩
set_option maxHeartbeats 4000000 in
theorem yuse_any (U : List Int) (P : Int → Prop) (hU : Lns U P) (W : Nat) (hW : 1 ≤ W) (hW4 : W ≤ 4) (g : List (List Int)) (hg : WSet P W g) (n : Int) (hn : P n) (hq : Nat) (hqW : hq ≤ W) (K : Nat → Prop) (a : Option Addr) (len cap : Nat) (b : Nat) (w : World) (r : Mat K w a len cap g) (hc : w.cell? ⟨b, 0, none⟩ = some (.int .i64 hq)) :
    Calls Try.prog 41 #[.slice a len cap, .int .i64 n, .func (.func 42) #[] #[.pointer (some ⟨b, 0, none⟩)]] w (MatRet (useY W n hq g) w) := by
  have hlen := r.hlen
  have hgW := hg.len
  have hlW : len = W := by omega
  subst hlW
  have hm1 := fun w => make_rows len (by omega) w .i64 .i64
  have HR := Lib.hid r; have HG := Lib.hid hg; have HU := Lib.hid hU; have HC := Lib.hid hc; have HN := Lib.hid hn; have HL := Lib.hid hlen
  have hbl := World.block_lt_of_cell? w _ hc
  have hnr := hU.range hn
  clear r hg hU hc hn hlen hgW
  have B0 := Lib.hid ((Below.refl w.heap.size w).alloc (Nat.le_refl _) (.cells (zeros (.slice none 0 0) len).toArray 22))
  have O0 := Lib.hid (OMat.nils (fp := Ge w.heap.size) (Blk.new w (zeros (.slice none 0 0) len) 22) (Nat.le_refl _) (by omega))
  go_enter Try.func41, Try.ntmps41
  go_wp2
  go_loopw [17] (fun i wr => ∃ k : Nat, k ≤ len ∧ i = .int .i64 k ∧ OMat wr (Ge w.heap.size) (.slice (some ⟨w.heap.size, 0, none⟩) len len) (useP len n (hq + 1) g k) ∧ Below w.heap.size w wr) (fun i _ => len - (intOf i).toNat)
  case atStart => exact ⟨0, Nat.zero_le _, rfl, O0.out, B0.out⟩
  case round =>
    obtain ⟨k, hk, rfl, ho, hB⟩ := hrel
    have O1 := Lib.hid ho; have B1 := Lib.hid hB
    clear ho hB
    have US := Lib.hid (useP_spec (W := len) (n := n) (h := hq + 1) HG.out k)
    by_cases hlt : k < len
    · obtain ⟨gb, go, l, ra, rl, rc, rfl, hx, hcw, hrx, _, hbw⟩ := Rows.get HR.out hlt
      have hrl := hrx.hlen; have hr6 := hrx.hsz
      subst hrl
      have hcw' := (B1.out.cell (p := ⟨gb, go + k, none⟩) hbw).trans hcw
      have hgd : g.getD k [] = l := by rw [List.getD_eq_getElem?_getD, hx]; rfl
      have HX := Lib.hid hx; have RX := Lib.hid hrx; have HD := Lib.hid hgd
      clear hx hcw hrx hgd
      obtain ⟨wo, hwo⟩ : ∃ wo : World, wo = wr := ⟨_, rfl⟩
      subst hwo
      go_wp2
      go_loopw [24] (fun i wr => ∃ j : Nat, j ≤ l.length ∧ i = .int .i64 j ∧ OMat wr (Ge w.heap.size) (.slice (some ⟨w.heap.size, 0, none⟩) len len) (useL n (hq + 1) k (useP len n (hq + 1) g k) (l.take j)) ∧ Below w.heap.size w wr) (fun i _ => l.length - (intOf i).toNat)
      case atStart => exact ⟨0, Nat.zero_le _, rfl, O1.out, B1.out⟩
      case round =>
        obtain ⟨j, hj, rfl, ho, hB⟩ := hrel
        have O2 := Lib.hid ho; have B2 := Lib.hid hB
        clear ho hB
        by_cases hlj : j < l.length
        · obtain ⟨lb, lo, x, rfl, hz, hcz, hz1, hz2, _, hbz⟩ := Ints.get RX.out hlj
          have hcz' := (B2.out.cell (p := ⟨lb, lo + j, none⟩) hbz).trans hcz
          have hch := (B2.out.cell (p := ⟨b, 0, none⟩) hbl).trans HC.out
          have HT := Lib.hid (show useL n (hq + 1) k (useP len n (hq + 1) g k) (l.take (j + 1)) = useStep n (hq + 1) k (useL n (hq + 1) k (useP len n (hq + 1) g k) (l.take j)) x by rw [List.take_add_one, hz]; unfold useL; rw [List.foldl_append]; rfl)
          have hxl : x ∈ l := List.mem_of_getElem? hz
          have WS := Lib.hid (useL_spec (n := n) (h := hq + 1) (a := k) (l := l.take j) US.out.1 ((HG.out.asc k l HX.out).sublist (List.take_sublist _ _)) (fun y hy => ⟨HG.out.mem k y ⟨l, HX.out, List.mem_of_mem_take hy⟩, fun i hi => by
            obtain ⟨_, a, ha, hat, _⟩ := (US.out.2 i y).1 hi
            have := HG.out.once _ _ _ hat ⟨l, HX.out, List.mem_of_mem_take hy⟩
            omega⟩)).1
          have PX := Lib.hid (HG.out.mem k x ⟨l, HX.out, hxl⟩)
          clear hcz hz hxl
          have AP := Lib.hid (fun (age : Nat) (ha : age ≤ 100) (w' : World) (ho : OMat w' (Ge w.heap.size) (.slice (some ⟨w.heap.size, 0, none⟩) len len) (useL n (hq + 1) k (useP len n (hq + 1) g k) (l.take j))) => aput_any (Ge w.heap.size) _ len len _ w' ho WS.out.len (HU.out.short WS.out) age x ha ⟨hz1, hz2⟩)
          by_cases hxn : x = n
          · have hb : (x == n) = true := by simp [hxn]
            have HE := Lib.hid (show useStep n (hq + 1) k (useL n (hq + 1) k (useP len n (hq + 1) g k) (l.take j)) x = useL n (hq + 1) k (useP len n (hq + 1) g k) (l.take j) from if_pos hxn)
            clear hxn
            go_wp2
            go_roundw
            case rel => exact ⟨j + 1, by omega, by go_num, by rw [HT.out, HE.out]; exact O2.out, B2.out⟩
            case measure => simp [intOf]; omega
          · have hb : (x == n) = false := by simp [hxn]
            have HE := Lib.hid (show useStep n (hq + 1) k (useL n (hq + 1) k (useP len n (hq + 1) g k) (l.take j)) x = put (useL n (hq + 1) k (useP len n (hq + 1) g k) (l.take j)) (dst (hq + 1) k) x from if_neg hxn)
            clear hxn
            have hs := B2.out.size
            by_cases hkh : k < hq + 1
            · have hd : decide (k < hq + 1) = true := by simpa using hkh
              have HDS := Lib.hid (show dst (hq + 1) k = k + 1 from if_pos hkh)
              have TC := Lib.hid (yclo_any k hq b wr hch)
              rw [hd] at TC
              clear hd hkh
              go_wp2_with fail
              refine TC.out.mono ?_
              rintro e w5 ⟨rfl, rfl⟩
              go_wp2_with fail
              refine (AP.out (k + 1) (by omega) _ O2.out).mono ?_
              rintro e w6 ⟨rfl, ho, hc6⟩
              have O3 := Lib.hid (ho.step hs); have B3 := Lib.hid (B2.out.trans (hc6.below (fun i hi h => by unfold Ge at h; omega) hs))
              clear ho hc6
              go_wp2
              go_roundw
              case rel => exact ⟨j + 1, by omega, by go_num, by rw [HT.out, HE.out, HDS.out]; exact O3.out, B3.out⟩
              case measure => simp [intOf]; omega
            · have hd : decide (k < hq + 1) = false := by simpa using hkh
              have HDS := Lib.hid (show dst (hq + 1) k = k from if_neg hkh)
              have TC := Lib.hid (yclo_any k hq b wr hch)
              rw [hd] at TC
              clear hd hkh
              go_wp2_with fail
              refine TC.out.mono ?_
              rintro e w5 ⟨rfl, rfl⟩
              go_wp2_with fail
              refine (AP.out k (by omega) _ O2.out).mono ?_
              rintro e w6 ⟨rfl, ho, hc6⟩
              have O3 := Lib.hid (ho.step hs); have B3 := Lib.hid (B2.out.trans (hc6.below (fun i hi h => by unfold Ge at h; omega) hs))
              clear ho hc6
              go_wp2
              go_roundw
              case rel => exact ⟨j + 1, by omega, by go_num, by rw [HT.out, HE.out, HDS.out]; exact O3.out, B3.out⟩
              case measure => simp [intOf]; omega
        · have hjl : j = l.length := by omega
          subst hjl
          rw [List.take_length] at O2
          go_wp2
          go_roundw
          case rel => exact ⟨k + 1, by omega, by go_num, by rw [useP_succ, HD.out]; exact O2.out, B2.out⟩
          case measure => simp [intOf]; omega
    · have hkl : k = len := by omega
      subst hkl
      have hs := B1.out.size
      have HE := Lib.hid (show useY k n hq g = put (useP k n (hq + 1) g k) 0 n by unfold useY; rw [HL.out])
      have AP := Lib.hid (aput_any (Ge w.heap.size) _ k k _ wr O1.out US.out.1.len (HU.out.short US.out.1) 0 n (by omega) hnr)
      go_wp2_with fail
      refine AP.out.mono ?_
      rintro e w6 ⟨rfl, ho, hc6⟩
      have O3 := Lib.hid (ho.step hs); have B3 := Lib.hid (B1.out.trans (hc6.below (fun i hi h => by unfold Ge at h; omega) hs))
      clear ho hc6
      go_wp2
      go_ret
      exact ⟨_, rfl, by rw [HE.out]; exact O3.out, B3.out⟩
end Go.Proofs.Ytlpelpjcbclemaa
namespace Go.Proofs.Ytlpelpjcbclemaa
open Go.RowKit

/-- A state that came in, or is owned: the lists of its sets, the age of all other lines of each set. -/
structure YCub (K : Nat → Prop) (w : World) (a : Option Addr) (n c : Nat) (oa : Option Addr) (on oc : Nat) (m : List (List (List Int))) (o : List Int) : Prop where
  cub : Cube K w a n c m
  ints : Ints K w oa on oc o
theorem YCub.below {K : Nat → Prop} {w w' : World} {a : Option Addr} {n c : Nat} {oa : Option Addr} {on oc : Nat} {m : List (List (List Int))} {o : List Int} (h : YCub K w a n c oa on oc m o) (b : Below w.heap.size w w') : YCub K w' a n c oa on oc m o :=
  ⟨Row.below (RSl.stays (RSl.stays RInt.stays)) h.cub b, h.ints.below b⟩
/-- A valid state. -/
structure YSt (U : List Int) (S W : Nat) (m : List (List (List Int))) (o : List Int) : Prop where
  len : m.length = S
  olen : o.length = S
  set : ∀ (s : Nat) g, m[s]? = some g → ∃ k : Nat, o[s]? = some (k : Int) ∧ YSet (PS U S s) W g k
theorem YSt.at {U : List Int} {S W : Nat} {m : List (List (List Int))} {o : List Int} (h : YSt U S W m o) {s : Nat} (hs : s < S) : ∃ g k, m[s]? = some g ∧ o[s]? = some ((k : Nat) : Int) ∧ m.getD s [] = g ∧ o.getD s 0 = (k : Int) ∧ YSet (PS U S s) W g k := by
  have e := List.getElem?_eq_getElem (l := m) (show s < m.length by rw [h.len]; exact hs)
  obtain ⟨k, hk, hy⟩ := h.set s _ e
  exact ⟨_, k, e, hk, by rw [List.getD_eq_getElem?_getD, e]; rfl, by rw [List.getD_eq_getElem?_getD, hk]; rfl, hy⟩
/-- The age of a line in a state. -/
def ageY (S W : Nat) (m : List (List (List Int))) (o : List Int) (n : Int) : Nat := if S = 0 then W else ageF W (m.getD (setN S n) []) (o.getD (setN S n) 0).toNat n
theorem ageY_found {S W : Nat} {m : List (List (List Int))} {o : List Int} {n : Int} {g : List (List Int)} {k : Nat} (h0 : ¬ S = 0) (hg : m.getD (setN S n) [] = g) (hk : o.getD (setN S n) 0 = (k : Int)) : ageY S W m o n = ageF W g k n := by
  unfold ageY; rw [if_neg h0, hg, hk, Int.toNat_natCast]
abbrev YV (a : Option Addr) (n c : Nat) (oa : Option Addr) (on oc : Nat) : Value := .agg #[.slice a n c, .slice oa on oc]

set_option maxHeartbeats 1000000 in
theorem yset_any (S W L : Nat) (hc : COk S W L) (a : Option Addr) (len cap : Nat) (oa : Option Addr) (on oc : Nat) (hl : len = S) (hol : on = S) (n : Int) (hn : 0 ≤ n) (hn' : n ≤ 9223372036854775807) (w : World) :
    Calls Try.prog 40 #[CV S W L, YV a len cap oa on oc, .int .i64 n] w fun e w' => e = .returned (.int .i64 (setI S n)) ∧ Below w.heap.size w w' := by
  subst hl
  subst hol
  have hC := Lib.hid hc
  obtain ⟨g1, g2, g3, g4, g5, g6⟩ := hc
  have F0 := Lib.hid (Fm.new (Fm.new (Fm.start Non w) rfl [.int .i64 on, .int .i64 W, .int .i64 L] 26) (by simp) [.slice a on cap, .slice oa on oc] 31)
  by_cases h0 : on = 0
  · subst h0
    have e : setI 0 n = -1 := rfl
    have E := Lib.hid e; clear e
    go_enter Try.func40, Try.ntmps40
    go_wp2_with fail
    refine (setof_none _ _ hC.out n _).mono ?_
    rintro e w1 ⟨rfl, hb1⟩
    have F1 := Fm.call hb1 F0.out
    have c0 := F1.h1.cell 0 _ rfl; have c1 := F1.h1.cell 1 _ rfl; have lt0 := F1.h1.lt (by simp)
    go_wp2
    go_ret
    exact ⟨ret_i E.out.symm, F1.below⟩
  · have e : setI on n = n % (on : Int) := if_neg h0
    have h1 : 0 ≤ n % (on : Int) := Int.emod_nonneg _ (by omega)
    have h2 : n % (on : Int) < (on : Int) := Int.emod_lt_of_pos _ (by omega)
    have E := Lib.hid e; clear e
    have SO := Lib.hid (fun w => setof_any _ _ _ hC.out (by omega) n hn hn' w)
    generalize n % (on : Int) = s at *
    go_enter Try.func40, Try.ntmps40
    go_wp2_with fail
    refine (SO.out _).mono ?_
    rintro e w1 ⟨rfl, hb1⟩
    have F1 := Fm.call hb1 F0.out
    have c0 := F1.h1.cell 0 _ rfl; have c1 := F1.h1.cell 1 _ rfl; have lt0 := F1.h1.lt (by simp)
    go_wp2
    go_ret
    exact ⟨ret_i E.out.symm, F1.below⟩
theorem YCub.other {K : Nat → Prop} {w : World} {a : Option Addr} {n c : Nat} {oa : Option Addr} {on oc : Nat} {m : List (List (List Int))} {o : List Int} (h : YCub K w a n c oa on oc m o) {s : Nat} {k : Nat} (hk : o[s]? = some ((k : Nat) : Int)) :
    ∃ b p, oa = some ⟨b, p, none⟩ ∧ w.cell? ⟨b, p + s, none⟩ = some (.int .i64 k) ∧ b < w.heap.size ∧ s < on ∧ K b := by
  have hs : s < on := by have := (List.getElem?_eq_some_iff.1 hk).1; have := h.ints.hlen; omega
  obtain ⟨b, p, z, e1, e2, e3, _, _, e6, e7⟩ := h.ints.get hs
  rw [hk] at e2
  cases e2
  exact ⟨b, p, e1, e3, e7, hs, e6⟩

set_option maxHeartbeats 2000000 in
theorem yage_any (S W L : Nat) (hc : COk S W L) {U : List Int} (m : List (List (List Int))) (o : List Int) (hm : YSt U S W m o) (K : Nat → Prop) (a : Option Addr) (len cap : Nat) (oa : Option Addr) (on oc : Nat) (n : Int) (hn : 0 ≤ n) (hn' : n ≤ 9223372036854775807) (w : World) (r : YCub K w a len cap oa on oc m o) :
    Calls Try.prog 15 #[CV S W L, YV a len cap oa on oc, .int .i64 n] w (IntBelow (ageY S W m o n) w) := by
  have hl := r.cub.hlen; have h6 := r.cub.hsz; have hol := r.ints.hlen
  have hS : len = S := by rw [← hl]; exact hm.len
  have hO : on = S := by rw [← hol]; exact hm.olen
  subst hS
  subst hO
  have hC := Lib.hid hc
  obtain ⟨g1, g2, g3, g4, g5, g6⟩ := hc
  have F0 := Lib.hid (Fm.new (Fm.new (Fm.start Non w) rfl [.int .i64 on, .int .i64 W, .int .i64 L] 26) (by simp) [.slice a on cap, .slice oa on oc] 31)
  have SE := Lib.hid (fun w => yset_any on W L hC.out a on cap oa on oc rfl rfl n hn hn' w)
  have HR := Lib.hid r; have HM := Lib.hid hm; have HL := Lib.hid hl
  clear r hm hl hol
  by_cases h0 : on = 0
  · subst h0
    rw [show setI 0 n = -1 from rfl] at SE
    go_enter Try.func15, Try.ntmps15
    go_wp2_with fail
    refine (SE.out _).mono ?_
    rintro e w1 ⟨rfl, hb1⟩
    have F1 := Fm.call hb1 F0.out
    have c0 := F1.h0.cell 0 _ rfl; have c1 := F1.h0.cell 1 _ rfl; have lt0 := F1.h0.lt (by simp)
    go_wp2
    go_ret
    exact ⟨rfl, F1.below⟩
  · have hlt := setN_lt (show 0 < on by omega) n
    rw [show setI on n = ((setN on n : Nat) : Int) from by unfold setI; rw [if_neg h0, setN_int (by omega)]] at SE
    obtain ⟨g, k, hg, hk, hgd, hkd, hgs⟩ := HM.out.at hlt
    have HA := Lib.hid (ageY_found (W := W) (n := n) h0 hgd hkd)
    have HG := Lib.hid hg; have HS := Lib.hid hgs
    obtain ⟨ob, op, rfl, hco, hbo, hso, _⟩ := HR.out.other hk
    clear hg hgd hgs hk hkd
    generalize setN on n = s at *
    obtain ⟨b, p, g', ra, rl, rc, rfl, hx, hcw, hrx, _, hbw⟩ := Rows.get HR.out.cub hlt
    have hgg : g' = g := by rw [HG.out] at hx; cases hx; rfl
    subst hgg
    clear hx
    have HRX := Lib.hid hrx; clear hrx
    have HW := Lib.hid HS.out.ws.len
    have hs0 : (0 : Int) ≤ (s : Int) := by omega
    have hs1 : (s : Int) < (on : Int) := by omega
    have FI := Lib.hid (fun (w' : World) (hb : Below w.heap.size w w') => find_any K ra rl rc g' n w' (HRX.out.below (RSl.stays RInt.stays) hb) HS.out.ws.asc)
    go_enter Try.func15, Try.ntmps15
    go_wp2_with fail
    refine (SE.out _).mono ?_
    rintro e w1 ⟨rfl, hb1⟩
    have F1 := Lib.hid (Fm.call hb1 F0.out)
    have c0 := F1.out.h1.cell 0 _ rfl; have lt0 := F1.out.h1.lt (by simp)
    have cx := (F1.out.below.cell (p := ⟨b, p + s, none⟩) hbw).trans hcw
    clear hb1 hcw
    go_wp2_with fail
    refine (FI.out _ F1.out.below).mono ?_
    by_cases hf : plc g' n < g'.length
    · rw [show findI g' n = ((plc g' n : Nat) : Int) from if_pos hf]
      have HAF := Lib.hid (show ageF W g' k n = plc g' n by unfold ageF; rw [← HW.out, if_pos hf])
      rintro e w2 ⟨rfl, hb2⟩
      have F2 := Fm.call hb2 F1.out
      have c0 := F2.h0.cell 0 _ rfl; have c1 := F2.h0.cell 1 _ rfl; have lt0 := F2.h0.lt (by simp)
      go_wp2
      go_ret
      exact ⟨ret_i (by rw [HA.out, HAF.out]), F2.below⟩
    · rw [show findI g' n = -1 from if_neg hf]
      have HAF := Lib.hid (show ageF W g' k n = k by unfold ageF; rw [← HW.out, if_neg hf])
      rintro e w2 ⟨rfl, hb2⟩
      have F2 := Fm.call hb2 F1.out
      have c0 := F2.h0.cell 0 _ rfl; have c1 := F2.h0.cell 1 _ rfl; have lt0 := F2.h0.lt (by simp)
      have d1 := F2.h1.cell 1 _ rfl; have lt1 := F2.h1.lt (by simp)
      have co := (F2.below.cell (p := ⟨ob, op + s, none⟩) hbo).trans hco
      clear cx
      go_wp2
      go_ret
      exact ⟨ret_i (by rw [HA.out, HAF.out]), F2.below⟩
set_option maxHeartbeats 2000000 in
theorem yrage_any (S W L : Nat) (hc : COk S W L) {U : List Int} (m : List (List (List Int))) (o : List Int) (hm : YSt U S W m o) (K : Nat → Prop) (a : Option Addr) (len cap : Nat) (oa : Option Addr) (on oc : Nat) (n : Int) (hn : 0 ≤ n) (w : World) (r : YCub K w a len cap oa on oc m o) :
    Calls Try.prog 30 #[CV S W L, YV a len cap oa on oc, .int .i64 n] w (IntBelow (ageY S W m o n) w) := by
  have hl := r.cub.hlen; have h6 := r.cub.hsz; have hol := r.ints.hlen
  have hS : len = S := by rw [← hl]; exact hm.len
  have hO : on = S := by rw [← hol]; exact hm.olen
  subst hS
  subst hO
  obtain ⟨g1, g2, g3, g4, g5, g6⟩ := hc
  have F0 := Lib.hid (Fm.new (Fm.new (Fm.start Non w) rfl [.int .i64 on, .int .i64 W, .int .i64 L] 26) (by simp) [.slice a on cap, .slice oa on oc] 31)
  have HR := Lib.hid r; have HM := Lib.hid hm; have HL := Lib.hid hl
  clear r hm hl hol
  by_cases h0 : on = 0
  · subst h0
    go_enter Try.func30, Try.ntmps30
    go_wp2
    go_ret
    exact ⟨rfl, F0.out.below⟩
  · have hlt := setN_lt (show 0 < on by omega) n
    have hsi := setN_int (show 0 < on by omega) n
    have hz : ((on : Int) == 0) = false := by simp; omega
    have hmod : n.tmod (on : Int) = ((setN on n : Nat) : Int) := by rw [Int.tmod_eq_emod_of_nonneg hn, hsi]
    obtain ⟨g, k, hg, hk, hgd, hkd, hgs⟩ := HM.out.at hlt
    have HA := Lib.hid (ageY_found (W := W) (n := n) h0 hgd hkd)
    have HG := Lib.hid hg; have HS := Lib.hid hgs
    obtain ⟨ob, op, rfl, hco, hbo, hso, _⟩ := HR.out.other hk
    clear hg hgd hgs hk hkd hsi
    generalize setN on n = s at *
    obtain ⟨b, p, g', ra, rl, rc, rfl, hx, hcw, hrx, _, hbw⟩ := Rows.get HR.out.cub hlt
    have hgg : g' = g := by rw [HG.out] at hx; cases hx; rfl
    subst hgg
    clear hx
    have HRX := Lib.hid hrx; clear hrx
    have HW := Lib.hid HS.out.ws.len
    have PL := Lib.hid (fun (w' : World) (hb : Below w.heap.size w w') => place_any K ra rl rc g' n w' (HRX.out.below (RSl.stays RInt.stays) hb))
    have hnz : ¬ on = 0 := h0
    have hs0 : (0 : Int) ≤ (s : Int) := by omega
    have hs1 : (s : Int) < (on : Int) := by omega
    have hb1 := F0.out.below
    go_enter Try.func30, Try.ntmps30
    go_wp2_with fail
    refine (PL.out _ hb1).mono ?_
    by_cases hf : plc g' n < g'.length
    · rw [show findI g' n = ((plc g' n : Nat) : Int) from if_pos hf]
      have HAF := Lib.hid (show ageF W g' k n = plc g' n by unfold ageF; rw [← HW.out, if_pos hf])
      rintro e w2 ⟨rfl, rfl⟩
      go_wp2
      go_ret
      exact ⟨ret_i (by rw [HA.out, HAF.out]), hb1⟩
    · rw [show findI g' n = -1 from if_neg hf]
      have HAF := Lib.hid (show ageF W g' k n = k by unfold ageF; rw [← HW.out, if_neg hf])
      rintro e w2 ⟨rfl, rfl⟩
      have d1 := F0.out.h1.cell 1 _ rfl
      go_wp2
      go_ret
      exact ⟨ret_i (by rw [HA.out, HAF.out]), hb1⟩
end Go.Proofs.Ytlpelpjcbclemaa
