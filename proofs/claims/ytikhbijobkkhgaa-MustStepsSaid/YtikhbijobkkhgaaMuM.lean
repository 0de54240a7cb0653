/-
  The document's Touch.
-/
import Derived.Test.YtikhbijobkkhgaaMuL
namespace Go.Proofs.Ytikhbijobkkhgaa
open Go.RowKit

theorem useStep_none {n x : Int} {h a : Nat} {out : List (List Int)} (hx : x = n) : useStep n h a out x = out := if_pos hx
theorem useStep_put {n x : Int} {h a : Nat} {out : List (List Int)} (hx : ¬ x = n) : useStep n h a out x = put out (dst h a) x := if_neg hx
set_option maxHeartbeats 8000000 in
theorem rtouch_any (U : List Int) (hU : U.length ≤ 1000) (S W L : Nat) (hc : COk S W L) (m : List (List (List Int))) (hm : MSt U S W m) (K : Nat → Prop) (a : Option Addr) (len cap : Nat) (n : Int) (hn : 0 ≤ n) (hn1 : n ≤ 1048576) (hnU : n ∈ U) (w : World) (r : Cube K w a len cap m) :
    Calls Try.prog 34 #[CV S W L, .agg #[.slice a len cap], .int .i64 n] w (StRet (touchM S W m n) w) := by
  have hl := r.hlen; have h6 := r.hsz
  have hS : len = S := by rw [← hl]; exact hm.len
  subst hS
  have hC := Lib.hid hc
  obtain ⟨g1, g2, g3, g4, g5, g6⟩ := hc
  have F0 := Lib.hid (Fm.new (Fm.new (Fm.new (Fm.start Non w) rfl [.int .i64 len, .int .i64 W, .int .i64 L] 26) (by simp) [.slice a len cap] 30) (by simp) [.slice none 0 0] 30)
  have CP := Lib.hid (fun (w' : World) (hb : Below w.heap.size w w') => rcopy3_any K a len cap m w' (r.below (RSl.stays (RSl.stays RInt.stays)) hb) (hm.fews hU (by omega) (by omega)))
  have HR := Lib.hid r; have HM := Lib.hid hm; have HL := Lib.hid hl
  clear r hm
  by_cases h0 : len = 0
  · subst h0
    have HT := Lib.hid (show touchM 0 W m n = m from rfl)
    go_enter Try.func34, Try.ntmps34
    go_wp2_with fail
    refine (CP.out _ F0.out.below).mono ?_
    rintro e w1 ⟨oa, on, oc, rfl, ho1, hb1⟩
    have F1 := Lib.hid ((Fm.call hb1 F0.out).more (.cells #[.slice oa on oc] 30))
    have O1 := Lib.hid (OCub.loc.below (ho1.narrow (A := w.heap.size + 3) (by simp)) ((Below.refl _ _).alloc (Nat.le_refl _) (.cells #[.slice oa on oc] 30)))
    have t1 := Fm.call hb1 F0.out
    have c0 := t1.h0.cell 0 _ rfl; have lt0 := t1.h0.lt (by simp)
    have e0 := t1.h2.cell 0 _ rfl; have ef := t1.h2.free; have lt1 := t1.h2.lt (by simp)
    clear ho1 hb1 t1
    go_wp2
    have e1 := F1.out.h2.cell 0 _ rfl
    refine bodyPost_ret (v := .agg #[.slice oa on oc]) (by simp [results, Try.results34, go_sem, e0, lt1]) rfl ⟨oa, on, oc, rfl, ?_, ?_⟩
    · rw [HT.out]
      have := (OCub.loc.chg (M := fun j => j = w.heap.size + 2) O1.out (Chg.setCell (M := fun j => j = w.heap.size + 2) (Chg.refl _) (fun _ => rfl) (p := ⟨w.heap.size + 2, 0, none⟩) (.slice oa on oc)) (fun j hj _ e => by have := hj.1; omega)).ge (A := w.heap.size) (by omega)
      rwa [World.setCell_alloc_past _ _ _ _ lt1] at this
    · have := (F1.out.set 2 0 [.slice none 0 0] rfl (by simp) (.slice oa on oc)).below
      rwa [World.setCell_alloc_past _ _ _ _ lt1] at this
  · have hlt := setN_lt (show 0 < len by omega) n
    have hsi := setN_int (show 0 < len by omega) n
    have hPn := PS.self (show 0 < len by omega) hn hn1 hnU
    have hz : ((len : Int) == 0) = false := by simp; omega
    have hmod : n.tmod (len : Int) = ((setN len n : Nat) : Int) := by rw [Int.tmod_eq_emod_of_nonneg hn, hsi]
    have hmod2 : n % (len : Int) = ((setN len n : Nat) : Int) := hsi.symm
    obtain ⟨g, hg, hgd, hgs⟩ := HM.out.at hlt
    have HT := Lib.hid (show touchM len W m n = m.set (setN len n) (useS W n g) from by unfold touchM; rw [if_neg h0, hgd])
    have AG := Lib.hid (fun (w' : World) (hb : Below w.heap.size w w') => rage_any len W L hC.out m HM.out K a len cap n hn (by omega) w' (HR.out.below (RSl.stays (RSl.stays RInt.stays)) hb))
    rw [show ageN len W m n = plc g n from ageN_found h0 hgd] at AG
    have HG := Lib.hid hg; have HS := Lib.hid hgs; have HP := Lib.hid hPn
    clear hg hgd hgs hPn hsi
    generalize setN len n = s at *
    obtain ⟨b, o, g', ra, rl, rc, rfl, hx, hcw, hrx, _, hbw⟩ := Rows.get HR.out hlt
    have hgg : g' = g := by rw [HG.out] at hx; cases hx; rfl
    subst hgg
    clear hx
    have hrl := hrx.hlen; have hr6 := hrx.hsz
    have hrW : rl = W := by rw [← hrl]; exact HS.out.len
    subst hrW
    have HRX := Lib.hid hrx; have HRL := Lib.hid hrl; clear hrx hrl
    have hs0 : (0 : Int) ≤ (s : Int) := by omega
    have hs1 : (s : Int) < (len : Int) := by omega
    have hnz : ¬ len = 0 := h0
    have hpl := plc_le g' n
    have HH := Lib.hid (rfl : plc g' n = plc g' n)
    have HUS := Lib.hid (show useS rl n g' = put (useP rl n (plc g' n) g' g'.length) 0 n from rfl)
    have hW0 : (rl : Int) ≤ 4 := g4
    generalize plc g' n = hh at *
    have hm2 := fun w => make_rows rl (by omega) w .i64 .i64
    go_enter Try.func34, Try.ntmps34
    go_wp2_with fail
    refine (CP.out _ F0.out.below).mono ?_
    rintro e w1 ⟨oa, on, oc, rfl, ho1, hb1⟩
    have F1 := Lib.hid ((Fm.call hb1 F0.out).more (.cells #[.slice oa on oc] 30))
    have X1 := Lib.hid (Has.new w1 [.slice oa on oc] 30)
    have O1 := Lib.hid (OCub.loc.below (ho1.narrow (A := w.heap.size + 3) (by simp)) ((Below.refl _ _).alloc (Nat.le_refl _) (.cells #[.slice oa on oc] 30)))
    have s1 := (Fm.call hb1 F0.out).size
    simp only [List.length_append, List.length_cons, List.length_nil, Nat.zero_add] at s1
    have t1 := Fm.call hb1 F0.out
    have c0 := t1.h0.cell 0 _ rfl; have c1 := t1.h0.cell 1 _ rfl; have c2 := t1.h0.cell 2 _ rfl; have lt0 := t1.h0.lt (by simp); have e0 := t1.h1.cell 0 _ rfl; have lt1 := t1.h1.lt (by simp)
    clear ho1 hb1 t1
    go_wp2_with fail
    refine (AG.out _ F1.out.below).mono ?_
    rintro e w3 ⟨rfl, hb3⟩
    have s3 := hb3.size
    simp only [World.size_alloc] at s3
    have F3 := Lib.hid (Fm.call hb3 F1.out)
    have X3 := Lib.hid (X1.out.below hb3 (by simp))
    have O3 := Lib.hid (OCub.loc.below O1.out hb3)
    clear c0 c1 c2 lt0 e0 lt1 hb3
    obtain ⟨ob, obc, u, fq, p⟩ := OwnRow.pick OMat.loc O3.out HG.out
    have pf := p.form
    rw [HL.out] at pf
    simp only [Value.slice.injEq] at pf
    obtain ⟨pf1, pf2, pf3⟩ := pf
    subst pf1
    obtain rfl : len = on := pf2.symm
    obtain rfl : obc = oc := pf3.symm
    have PP := Lib.hid p
    have c1 := F3.out.h0.cell 1 _ rfl; have lt0 := F3.out.h0.lt (by simp); have e0 := F3.out.h1.cell 0 _ rfl; have lt1 := F3.out.h1.lt (by simp)
    have cx := (F3.out.below.cell (p := ⟨b, o + s, none⟩) hbw).trans hcw
    have lb3 : b < w3.heap.size := Nat.lt_of_lt_of_le hbw (by have := F3.out.below.size; omega)
    have Q0 := Lib.hid (OMat.nils (fp := Ge w3.heap.size) (Blk.new w3 (zeros (.slice none 0 0) rl) 22) (Nat.le_refl _) (by omega))
    have C0 := Lib.hid (show Chg (Ge w3.heap.size) w3 (w3.alloc (.cells (zeros (.slice none 0 0) rl).toArray 22)) from (Chg.refl w3).alloc _)
    clear p hcw
    go_wp2
    clear hm2 c1 lt0 e0 lt1 cx lb3
    have hw3 : w.heap.size + 3 ≤ w3.heap.size := by omega
    go_loopw [41] (fun i wr => ∃ k : Nat, k ≤ rl ∧ i = .int .i64 k ∧ OMat wr (Ge w3.heap.size) (.slice (some ⟨w3.heap.size, 0, none⟩) rl rl) (useP rl n hh g' k) ∧ Chg (Ge w3.heap.size) w3 wr) (fun i _ => rl - (intOf i).toNat)
    case atStart => exact ⟨0, Nat.zero_le _, rfl, Q0.out, C0.out⟩
    case round =>
      obtain ⟨k, hk, rfl, hq, hC3⟩ := hrel
      have Q1 := Lib.hid hq; have C1 := Lib.hid hC3
      clear hq hC3
      have US := Lib.hid (useP_spec (W := rl) (n := n) (h := hh) HS.out k)
      have F4 := Lib.hid (F3.out.chgd C1.out (fun j hj => .inr (by unfold Ge at hj; simp; omega)))
      have hsz4 := C1.out.size
      by_cases hkl : k < rl
      · obtain ⟨gb, go, l, la, ll, lc, rfl, hxl, hcl, hrl, _, hbl⟩ := Rows.get HRX.out hkl
        have hll := hrl.hlen; have hl6 := hrl.hsz
        subst hll
        have hcl' := (F4.out.below.cell (p := ⟨gb, go + k, none⟩) hbl).trans hcl
        have hgd : g'.getD k [] = l := by rw [List.getD_eq_getElem?_getD, hxl]; rfl
        have HX := Lib.hid hxl; have RX := Lib.hid hrl; have HD := Lib.hid hgd
        have b1 : gb < wr.heap.size := Nat.lt_of_lt_of_le hbl F4.out.below.size
        clear hxl hcl hrl hgd
        obtain ⟨wo, hwo⟩ : ∃ wo : World, wo = wr := ⟨_, rfl⟩
        subst hwo
        go_wp2
        go_loopw [48] (fun i wr => ∃ j : Nat, j ≤ l.length ∧ i = .int .i64 j ∧ OMat wr (Ge w3.heap.size) (.slice (some ⟨w3.heap.size, 0, none⟩) rl rl) (useL n hh k (useP rl n hh g' k) (l.take j)) ∧ Chg (Ge w3.heap.size) w3 wr) (fun i _ => l.length - (intOf i).toNat)
        case atStart => exact ⟨0, Nat.zero_le _, rfl, Q1.out, C1.out⟩
        case round =>
          obtain ⟨j, hj, rfl, hq, hC5⟩ := hrel
          have Q2 := Lib.hid hq; have C2 := Lib.hid hC5
          clear hq hC5
          have F5 := Lib.hid (F3.out.chgd C2.out (fun j hj => .inr (by unfold Ge at hj; simp; omega)))
          have hsz5 := C2.out.size
          by_cases hlj : j < l.length
          · obtain ⟨lb, lo, x, rfl, hzx, hcz, hz1, hz2, _, hbz⟩ := Ints.get RX.out hlj
            have hcz' := (F5.out.below.cell (p := ⟨lb, lo + j, none⟩) hbz).trans hcz
            have HTS := Lib.hid (show useL n hh k (useP rl n hh g' k) (l.take (j + 1)) = useStep n hh k (useL n hh k (useP rl n hh g' k) (l.take j)) x by rw [List.take_add_one, hzx]; unfold useL; rw [List.foldl_append]; rfl)
            have hxl : x ∈ l := List.mem_of_getElem? hzx
            have WS := Lib.hid (useL_spec (n := n) (h := hh) (a := k) (l := l.take j) US.out.1 ((HS.out.asc k l HX.out).sublist (List.take_sublist _ _)) (fun y hy => ⟨HS.out.mem k y ⟨l, HX.out, List.mem_of_mem_take hy⟩, fun i hi => by
              obtain ⟨_, a, ha, hat, _⟩ := (US.out.2 i y).1 hi
              have := HS.out.once _ _ _ hat ⟨l, HX.out, List.mem_of_mem_take hy⟩
              omega⟩)).1
            clear hcz hzx hxl
            have c1 := F5.out.h0.cell 1 _ rfl; have lt0 := F5.out.h0.lt (by simp)
            by_cases hxn : x = n
            · have hb : (x != n) = false := by simp [hxn]
              have HE := Lib.hid (useStep_none (h := hh) (a := k) (out := useL n hh k (useP rl n hh g' k) (l.take j)) hxn)
              clear hxn
              by_cases hkh : k < hh
              all_goals
                go_wp2
                go_roundw
                case rel => exact ⟨j + 1, by omega, by go_num, by rw [HTS.out, HE.out]; exact Q2.out, C2.out⟩
                case measure => simp [intOf]; omega
            · have hb : (x != n) = true := by simp [hxn]
              have HE := Lib.hid (useStep_put (h := hh) (a := k) (out := useL n hh k (useP rl n hh g' k) (l.take j)) hxn)
              clear hxn
              generalize useL n hh k (useP rl n hh g' k) (l.take j) = X at *
              by_cases hkh : k < hh
              · have HDS := Lib.hid (show dst hh k = k + 1 from if_pos hkh)
                by_cases hkW : k + 1 < rl
                · obtain ⟨lx, hlx⟩ : ∃ lx, X[k + 1]? = some lx := ⟨_, List.getElem?_eq_getElem (by rw [WS.out.len]; exact hkW)⟩
                  obtain ⟨qb, qc, qu, qf, q⟩ := OwnRow.pick OInts.loc Q2.out hlx
                  have qfm := q.form
                  rw [WS.out.len] at qfm
                  cases qfm
                  have HPX := Lib.hid (put_get (x := x) hlx)
                  obtain ⟨ua, uc, rfl⟩ := q.elem.form
                  have PU := Lib.hid (rput_any (fun _ => True) ua lx.length uc lx x ⟨hz1, hz2⟩ wr (OInts.read (fun _ _ => trivial) q.elem) ((PS.lns hU).short WS.out _ _ hlx).2)
                  have q0 := q.cell; have q1 := q.free; have q2 := q.lt
                  have QQ := Lib.hid q
                  clear q hlx
                  have k0 : (0 : Int) ≤ (k : Int) + 1 := by omega
                  have k1 : (k : Int) + 1 < (rl : Int) := by omega
                  go_wp2_with fail
                  refine PU.out.mono ?_
                  rintro e w6 ⟨v6, rfl, ho6, hb6⟩
                  obtain ⟨vn, va, vc, rfl⟩ : ∃ n a c, v6 = .slice a n c := by obtain ⟨a, c, h⟩ := ho6.form; exact ⟨_, a, c, h⟩
                  have f1 := cell_later hb6 q0; have f2 := frz_later hb6 q2 q1; have f3 : w3.heap.size < w6.heap.size := Nat.lt_of_lt_of_le q2 hb6.size
                  have sw := Lib.hid (OwnRow.step (QQ.out.swap w6 _ (.slice va vn vc) _ (Chg.of_below hb6) ho6.lt (fun i hi => ⟨.inr hi.1, hi.2⟩)) hsz5)
                  have C6 := Lib.hid (((C2.out.tr hb6).setCell (p := ⟨w3.heap.size, k + 1, none⟩) (fun _ => Nat.le_refl _) (.slice va vn vc)))
                  clear ho6 hb6 q0 q1 q2
                  go_wp2
                  go_roundw
                  case rel => exact ⟨j + 1, by omega, by go_num, by rw [HTS.out, HE.out, HDS.out, HPX.out]; exact sw.out, C6.out⟩
                  case measure => simp [intOf]; omega
                · have HPX := Lib.hid (put_out (g := X) (a := k + 1) (x := x) (by rw [WS.out.len]; omega))
                  have k1 : ¬ (k : Int) + 1 < (rl : Int) := by omega
                  go_wp2
                  go_roundw
                  case rel => exact ⟨j + 1, by omega, by go_num, by rw [HTS.out, HE.out, HDS.out, HPX.out]; exact Q2.out, C2.out⟩
                  case measure => simp [intOf]; omega
              · have HDS := Lib.hid (show dst hh k = k from if_neg hkh)
                obtain ⟨lx, hlx⟩ : ∃ lx, X[k]? = some lx := ⟨_, List.getElem?_eq_getElem (by rw [WS.out.len]; exact hkl)⟩
                obtain ⟨qb, qc, qu, qf, q⟩ := OwnRow.pick OInts.loc Q2.out hlx
                have qfm := q.form
                rw [WS.out.len] at qfm
                cases qfm
                have HPX := Lib.hid (put_get (x := x) hlx)
                obtain ⟨ua, uc, rfl⟩ := q.elem.form
                have PU := Lib.hid (rput_any (fun _ => True) ua lx.length uc lx x ⟨hz1, hz2⟩ wr (OInts.read (fun _ _ => trivial) q.elem) ((PS.lns hU).short WS.out _ _ hlx).2)
                have q0 := q.cell; have q1 := q.free; have q2 := q.lt
                have QQ := Lib.hid q
                clear q hlx
                have k0 : (0 : Int) ≤ (k : Int) := by omega
                have k1 : (k : Int) < (rl : Int) := by omega
                go_wp2_with fail
                refine PU.out.mono ?_
                rintro e w6 ⟨v6, rfl, ho6, hb6⟩
                obtain ⟨vn, va, vc, rfl⟩ : ∃ n a c, v6 = .slice a n c := by obtain ⟨a, c, h⟩ := ho6.form; exact ⟨_, a, c, h⟩
                have f1 := cell_later hb6 q0; have f2 := frz_later hb6 q2 q1; have f3 : w3.heap.size < w6.heap.size := Nat.lt_of_lt_of_le q2 hb6.size
                have sw := Lib.hid (OwnRow.step (QQ.out.swap w6 _ (.slice va vn vc) _ (Chg.of_below hb6) ho6.lt (fun i hi => ⟨.inr hi.1, hi.2⟩)) hsz5)
                have C6 := Lib.hid (((C2.out.tr hb6).setCell (p := ⟨w3.heap.size, k, none⟩) (fun _ => Nat.le_refl _) (.slice va vn vc)))
                clear ho6 hb6 q0 q1 q2
                go_wp2
                go_roundw
                case rel => exact ⟨j + 1, by omega, by go_num, by rw [HTS.out, HE.out, HDS.out, HPX.out]; exact sw.out, C6.out⟩
                case measure => simp [intOf]; omega
          · have hjl : j = l.length := by omega
            subst hjl
            rw [List.take_length] at Q2
            go_wp2
            go_roundw
            case rel => exact ⟨k + 1, by omega, by go_num, by rw [useP_succ, HD.out]; exact Q2.out, C2.out⟩
            case measure => simp [intOf]; omega
      · have hkr : k = rl := by omega
        subst hkr
        rw [HRL.out] at HUS
        generalize useP k n hh g' k = X at *
        obtain ⟨lx, hlx⟩ : ∃ lx, X[0]? = some lx := ⟨_, List.getElem?_eq_getElem (by rw [US.out.1.len]; omega)⟩
        obtain ⟨qb, qc, qu, qf, q⟩ := OwnRow.pick OInts.loc Q1.out hlx
        have qfm := q.form
        rw [US.out.1.len] at qfm
        cases qfm
        have HPX := Lib.hid (put_get (x := n) hlx)
        obtain ⟨ua, uc, rfl⟩ := q.elem.form
        have PU := Lib.hid (rput_any (fun _ => True) ua lx.length uc lx n ⟨by omega, by omega⟩ wr (OInts.read (fun _ _ => trivial) q.elem) ((PS.lns hU).short US.out.1 _ _ hlx).2)
        have q0 := q.cell; have q1 := q.free; have q2 := q.lt
        have QQ := Lib.hid q
        clear q hlx
        have k1 : (0 : Int) < (k : Int) := by omega
        go_wp2_with fail
        refine PU.out.mono ?_
        rintro e w6 ⟨v6, rfl, ho6, hb6⟩
        obtain ⟨vn, va, vc, rfl⟩ : ∃ n a c, v6 = .slice a n c := by obtain ⟨a, c, h⟩ := ho6.form; exact ⟨_, a, c, h⟩
        have f1 := cell_later hb6 q0; have f2 := frz_later hb6 q2 q1; have f3 : w3.heap.size < w6.heap.size := Nat.lt_of_lt_of_le q2 hb6.size
        have sw := Lib.hid (OwnRow.step (QQ.out.swap w6 _ (.slice va vn vc) _ (Chg.of_below hb6) ho6.lt (fun i hi => ⟨.inr hi.1, hi.2⟩)) hsz4)
        have C6 := Lib.hid (((C1.out.tr hb6).setCell (p := ⟨w3.heap.size, 0, none⟩) (fun _ => Nat.le_refl _) (.slice va vn vc)))
        have D6 := Lib.hid (C1.out.tr hb6)
        have n1 : w1.heap.size ≠ w3.heap.size := by omega
        have po := PP.out.own
        have n2 : ob ≠ w3.heap.size := by have := po.2; omega
        have n3 : ob ≠ w1.heap.size := by have := po.2; omega
        have n4 : ob ≠ w.heap.size + 1 + 1 := by have := po.1; omega
        have n5 : w1.heap.size ≠ w.heap.size + 1 + 1 := by omega
        have X6 := Lib.hid (D6.out.has X3.out (by omega) (fun h => by unfold Ge at h; omega))
        have F6 := Lib.hid (F3.out.chgd D6.out (fun j hj => .inr (by unfold Ge at hj; simp; omega)))
        have nG : ¬ Ge w3.heap.size ob := fun h => by have := po.2; unfold Ge at h; omega
        have y0 := D6.out.cell nG PP.out.cell; have y1 := D6.out.frz nG PP.out.lt PP.out.free; have y2 : ob < w6.heap.size := Nat.lt_of_lt_of_le PP.out.lt D6.out.size
        have y3 := PP.out.hcap
        rw [HL.out] at y3
        have x0 := X6.out.cell 0 _ rfl; have x1 := X6.out.lt (by simp)
        have e0 := F6.out.h2.cell 0 _ rfl; have ef := F6.out.h2.free; have lt1 := F6.out.h2.lt (by simp)
        have sw2 := Lib.hid (PP.out.swap _ _ (.slice (some ⟨w3.heap.size, 0, none⟩) k k) _ (C6.out.mono (fun j hj h => by unfold Ge at h; omega)) (OwnRow.lt (show OMat (w6.setCell ⟨w3.heap.size, 0, none⟩ (.slice va vn vc)) (Ge w3.heap.size) (.slice (some ⟨w3.heap.size, 0, none⟩) k k) (useS k n g') by rw [HUS.out, HPX.out]; exact sw.out)) (fun i hi => ⟨.inr hi.1, hi.2⟩))
        have F7 := Lib.hid ((F6.out.far (p := ⟨w3.heap.size, 0, none⟩) (.inr (by simp; omega)) (.slice va vn vc)).far (p := ⟨ob, s, none⟩) (.inr (by have := po.1; simp; omega)) (.slice (some ⟨w3.heap.size, 0, none⟩) k k))
        clear ho6 hb6 q0 q1 q2
        go_wp2
        refine bodyPost_ret (v := .agg #[.slice (some ⟨ob, 0, none⟩) len obc]) (by simp [results, Try.results34, go_sem, e0]) rfl ⟨some ⟨ob, 0, none⟩, len, obc, rfl, ?_, (F7.out.set 2 0 [.slice none 0 0] rfl (by simp) _).below⟩
        rw [HT.out]
        exact OwnRow.wid _ _ _ _ _ _ (fun i hi => hi.elim (fun h => by have := h.1; unfold Ge; omega) (fun h => by unfold Ge; omega)) (OCub.loc.chg (M := fun j => j = w.heap.size + 2) sw2.out (Chg.setCell (M := fun j => j = w.heap.size + 2) (Chg.refl _) (fun _ => rfl) _) (fun j hj _ e => by rcases hj with h | h; (have := h.1; omega); omega))
end Go.Proofs.Ytikhbijobkkhgaa
