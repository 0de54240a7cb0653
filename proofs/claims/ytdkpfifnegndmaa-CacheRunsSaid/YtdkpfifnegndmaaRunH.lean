/-
  cache.Drop.
-/
import Derived.Test.YtdkpfifnegndmaaRunG
import Derived.Deep.DeepCutAuto
namespace Go.Proofs.Ytdkpfifnegndmaa
open Go.RowKit

set_option maxHeartbeats 2000000 in
theorem drop_bad (S W L : Nat) (hc : COk S W L) (K : Nat → Prop) (a : Option Addr) (len cap : Nat) (ss : List (List Int)) (w : World) (r : Mat K w a len cap ss) (hn : len ≤ 1000000) (hv : ¬ ValidP S W ss) (s p : Int) :
    Calls Try.prog 35 #[CV S W L, .agg #[.slice a len cap], .int .i64 s, .int .i64 p] w (DropRet ss 10 w) := by
  have HR := Lib.hid r; clear r
  have hC := Lib.hid hc
  have HV := Lib.hid hv; clear hv
  clear hc
  have F0 := Lib.hid (Fm.new (Fm.new (Fm.new (Fm.start Non w) rfl [.int .i64 S, .int .i64 W, .int .i64 L] 29) (by simp) [.slice a len cap] 33) (by simp) [.slice none 0 0] 33)
  go_enter Try.func35, Try.ntmps35
  go_wp2_with fail
  refine (copied_new K a len cap ss _ (HR.out.below F0.out.below) hn).mono ?_
  rintro e w1 ⟨oa, on, oc, rfl, ho1, hb1⟩
  have O1 := Lib.hid (ho1.ge (B' := w.heap.size + 3) (by simp)).bt
  have f1 := (Fm.call hb1 F0.out).more (.cells #[.slice oa on oc] 33)
  have hs1 := (Fm.call hb1 F0.out).size
  simp only [List.length_append, List.length_cons, List.length_nil, Nat.zero_add] at hs1
  have O2 := Lib.hid (OMat.loc.chg (M := Non) O1.out ((Chg.refl w1).alloc (.cells #[.slice oa on oc] 33)) (fun _ _ _ h => h))
  have F1 := Lib.hid f1; have X1 := Lib.hid (Has.new w1 [.slice oa on oc] 33); clear ho1 f1 hb1
  have t0 := F1.out.h0; have t1 := F1.out.h1; have t2 := F1.out.h2
  have c0 := t0.cell 0 _ rfl; have c1 := t0.cell 1 _ rfl; have c2 := t0.cell 2 _ rfl; have d0 := t1.cell 0 _ rfl; have lt0 := t0.lt (by simp); have lt1 := t1.lt (by simp); have lt2 := t2.lt (by simp)
  go_wp2_with fail
  refine ((checked_any S W L hC.out K a len cap ss _ (HR.out.below F1.out.below)).2 HV.out).mono ?_
  rintro e w2 ⟨rfl, hb2⟩
  have F2 := Lib.hid (Fm.call hb2 F1.out)
  have O3 := Lib.hid (OMat.loc.below O2.out hb2)
  have X2 := Lib.hid (X1.out.below hb2 (by simp))
  clear t0 t1 t2 c0 c1 c2 d0 lt0 lt1 lt2 hb2
  have t2 := F2.out.h2; have e0 := t2.cell 0 _ rfl; have ef := t2.free; have lt2 := t2.lt (by simp); have y0 := X2.out.cell 0 _ rfl; have ly := X2.out.lt (by simp)
  go_wp2
  refine bodyPost_ret (v := .tuple #[.agg #[.slice oa on oc], .int .i64 10]) (by simp [results, Try.results35, go_sem, e0]) rfl ⟨oa, on, oc, rfl, ?_, (F2.out.set 2 0 [.slice none 0 0] rfl (by simp) _).below⟩
  refine (OMat.loc.chg (M := fun k => k = w.heap.size + 1 + 1) O3.out (Chg.setCell (M := fun k => k = w.heap.size + 1 + 1) (Chg.refl _) (fun _ => rfl) _) (fun k hk _ e => by have := hk.1; omega)).of_bt (by omega)

set_option maxHeartbeats 4000000 in
theorem drop_range (S W L : Nat) (hc : COk S W L) (K : Nat → Prop) (a : Option Addr) (len cap : Nat) (ss : List (List Int)) (w : World) (r : Mat K w a len cap ss) (hn : len ≤ 1000000) (hv : ValidP S W ss) (s p : Int) (hr : ¬ (0 ≤ s ∧ s < S ∧ 0 ≤ p ∧ p < W)) :
    Calls Try.prog 35 #[CV S W L, .agg #[.slice a len cap], .int .i64 s, .int .i64 p] w (DropRet ss 3 w) := by
  have HR := Lib.hid r; clear r
  have hC := Lib.hid hc
  have HV := Lib.hid hv; have HRN := Lib.hid hr; clear hv hr
  obtain ⟨g1, g2, g3, g4, g5, g6⟩ := hc
  have F0 := Lib.hid (Fm.new (Fm.new (Fm.new (Fm.start Non w) rfl [.int .i64 S, .int .i64 W, .int .i64 L] 29) (by simp) [.slice a len cap] 33) (by simp) [.slice none 0 0] 33)
  go_enter Try.func35, Try.ntmps35
  go_wp2_with fail
  refine (copied_new K a len cap ss _ (HR.out.below F0.out.below) hn).mono ?_
  rintro e w1 ⟨oa, on, oc, rfl, ho1, hb1⟩
  have O1 := Lib.hid (ho1.ge (B' := w.heap.size + 3) (by simp)).bt
  have f1 := (Fm.call hb1 F0.out).more (.cells #[.slice oa on oc] 33)
  have hs1 := (Fm.call hb1 F0.out).size
  simp only [List.length_append, List.length_cons, List.length_nil, Nat.zero_add] at hs1
  have O2 := Lib.hid (OMat.loc.chg (M := Non) O1.out ((Chg.refl w1).alloc (.cells #[.slice oa on oc] 33)) (fun _ _ _ h => h))
  have F1 := Lib.hid f1; have X1 := Lib.hid (Has.new w1 [.slice oa on oc] 33); clear ho1 f1 hb1
  have t0 := F1.out.h0; have t1 := F1.out.h1; have t2 := F1.out.h2
  have c0 := t0.cell 0 _ rfl; have c1 := t0.cell 1 _ rfl; have c2 := t0.cell 2 _ rfl; have d0 := t1.cell 0 _ rfl; have lt0 := t0.lt (by simp); have lt1 := t1.lt (by simp); have lt2 := t2.lt (by simp)
  go_wp2_with fail
  refine ((checked_any S W L hC.out K a len cap ss _ (HR.out.below F1.out.below)).1 HV.out).mono ?_
  rintro e w2 ⟨rfl, hb2⟩
  have F2 := Lib.hid (Fm.call hb2 F1.out)
  have O3 := Lib.hid (OMat.loc.below O2.out hb2)
  have X2 := Lib.hid (X1.out.below hb2 (by simp))
  clear t0 t1 t2 c0 c1 c2 d0 lt0 lt1 lt2 hb2
  have c0 := F2.out.h0.cell 0 _ rfl; have c1 := F2.out.h0.cell 1 _ rfl
  have t2 := F2.out.h2; have e0 := t2.cell 0 _ rfl; have ef := t2.free; have lt2 := t2.lt (by simp); have y0 := X2.out.cell 0 _ rfl; have ly := X2.out.lt (by simp)
  have q1 : IntKind.i64.wrap ((S : Int) - 1) = (S : Int) - 1 := IntWalk.i64_in _ (by omega)
  have q2 : IntKind.i64.wrap ((W : Int) - 1) = (W : Int) - 1 := IntWalk.i64_in _ (by omega)
  have FIN := Lib.hid (show OMat (w2.setCell ⟨w.heap.size + 1 + 1, 0, none⟩ (.slice oa on oc)) (Ge w.heap.size) (.slice oa on oc) ss ∧ Below w.heap.size w (w2.setCell ⟨w.heap.size + 1 + 1, 0, none⟩ (.slice oa on oc)) from ⟨(OMat.loc.chg (M := fun k => k = w.heap.size + 1 + 1) O3.out (Chg.setCell (M := fun k => k = w.heap.size + 1 + 1) (Chg.refl _) (fun _ => rfl) _) (fun k hk _ e => by have := hk.1; omega)).of_bt (by omega), (F2.out.set 2 0 [.slice none 0 0] rfl (by simp) _).below⟩)
  by_cases h1 : 0 ≤ s ∧ s ≤ (S : Int) - 1
  · go_wp2_with fail
    refine (between_yes s 0 ((S : Int) - 1) h1.1 h1.2 _).mono ?_
    rintro e w' ⟨rfl, rfl⟩
    go_wp2_with fail
    refine (between_no p 0 ((W : Int) - 1) (by have := HRN.out; omega) _).mono ?_
    rintro e w' ⟨rfl, rfl⟩
    go_wp2
    exact bodyPost_ret (v := .tuple #[.agg #[.slice oa on oc], .int .i64 3]) (by simp [results, Try.results35, go_sem, e0]) rfl ⟨oa, on, oc, rfl, FIN.out.1, FIN.out.2⟩
  · go_wp2_with fail
    refine (between_no s 0 ((S : Int) - 1) (by omega) _).mono ?_
    rintro e w' ⟨rfl, rfl⟩
    go_wp2
    exact bodyPost_ret (v := .tuple #[.agg #[.slice oa on oc], .int .i64 3]) (by simp [results, Try.results35, go_sem, e0]) rfl ⟨oa, on, oc, rfl, FIN.out.1, FIN.out.2⟩

set_option maxHeartbeats 4000000 in
theorem drop_ok (S W L : Nat) (hc : COk S W L) (K : Nat → Prop) (a : Option Addr) (len cap : Nat) (ss : List (List Int)) (w : World) (r : Mat K w a len cap ss) (hn : len ≤ 1000000) (hv : ValidP S W ss) (s p : Nat) (x : List Int) (hx : ss[s]? = some x) (hp : p < W) :
    Calls Try.prog 35 #[CV S W L, .agg #[.slice a len cap], .int .i64 s, .int .i64 p] w (DropRet (ss.set s (drp x p)) 0 w) := by
  have hlen := r.hlen
  have HR := Lib.hid r; clear r
  have hC := Lib.hid hc
  have hxW : x.length = W := by have := (hv.2 s x hx).1; omega
  have hsS : s < S := by have := (List.getElem?_eq_some_iff.1 hx).1; have := hv.1; omega
  have hss : ss.length = S := by have := hv.1; omega
  obtain ⟨m, hm⟩ : ∃ m, W = m + 1 := ⟨W - 1, by omega⟩
  have HV := Lib.hid hv; have HX := Lib.hid hx; have HXW := Lib.hid hxW; have HM := Lib.hid hm
  clear hv hx hxW hm
  obtain ⟨g1, g2, g3, g4, g5, g6⟩ := hc
  have F0 := Lib.hid (Fm.new (Fm.new (Fm.new (Fm.start Non w) rfl [.int .i64 S, .int .i64 W, .int .i64 L] 29) (by simp) [.slice a len cap] 33) (by simp) [.slice none 0 0] 33)
  go_enter Try.func35, Try.ntmps35
  go_wp2_with fail
  refine (copied_new K a len cap ss _ (HR.out.below F0.out.below) hn).mono ?_
  rintro e w1 ⟨oa, on, oc, rfl, ho1, hb1⟩
  have O1 := Lib.hid (ho1.ge (B' := w.heap.size + 3) (by simp)).bt
  have f1 := (Fm.call hb1 F0.out).more (.cells #[.slice oa on oc] 33)
  have hs1 := (Fm.call hb1 F0.out).size
  simp only [List.length_append, List.length_cons, List.length_nil, Nat.zero_add] at hs1
  have O2 := Lib.hid (OMat.loc.chg (M := Non) O1.out ((Chg.refl w1).alloc (.cells #[.slice oa on oc] 33)) (fun _ _ _ h => h))
  have F1 := Lib.hid f1; have X1 := Lib.hid (Has.new w1 [.slice oa on oc] 33); clear ho1 f1 hb1
  have t0 := F1.out.h0; have t1 := F1.out.h1; have t2 := F1.out.h2
  have c0 := t0.cell 0 _ rfl; have c1 := t0.cell 1 _ rfl; have c2 := t0.cell 2 _ rfl; have d0 := t1.cell 0 _ rfl; have lt0 := t0.lt (by simp); have lt1 := t1.lt (by simp); have lt2 := t2.lt (by simp)
  go_wp2_with fail
  refine ((checked_any S W L hC.out K a len cap ss _ (HR.out.below F1.out.below)).1 HV.out).mono ?_
  rintro e w2 ⟨rfl, hb2⟩
  have F2 := Lib.hid (Fm.call hb2 F1.out)
  have o3 := OMat.loc.below O2.out hb2
  have X2 := Lib.hid (X1.out.below hb2 (by simp))
  have hon : on = len := by have := (OMat.read (K := fun _ => True) (fun _ _ => trivial) o3).hlen; omega
  subst hon
  obtain ⟨b, rb, rc, sp, f, op⟩ := OMat.openAt o3 HX.out (by have := HXW.out; omega)
  have OP := Lib.hid op; have O3 := Lib.hid o3
  obtain rfl := op.ea
  have hbc := op.cell
  rw [HXW.out] at hbc
  obtain ⟨z, hz⟩ : ∃ z, x[p]? = some z := ⟨_, List.getElem?_eq_getElem (by have := HXW.out; omega)⟩
  have zc : w2.cell? ⟨rb, p, none⟩ = some (.int .i64 z) := op.blk.cell (by rw [List.getElem?_append_left (by rw [ivs_length]; have := HXW.out; omega)]; exact ivs_get hz)
  have hrb := op.blk.lt
  have HZ := Lib.hid hz
  have hWrc : W ≤ rc := by have := op.lcap; have := HXW.out; omega
  have hrcm := op.rmax
  clear t0 t1 t2 c0 c1 c2 d0 lt0 lt1 lt2 hb2 o3 op hz
  have c0 := F2.out.h0.cell 0 _ rfl; have c1 := F2.out.h0.cell 1 _ rfl
  have t2 := F2.out.h2; have e0 := t2.cell 0 _ rfl; have ef := t2.free; have lt2 := t2.lt (by simp); have y0 := X2.out.cell 0 _ rfl; have ly := X2.out.lt (by simp)
  have q1 : IntKind.i64.wrap ((S : Int) - 1) = (S : Int) - 1 := IntWalk.i64_in _ (by omega)
  have q2 : IntKind.i64.wrap ((W : Int) - 1) = (W : Int) - 1 := IntWalk.i64_in _ (by omega)
  have n0 : (0 : Int) ≤ (s : Int) := by omega
  have n1 : (s : Int) < (on : Int) := by omega
  have n2 : (0 : Int) ≤ (p : Int) := by omega
  have n3 : (p : Int) < (W : Int) := by omega
  go_wp2_with fail
  refine (between_yes s 0 ((S : Int) - 1) (by omega) (by omega) _).mono ?_
  rintro e w' ⟨rfl, rfl⟩
  go_wp2_with fail
  refine (between_yes p 0 ((W : Int) - 1) (by omega) (by omega) _).mono ?_
  rintro e w' ⟨rfl, rfl⟩
  by_cases hz1 : z = -1
  · have hzb : (z != -1) = false := by simp [hz1]
    have hsame : ss.set s (drp x p) = ss := by
      rw [drp_none (HV.out.2 s x HX.out) (hz1 ▸ HZ.out)]
      obtain ⟨hl, e⟩ := List.getElem?_eq_some_iff.1 HX.out
      rw [← e, List.set_getElem_self]
    have HSM := Lib.hid hsame; clear hsame hz1
    go_wp2
    refine bodyPost_ret (v := .tuple #[.agg #[.slice (some ⟨b, 0, none⟩) on oc], .int .i64 0]) (by simp [results, Try.results35, go_sem, e0]) rfl ⟨_, on, oc, rfl, ?_, (F2.out.set 2 0 [.slice none 0 0] rfl (by simp) _).below⟩
    rw [HSM.out]
    exact (OMat.loc.chg (M := fun k => k = w.heap.size + 1 + 1) O3.out (Chg.setCell (M := fun k => k = w.heap.size + 1 + 1) (Chg.refl _) (fun _ => rfl) _) (fun k hk _ e => by have := hk.1; omega)).of_bt (by omega)
  · have hzb : (z != -1) = true := by simp [hz1]
    have fin : ∀ w3, Laid rb 3 (splice (ivs x ++ sp) p (ivs (x.drop (p + 1)))) w'.drew w3 →
        (∃ v, w3.cell? ⟨rb, m, none⟩ = some v) ∧ w3.frozen? ⟨rb, m, none⟩ = false ∧ rb < w3.heap.size ∧ OMat (w3.setCell ⟨rb, m, none⟩ (.int .i64 (-1))) (Bt (w.heap.size + 3) w1.heap.size) (.slice (some ⟨b, 0, none⟩) on oc) (ss.set s (drp x p)) ∧ Chg f w' w3 := fun w3 hl => by
      have hxl := HXW.out; have hm := HM.out
      have hc0 : Chg f w' w3 := (Chg.refl w').drew.trans hl.chg (fun k _ hk => hk ▸ OP.out.own)
      refine ⟨hl.blk.some0 (by rw [length_splice _ _ _ (by rw [ivs_length, List.length_drop, List.length_append, ivs_length]; omega), List.length_append, ivs_length]; omega), hl.blk.free m, hl.blk.lt, ?_, hc0⟩
      refine OP.out.back _ (drp x p) (hc0.setCell (fun _ => OP.out.own) _) (drp_length (by omega)) ?_ (drp_range OP.out.rng ⟨by decide, by decide⟩)
      have := hl.blk.set m (.int .i64 (-1))
      rw [drp_cells (by omega) (by omega)] at this
      exact this
    have FIN := Lib.hid fin; clear fin
    have HB := Lib.hid (show Blk w'.drew rb 3 (ivs x ++ sp) from OP.out.blk.drew)
    have hmI : (W : Int) - 1 = (m : Int) := by have := HM.out; omega
    have hw1 : IntKind.i64.wrap ((W : Int) - 1) = (m : Int) := by rw [q2]; exact hmI
    have hn1 : rb ≠ w1.heap.size := fun e => by have := (OP.out.sub _ OP.out.own).2; omega
    have hn2 : rb ≠ w.heap.size + 1 + 1 := fun e => by have := (OP.out.sub _ OP.out.own).1; omega
    have k1 : IntKind.i64.wrap ((p : Int) + 1) = (p : Int) + 1 := IntWalk.i64_in _ (by omega)
    have k2 : ((p : Int) + 1).toNat = p + 1 := by omega
    have k3 : (p : Int) + 1 ≤ (W : Int) := by omega
    have k4 : (0 : Int) ≤ (p : Int) + 1 := by omega
    have k5 : (p : Int) ≤ (W : Int) := by omega
    have k6 : (W : Int) ≤ (rc : Int) := by omega
    have k7 : ¬ rc = p := by omega
    have LN := Lib.hid (show (ivs (x.drop (p + 1))).length = min (W - (p + 1)) (W - p) by rw [ivs_length, List.length_drop, HXW.out]; omega)
    have LB := Lib.hid (show p + (ivs (x.drop (p + 1))).length ≤ (ivs x ++ sp).length by rw [ivs_length, List.length_drop, List.length_append, ivs_length, HXW.out]; omega)
    have CS := Lib.hid (show ∀ j v, (ivs (x.drop (p + 1)))[j]? = some v → w'.drew.cell? ((⟨rb, p + 1, none⟩ : Addr).add j) = some v from fun j v hv => by
      have hadd : (⟨rb, p + 1, none⟩ : Addr).add j = ⟨rb, p + 1 + j, none⟩ := by unfold Addr.add; split <;> simp_all
      rw [hadd]
      refine HB.out.cell ?_
      have hj := (List.getElem?_eq_some_iff.1 hv).1
      rw [ivs_length, List.length_drop] at hj
      unfold ivs at hv ⊢
      rw [List.getElem?_append_left (by rw [List.length_map]; omega)]
      rw [List.map_drop, List.getElem?_drop] at hv
      exact hv)
    have m0 : (0 : Int) ≤ (m : Int) := by omega
    have m1 : (m : Int) < (W : Int) := by have := HM.out; omega
    clear q1 q2
    go_wp2
    clear zc hbc c0 c1
    by_cases hpr : rc = p + 1
    · subst hpr
      have k8 : (p : Int) ≤ (p : Int) + 1 := by omega
      have k10 : (W : Int) ≤ (p : Int) + 1 := by omega
      have HE := Lib.hid (show x.drop (p + 1) = [] from List.drop_eq_nil_of_le (by have := HXW.out; omega))
      have k9 : W - (p + 1) = 0 := by omega
      go_region_law ((refine step_copy_laid (by rfl) (.tmp 49) (.tmp 53) 22 22 (by rfl) 3 Try.underlying22 (by kernel_rfl) (some ⟨rb, p, none⟩) (some ⟨rb, 0, none⟩) (W - p) 1 0 0 (by go_simp) (by go_simp) rb p (ivs x ++ sp) 3 (by exact HB.out) (ivs (x.drop (p + 1))) (by rw [HE.out]; exact (Nat.zero_min _).symm) (fun h => absurd h (by rw [HE.out]; simp [ivs])) (by exact LB.out) ivs_one ?_; intro w3 hl))
      obtain ⟨⟨v0, g0⟩, g1, g2, g3, g4⟩ := FIN.out w3 hl.out
      have G3 := Lib.hid g3; have G4 := Lib.hid g4
      have y3 := g4.cell (fun h => by have := (OP.out.sub _ h).2; omega) y0
      have rr := g4.has t2 lt2 (fun h => by have := (OP.out.sub _ h).1; omega)
      have r0 := rr.cell 0 _ rfl; have rf := rr.free; have rl := rr.lt (by simp)
      clear g3 g4 hl rr e0 ef lt2 y0 ly t2
      go_wp2
      refine bodyPost_ret (v := .tuple #[.agg #[.slice (some ⟨b, 0, none⟩) on oc], .int .i64 0]) (by simp [results, Try.results35, go_sem, r0]) rfl ⟨_, on, oc, rfl, ?_, ?_⟩
      · exact (OMat.loc.chg (M := fun k => k = w.heap.size + 1 + 1) G3.out (Chg.setCell (M := fun k => k = w.heap.size + 1 + 1) (Chg.refl _) (fun _ => rfl) _) (fun k hk _ e => by have := hk.1; omega)).of_bt (by omega)
      · exact (((F2.out.chg.trans (G4.out.mono (N := Bt (w.heap.size + 3) w1.heap.size) (fun k _ h => OP.out.sub k h)) (fun k hk h => by have := h.1; omega)).setCell (p := ⟨rb, m, none⟩) (fun h => by have := (OP.out.sub _ OP.out.own).1; simp at h; omega) (.int .i64 (-1))).setCell (p := ⟨w.heap.size + 1 + 1, 0, none⟩) (fun h => by simp at h; omega) (.slice (some ⟨b, 0, none⟩) on oc)).below0
    · have k8 : p + 1 < rc := by omega
      have k9 : (p : Int) + 1 ≤ (rc : Int) := by omega
      go_region_law ((refine step_copy_laid (by rfl) (.tmp 49) (.tmp 53) 22 22 (by rfl) 3 Try.underlying22 (by kernel_rfl) (some ⟨rb, p, none⟩) (some ⟨rb, p + 1, none⟩) (W - p) (rc - p) (W - (p + 1)) (rc - (p + 1)) (by go_simp) (by go_simp) rb p (ivs x ++ sp) 3 (by exact HB.out) (ivs (x.drop (p + 1))) (by exact LN.out) (fun h => ⟨by rfl, ⟨_, by rfl, by exact CS.out⟩⟩) (by exact LB.out) ivs_one ?_; intro w3 hl))
      obtain ⟨⟨v0, g0⟩, g1, g2, g3, g4⟩ := FIN.out w3 hl.out
      have G3 := Lib.hid g3; have G4 := Lib.hid g4
      have y3 := g4.cell (fun h => by have := (OP.out.sub _ h).2; omega) y0
      have rr := g4.has t2 lt2 (fun h => by have := (OP.out.sub _ h).1; omega)
      have r0 := rr.cell 0 _ rfl; have rf := rr.free; have rl := rr.lt (by simp)
      clear g3 g4 hl rr e0 ef lt2 y0 ly t2
      go_wp2
      refine bodyPost_ret (v := .tuple #[.agg #[.slice (some ⟨b, 0, none⟩) on oc], .int .i64 0]) (by simp [results, Try.results35, go_sem, r0]) rfl ⟨_, on, oc, rfl, ?_, ?_⟩
      · exact (OMat.loc.chg (M := fun k => k = w.heap.size + 1 + 1) G3.out (Chg.setCell (M := fun k => k = w.heap.size + 1 + 1) (Chg.refl _) (fun _ => rfl) _) (fun k hk _ e => by have := hk.1; omega)).of_bt (by omega)
      · exact (((F2.out.chg.trans (G4.out.mono (N := Bt (w.heap.size + 3) w1.heap.size) (fun k _ h => OP.out.sub k h)) (fun k hk h => by have := h.1; omega)).setCell (p := ⟨rb, m, none⟩) (fun h => by have := (OP.out.sub _ OP.out.own).1; simp at h; omega) (.int .i64 (-1))).setCell (p := ⟨w.heap.size + 1 + 1, 0, none⟩) (fun h => by simp at h; omega) (.slice (some ⟨b, 0, none⟩) on oc)).below0
end Go.Proofs.Ytdkpfifnegndmaa
