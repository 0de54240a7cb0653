/-
  The document's Drop.
-/
import Derived.Test.YtdkpfifnegndmaaRunF
import Derived.Deep.DeepCutAuto
namespace Go.Proofs.Ytdkpfifnegndmaa
open Go.RowKit

def DropRet (ss : List (List Int)) (err : Int) (w : World) (e : Ending) (w' : World) : Prop :=
  ∃ a n cap, e = .returned (.tuple #[.agg #[.slice a n cap], .int .i64 err]) ∧ OMat w' (Ge w.heap.size) (.slice a n cap) ss ∧ Below w.heap.size w w'

set_option maxHeartbeats 2000000 in
theorem rdrop_bad (S W L : Nat) (hc : COk S W L) (K : Nat → Prop) (a : Option Addr) (len cap : Nat) (ss : List (List Int)) (w : World) (r : Mat K w a len cap ss) (hv : ¬ ValidP S W ss) (s p : Int) :
    Calls Try.prog 24 #[CV S W L, .agg #[.slice a len cap], .int .i64 s, .int .i64 p] w fun e w' => e = .returned (.tuple #[.agg #[.slice a len cap], .int .i64 10]) ∧ Below w.heap.size w w' := by
  have HR := Lib.hid r; clear r
  have hC := Lib.hid hc
  have HV := Lib.hid hv; clear hv
  clear hc
  have F0 := Lib.hid (Fm.new (Fm.new (Fm.new (Fm.start Non w) rfl [.int .i64 S, .int .i64 W, .int .i64 L] 29) (by simp) [.slice a len cap] 33) (by simp) [.slice none 0 0] 33)
  go_enter Try.func24, Try.ntmps24
  go_wp2_with fail
  refine (rcheck_ok _ _ _ hC.out _).mono ?_
  rintro e w1 ⟨rfl, hb1⟩
  have F1 := Lib.hid (Fm.call hb1 F0.out); clear hb1
  have t0 := F1.out.h0; have t1 := F1.out.h1; have t2 := F1.out.h2
  have c0 := t0.cell 0 _ rfl; have c1 := t0.cell 1 _ rfl; have c2 := t0.cell 2 _ rfl; have d0 := t1.cell 0 _ rfl; have lt0 := t0.lt (by simp); have lt1 := t1.lt (by simp)
  go_wp2_with fail
  refine (rvalid_any S W L hC.out K a len cap ss _ (HR.out.below F1.out.below)).mono ?_
  rintro e w2 ⟨vb, rfl, hvb, hb2⟩
  obtain rfl : vb = false := by
    cases vb
    · rfl
    · exact absurd (hvb.1 rfl) HV.out
  have F2 := Lib.hid (Fm.call hb2 F1.out)
  clear t0 t1 t2 c0 c1 c2 d0 lt0 lt1 hb2 hvb
  have d0 := F2.out.h1.cell 0 _ rfl; have e0 := F2.out.h2.cell 0 _ rfl; have ef := F2.out.h2.free; have lt2 := F2.out.h2.lt (by simp)
  go_wp2
  exact bodyPost_ret (v := .tuple #[.agg #[.slice a len cap], .int .i64 10]) (by simp [results, Try.results24, go_sem, e0]) rfl ⟨rfl, (F2.out.set 2 0 [.slice none 0 0] rfl (by simp) _).below⟩

set_option maxHeartbeats 4000000 in
theorem rdrop_range (S W L : Nat) (hc : COk S W L) (K : Nat → Prop) (a : Option Addr) (len cap : Nat) (ss : List (List Int)) (w : World) (r : Mat K w a len cap ss) (hv : ValidP S W ss) (s p : Int) (hr : ¬ (0 ≤ s ∧ s < S ∧ 0 ≤ p ∧ p < W)) :
    Calls Try.prog 24 #[CV S W L, .agg #[.slice a len cap], .int .i64 s, .int .i64 p] w fun e w' => e = .returned (.tuple #[.agg #[.slice a len cap], .int .i64 3]) ∧ Below w.heap.size w w' := by
  have HR := Lib.hid r; clear r
  have hC := Lib.hid hc
  have HV := Lib.hid hv; have HRN := Lib.hid hr; clear hv hr
  clear hc
  have F0 := Lib.hid (Fm.new (Fm.new (Fm.new (Fm.start Non w) rfl [.int .i64 S, .int .i64 W, .int .i64 L] 29) (by simp) [.slice a len cap] 33) (by simp) [.slice none 0 0] 33)
  go_enter Try.func24, Try.ntmps24
  go_wp2_with fail
  refine (rcheck_ok _ _ _ hC.out _).mono ?_
  rintro e w1 ⟨rfl, hb1⟩
  have F1 := Lib.hid (Fm.call hb1 F0.out); clear hb1
  have t0 := F1.out.h0; have t1 := F1.out.h1; have t2 := F1.out.h2
  have c0 := t0.cell 0 _ rfl; have c1 := t0.cell 1 _ rfl; have c2 := t0.cell 2 _ rfl; have d0 := t1.cell 0 _ rfl; have lt0 := t0.lt (by simp); have lt1 := t1.lt (by simp)
  go_wp2_with fail
  refine (rvalid_any S W L hC.out K a len cap ss _ (HR.out.below F1.out.below)).mono ?_
  rintro e w2 ⟨vb, rfl, hvb, hb2⟩
  obtain rfl : vb = true := hvb.2 HV.out
  have F2 := Lib.hid (Fm.call hb2 F1.out)
  clear t0 t1 t2 c0 c1 c2 d0 lt0 lt1 hb2 hvb
  have c0 := F2.out.h0.cell 0 _ rfl; have c1 := F2.out.h0.cell 1 _ rfl; have d0 := F2.out.h1.cell 0 _ rfl; have e0 := F2.out.h2.cell 0 _ rfl; have ef := F2.out.h2.free; have lt2 := F2.out.h2.lt (by simp)
  have fin : Below w.heap.size w (w2.setCell ⟨w.heap.size + 1 + 1, 0, none⟩ (.slice a len cap)) := (F2.out.set 2 0 [.slice none 0 0] rfl (by simp) _).below
  have FIN := Lib.hid fin; clear fin
  by_cases h1 : s < 0
  · go_wp2
    exact bodyPost_ret (v := .tuple #[.agg #[.slice a len cap], .int .i64 3]) (by simp [results, Try.results24, go_sem, e0]) rfl ⟨rfl, FIN.out⟩
  · by_cases h2 : (S : Int) ≤ s
    · go_wp2
      exact bodyPost_ret (v := .tuple #[.agg #[.slice a len cap], .int .i64 3]) (by simp [results, Try.results24, go_sem, e0]) rfl ⟨rfl, FIN.out⟩
    · by_cases h3 : p < 0
      · go_wp2
        exact bodyPost_ret (v := .tuple #[.agg #[.slice a len cap], .int .i64 3]) (by simp [results, Try.results24, go_sem, e0]) rfl ⟨rfl, FIN.out⟩
      · have h4 : (W : Int) ≤ p := by have := HRN.out; omega
        go_wp2
        exact bodyPost_ret (v := .tuple #[.agg #[.slice a len cap], .int .i64 3]) (by simp [results, Try.results24, go_sem, e0]) rfl ⟨rfl, FIN.out⟩

set_option maxHeartbeats 4000000 in
theorem rdrop_ok (S W L : Nat) (hc : COk S W L) (K : Nat → Prop) (a : Option Addr) (len cap : Nat) (ss : List (List Int)) (w : World) (r : Mat K w a len cap ss) (hv : ValidP S W ss) (s p : Nat) (x : List Int) (hx : ss[s]? = some x) (hp : p < W) :
    Calls Try.prog 24 #[CV S W L, .agg #[.slice a len cap], .int .i64 s, .int .i64 p] w (DropRet (ss.set s (drp x p)) 0 w) := by
  have HR := Lib.hid r
  have hC := Lib.hid hc
  have HV := Lib.hid hv
  have hlen := r.hlen
  have HSM := Lib.hid (hv.small hc)
  have hl8 : len ≤ 8 := by have := (hv.small hc).1; omega
  have hxW : x.length = W := by have := (hv.2 s x hx).1; omega
  have hsS : s < S := by have := (List.getElem?_eq_some_iff.1 hx).1; have := hv.1; omega
  obtain ⟨m, hm⟩ : ∃ m, W = m + 1 := ⟨W - 1, by omega⟩
  obtain ⟨g1, g2, g3, g4, g5, g6⟩ := hc
  have HX := Lib.hid hx; have HXW := Lib.hid hxW; have HM := Lib.hid hm
  clear r hv hx hxW hm
  have F0 := Lib.hid (Fm.new (Fm.new (Fm.new (Fm.start Non w) rfl [.int .i64 S, .int .i64 W, .int .i64 L] 29) (by simp) [.slice a len cap] 33) (by simp) [.slice none 0 0] 33)
  go_enter Try.func24, Try.ntmps24
  go_wp2_with fail
  refine (rcheck_ok _ _ _ hC.out _).mono ?_
  rintro e w1 ⟨rfl, hb1⟩
  have F1 := Lib.hid (Fm.call hb1 F0.out); clear hb1
  have t0 := F1.out.h0; have t1 := F1.out.h1; have t2 := F1.out.h2
  have c0 := t0.cell 0 _ rfl; have c1 := t0.cell 1 _ rfl; have c2 := t0.cell 2 _ rfl; have d0 := t1.cell 0 _ rfl; have lt0 := t0.lt (by simp); have lt1 := t1.lt (by simp)
  go_wp2_with fail
  refine (rvalid_any S W L hC.out K a len cap ss _ (HR.out.below F1.out.below)).mono ?_
  rintro e w2 ⟨vb, rfl, hvb, hb2⟩
  obtain rfl : vb = true := hvb.2 HV.out
  have F2 := Lib.hid (Fm.call hb2 F1.out)
  clear t0 t1 t2 c0 c1 c2 d0 lt0 lt1 hb2 hvb
  have c0 := F2.out.h0.cell 0 _ rfl; have c1 := F2.out.h0.cell 1 _ rfl; have d0 := F2.out.h1.cell 0 _ rfl
  have h1 : ¬ (s : Int) < 0 := by omega
  have h2 : ¬ (S : Int) ≤ (s : Int) := by omega
  have h3 : ¬ (p : Int) < 0 := by omega
  have h4 : ¬ (W : Int) ≤ (p : Int) := by omega
  have h5 : ¬ S ≤ s := by omega
  have h6 : ¬ W ≤ p := by omega
  go_wp2_with fail
  refine (rcopy_any K a len cap ss _ (HR.out.below F2.out.below) hl8 HSM.out.2).mono ?_
  rintro e w3 ⟨oa, on, oc, rfl, ho3, hb3⟩
  have hs2 := F2.out.size
  simp only [List.length_append, List.length_cons, List.length_nil, Nat.zero_add] at hs2
  have F3 := Lib.hid ((Fm.call hb3 F2.out).more (.cells #[.slice oa on oc] 33))
  have o3 := OMat.loc.below (ho3.ge (B' := w.heap.size + 3) (by omega)).bt ((Below.refl _ _).alloc (Nat.le_refl _) (.cells #[.slice oa on oc] 33))
  have hon : on = len := by have := (OMat.read (K := fun _ => True) (fun _ _ => trivial) o3).hlen; omega
  subst hon
  obtain ⟨b, rb, rc, sp, f, op⟩ := OMat.openAt o3 HX.out (by have := HXW.out; omega)
  have OP := Lib.hid op
  have X3 := Lib.hid (Has.new w3 [.slice oa on oc] 33)
  have hs3 : w.heap.size + 3 ≤ w3.heap.size := by have := hb3.size; omega
  obtain rfl := op.ea
  go_upto_region 9 with fail
  obtain ⟨wv, hwv⟩ : ∃ wv, wv = w3.alloc (.cells #[.slice (some ⟨b, 0, none⟩) on oc] 33) := ⟨_, rfl⟩
  rw [← hwv] at F3 OP X3 op ⊢
  have hbc := op.cell
  rw [HXW.out] at hbc
  have hss : ss.length = S := by have := HV.out.1; omega
  clear c0 c1 d0 hb3 ho3 hs2 o3 op hwv
  have x0 := X3.out.cell 0 _ rfl; have c1 := F3.out.h0.cell 1 _ rfl
  have n0 : (0 : Int) ≤ (s : Int) := by omega
  have n1 : (s : Int) < (on : Int) := by omega
  go_wp2
  clear x0 c1 hbc
  go_loopw [13] (fun i wr => ∃ j : Nat, p ≤ j ∧ j ≤ m ∧ i = .int .i64 j ∧ Blk wr rb 3 (ivs (dl x p j) ++ sp) ∧ Chg f wv wr) (fun i _ => m - (intOf i).toNat)
  case atStart => exact ⟨p, Nat.le_refl _, by have := HM.out; omega, rfl, by rw [dl_start]; exact OP.out.blk, Chg.refl _⟩
  case round =>
    obtain ⟨j, hj1, hj2, rfl, bb, cc⟩ := hrel
    have BB := Lib.hid bb; have CC := Lib.hid cc
    have c1 := cc.cell (fun h => by have := (OP.out.sub _ h).1; omega) (F3.out.h0.cell 1 _ rfl)
    have hmI : (W : Int) = (m : Int) + 1 := by have := HM.out; omega
    have HMI := Lib.hid hmI; clear hmI
    have hrc := OP.out.lcap
    have hxW := HXW.out
    have hw1 : IntKind.i64.wrap ((W : Int) - 1) = (m : Int) := by rw [IntWalk.i64_in _ (by omega)]; have := HMI.out; omega
    have hw2 : (W : Int) - 1 = (m : Int) := by have := HMI.out; omega
    by_cases hlt : j < m
    · have e0 : wr.cell? ⟨rb, j + 1, none⟩ = some (.int .i64 (x.getD (j + 1) 0)) := bb.cell (by
        rw [List.getElem?_append_left (by rw [ivs_length, dl_length]; have := HM.out; omega)]
        refine ivs_get ?_
        rw [dl_get (by have := HM.out; omega), if_neg (by omega)])
      obtain ⟨v1, e1⟩ := bb.some0 (i := j) (by rw [List.length_append, ivs_length, dl_length]; have := HM.out; omega)
      have ef := bb.free j; have el := bb.lt
      have q1 : (j : Int) + 1 < (W : Int) := by have := HM.out; omega
      have q2 : (j : Int) < (W : Int) := by have := HM.out; omega
      have q3 : (j : Int) < (m : Int) := by omega
      clear bb cc
      go_wp2
      go_roundw
      case rel =>
        refine ⟨j + 1, by omega, by omega, by go_num, ?_, CC.out.setCell (fun _ => OP.out.own) _⟩
        refine (BB.out.set j _).at ?_
        rw [← dl_step hj1 (by have := HM.out; omega), List.set_append_left _ _ (by rw [ivs_length, dl_length]; have := HM.out; omega)]
        unfold ivs
        rw [List.map_set]; rfl
      case measure => simp [intOf]; omega
    · obtain rfl : j = m := by omega
      obtain ⟨v1, e1⟩ := bb.some0 (i := j) (by rw [List.length_append, ivs_length, dl_length]; have := HM.out; omega)
      have ef := bb.free j; have el := bb.lt
      have x0 := cc.cell (fun h => by have := (OP.out.sub _ h).2; omega) (X3.out.cell 0 _ rfl)
      have r2 := F3.out.h2
      have rr := cc.has r2 (r2.lt (by simp)) (fun h => by have := (OP.out.sub _ h).1; omega)
      have r0 := rr.cell 0 _ rfl; have rf := rr.free; have rl := rr.lt (by simp)
      have q2 : (j : Int) < (W : Int) := by have := HM.out; omega
      have q4 : (0 : Int) ≤ (j : Int) := by omega
      have hn1 : rb ≠ w3.heap.size := fun e => by have := (OP.out.sub _ OP.out.own).2; omega
      have hn2 : rb ≠ w.heap.size + 1 + 1 := fun e => by have := (OP.out.sub _ OP.out.own).1; omega
      clear bb cc r2 rr
      go_wp2
      refine bodyPost_ret (v := .tuple #[.agg #[.slice (some ⟨b, 0, none⟩) on oc], .int .i64 0]) (by simp [results, Try.results24, go_sem, r0]) rfl ⟨some ⟨b, 0, none⟩, on, oc, rfl, ?_, ?_⟩
      · have hc : Chg f wv (wr.setCell ⟨rb, j, none⟩ (.int .i64 (-1))) := CC.out.setCell (fun _ => OP.out.own) _
        have hk := OP.out.back _ (drp x p) hc (by rw [drp_length (by have := HM.out; omega)]) ((BB.out.set j (.int .i64 (-1))).at (by
          rw [← dl_end hj1 (by have := HM.out; omega), List.set_append_left _ _ (by rw [ivs_length, dl_length]; have := HM.out; omega)]
          unfold ivs
          rw [List.map_set]; rfl)) (drp_range (OP.out.rng) ⟨by decide, by decide⟩)
        exact (OMat.loc.chg (M := fun k => k = w.heap.size + 1 + 1) hk (Chg.setCell (M := fun k => k = w.heap.size + 1 + 1) (Chg.refl _) (fun _ => rfl) _) (fun k hk _ e => by have := hk.1; omega)).of_bt (by omega)
      · exact (((F3.out.chg.trans (CC.out.mono (N := Bt (w.heap.size + 3) w3.heap.size) (fun k _ h => OP.out.sub k h)) (fun k hk h => by have := h.1; omega)).setCell (p := ⟨rb, j, none⟩) (fun h => by have := (OP.out.sub _ OP.out.own).1; simp at h; omega) (.int .i64 (-1))).setCell (p := ⟨w.heap.size + 1 + 1, 0, none⟩) (fun h => by simp at h; omega) (.slice (some ⟨b, 0, none⟩) on oc)).below0
end Go.Proofs.Ytdkpfifnegndmaa
