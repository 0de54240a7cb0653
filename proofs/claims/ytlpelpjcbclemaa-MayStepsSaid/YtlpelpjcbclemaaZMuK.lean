/-
  The states that know nothing: ages.Top, must.Top, the document's Top.
  must.Touch: the state behind the use of a line.
-/
import Derived.Deep.RegionLaw
import Derived.Test.YtlpelpjcbclemaaMuJ
namespace Go.Proofs.Ytlpelpjcbclemaa
open Go.RowKit

def topS (S W : Nat) : List (List (List Int)) := List.replicate S (List.replicate W [])
theorem topS_fil (S W k : Nat) : fil [] (topS S W) k = List.replicate (min k S) (List.replicate W []) ++ List.replicate (S - k) [] := by
  unfold fil topS; rw [List.take_replicate, List.length_replicate]
theorem topS_len (S W : Nat) : (topS S W).length = S := List.length_replicate
theorem topS_get {S W k : Nat} (h : k < S) : (topS S W)[k]? = some (List.replicate W []) := by unfold topS; rw [List.getElem?_replicate, if_pos h]
theorem top_st (U : List Int) (S W : Nat) : MSt U S W (topS S W) := ⟨topS_len S W, fun s g h => by
  unfold topS at h
  rw [List.getElem?_replicate] at h
  split at h
  · cases h; exact WSet.nils _ _
  · cases h⟩
def StRet (m : List (List (List Int))) (w : World) (e : Ending) (w' : World) : Prop := ∃ a n cap, e = .returned (.agg #[.slice a n cap]) ∧ OCub w' (Ge w.heap.size) (.slice a n cap) m ∧ Below w.heap.size w w'
set_option maxHeartbeats 2000000 in
theorem atop_any (S W L : Nat) (hc : COk S W L) (w : World) : Calls Try.prog 38 #[CV S W L] w (CubRet (topS S W) w) := by
  have hC := Lib.hid hc
  obtain ⟨g1, g2, g3, g4, g5, g6⟩ := hc
  have F0 := Lib.hid (Fm.new (Fm.start Non w) rfl [.int .i64 S, .int .i64 W, .int .i64 L] 26)
  have hm1 := fun w => make_cubs S (by omega) w .i64 .i64
  have hm2 := fun w => make_rows W (by omega) w .i64 .i64
  go_enter Try.func38, Try.ntmps38
  go_wp2_with fail
  refine (check_ok _ _ _ hC.out _).mono ?_
  rintro e w1 ⟨rfl, hb1⟩
  have F1 := Lib.hid (Fm.call hb1 F0.out)
  have c0 := F1.out.h0.cell 0 _ rfl; have lt0 := F1.out.h0.lt (by simp)
  have hs1 : w.heap.size + 1 ≤ w1.heap.size := by simpa using F1.out.size
  have O0 := Lib.hid (OCub.nils (fp := Ge w1.heap.size) (Blk.new w1 (zeros (.slice none 0 0) S) 42) (Nat.le_refl _) (by omega))
  have F2 := Lib.hid (F1.out.more (.cells (zeros (.slice none 0 0) S).toArray 42))
  clear hb1
  go_wp2
  clear hm1 c0 lt0
  go_loopw [13] (fun i wr => ∃ k : Nat, k ≤ S ∧ i = .int .i64 k ∧ OCub wr (Ge w1.heap.size) (.slice (some ⟨w1.heap.size, 0, none⟩) S S) (fil [] (topS S W) k) ∧ Fm Non w wr [[.int .i64 S, .int .i64 W, .int .i64 L]] ∧ w1.heap.size ≤ wr.heap.size) (fun i _ => S - (intOf i).toNat)
  case atStart => exact ⟨0, Nat.zero_le _, rfl, by rw [fil_zero, topS_len]; exact O0.out, F2.out, by simp⟩
  case round =>
    obtain ⟨k, hk, rfl, ho, f3, hsz⟩ := hrel
    have O1 := Lib.hid ho; have F3 := Lib.hid f3
    have c0 := f3.h0.cell 0 _ rfl; have c1 := f3.h0.cell 1 _ rfl; have lt0 := f3.h0.lt (by simp)
    clear ho f3
    by_cases hlt : k < S
    · obtain ⟨b, bc, u, fq, p⟩ := OwnRow.pick OMat.loc O1.out (fil_get [] (m := topS S W) (k := k) (by rw [topS_len]; exact hlt))
      have hbf := p.form
      rw [fil_length [] (topS S W) (by rw [topS_len]; exact hk), topS_len] at hbf
      cases hbf
      have d0 := p.cell; have d1 := p.free; have d2 := p.lt
      have h0 : (0 : Int) ≤ (k : Int) := by omega
      have h1 : (k : Int) < (S : Int) := by omega
      have sw := p.swap (wr.alloc (.cells (zeros (.slice none 0 0) W).toArray 22)) (fun j => j = wr.heap.size) (.slice (some ⟨wr.heap.size, 0, none⟩) W W) (List.replicate W []) ((Chg.refl wr).alloc _) (OMat.nils (Blk.new wr _ _) rfl (by omega)) (fun j hj => ⟨.inr (by omega), by subst hj; simp⟩)
      rw [World.setCell_alloc_past _ _ _ _ d2, fil_set [] (topS_get hlt)] at sw
      have O2 := Lib.hid (OwnRow.step sw hsz)
      have F4 := Lib.hid ((F3.out.far (p := ⟨w1.heap.size, k, none⟩) (.inr (by simpa using hs1)) (.slice (some ⟨wr.heap.size, 0, none⟩) W W)).more (.cells (zeros (.slice none 0 0) W).toArray 22))
      clear sw p
      go_wp2
      go_roundw
      case rel => exact ⟨k + 1, by omega, by go_num, O2.out, F4.out, by simp; omega⟩
      case measure => simp [intOf]; omega
    · have hkl : k = S := by omega
      subst hkl
      have hfa := fil_all [] (topS k W)
      rw [topS_len] at hfa
      rw [hfa] at O1
      clear hm2 hfa
      go_wp2
      go_ret
      exact ⟨_, _, _, rfl, OwnRow.wid _ _ _ _ _ _ (fun i hi => Nat.le_trans (by omega) hi) O1.out, F3.out.below⟩
set_option maxHeartbeats 2000000 in
theorem rtop_any (S W L : Nat) (hc : COk S W L) (w : World) : Calls Try.prog 57 #[CV S W L] w (StRet (topS S W) w) := by
  obtain ⟨g1, g2, g3, g4, g5, g6⟩ := hc
  have F0 := Lib.hid (Fm.new (Fm.new (Fm.new (Fm.start Non w) rfl [.int .i64 S, .int .i64 W, .int .i64 L] 26) (by simp) [.slice none 0 0] 71) (by simp) [.slice none 0 0] 71)
  have hm2 := fun w => make_rows W (by omega) w .i64 .i64
  go_enter Try.func57, Try.ntmps57
  go_wp2
  go_loopw [6] (fun i wr => ∃ (k N : Nat) (v : Value), k ≤ S ∧ i = .int .i64 k ∧ Fm Non w wr [[.int .i64 S, .int .i64 W, .int .i64 L], [.slice none 0 0], [v]] ∧ LstN OMat 42 (w.heap.size + 3) N wr v (List.replicate k (List.replicate W []))) (fun i _ => S - (intOf i).toNat)
  case atStart => exact ⟨0, _, _, Nat.zero_le _, rfl, F0.out, LstN.nil _ _ (by simp)⟩
  case round =>
    obtain ⟨k, N, v, hk, rfl, f1, ho⟩ := hrel
    obtain ⟨va, vc, rfl⟩ := ho.form List.length_replicate
    have hN := ho.bd
    have F1 := Lib.hid f1; have O1 := Lib.hid ho
    have t0 := f1.h0; have t2 := f1.h2
    have c0 := t0.cell 0 _ rfl; have c1 := t0.cell 1 _ rfl; have lt0 := t0.lt (by simp); have d0 := t2.cell 0 _ rfl; have df := t2.free; have lt2 := t2.lt (by simp)
    clear f1 ho
    by_cases hlt : k < S
    · clear t0 t2
      have lt3 : w.heap.size + 1 + 1 < wr.heap.size + 1 := by omega
      have lt4 : w.heap.size + 1 < wr.heap.size := by omega
      have TL := Lib.hid (List.length_replicate (n := k) (a := List.replicate W ([] : List Int)))
      obtain ⟨WA, hWA⟩ : ∃ WA, WA = ((wr.alloc (.cells (zeros (.slice none 0 0) W).toArray 22)).alloc (.cells #[.slice (some ⟨wr.heap.size, 0, none⟩) W W] 42)).drew := ⟨_, rfl⟩
      have CA := Lib.hid (show Chg Non wr WA from by rw [hWA]; exact (((Chg.refl wr).alloc _).alloc _).drew)
      have BA := Lib.hid (show Blk WA (wr.heap.size + 1) 42 [.slice (some ⟨wr.heap.size, 0, none⟩) W W] from by rw [hWA]; exact ((Blk.new (wr.alloc (.cells (zeros (.slice none 0 0) W).toArray 22)) [.slice (some ⟨wr.heap.size, 0, none⟩) W W] 42).at' (by simp)).drew)
      have LA := Lib.hid (show OMat WA (fun j => j = wr.heap.size) (.slice (some ⟨wr.heap.size, 0, none⟩) W W) (List.replicate W []) from OMat.nils (by rw [hWA]; exact ((Blk.new wr (zeros (.slice none 0 0) W) 22).old _).drew) rfl (by omega))
      have SA : WA.heap.size = wr.heap.size + 2 := by rw [hWA]; simp
      have OA := Lib.hid (O1.out.chg OMat.loc CA.out (fun _ _ _ h => h))
      have FA := Lib.hid (Fm.call CA.out.below0 F1.out)
      have x0 := FA.out.h2.cell 0 _ rfl; have x1 := FA.out.h2.free; have x2 := FA.out.h2.lt (by simp)
      have HW := Lib.hid hWA
      clear hWA
      go_wp2
      go_region_law ((refine step_append_g k (by rfl) _ _ 29 (by rfl) 42 Try.underlying29 info_sl2 rfl OMat.loc (by rw [← HW.out]; exact OA.out) (by go_simp) (wr.heap.size + 1) (.slice (some ⟨wr.heap.size, 0, none⟩) W W) 42 (by rw [← HW.out]; exact BA.out) (by go_simp) (by rw [← HW.out]; exact LA.out) (fun j hj => by rw [← HW.out, SA]; omega) (by rfl) (by exact TL.out) (by omega) (by decide) ?_; intro g cap w6 hap; rw [← HW.out] at hap; have x3 := hap.out.2.has FA.out.h2 x2 (fun h => by omega); have y0 := x3.cell 0 _ rfl; have y1 := x3.free; have y2 := x3.lt (by simp)))
      all_goals
        have F7 := Lib.hid ((FA.out.chgd hap.out.2 (fun j hj => .inr (by have := hj.1; simp; omega))).set 2 0 [.slice va k vc] rfl (by simp) (.slice (some ⟨g, 0, none⟩) (k + 1) cap))
        have O7 := Lib.hid (hap.out.1.chg (M := fun j => j = w.heap.size + 1 + 1) OMat.loc (Chg.setCell (M := fun j => j = w.heap.size + 1 + 1) (Chg.refl w6) (fun _ => rfl) (p := ⟨w.heap.size + 1 + 1, 0, none⟩) (.slice (some ⟨g, 0, none⟩) (k + 1) cap)) (fun j h1 _ h2 => by omega))
        clear hap x3 y0 y1 y2
        go_wp2
        go_roundw
        case rel => exact ⟨k + 1, _, _, by omega, by go_num, F7.out, by rw [List.replicate_succ']; exact O7.out⟩
        case measure => simp [intOf]; omega
    · obtain rfl : k = S := by omega
      have t1 := F1.out.h1
      have e0 := t1.cell 0 _ rfl; have ef := t1.free; have lt1 := t1.lt (by simp)
      clear hm2
      go_wp2
      refine bodyPost_ret (v := .agg #[.slice va k vc]) (by simp [results, Try.results57, go_sem, e0]) rfl ⟨va, k, vc, rfl, ?_, (F1.out.set 1 0 [.slice none 0 0] rfl (by simp) _).below⟩
      have hd := O1.out.done (by rw [List.length_replicate]; omega)
      exact OwnRow.wid _ _ _ _ _ _ (fun i hi => Nat.le_trans (by omega) hi) (OCub.loc.chg (M := fun j => j = w.heap.size + 1) hd (Chg.setCell (M := fun j => j = w.heap.size + 1) (Chg.refl _) (fun _ => rfl) _) (fun j hj _ e => by first | omega | (unfold Ge at hj; omega)))
end Go.Proofs.Ytlpelpjcbclemaa
namespace Go.Proofs.Ytlpelpjcbclemaa
open Go.RowKit

def touchM (S W : Nat) (m : List (List (List Int))) (n : Int) : List (List (List Int)) := if S = 0 then m else m.set (setN S n) (useS W n (m.getD (setN S n) []))
theorem PS.lns {U : List Int} {S s : Nat} (hU : U.length ≤ 1000) : Lns U (PS U S s) := ⟨fun _x h => ⟨h.2.2.2, h.1, h.2.1⟩, hU⟩
theorem MSt.fews {U : List Int} {S W : Nat} {m : List (List (List Int))} (h : MSt U S W m) (hU : U.length ≤ 1000) (hS : S ≤ 8) (hW : W ≤ 4) : Fews m :=
  ⟨by rw [h.len]; omega, fun g hg => by
    obtain ⟨s, hs⟩ := List.getElem?_of_mem hg
    have hw := h.set s g hs
    refine ⟨by rw [hw.len]; omega, fun l hl => ?_⟩
    obtain ⟨i, hi⟩ := List.getElem?_of_mem hl
    exact ((PS.lns hU).short hw i l hi).2⟩
theorem PS.self {U : List Int} {S : Nat} (hS : 0 < S) {n : Int} (h0 : 0 ≤ n) (h1 : n ≤ 1048576) (hU : n ∈ U) : PS U S (setN S n) n := ⟨h0, h1, (setN_int hS n).symm, hU⟩
theorem touch_st {U : List Int} {S W : Nat} {m : List (List (List Int))} (h : MSt U S W m) (hW : 0 < W) {n : Int} (h0 : 0 ≤ n) (h1 : n ≤ 1048576) (hU : n ∈ U) : MSt U S W (touchM S W m n) := by
  unfold touchM
  split
  · exact h
  · rename_i hS
    have hS : 0 < S := by omega
    obtain ⟨g, hg, hgd, hw⟩ := h.at (setN_lt hS n)
    refine ⟨by rw [List.length_set]; exact h.len, fun s g' hs => ?_⟩
    rw [List.getElem?_set] at hs
    split at hs
    · rename_i e
      split at hs
      · cases hs
        rw [← e, hgd]
        exact (useS_spec hw hW (PS.self hS h0 h1 hU)).1
      · cases hs
    · exact h.set s g' hs
theorem OwnRow.narrow {α : Type} {R : Ow α} {t : TypeId} {w : World} {B A : Nat} {v : Value} {xs : List α} (h : OwnRow R t w (Ge B) v xs) (hA : A ≤ B) : OwnRow R t w (Bt A w.heap.size) v xs := OwnRow.wid t w _ _ v xs (fun _k hk => ⟨Nat.le_trans hA hk.1, hk.2⟩) h.lt
theorem OwnRow.ge {α : Type} {R : Ow α} {t : TypeId} {w : World} {B A C : Nat} {v : Value} {xs : List α} (h : OwnRow R t w (Bt B C) v xs) (hA : A ≤ B) : OwnRow R t w (Ge A) v xs := OwnRow.wid t w _ _ v xs (fun _k hk => Nat.le_trans hA hk.1) h

end Go.Proofs.Ytlpelpjcbclemaa
