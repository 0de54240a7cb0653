/-
  cache.Empty.
-/
import Derived.Test.YtdkpfifnegndmaaCacheI
import Derived.Test.YtdkpfifnegndmaaCacheH
namespace Go.Proofs.Ytdkpfifnegndmaa
open Go.RowKit

set_option maxHeartbeats 4000000 in
theorem empty_any (S W L : Nat) (hc : COk S W L) (w : World) :
    Calls Try.prog 19 #[CV S W L] w (NewRet (List.replicate S (List.replicate W (-1))) w) := by
  have hC := Lib.hid hc
  obtain ⟨h1, h2, h3, h4, h5, h6⟩ := hc
  have F0 := Lib.hid (Fm.new (Fm.new (Fm.start Non w) rfl [.int .i64 S, .int .i64 W, .int .i64 L] 29) (by simp) [.slice none 0 0] 33)
  go_enter Try.func19, Try.ntmps19
  go_wp2_with fail
  refine (check_ok _ _ _ hC.out _).mono ?_
  rintro e w1 ⟨rfl, hb1⟩
  have F1 := Lib.hid ((Fm.call hb1 F0.out).more (.cells #[.slice none 0 0] 33))
  have X1 := Lib.hid (Has.new w1 [.slice none 0 0] 33)
  have hs1 := (Fm.call hb1 F0.out).size
  simp only [List.length_append, List.length_cons, List.length_nil, Nat.zero_add] at hs1
  have t0 := F1.out.h0
  have c0 := t0.cell 0 _ rfl; have c1 := t0.cell 1 _ rfl; have c2 := t0.cell 2 _ rfl; have lt0 := t0.lt (by simp)
  clear hb1
  go_wp2
  clear t0 c0 c1 c2 lt0
  go_loopw [10] (fun i wr => ∃ (k N : Nat) (v : Value) (vs : List Value) (fps : Nat → Nat → Prop), k ≤ S ∧ i = .int .i64 k ∧ Fm Non w wr [[.int .i64 S, .int .i64 W, .int .i64 L], [.slice none 0 0]] ∧ Has wr w1.heap.size [v] ∧ w1.heap.size + 1 ≤ N ∧ Grw OInts 22 wr (w1.heap.size + 1) N v vs fps (List.replicate k (List.replicate W (-1)))) (fun i _ => S - (intOf i).toNat)
  case atStart => exact ⟨0, _, _, _, _, Nat.zero_le _, rfl, F1.out, X1.out, Nat.le_refl _, Grw.nil _ _ _ _ (by simp)⟩
  case round =>
    obtain ⟨k, N, v, vs, fps, hk, rfl, f2, x2, hN1, g2⟩ := hrel
    obtain ⟨va, vc, rfl⟩ := g2.form List.length_replicate
    have F2 := Lib.hid f2; have X2 := Lib.hid x2; have G2 := Lib.hid g2
    have t0 := f2.h0
    have c1 := t0.cell 1 _ rfl; have lt0 := t0.lt (by simp)
    have y0 := x2.cell 0 _ rfl; have ly := x2.lt (by simp)
    clear f2 x2 g2 t0
    by_cases hlt : k < S
    · have REP := Lib.hid (fun b w hb hlt => repeat1 b w hb hlt W (by omega))
      have CB := Lib.hid ((Blk.new wr [.int .i64 (-1)] 3).drew.cell (i := 0) (v := .int .i64 (-1)) rfl)
      have c5 : Chg Non wr (wr.alloc (.cells #[.int .i64 (-1)] 3)).drew := ((Chg.refl wr).alloc _).drew
      have C5 := Lib.hid c5; clear c5
      go_wp2
      go_region_law ((first
        | (refine step_append_grw (by rfl) _ _ 31 (by rfl) 22 Try.underlying31 info_sl rfl OInts.loc (by exact G5.out) (by go_simp) w4.heap.size (.slice (some ⟨wr.heap.size + 1, 0, none⟩) W W) 22 (by exact Blk.new w4 _ _) (by go_simp) (f := fun j => j = wr.heap.size + 1) (by exact R5.out) (by exact N5.out) (by rfl) (by rw [List.length_replicate]; omega) (by decide) ?_; intro g cap w6 hap; have x6 := (X5.out.old (o := .cells #[.slice (some ⟨wr.heap.size + 1, 0, none⟩) W W] 22) L5.out); have x7 := hap.out.chg.has x6 (by have := L5.out; simp; omega) (fun e => by have := (G5.out.own _ e).1; omega); have y7 := x7.cell 0 _ rfl; have z7 := x7.free; have l7 := x7.lt (by simp))
        | (go_simp; go_at_call 34; refine (REP.out _ _ (by exact CB.out) (by go_size)).mono ?_; rintro e w4 ⟨rfl, hb4, hs4, hbel4⟩; have c4 := C5.out.trans (Chg.of_below (M := Non) hbel4) (fun _ _ h => h); have G5 := Lib.hid ((G2.out.below OInts.loc c4.below0).alloc OInts.loc (.cells #[.slice (some ⟨wr.heap.size + 1, 0, none⟩) W W] 22)); have X5 := Lib.hid (c4.has X2.out ly id); have y4 := (X5.out).cell 0 _ rfl; have l4 := Nat.lt_of_lt_of_le ly c4.size; have L5 := Lib.hid l4; have HS4 := Lib.hid hs4; have HB4 := Lib.hid hb4; have C4 := Lib.hid c4; have R5 := Lib.hid (show OInts (w4.alloc (.cells #[.slice (some ⟨wr.heap.size + 1, 0, none⟩) W W] 22)) (fun j => j = wr.heap.size + 1) (.slice (some ⟨wr.heap.size + 1, 0, none⟩) W W) (List.replicate W (-1)) from OInts.mk (sp := []) (by rw [List.append_nil]; exact (HB4.out.at' (by simp)).old _) (by simp) (by simp) (by omega) (by rw [List.length_replicate]; omega) rfl (fun z hz => by obtain ⟨_, rfl⟩ := List.mem_replicate.1 hz; decide)); have N5 := Lib.hid (show ∀ j, j = wr.heap.size + 1 → N ≤ j ∧ j < (w4.alloc (.cells #[.slice (some ⟨wr.heap.size + 1, 0, none⟩) W W] 22)).heap.size from fun j hj => by have := G2.out.hN; have h := HS4.out; simp at h; simp; omega); clear hs4 hb4 c4 hbel4)))
      all_goals
        have hq := hap.out.grw
        rw [List.length_replicate] at hq
        have F7 := Lib.hid ((((Fm.call C4.out.below0 F2.out).more (.cells #[.slice (some ⟨wr.heap.size + 1, 0, none⟩) W W] 22)).chgd hap.out.chg (fun j hj => .inr (by have := (G5.out.own j hj).1; simp; omega))).far (p := ⟨w1.heap.size, 0, none⟩) (.inr (by simp; omega)) (.slice (some ⟨g, 0, none⟩) (k + 1) cap))
        have G7 := Lib.hid (hq.chg (M := fun j => j = w1.heap.size) OInts.loc (Chg.setCell (M := fun j => j = w1.heap.size) (Chg.refl w6) (fun _ => rfl) (p := ⟨w1.heap.size, 0, none⟩) (.slice (some ⟨g, 0, none⟩) (k + 1) cap)) (fun j h1 _ h2 => by omega))
        have X8 := Lib.hid (x7.set0 (.slice (some ⟨g, 0, none⟩) (k + 1) cap))
        clear hq hap x6 x7 y7 z7 l7 y4 l4
        go_wp2
        go_roundw
        case rel => exact ⟨k + 1, _, _, _, _, by omega, by go_num, F7.out, X8.out, by have := G7.out.hB; omega, by rw [List.replicate_succ']; exact G7.out⟩
        case measure => simp [intOf]; omega
    · have hkS : k = S := by omega
      subst hkS
      have t1 := F2.out.h1
      have e0 := t1.cell 0 _ rfl; have ef := t1.free; have lt1 := t1.lt (by simp)
      go_wp2
      refine bodyPost_ret (v := .agg #[.slice va k vc]) (by simp [results, Try.results19, go_sem, e0]) rfl ⟨va, k, vc, rfl, ?_, (F2.out.set 1 0 [.slice none 0 0] rfl (by simp) _).below⟩
      have hd := G2.out.done (by rw [List.length_replicate]; omega)
      exact (OMat.loc.chg (M := fun j => j = w.heap.size + 1) hd (Chg.setCell (M := fun j => j = w.heap.size + 1) (Chg.refl _) (fun _ => rfl) _) (fun j hj _ e => by unfold Ge at hj; omega)).ge (by omega)
end Go.Proofs.Ytdkpfifnegndmaa
