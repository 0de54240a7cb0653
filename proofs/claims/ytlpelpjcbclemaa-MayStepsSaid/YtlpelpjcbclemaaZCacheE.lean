/-
  cache.front: an access of a line in contents that the caller owns.
  cache.Touch: an access, in contents that are not changed.
  timeboundref22: Check, Empty.
-/
import Derived.Deep.RegionHeld3
import Derived.Test.YtlpelpjcbclemaaCacheD
import Derived.Test.YtlpelpjcbclemaaZGrow
namespace Go.Proofs.Ytlpelpjcbclemaa
open Go.RowKit

theorem idx_pos {x : List Int} {n : Int} (h : n ∈ x) : idx x n = (pos x n : Nat) := by unfold idx pos; rw [if_pos h, if_pos h]

theorem acc_cells {x : List Int} {sp : List Value} {p : Nat} {n : Int} (h : p < x.length) : (splice (ivs x ++ sp) 1 (ivs (x.take p))).set 0 (.int .i64 n) = ivs (n :: (x.take p ++ x.drop (p + 1))) ++ sp := by
  cases x with
  | nil => simp at h
  | cons z x =>
    simp at h
    have e1 : (List.drop (1 + min p (x.length + 1)) (ivs (z :: x) ++ sp)) = ivs ((z :: x).drop (p + 1)) ++ sp := by
      rw [List.drop_append_of_le_length (by rw [ivs_length]; simp; omega), show 1 + min p (x.length + 1) = p + 1 by omega]
      unfold ivs; rw [List.map_drop]
    unfold splice
    rw [ivs_length, List.length_take, List.length_cons, e1]
    simp only [ivs, List.map_cons, List.cons_append, List.take_succ_cons, List.take_zero, List.nil_append, List.set_cons_zero, List.map_append, List.append_assoc]
    rfl
theorem acc_range {x : List Int} {n : Int} (h : ∀ z ∈ x, -9223372036854775808 ≤ z ∧ z ≤ 9223372036854775807) (h0 : -9223372036854775808 ≤ n) (h1 : n ≤ 9223372036854775807) : ∀ z ∈ acc x n, -9223372036854775808 ≤ z ∧ z ≤ 9223372036854775807 := fun z hz => by
  unfold acc at hz
  rcases List.mem_cons.1 hz with rfl | hz
  · exact ⟨h0, h1⟩
  · rcases List.mem_append.1 hz with hz | hz
    · exact h z (List.mem_of_mem_take hz)
    · exact h z (List.mem_of_mem_drop hz)

end Go.Proofs.Ytlpelpjcbclemaa
namespace Go.Proofs.Ytlpelpjcbclemaa
open Go.RowKit

def TouchRet (ss : List (List Int)) (hit : Bool) (err : Int) (w : World) (e : Ending) (w' : World) : Prop :=
  ∃ a n cap, e = .returned (.tuple #[.agg #[.slice a n cap], .bool hit, .int .i64 err]) ∧ OMat w' (Ge w.heap.size) (.slice a n cap) ss ∧ Below w.heap.size w w'

theorem ValidP.wide {S W : Nat} {ss : List (List Int)} (h : ValidP S W ss) : Wide S W ss :=
  ⟨by have := h.1; omega, fun x hx => by
    obtain ⟨i, hi⟩ := List.getElem?_of_mem hx
    have := (h.2 i x hi).1; omega⟩

end Go.Proofs.Ytlpelpjcbclemaa
namespace Go.Proofs.Ytlpelpjcbclemaa
open Go.RowKit

set_option maxHeartbeats 400000 in
theorem rcheck_ok (S W L : Int) (h : COk S W L) (w : World) :
    Calls Try.prog 97 #[CV S W L] w fun e w' => e = .returned (.int .i64 0) ∧ Below w.heap.size w w' := by
  obtain ⟨h1, h2, h3, h4, h5, h6⟩ := h
  go_enter Try.func97, Try.ntmps97
  go_wp2
  go_ret
  exact ⟨rfl, (Below.refl _ _).alloc (Nat.le_refl _) _⟩

set_option maxHeartbeats 2000000 in
theorem rempty_any (S W L : Nat) (hc : COk S W L) (w : World) :
    Calls Try.prog 82 #[CV S W L] w (NewRet (List.replicate S (List.replicate W (-1))) w) := by
  have hC := Lib.hid hc
  obtain ⟨h1, h2, h3, h4, h5, h6⟩ := hc
  have F0 := Lib.hid (Fm.new (Fm.new (Fm.new (Fm.start Non w) rfl [.int .i64 S, .int .i64 W, .int .i64 L] 26) (by simp) [.slice none 0 0] 44) (by simp) [.slice none 0 0] 44)
  go_enter Try.func82, Try.ntmps82
  go_wp2
  go_loopw [4] (fun i wr => ∃ (k N : Nat) (v : Value) (vs : List Value) (fps : Nat → Nat → Prop), k ≤ S ∧ i = .int .i64 k ∧ Fm Non w wr [[.int .i64 S, .int .i64 W, .int .i64 L], [.slice none 0 0], [v]] ∧ Grw OInts 22 wr (w.heap.size + 3) N v vs fps (List.replicate k (List.replicate W (-1)))) (fun i _ => S - (intOf i).toNat)
  case atStart => exact ⟨0, _, _, _, _, Nat.zero_le _, rfl, F0.out, Grw.nil _ _ _ _ (by simp)⟩
  case round =>
    obtain ⟨k, N, v, vs, fps, hk, rfl, f1, g1⟩ := hrel
    obtain ⟨wo, rfl⟩ : ∃ wo : World, wo = wr := ⟨_, rfl⟩
    obtain ⟨va, vc, rfl⟩ := g1.form List.length_replicate
    have F1 := Lib.hid f1; have G1 := Lib.hid g1
    have t0 := f1.h0; have t2 := f1.h2
    have c0 := t0.cell 0 _ rfl; have c1 := t0.cell 1 _ rfl; have c2 := t0.cell 2 _ rfl; have lt0 := t0.lt (by simp); have d0 := t2.cell 0 _ rfl; have lt2 := t2.lt (by simp)
    clear f1 g1
    by_cases hlt : k < S
    · go_wp2_with fail
      refine (rcheck_ok S W L hC.out _).mono ?_
      rintro e w1 ⟨rfl, hb1⟩
      have F2 := Lib.hid (Fm.call hb1 F1.out); have G2 := Lib.hid (G1.out.below OInts.loc hb1)
      clear t0 t2 c0 c1 c2 lt0 d0 lt2 hb1
      go_wp2
      go_loopw [5, 6] (fun x j wr2 => ∃ (m M : Nat) (us : List Value) (fq : Nat → Nat → Prop), m ≤ W ∧ j = .int .i64 m ∧ Fm Non w wr2 [[.int .i64 S, .int .i64 W, .int .i64 L], [.slice none 0 0], [.slice va k vc]] ∧ Grw OInts 22 wr2 (w.heap.size + 3) N (.slice va k vc) vs fps (List.replicate k (List.replicate W (-1))) ∧
          Grw OInt 3 wr2 w1.heap.size M x us fq (List.replicate m (-1))) (fun _ j _ => W - (intOf j).toNat)
      case atStart => exact ⟨0, _, _, _, Nat.zero_le _, rfl, F2.out, G2.out, Grw.nil _ _ _ _ (Nat.le_refl _)⟩
      case round =>
        obtain ⟨m, M, us, fq, hm, rfl, f3, g3, q3⟩ := hrel
        obtain ⟨xa, xc, rfl⟩ := q3.form List.length_replicate
        have F3 := Lib.hid f3; have G3 := Lib.hid g3; have Q3 := Lib.hid q3
        have t0 := f3.h0; have t2 := f3.h2
        have c0 := t0.cell 0 _ rfl; have c1 := t0.cell 1 _ rfl; have c2 := t0.cell 2 _ rfl; have lt0 := t0.lt (by simp); have d0 := t2.cell 0 _ rfl; have df := t2.free; have lt2 := t2.lt (by simp)
        clear f3 g3 q3
        by_cases hlm : m < W
        · have f4 := F3.out.more (.cells #[.int .i64 (-1)] 3)
          have g4 := G3.out.alloc OInts.loc (.cells #[.int .i64 (-1)] 3)
          have q4 := Q3.out.alloc OInt.loc (.cells #[.int .i64 (-1)] 3)
          have b4 := Blk.new wr [.int .i64 (-1)] 3
          have F4 := Lib.hid f4; have G4 := Lib.hid g4; have Q4 := Lib.hid q4; have B4 := Lib.hid b4; clear f4 g4 q4 b4
          go_wp2_with (at_builtin; refine wpList_append_grw rfl _ _ 22 rfl 3 Try.underlying22 info_int rfl OInt.loc Q4.out rfl wr.heap.size (.int .i64 (-1)) 3 B4.out rfl (f := fun _ => False) (x := -1) ⟨rfl, by decide, by decide⟩ (fun _ h => h.elim) rfl (by rw [List.length_replicate]; omega) (by decide) ?_; intro g cap w4 hap)
          have hap := hap.out
          have hq := hap.grw
          rw [List.length_replicate] at hq
          have hgB : ∀ j, (Value.slice xa m xc).ownBlock = some j → w1.heap.size ≤ j := fun j hj => (Q4.out.own j hj).1
          have hs1 := F2.out.size
          simp only [List.length_cons, List.length_nil, Nat.zero_add] at hs1
          have F5 := Lib.hid (F4.out.chgd hap.chg (fun j hj => .inr (by have := hgB j hj; simp; omega)))
          have G5 := Lib.hid (G4.out.chg OInts.loc hap.chg (fun j _ hj2 hm => by have := hgB j hm; have := G2.out.hN; omega))
          have Q5 := Lib.hid hq
          clear hap hq hgB hs1 t0 t2 c0 c1 c2 lt0 d0 df lt2
          go_wp2
          go_roundw
          case rel => exact ⟨m + 1, _, _, _, by omega, by go_num, F5.out, G5.out, by rw [List.replicate_succ']; simpa using Q5.out⟩
          case measure => simp [intOf]; omega
        · have hmW : m = W := by omega
          subst hmW
          have hx := Q3.out.done (by rw [List.length_replicate]; omega)
          have f4 := F3.out.more (.cells #[.slice xa m xc] 22)
          have g4 := G3.out.alloc OInts.loc (.cells #[.slice xa m xc] 22)
          have x4 := OInts.loc.below hx.bt1 ((Below.refl _ _).alloc (Nat.le_refl _) (.cells #[.slice xa m xc] 22))
          have b4 := Blk.new wr [.slice xa m xc] 22
          have F4 := Lib.hid f4; have G4 := Lib.hid g4; have X4 := Lib.hid x4; have B4 := Lib.hid b4; clear f4 g4 x4 b4 hx
          have hN := G2.out.hN; have hs1 := F2.out.size
          simp only [List.length_cons, List.length_nil, Nat.zero_add] at hs1
          go_wp2_with (at_builtin; refine wpList_append_grw rfl _ _ 42 rfl 22 Try.underlying42 info_sl rfl OInts.loc G4.out rfl wr.heap.size (.slice xa m xc) 22 B4.out rfl (f := Bt w1.heap.size wr.heap.size) X4.out (fun j hj => ⟨by have := hj.1; omega, by have := hj.2; simp; omega⟩) rfl (by rw [List.length_replicate]; omega) (by decide) ?_; intro g cap w4 hap; have F5 := Lib.hid (F4.out.chgd hap.out.chg (fun j hj => .inr (by have := (G4.out.own j hj).1; simp; omega))); have t5 := F5.out.h2; have d5 := t5.cell 0 _ rfl; have f5 := t5.free; have l5 := t5.lt (by simp))
          have hq := hap.out.grw
          rw [List.length_replicate] at hq
          have G6 := Lib.hid (hq.chg (M := fun j => j = w.heap.size + 1 + 1) OInts.loc (Chg.setCell (M := fun j => j = w.heap.size + 1 + 1) (Chg.refl w4) (fun _ => rfl) (p := ⟨w.heap.size + 1 + 1, 0, none⟩) (.slice (some ⟨g, 0, none⟩) (k + 1) cap)) (fun j h1 _ h2 => by omega))
          have F6 := Lib.hid (F5.out.set 2 0 [.slice va k vc] rfl (by simp) (.slice (some ⟨g, 0, none⟩) (k + 1) cap))
          clear hq hap
          go_roundw
          case rel => exact ⟨k + 1, _, _, _, _, by omega, by go_num, F6.out, by rw [List.replicate_succ']; exact G6.out⟩
          case measure => simp [intOf]; omega
    · have hkS : k = S := by omega
      subst hkS
      have t1 := F1.out.h1
      have e0 := t1.cell 0 _ rfl; have ef := t1.free; have lt1 := t1.lt (by simp)
      go_wp2
      refine bodyPost_ret (v := .agg #[.slice va k vc]) (by simp [results, Try.results82, go_sem, e0]) rfl ⟨va, k, vc, rfl, ?_, (F1.out.set 1 0 [.slice none 0 0] rfl (by simp) _).below⟩
      have hd := G1.out.done (by rw [List.length_replicate]; omega)
      exact (OMat.loc.chg (M := fun j => j = w.heap.size + 1) hd (Chg.setCell (M := fun j => j = w.heap.size + 1) (Chg.refl _) (fun _ => rfl) _) (fun j hj _ e => by unfold Ge at hj; omega)).ge (by omega)
end Go.Proofs.Ytlpelpjcbclemaa
