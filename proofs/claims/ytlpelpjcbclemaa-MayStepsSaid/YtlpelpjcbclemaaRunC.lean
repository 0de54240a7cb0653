/-
  The document's Copy: contents that share no memory.
-/
import Derived.Deep.DeepCutAuto
import Derived.Test.YtlpelpjcbclemaaZCacheE
import Derived.Test.YtlpelpjcbclemaaZCacheK
import Derived.Test.YtlpelpjcbclemaaZGrow
namespace Go.Proofs.Ytlpelpjcbclemaa
open Go.RowKit

/-- append of a row of integers to a literal without elements. -/
theorem step_append_ints {P : Program} {ops : Array Oper} {o : Oper} {a : Act} {w : World} {K : Act → World → Prop} {Q : Exit → Act → World → Prop} {E : Prop} (hgd : o.guard = none) (s y : Operand) (t : TypeId)
    (ho : o.op = .call { callee := .builtin .append, args := #[s, y], argTypes := #[t, t] }) (ht : P.underlying t = some (.slice 3)) {z : Value} (hinfo : (P.info? 3).map (fun i => (i.zero, i.size, i.bytes)) = some (some z, 1, 8)) (hz : z.cells.size = 1)
    (b : Nat) (hb : Blk w b 3 []) (hs : a.eval s = .slice (some ⟨b, 0, none⟩) 0 0)
    {L : Nat → Prop} {ra : Option Addr} {n rc : Nat} {xs : List Int} (r : Ints L w ra n rc xs) (hn : 0 < n) (hn1 : n ≤ 1000000) (hy : a.eval y = .slice ra n rc)
    (h : ∀ g cap w', Hid (b ≤ g ∧ g < w'.heap.size ∧ OInts w' (fun j => j = g) (.slice (some ⟨g, 0, none⟩) n cap) xs ∧ Chg (fun k => k = b) w w') → K (a.put o.dst (.slice (some ⟨g, 0, none⟩) n cap)) w') :
    if Region.wanted o (yielded ops a.tmps) = true then Oper.wp P o a w K Q else E := by
  obtain ⟨i, hi, hz0, hz1, hz2⟩ := append_parts hinfo
  have hlen := r.hlen
  obtain ⟨e1, o1, hra, _, _, hcells⟩ := r.src hn
  have hb' : b < w.heap.size := hb.lt
  refine step_append_lies w hgd s y t ho b 3 i z 1 8 ht hi hz0 hz1 hz2 hz (by omega) _ 0 [] hs ⟨rfl, .inr ⟨b, 0, #[], rfl, Nat.le_refl _, hb, Nat.le_refl _, by decide, rfl, rfl⟩⟩ ⟨e1, o1, none⟩ n rc (ivs xs) (by rw [hy, hra]) (by rw [ivs_length]; omega) hcells ivs_one hn (by unfold maxLen; omega) (Nat.le_trans (Nat.mul_le_mul (show 0 + n ≤ 1000000 by omega) (Nat.le_refl 8)) (by decide)) (by omega) w.heap.size rfl ?_
  intro g cap w' hown hgrow hat hlt
  rw [Nat.zero_add] at hown ⊢
  refine h g cap w' ⟨?_, hlt, ?_, (Chg.of_grown hgrow).mono (fun k _ e => by cases e; rfl)⟩
  · rcases hat with e | e
    · cases e; exact Nat.le_refl _
    · omega
  · rcases hown.2 with ⟨e, _⟩ | ⟨g', cap', cur, e, hbg, hheap, hnc, hcm, hcs, htk⟩
    · cases e
    · cases e
      have hcur : cur.toList = ivs xs ++ cur.toList.drop n := by
        conv => lhs; rw [← List.take_append_drop n cur.toList]
        rw [Nat.mul_one] at htk
        rw [htk]; rfl
      refine OInts.mk (sp := cur.toList.drop n) ?_ (by omega) ?_ (by unfold maxLen at hcm; omega) (by omega) rfl ?_
      · show w'.heap[g]? = some (.cells (ivs xs ++ cur.toList.drop n).toArray 3 (0, 0))
        rw [← hcur, hheap]
      · have hcl : cur.toList.length = cap * 1 := by rw [Array.length_toList]; exact hcs
        rw [List.length_drop]; omega
      · intro v hv
        obtain ⟨j, hj⟩ := List.getElem?_of_mem hv
        obtain ⟨_, _, _, _, _, _, h1⟩ := r.row j v hj
        exact h1

set_option maxHeartbeats 4000000 in
theorem rcopy_any (K : Nat → Prop) (a : Option Addr) (len cap : Nat) (ss : List (List Int)) (w : World) (r : Mat K w a len cap ss) (hn : len ≤ 8) (hw : ∀ x ∈ ss, 0 < x.length ∧ x.length ≤ 8) :
    Calls Try.prog 25 #[.agg #[.slice a len cap]] w (NewRet ss w) := by
  have HR := Lib.hid r
  have hlen := r.hlen
  have HW := Lib.hid hw
  clear r hw
  have F0 := Lib.hid (Fm.new (Fm.new (Fm.new (Fm.start Non w) rfl [.slice a len cap] 44) (by simp) [.slice none 0 0] 44) (by simp) [.slice none 0 0] 44)
  go_enter Try.func25, Try.ntmps25
  go_wp2
  go_loopw [4] (fun i wr => ∃ (k N : Nat) (v : Value) (vs : List Value) (fps : Nat → Nat → Prop), k ≤ len ∧ i = .int .i64 k ∧ Fm Non w wr [[.slice a len cap], [.slice none 0 0], [v]] ∧ Grw OInts 22 wr (w.heap.size + 3) N v vs fps (ss.take k)) (fun i _ => len - (intOf i).toNat)
  case atStart => exact ⟨0, _, _, _, _, Nat.zero_le _, rfl, F0.out, Grw.nil _ _ _ _ (by simp)⟩
  case round =>
    obtain ⟨k, N, v, vs, fps, hk, rfl, f1, g1⟩ := hrel
    obtain ⟨va, vc, rfl⟩ := g1.form (n := k) (by rw [List.length_take]; omega)
    have F1 := Lib.hid f1; have G1 := Lib.hid g1
    have t0 := f1.h0; have t2 := f1.h2
    have c0 := t0.cell 0 _ rfl; have lt0 := t0.lt (by simp); have d0 := t2.cell 0 _ rfl; have df := t2.free; have lt2 := t2.lt (by simp)
    clear f1 g1
    by_cases hlt : k < len
    · obtain ⟨b, o, x, ra, rl, rc, rfl, hx, hcx, hrx, _, hbx⟩ := Rows.get (HR.out.below F1.out.below) hlt
      have hxl := hrx.hlen
      obtain ⟨x0, x1⟩ := HW.out x (List.mem_of_getElem? hx)
      have HX := Lib.hid hx; have RX := Lib.hid hrx
      have k0 : (0 : Int) ≤ (k : Int) := by omega
      have k1 : (k : Int) < (len : Int) := by omega
      clear hx hrx
      go_wp2
      have y2 := F1.out.h2
      have B5 := Lib.hid (show Blk (wr.alloc (.cells #[] 3)).drew wr.heap.size 3 [] from (Blk.new wr [] 3).drew)
      have C5 := Lib.hid (show Chg Non wr (wr.alloc (.cells #[] 3)).drew from ((Chg.refl wr).alloc _).drew)
      have RX5 := Lib.hid (Ints.below RX.out C5.out.below0)
      have HTL := Lib.hid (show (ss.take k).length = k by rw [List.length_take]; omega)
      clear t0 t2
      go_region_law ((first
        | (refine step_append_n k (by rfl) _ _ 42 (by rfl) 22 Try.underlying42 info_sl rfl OInts.loc (by exact G6.out) (by go_simp) w4.heap.size (.slice (some ⟨g1, 0, none⟩) rl c1) 22 (by exact Blk.new w4 _ _) (by go_simp) (f := fun j => j = g1) (by exact R6.out) (by exact N6.out) (by rfl) (by exact HTL.out) (by omega) (by decide) ?_; intro g cap w6 hap; have x6 := (X6.out.old (o := .cells #[.slice (some ⟨g1, 0, none⟩) rl c1] 22) (X6.out.lt (by simp))); have x7 := hap.out.chg.has x6 (by have := X6.out.lt (by simp); simp; omega) (fun e => by have := (G6.out.own _ e).1; omega); have y7 := x7.cell 0 _ rfl; have z7 := x7.free; have l7 := x7.lt (by simp))
        | (refine step_append_ints (by rfl) _ _ 22 (by rfl) Try.underlying22 info_int rfl wr.heap.size (by exact B5.out) (by go_simp) (RX5.out) (by omega) (by omega) (by go_simp) ?_; intro g1 c1 w4 hap1; have c4 := C5.out.trans hap1.out.2.2.2 (fun j hj e => by omega); have X6 := Lib.hid (c4.has y2 lt2 id); have y4 := X6.out.cell 0 _ rfl; have l4 := X6.out.lt (by simp); have G6 := Lib.hid ((G1.out.below OInts.loc c4.below0).alloc OInts.loc (.cells #[.slice (some ⟨g1, 0, none⟩) rl c1] 22)); have R6 := Lib.hid (OInts.loc.below hap1.out.2.2.1 ((Below.refl _ _).alloc (Nat.le_refl _) (.cells #[.slice (some ⟨g1, 0, none⟩) rl c1] 22))); have N6 := Lib.hid (show ∀ j, j = g1 → N ≤ j ∧ j < (w4.alloc (.cells #[.slice (some ⟨g1, 0, none⟩) rl c1] 22)).heap.size from fun j hj => by have := G1.out.hN; have := hap1.out.1; have := hap1.out.2.1; simp; omega); have C4 := Lib.hid c4; clear c4)))
      all_goals
        have hq := hap.out.grw
        have F7 := Lib.hid (((((Fm.call C4.out.below0 F1.out).more (.cells #[.slice (some ⟨g1, 0, none⟩) rl c1] 22)).chgd hap.out.chg (fun j hj => .inr (by have := (G6.out.own j hj).1; simp; omega))).set 2 0 [.slice va k vc] rfl (by simp) (.slice (some ⟨g, 0, none⟩) (k + 1) cap)))
        have G7 := Lib.hid (hq.chg (M := fun j => j = w.heap.size + 1 + 1) OInts.loc (Chg.setCell (M := fun j => j = w.heap.size + 1 + 1) (Chg.refl w6) (fun _ => rfl) (p := ⟨w.heap.size + 1 + 1, 0, none⟩) (.slice (some ⟨g, 0, none⟩) (k + 1) cap)) (fun j h1 _ h2 => by omega))
        have HTS := Lib.hid (show ss.take (k + 1) = ss.take k ++ [x] by rw [List.take_add_one, HX.out]; rfl)
        clear hq hap x6 x7 y7 z7 l7 y4 l4 hap1
        go_wp2
        go_roundw
        case rel => exact ⟨k + 1, _, _, _, _, by omega, by go_num, F7.out, by rw [HTS.out]; exact G7.out⟩
        case measure => simp [intOf]; omega
    · obtain rfl : k = len := by omega
      have htk : ss.take k = ss := List.take_of_length_le (by omega)
      rw [htk] at G1
      have t1 := F1.out.h1
      have e0 := t1.cell 0 _ rfl; have ef := t1.free; have lt1 := t1.lt (by simp)
      go_wp2
      refine bodyPost_ret (v := .agg #[.slice va k vc]) (by simp [results, Try.results25, go_sem, e0]) rfl ⟨va, k, vc, rfl, ?_, (F1.out.set 1 0 [.slice none 0 0] rfl (by simp) _).below⟩
      have hd := G1.out.done (by omega)
      exact (OMat.loc.chg (M := fun j => j = w.heap.size + 1) hd (Chg.setCell (M := fun j => j = w.heap.size + 1) (Chg.refl _) (fun _ => rfl) _) (fun j hj _ e => by unfold Ge at hj; omega)).ge (by omega)
end Go.Proofs.Ytlpelpjcbclemaa
