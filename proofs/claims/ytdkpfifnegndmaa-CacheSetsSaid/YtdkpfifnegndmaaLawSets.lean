/-
  timeboundlaw22.CacheSets returns true, whatever its lists are. No condition.
-/
import Derived.Test.YtdkpfifnegndmaaCacheN
import Derived.Test.YtdkpfifnegndmaaCacheL
import Derived.Test.YtdkpfifnegndmaaCachePa
import Derived.Test.YtdkpfifnegndmaaGrow2
namespace Go.Proofs.Ytdkpfifnegndmaa
open Go.RowKit

theorem take_map_succ {z1 : List Int} {k : Nat} {z : Int} (h : z1[k]? = some z) : (z1.take (k + 1)).map (· % 100) = (z1.take k).map (· % 100) ++ [z % 100] := by
  rw [List.take_add_one, h]; simp

set_option maxHeartbeats 4000000 in
theorem sets_law (a0 : Option Addr) (len0 cap0 : Nat) (z0 : List Int) (a1 : Option Addr) (len1 cap1 : Nat) (z1 : List Int) (w : World) (w0 : IsRow .i64 w a0 len0 cap0 z0) (w1 : IsRow .u8 w a1 len1 cap1 z1) :
    Calls Try.prog 3 #[.slice a0 len0 cap0, .slice a1 len1 cap1] w fun e w' => e = .returned (.bool true) ∧ Below w.heap.size w w' := by
  have hl0 := w0.lens
  have hl1 := w1.lens
  by_cases hf : len0 ≤ 400
  · have FEW := Lib.hid ((few_any a0 len0 cap0 w hl0).1 hf)
    by_cases h100 : len1 ≤ 100
    · have hb1 := w1.bytes (by omega)
      have HB1 := Lib.hid hb1; have W0 := Lib.hid w0
      obtain ⟨bs, hbs⟩ : ∃ bs, bs = z1.take len1 := ⟨_, rfl⟩
      rw [← hbs] at HB1
      clear w0 w1 hb1 hbs hf
      go_enter Try.func3, Try.ntmps3
      go_wp2_with fail
      refine FEW.out.mono ?_
      rintro e w' ⟨rfl, rfl⟩
      go_wp2_with fail
      refine (new_any a0 len0 cap0 z0 _ W0.out).mono ?_
      rintro e w2 ⟨rfl, hd2, hb2⟩
      have D2 := Lib.hid hd2; have C2 := Lib.hid (Chg.of_below (M := Ge w'.heap.size) hb2); clear hd2 hb2
      go_wp2_with fail
      refine (mcache_any w'.heap.size _ D2.out).mono ?_
      rintro e w3 ⟨S, W, L, rfl, g1, g2, g3, g4, g5, hd3, hc3⟩
      have hC := Lib.hid (show COk S W L from ⟨by omega, by omega, by omega, by omega, by omega, by omega⟩)
      have D3 := Lib.hid (hd3.chg (M := Non) ((Chg.refl w3).alloc (.cells #[.int .i64 S, .int .i64 W, .int .i64 L] 29)) (fun _ _ _ h => h))
      have C3 := Lib.hid ((C2.out.trans hc3 (fun k hk e => by omega)).alloc (.cells #[.int .i64 S, .int .i64 W, .int .i64 L] 29))
      have X3 := Lib.hid (Has.new w3 [.int .i64 S, .int .i64 W, .int .i64 L] 29)
      have l3 : w'.heap.size < w3.heap.size := by have := hd3.lt; omega
      clear hd3 hc3
      go_wp2_with fail
      refine (mlines2_any S W L hC.out w'.heap.size _ D3.out).mono ?_
      rintro e w4 ⟨oa, on, oc, ss, rfl, ho4, hv4, hd4, hc4⟩
      have V4 := Lib.hid hv4
      have O4 := Lib.hid ((ho4.ge (B' := w3.heap.size + 1) (by simp)).bt)
      have O5 := Lib.hid (OMat.loc.chg (M := Non) O4.out ((Chg.refl w4).alloc (.cells #[.slice oa on oc] 33)) (fun _ _ _ h => h))
      have X4 := Lib.hid ((hc4.has X3.out (by simp) (by omega)).old (o := .cells #[.slice oa on oc] 33) (by have := hc4.size; simp at this; omega))
      have Y4 := Lib.hid (Has.new w4 [.slice oa on oc] 33)
      have C4 := Lib.hid ((C3.out.trans hc4 (fun k hk e => by omega)).alloc (.cells #[.slice oa on oc] 33))
      have l4 : w3.heap.size < w4.heap.size := by have := hc4.size; simp at this; omega
      clear hv4 hd4 hc4 ho4 O4 X3 C3 C2 D2 D3
      go_wp2
      -- the addresses
      go_loopw [8, 10] (fun v i wr => ∃ (k N : Nat) (vs : List Value) (fps : Nat → Nat → Prop), k ≤ len1 ∧ i = .int .i64 k ∧ Chg (Ge w'.heap.size) w' wr ∧ Chg Non (w4.alloc (.cells #[.slice oa on oc] 33)) wr ∧ Grw OInt 3 wr (w4.heap.size + 1) N v vs fps ((bs.take k).map (· % 100))) (fun _ i _ => len1 - (intOf i).toNat)
      case atStart => exact ⟨0, _, _, _, Nat.zero_le _, rfl, C4.out, Chg.refl _, Grw.nil _ _ _ _ (by simp)⟩
      case round =>
        obtain ⟨k, N, vs, fps, hk, rfl, c5, n5, q5⟩ := hrel
        obtain ⟨xa, xc, rfl⟩ := q5.form (n := k) (by rw [List.length_map, List.length_take, HB1.out.hlen]; omega)
        have C5 := Lib.hid c5; have N5 := Lib.hid n5; have Q5 := Lib.hid q5; clear c5 n5 q5
        by_cases hlt : k < len1
        · obtain ⟨b, o, z, rfl, hz, hcz0, hz0, hz1, _, hbw⟩ := Bytes.get HB1.out hlt
          have hcz := C5.out.cell (fun h => by unfold Ge at h; omega) hcz0
          have hbw5 := Nat.lt_of_lt_of_le hbw C5.out.size
          have HZ := Lib.hid hz; clear hz hcz0
          have Q6 := Lib.hid (Q5.out.alloc OInt.loc (.cells #[.int .i64 (z % 100)] 3))
          have B6 := Lib.hid (Blk.new wr [.int .i64 (z % 100)] 3)
          have hlen : ((bs.take k).map (· % 100)).length = k := by rw [List.length_map, List.length_take, HB1.out.hlen]; omega
          have HL := Lib.hid hlen; clear hlen
          go_wp2_with (at_builtin; refine wpList_append_n k rfl _ _ 22 rfl 3 Try.underlying22 info_int rfl OInt.loc Q6.out rfl wr.heap.size (.int .i64 (z % 100)) 3 B6.out rfl (f := fun _ => False) (x := z % 100) ⟨rfl, by omega, by omega⟩ (fun _ h => h.elim) rfl HL.out (by omega) (by decide) ?_; intro g cap w6 hap)
          have C6 := Lib.hid (hap.out.chg' Q6.out (C5.out.alloc _) (fun j h1 h2 => by omega))
          have N6 := Lib.hid (hap.out.non Q6.out (N5.out.alloc _) (by simp))
          have Q7 := Lib.hid hap.out.grw
          clear hap
          go_roundw
          case rel => exact ⟨k + 1, _, _, _, by omega, by go_num, C6.out, N6.out, by rw [take_map_succ HZ.out]; exact Q7.out⟩
          case measure => simp [intOf]; omega
        · obtain ⟨al, hal⟩ : ∃ al, al = bs.map (· % 100) := ⟨_, rfl⟩
          have hkk : k = len1 := by omega
          subst hkk
          rw [List.take_of_length_le (by rw [HB1.out.hlen]; omega), ← hal] at Q5
          have hall : al.length = k := by rw [hal, List.length_map, HB1.out.hlen]
          have halr : ∀ z ∈ al, 0 ≤ z ∧ z < 100 := fun z hz => by
            rw [hal] at hz
            obtain ⟨y, _, rfl⟩ := List.mem_map.1 hz
            omega
          have HALL := Lib.hid hall; have HALR := Lib.hid halr
          have X5 := Lib.hid (N5.out.has X4.out (X4.out.lt (by simp)) id)
          have Y5 := Lib.hid (N5.out.has Y4.out (Y4.out.lt (by simp)) id)
          have O6 := Lib.hid (OMat.loc.chg O5.out N5.out (fun _ _ _ h => h))
          have l5 : w4.heap.size < wr.heap.size := Y5.out.lt (by simp)
          obtain ⟨wa, rfl⟩ : ∃ wa : World, wa = wr := ⟨_, rfl⟩
          have c0 := X5.out.cell 0 _ rfl; have c1 := X5.out.cell 1 _ rfl; have c2 := X5.out.cell 2 _ rfl
          clear hall halr hal X4 Y4 O5 C4 N5
          go_wp2
          clear c0 c1 c2
          -- the same addresses, set by set
          go_loopw [9, 11] (fun v i wr => ∃ (s N2 n : Nat) (vs2 : List Value) (fps2 : Nat → Nat → Prop), s ≤ S ∧ i = .int .i64 s ∧ Chg Non wa wr ∧ (sorted (inSet S L) al s).length = n ∧ n ≤ s * 100 ∧ Grw OInt 3 wr wa.heap.size N2 v vs2 fps2 (sorted (inSet S L) al s)) (fun _ i _ => S - (intOf i).toNat)
          case atStart => exact ⟨0, _, 0, _, _, Nat.zero_le _, rfl, Chg.refl _, rfl, by omega, Grw.nil _ _ _ _ (by simp)⟩
          case round =>
            obtain ⟨s, N2, n, vs2, fps2, hs, rfl, n6, hn, hn', q6⟩ := hrel
            obtain ⟨ya, yc, rfl⟩ := q6.form hn
            have N6 := Lib.hid n6; have Q6 := Lib.hid q6; have HN := Lib.hid hn; clear n6 q6 hn
            have X6 := Lib.hid (N6.out.has X5.out (X5.out.lt (by simp)) id)
            have c0 := X6.out.cell 0 _ rfl; have c1 := X6.out.cell 1 _ rfl; have c2 := X6.out.cell 2 _ rfl; have lx := X6.out.lt (by simp)
            by_cases hlt : s < S
            · go_wp2
              obtain ⟨wb, rfl⟩ : ∃ wb : World, wb = wr := ⟨_, rfl⟩
              clear c0 c1 c2 lx
              go_loopw [9, 12] (fun v i wr => ∃ (j N3 m : Nat) (vs3 : List Value) (fps3 : Nat → Nat → Prop), j ≤ k ∧ i = .int .i64 j ∧ Chg Non wa wr ∧ (sorted (inSet S L) al s ++ (al.take j).filter (inSet S L s)).length = m ∧ m ≤ s * 100 + j ∧ Grw OInt 3 wr wa.heap.size N3 v vs3 fps3 (sorted (inSet S L) al s ++ (al.take j).filter (inSet S L s))) (fun _ i _ => k - (intOf i).toNat)
              case atStart => exact ⟨0, _, n, _, _, Nat.zero_le _, rfl, N6.out, by simpa using HN.out, by omega, by simpa using Q6.out⟩
              case round =>
                obtain ⟨j, N3, m, vs3, fps3, hj, rfl, n7, hm, hm', q7⟩ := hrel
                obtain ⟨va, vc, rfl⟩ := q7.form hm
                have N7 := Lib.hid n7; have Q7 := Lib.hid q7; have HM := Lib.hid hm; clear n7 q7 hm
                have X7 := Lib.hid (N7.out.has X5.out (X5.out.lt (by simp)) id)
                have c0 := X7.out.cell 0 _ rfl; have c1 := X7.out.cell 1 _ rfl; have c2 := X7.out.cell 2 _ rfl; have lx := X7.out.lt (by simp)
                by_cases hjl : j < k
                · have ra := (Q5.out.below OInt.loc N7.out.below0).read (K := fun _ => True) OInt.reads (by rw [HALL.out]; omega) (fun _ _ => trivial)
                  obtain ⟨b, o, z, rfl, hz, hcz, _, _, _, hbw⟩ := Ints.get ra hjl
                  obtain ⟨z0, z1⟩ := HALR.out z (List.mem_of_getElem? hz)
                  have hq0 : 0 ≤ z / (L : Int) := Int.ediv_nonneg z0 (by omega)
                  have hq1 : z / (L : Int) ≤ 100 := Int.le_trans (Int.ediv_le_self _ z0) (by omega)
                  have HZ := Lib.hid hz; clear hz ra
                  by_cases hin : z / (L : Int) % (S : Int) = (s : Int)
                  · have hib : (z / (L : Int) % (S : Int) == (s : Int)) = true := by simp [hin]
                    have hil : al.take (j + 1) = al.take j ++ [z] := by rw [List.take_add_one, HZ.out]; rfl
                    have hfl : (al.take (j + 1)).filter (inSet S L s) = (al.take j).filter (inSet S L s) ++ [z] := by rw [hil, List.filter_append, List.filter_cons, show inSet S L s z = true from hib]; rfl
                    have HFL := Lib.hid hfl; clear hil hfl hin
                    go_wp2
                    go_quiet (fail)
                    have hcz' : (wr.drewN nq).cell? ⟨b, o + j, none⟩ = some (.int .i64 z) := hcz
                    have Q8 := Lib.hid ((Q7.out.chg OInt.loc (M := Non) ((Chg.refl wr).drewN nq) (fun _ _ _ h => h)).alloc OInt.loc (.cells #[.int .i64 z] 3))
                    have B8 := Lib.hid (Blk.new (wr.drewN nq) [.int .i64 z] 3)
                    have N8 := Lib.hid ((N7.out.drewN nq).alloc (.cells #[.int .i64 z] 3))
                    clear hib hq0 hq1 c0 c1 c2 lx
                    go_wp2_with (at_builtin; refine wpList_append_n m rfl _ _ 22 rfl 3 Try.underlying22 info_int rfl OInt.loc Q8.out rfl wr.heap.size (.int .i64 z) 3 B8.out rfl (f := fun _ => False) (x := z) ⟨rfl, by omega, by omega⟩ (fun _ h => h.elim) rfl HM.out (by omega) (by decide) ?_; intro g cap w8 hap)
                    have N9 := Lib.hid (hap.out.non Q8.out N8.out (Nat.le_refl _))
                    have Q9 := Lib.hid hap.out.grw
                    have HM9 := Lib.hid (show (sorted (inSet S L) al s ++ ((al.take j).filter (inSet S L s) ++ [z])).length = m + 1 by rw [← List.append_assoc, List.length_append, HM.out]; rfl)
                    clear hap
                    go_roundw
                    case rel => exact ⟨j + 1, _, m + 1, _, _, by omega, by go_num, N9.out, by rw [HFL.out]; exact HM9.out, by omega, by rw [HFL.out, ← List.append_assoc]; exact Q9.out⟩
                    case measure => simp [intOf]; omega
                  · have hib : (z / (L : Int) % (S : Int) == (s : Int)) = false := by simp [hin]
                    have hil : al.take (j + 1) = al.take j ++ [z] := by rw [List.take_add_one, HZ.out]; rfl
                    have hfl : (al.take (j + 1)).filter (inSet S L s) = (al.take j).filter (inSet S L s) := by rw [hil, List.filter_append, List.filter_cons, show inSet S L s z = false from hib]; simp
                    have HFL := Lib.hid hfl; clear hil hfl hin
                    go_wp2
                    go_quiet (fail)
                    have Q8 := Lib.hid (Q7.out.chg OInt.loc (M := Non) ((Chg.refl wr).drewN nq) (fun _ _ _ h => h))
                    have N8 := Lib.hid (N7.out.drewN nq)
                    clear hib hq0 hq1 c0 c1 c2 lx
                    go_wp2
                    go_roundw
                    case rel => exact ⟨j + 1, _, m, _, _, by omega, by go_num, N8.out, by rw [HFL.out]; exact HM.out, by omega, by rw [HFL.out]; exact Q8.out⟩
                    case measure => simp [intOf]; omega
                · have hjk : al.take j = al := List.take_of_length_le (by rw [HALL.out]; omega)
                  rw [hjk] at Q7 HM
                  clear hjk c0 c1 c2 lx
                  go_wp2
                  go_roundw
                  case rel => exact ⟨s + 1, _, m, _, _, by omega, by go_num, N7.out, HM.out, by omega, Q7.out⟩
                  case measure => simp [intOf]; omega
            · have hsS : s = S := by omega
              subst hsS
              have Y6 := Lib.hid (N6.out.has Y5.out (Y5.out.lt (by simp)) id)
              have O7 := Lib.hid (OMat.loc.chg O6.out N6.out (fun _ _ _ h => h))
              have A6 := Lib.hid (Q5.out.below OInt.loc N6.out.below0)
              have C6 := Lib.hid (C5.out.trans N6.out (fun _ _ h => h.elim))
              have hon : on ≤ 1000000 := by have := (OMat.read (K := fun _ => True) (fun _ _ => trivial) O7.out).hlen; have := V4.out.1; omega
              have y0 := Y6.out.cell 0 _ rfl; have ly := Y6.out.lt (by simp)
              have HRA := Lib.hid (show ∀ z ∈ al, 0 ≤ z ∧ z ≤ 1048576 from fun z hz => by have := HALR.out z hz; omega)
              have HRB := Lib.hid (show ∀ z ∈ sorted (inSet s L) al s, 0 ≤ z ∧ z ≤ 1048576 from fun z hz => HRA.out z (sorted_mem hz))
              clear hlt
              by_cases hS : 1 ≤ s
              · have hz : ((s : Int) == 0) = false := by simp; omega
                have hord := sets_order (L := L) (by omega : 0 < s) (by have := V4.out.1; omega : ss.length = s) al
                obtain ⟨M, hM⟩ : ∃ M, M = mm s ss (al.map (· / (L : Int))) := ⟨_, rfl⟩
                have hMk : M ≤ k := by rw [hM]; exact Nat.le_trans (mm_le s _ ss) (by rw [List.length_map, HALL.out]; exact Nat.le_refl _)
                have m1 := fun w r ra => misses_any s W L hC.out (fun _ => True) (fun _ => True) oa on oc ss w r hon xa k xc al ra V4.out hS HRA.out
                have m2 := fun w r ra => misses_any s W L hC.out (fun _ => True) (fun _ => True) oa on oc ss w r hon ya n yc (sorted (inSet s L) al s) ra V4.out hS HRB.out
                rw [← hord, ← hM] at m2
                rw [← hM] at m1
                have M1 := Lib.hid m1; have M2 := Lib.hid m2
                clear m1 m2 hord hM
                go_wp2_with fail
                refine (M1.out _ (OMat.read (fun _ _ => trivial) O7.out) (A6.out.read OInt.reads (by rw [HALL.out]; omega) (fun _ _ => trivial))).mono ?_
                rintro e w7 ⟨rfl, hb7⟩
                have X7 := Lib.hid (X6.out.below hb7 lx); have Y7 := Lib.hid (Y6.out.below hb7 ly); have O8 := Lib.hid (OMat.loc.below O7.out hb7); have B7 := Lib.hid (Q6.out.below OInt.loc hb7); have C7 := Lib.hid (C6.out.tr hb7)
                clear c0 c1 c2 lx y0 ly hb7
                have c0 := X7.out.cell 0 _ rfl; have c1 := X7.out.cell 1 _ rfl; have c2 := X7.out.cell 2 _ rfl; have lx := X7.out.lt (by simp); have y0 := Y7.out.cell 0 _ rfl; have ly := Y7.out.lt (by simp)
                go_wp2_with fail
                refine (M2.out _ (OMat.read (fun _ _ => trivial) O8.out) (B7.out.read OInt.reads (by rw [HN.out]; omega) (fun _ _ => trivial))).mono ?_
                rintro e w8 ⟨rfl, hb8⟩
                have C8 := Lib.hid (C7.out.tr hb8)
                have hMM : ((M : Int) == (M : Int)) = true := by simp
                clear c0 c1 c2 lx y0 ly hb8
                go_wp2_with fail
                refine (awake_any _).mono ?_
                rintro e w9 ⟨rfl, hb9⟩
                go_wp2
                go_ret
                exact ⟨rfl, (C8.out.tr hb9).below (fun j hj h => by unfold Ge at h; omega) (Nat.le_refl _)⟩
              · obtain rfl : s = 0 := by omega
                have m1 := fun w r ra => misses_none 0 W L hC.out (fun _ => True) (fun _ => True) oa on oc ss w r hon xa k xc al ra V4.out rfl HRA.out
                rw [HALL.out] at m1
                have M1 := Lib.hid m1; clear m1
                go_wp2_with fail
                refine (M1.out _ (OMat.read (fun _ _ => trivial) O7.out) (A6.out.read OInt.reads (by rw [HALL.out]; omega) (fun _ _ => trivial))).mono ?_
                rintro e w7 ⟨rfl, hb7⟩
                have X7 := Lib.hid (X6.out.below hb7 lx); have Y7 := Lib.hid (Y6.out.below hb7 ly); have O8 := Lib.hid (OMat.loc.below O7.out hb7); have A7 := Lib.hid (A6.out.below OInt.loc hb7); have C7 := Lib.hid (C6.out.tr hb7)
                clear c0 c1 c2 lx y0 ly hb7
                have c0 := X7.out.cell 0 _ rfl; have c1 := X7.out.cell 1 _ rfl; have c2 := X7.out.cell 2 _ rfl; have lx := X7.out.lt (by simp); have y0 := Y7.out.cell 0 _ rfl; have ly := Y7.out.lt (by simp)
                go_wp2_with fail
                refine (M1.out _ (OMat.read (fun _ _ => trivial) O8.out) (A7.out.read OInt.reads (by rw [HALL.out]; omega) (fun _ _ => trivial))).mono ?_
                rintro e w8 ⟨rfl, hb8⟩
                have C8 := Lib.hid (C7.out.tr hb8)
                have hMM : ((k : Int) == (k : Int)) = true := by simp
                clear c0 c1 c2 lx y0 ly hb8
                go_wp2_with fail
                refine (awake_any _).mono ?_
                rintro e w9 ⟨rfl, hb9⟩
                go_wp2
                go_ret
                exact ⟨rfl, (C8.out.tr hb9).below (fun j hj h => by unfold Ge at h; omega) (Nat.le_refl _)⟩
    · clear w0 w1 hf
      go_enter Try.func3, Try.ntmps3
      go_wp2_with fail
      refine FEW.out.mono ?_
      rintro e w' ⟨rfl, rfl⟩
      go_wp2_with fail
      refine (awake_any _).mono ?_
      rintro e w9 ⟨rfl, hb9⟩
      go_wp2
      go_ret
      exact ⟨rfl, hb9⟩
  · have FEW := Lib.hid ((few_any a0 len0 cap0 w hl0).2 hf)
    clear w0 w1 hf
    go_enter Try.func3, Try.ntmps3
    go_wp2_with fail
    refine FEW.out.mono ?_
    rintro e w' ⟨rfl, rfl⟩
    go_wp2_with fail
    refine (awake_any _).mono ?_
    rintro e w9 ⟨rfl, hb9⟩
    go_wp2
    go_ret
    exact ⟨rfl, hb9⟩
end Go.Proofs.Ytdkpfifnegndmaa
