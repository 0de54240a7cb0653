/-
  Few with its list open at the end; Use of addresses up to 2^23, Use without sets; the document's Describes.
-/
import Derived.Test.YtikhbijobkkhgaaMuAb
import Derived.Test.YtikhbijobkkhgaaMuAc
import Derived.Test.YtikhbijobkkhgaaRunC
namespace Go.Proofs.Ytikhbijobkkhgaa
open Go.RowKit

def FewG (d : Nat) (w : World) (e : Ending) (w' : World) : Prop := ∃ (v : Value) (vs : List Value) (fps : Nat → Nat → Prop) (N : Nat) (xs : List Int), e = .returned v ∧ Grw OInt 3 w' w.heap.size N v vs fps xs ∧ xs.length ≤ 3 ∧ (∀ x ∈ xs, x ∈ Base) ∧ Deck w' d ∧ Chg (fun k => k = d) w w'
set_option maxHeartbeats 2000000 in
theorem m2few_grw (d : Nat) (w : World) (hd : Deck w d) :
    Calls Try.prog 28 #[.pointer (some ⟨d, 0, none⟩)] w (FewG d w) := by
  have hlt := hd.lt
  have HD := Lib.hid hd
  clear hd
  go_enter Try.func28, Try.ntmps28
  go_wp2_with fail
  refine (next_any d 4 (by omega) (by omega) _ HD.out).mono ?_
  rintro e w1 ⟨r1, rfl, a1, b1, hd1, hb1⟩
  have D1 := Lib.hid hd1; have C1 := Lib.hid hb1.chg; have Z1 := Lib.hid hb1.size
  clear hd1 hb1
  go_wp2
  go_loopw [3, 4] (fun s3 s4 wr => ∃ (k : Int) (v : Value) (xs : List Int) (vs : List Value) (fps : Nat → Nat → Prop) (N : Nat), s3 = v ∧ s4 = .int .i64 k ∧ 0 ≤ k ∧ xs.length + k ≤ 3 ∧ Grw OInt 3 wr w.heap.size N v vs fps xs ∧ (∀ x ∈ xs, x ∈ Base) ∧ Deck wr d ∧ Chg (fun k => k = d) w wr) (fun _ s4 _ => (intOf s4).toNat)
  case atStart => exact ⟨r1, _, [], [], _, _, rfl, rfl, a1, by simp; omega, Grw.nil OInt 3 w1 w.heap.size Z1.out, by simp, D1.out, C1.out⟩
  case round =>
    obtain ⟨k, v, xs, vs, fps, N, rfl, rfl, hk0, hk3, hg, hx, hd2, hc2⟩ := hrel
    have G2 := Lib.hid hg; have X2 := Lib.hid hx; have D2 := Lib.hid hd2; have C2 := Lib.hid hc2
    have Z2 := Lib.hid hc2.size
    clear hg hx hd2 hc2
    by_cases hk : 0 < k
    · go_wp2_with fail
      refine (m2line_any d _ D2.out).mono ?_
      rintro e w3 ⟨x, rfl, hxB, hd3, hc3⟩
      have G3 := Lib.hid (G2.out.chg OInt.loc hc3 (fun j hj _ e => by omega))
      have C3 := Lib.hid (C2.out.trans hc3 (fun _ _ h => h))
      have D3 := Lib.hid hd3
      have HX := Lib.hid hxB
      have hxo := base_ok hxB
      have B4 := Lib.hid (Blk.new w3 [.int .i64 x] 3)
      have Q4 := Lib.hid (G3.out.alloc OInt.loc (.cells #[.int .i64 x] 3))
      clear hd3 hc3 hxB
      go_wp2_with (at_builtin; refine wpList_append_grw rfl _ _ 22 rfl 3 Try.underlying22 info_int rfl OInt.loc Q4.out rfl w3.heap.size (.int .i64 x) 3 B4.out rfl (f := fun _ => False) (x := x) ⟨rfl, by omega, by omega⟩ (fun _ h => h.elim) rfl (by omega) (by decide) ?_; intro g cap w4 hap)
      go_roundw
      case rel =>
        refine ⟨k - 1, _, xs ++ [x], _, _, _, rfl, by go_num, by omega, by simp; omega, hap.out.grw, ?_, ?_, ?_⟩
        · intro y hy
          rcases List.mem_append.1 hy with h | h
          · exact X2.out y h
          · simp at h; subst h; exact HX.out
        · have hl3 : d < w3.heap.size := D3.out.lt
          refine (D3.out.below ((Below.refl _ _).alloc (Nat.le_refl _) _) (Nat.le_refl _)).chg hap.out.chg (fun j hj hjd e => ?_)
          have := (Q4.out.own _ e).1
          omega
        · exact (C3.out.alloc _).trans hap.out.chg (fun j hj e => by have := (Q4.out.own _ e).1; omega)
      case measure => simp [intOf]; omega
    · have hk0' : k = 0 := by omega
      subst hk0'
      go_wp2
      go_ret
      exact ⟨_, vs, fps, N, xs, rfl, G2.out, by omega, X2.out, D2.out, C2.out⟩

set_option maxHeartbeats 2000000 in
theorem use8_any (S W L : Nat) (hc : COk S W L) (hS : 1 ≤ S) (fp : Nat → Prop) (a : Option Addr) (len cap : Nat) (ss : List (List Int)) (w : World) (r : OMat w fp (.slice a len cap) ss)
    (n : Int) (h0 : 0 ≤ n) (h1 : n ≤ 8388608) (hline' : n / (L : Int) ≤ 1048576) (hw : Wide S W ss) (hon : Once (ss.getD (n / (L : Int) % (S : Int)).toNat []) (n / (L : Int))) :
    Calls Try.prog 31 #[CV S W L, .agg #[.slice a len cap], .int .i64 n] w fun e w' => e = .returned (.bool (hitS S ss (n / L))) ∧ OMat w' fp (.slice a len cap) (accS S ss (n / L)) ∧ Chg fp w w' := by
  obtain ⟨g1, g2, g3, g4, g5, g6⟩ := hc
  have hz : ((S : Int) == 0) = false := by simp; omega
  have hline : 0 ≤ n / (L : Int) := Int.ediv_nonneg h0 (by omega)
  have hacc : accS S ss (n / (L : Int)) = ss.set (n / (L : Int) % (S : Int)).toNat (acc (ss.getD (n / (L : Int) % (S : Int)).toNat []) (n / (L : Int))) := rfl
  have hhit : hitS S ss (n / (L : Int)) = decide (n / (L : Int) ∈ ss.getD (n / (L : Int) % (S : Int)).toNat []) := rfl
  have hset : n / (L : Int) % (S : Int) = ((n / (L : Int) % (S : Int)).toNat : Nat) := by have := Int.emod_nonneg (n / (L : Int)) (show (S : Int) ≠ 0 by omega); omega
  have hlt := setof_lt hS (n / (L : Int))
  have hx : ss[(n / (L : Int) % (S : Int)).toNat]? = some (ss.getD (n / (L : Int) % (S : Int)).toNat []) := by
    have := hw.1
    rw [List.getD_eq_getElem?_getD, List.getElem?_eq_getElem (by omega)]; rfl
  have hxl : (ss.getD (n / (L : Int) % (S : Int)).toNat []).length = W := hw.at hlt
  rw [hacc, hhit]
  obtain ⟨m, hm⟩ : ∃ m, m = n / (L : Int) := ⟨_, rfl⟩
  rw [← hm] at hline hline' hset hlt hx hxl hon ⊢
  generalize (m % (S : Int)).toNat = s at *
  generalize ss.getD s [] = x at *
  have hsl := (List.getElem?_eq_some_iff.1 hx).1
  rcases r with ⟨_, rfl⟩ | ⟨b, cap', vs, sp, fps, hv, r⟩
  · cases hx
  cases hv
  have hss := r.hsz; have hcap : ss.length ≤ cap := by have := r.hcap; omega
  have hcm := r.hmax
  obtain ⟨u, hu, hrow⟩ := r.row s x hx
  rcases hrow with ⟨_, rfl⟩ | ⟨rb, rc, us, sp', fps', rfl, q⟩
  · simp at hxl; omega
  have hqsz := q.hsz; have hqcap : x.length ≤ rc := by have := q.hcap; omega
  have hqm := q.hmax
  have hus := q.ints
  subst hus
  have hb := r.blk.cell (i := s) (v := .slice (some ⟨rb, 0, none⟩) x.length rc) (by rw [List.getElem?_append_left (by rw [r.hlen]; exact hsl)]; exact hu)
  rw [hxl] at hb
  have hblt := r.blk.lt
  have hs0 : (0 : Int) ≤ (s : Int) := by omega
  have hs1 : (s : Int) < (ss.length : Int) := by omega
  have hp := pos_lt (n := m) (x := x) (by omega)
  have bq0 : Blk ((w.alloc (.cells #[.int .i64 S, .int .i64 W, .int .i64 L] 26)).alloc (.cells #[.slice (some ⟨b, 0, none⟩) ss.length cap] 48)) rb 3 (ivs x ++ sp') := (q.blk.old _).old _
  have HQ := Lib.hid q; have HR := Lib.hid r; have HX := Lib.hid hx; have HU := Lib.hid hu; have HXL := Lib.hid hxl; have HO := Lib.hid hon; have HM := Lib.hid hm; have BQ := Lib.hid bq0
  have hWl : W ≤ rc := by omega
  clear q r hx hu hxl hon bq0 hacc hhit hw hm
  go_enter Try.func31, Try.ntmps31
  go_wp2
  rw [← HM.out]
  go_quiet (fail)
  have BQ1 := Lib.hid (BQ.out.drewN nq)
  have c1 : Chg Non w (((w.alloc (.cells #[.int .i64 S, .int .i64 W, .int .i64 L] 26)).alloc (.cells #[.slice (some ⟨b, 0, none⟩) ss.length cap] 48)).drewN nq) := (((Chg.refl w).alloc _).alloc _).drewN nq
  have C1 := Lib.hid c1
  clear hset c1 BQ hb
  go_wp2
  obtain ⟨w1, hw1⟩ : ∃ w1, w1 = (((w.alloc (.cells #[.int .i64 S, .int .i64 W, .int .i64 L] 26)).alloc (.cells #[.slice (some ⟨b, 0, none⟩) ss.length cap] 48)).drewN nq) := ⟨_, rfl⟩
  rw [← hw1] at BQ1 C1 ⊢
  clear hw1
  go_loop [9, 10, 11] (fun at_ hit i => ∃ k : Nat, k ≤ W ∧ i = .int .i64 k ∧ at_ = .int .i64 (atK x m k) ∧ hit = .bool (decide (m ∈ x.take k))) (fun _ _ i => W - (intOf i).toNat)
  case atStart => exact ⟨0, Nat.zero_le _, rfl, by unfold atK; simp; have := HXL.out; omega, by simp⟩
  case round =>
    obtain ⟨k, hk, rfl, rfl, rfl⟩ := hrel
    by_cases hlt : k < W
    · obtain ⟨z, hzz⟩ : ∃ z, x[k]? = some z := ⟨_, List.getElem?_eq_getElem (by have := HXL.out; omega)⟩
      have hcz : w1.cell? ⟨rb, k, none⟩ = some (.int .i64 z) := BQ1.out.cell (by rw [List.getElem?_append_left (by rw [ivs_length]; have := HXL.out; omega)]; exact ivs_get hzz)
      have HZ := Lib.hid hzz; clear hzz
      by_cases he : z = m
      · subst he
        have hb : (z == z) = true := by simp
        obtain ⟨e1, e2⟩ := atK_hit HO.out HZ.out
        have E1 := Lib.hid e1; have E2 := Lib.hid e2; clear e1 e2
        go_wp2
        go_round
        case rel => exact ⟨k + 1, by omega, by go_num, by rw [E1.out], by rw [decide_eq_true E2.out]⟩
        case measure => simp [intOf]; omega
      · have hb : (z == m) = false := by simp [he]
        obtain ⟨e1, e2⟩ := atK_miss HZ.out he
        have E1 := Lib.hid e1; have E2 := Lib.hid e2; clear e1 e2
        go_wp2
        go_round
        case rel => exact ⟨k + 1, by omega, by go_num, by rw [E1.out], by rw [decide_eq_decide.2 E2.out]⟩
        case measure => simp [intOf]; omega
    · obtain ⟨e1, e2⟩ := atK_all (x := x) (n := m) (k := k) (by have := HXL.out; omega)
      have e3 : decide (m ∈ x.take k) = decide (m ∈ x) := decide_eq_decide.2 e2
      rw [e1, e3]
      clear e1 e2 e3
      obtain ⟨hit, hh⟩ : ∃ hit, hit = decide (m ∈ x) := ⟨_, rfl⟩
      rw [← hh]
      have HH := Lib.hid hh; clear hh
      obtain ⟨p, hpp⟩ : ∃ p, p = pos x m := ⟨_, rfl⟩
      rw [← hpp] at hp ⊢
      have HP := Lib.hid hpp; clear hpp
      have hpW : p < W := by have := HXL.out; omega
      go_wp2
      go_loopw [12] (fun j wr => ∃ i : Nat, i ≤ p ∧ j = .int .i64 i ∧ Blk wr rb 3 (ivs (sh x p i) ++ sp') ∧ Chg (fps s) w wr) (fun j _ => (intOf j).toNat)
      case atStart => exact ⟨p, Nat.le_refl _, rfl, by rw [sh_start]; exact BQ1.out, C1.out.mono (fun _ _ h => h.elim)⟩
      case round =>
        obtain ⟨i, hi, rfl, bb, cc⟩ := hrel
        have BB := Lib.hid bb; have CC := Lib.hid cc
        by_cases hi0 : 0 < i
        · have e0 : wr.cell? ⟨rb, i - 1, none⟩ = some (.int .i64 (x.getD (i - 1) 0)) := bb.cell (by
            rw [List.getElem?_append_left (by rw [ivs_length, sh_length]; omega)]
            refine ivs_get ?_
            rw [sh_get (by omega), if_neg (by omega)])
          obtain ⟨v1, e1⟩ := bb.some0 (i := i) (by rw [List.length_append, ivs_length, sh_length]; omega)
          have ef := bb.free i; have el := bb.lt
          clear bb cc
          have q1 : ((i : Int) - 1).toNat = i - 1 := by omega
          have q2 : (0 : Int) ≤ (i : Int) - 1 := by omega
          have q3 : (i : Int) - 1 < (W : Int) := by omega
          have q4 : (i : Int) < (W : Int) := by omega
          go_wp2
          go_roundw
          case rel =>
            refine ⟨i - 1, by omega, by congr 1; omega, ?_, CC.out.setCell (fun _ => HQ.out.own) _⟩
            refine (BB.out.set i _).at ?_
            rw [← sh_step hi0 hi hp, List.set_append_left _ _ (by rw [ivs_length, sh_length]; omega)]
            unfold ivs
            rw [List.map_set]; rfl
          case measure => simp [intOf]; omega
        · obtain rfl : i = 0 := by omega
          obtain ⟨v1, e1⟩ := bb.some0 (i := 0) (by rw [List.length_append, ivs_length, sh_length]; omega)
          have ef := bb.free 0; have el := bb.lt
          clear bb cc
          go_wp2
          go_ret
          have hc : Chg (fps s) w (wr.setCell ⟨rb, 0, none⟩ (.int .i64 m)) := CC.out.setCell (fun _ => HQ.out.own) _
          have hr := HR.out; have hq := HQ.out
          refine ⟨ret_b HH.out, .inr ⟨b, cap, vs, sp, fps, by rw [List.length_set], ?_⟩, hc.mono fun k _ hk => (hr.sub s k hsl hk).1⟩
          refine hr.inner OInts.loc hsl HU.out hc (OInts.mk (sp := sp') ?_ ?_ ?_ hq.hmax ?_ hq.own ?_)
          · refine (BB.out.set 0 (.int .i64 m)).at ?_
            rw [List.set_append_left _ _ (by rw [ivs_length, sh_length]; omega)]
            have := sh_end (x := x) (n := m) (by rw [← HP.out]; exact hp)
            rw [← this, ← HP.out]
            unfold ivs
            rw [List.map_set]; rfl
          · rw [acc_length (by omega)]
          · rw [acc_length (by omega)]; exact hq.hcap
          · rw [acc_length (by omega)]; exact hq.hsz
          · exact acc_range hq.range (by omega) (by omega)

theorem use_none (W L : Nat) (a : Option Addr) (len cap : Nat) (w : World) (n : Int) : Calls Try.prog 31 #[CV (0 : Nat) W L, .agg #[.slice a len cap], .int .i64 n] w fun e w' => e = .returned (.bool false) ∧ Below w.heap.size w w' := by
  have F0 := Lib.hid (Fm.new (Fm.new (Fm.start Non w) rfl [.int .i64 (0 : Nat), .int .i64 W, .int .i64 L] 26) (by simp) [.slice a len cap] 48)
  go_enter Try.func31, Try.ntmps31
  go_wp2
  go_ret
  exact ⟨rfl, F0.out.below⟩

set_option maxHeartbeats 2000000 in
theorem rdescribes_any (U : List Int) (S W L : Nat) (hc : COk S W L) (ss : List (List Int)) (hv : ValidP S W ss) (m : List (List (List Int))) (hm : MSt U S W m) (K K' : Nat → Prop) (a : Option Addr) (len cap : Nat) (a' : Option Addr) (len' cap' : Nat) (w : World) (r : Cube K w a len cap m) (r' : Mat K' w a' len' cap' ss) :
    Calls Try.prog 32 #[CV S W L, .agg #[.slice a len cap], .agg #[.slice a' len' cap']] w (BoolRet (BelowM (ofM ss) m) w) := by
  have hC := Lib.hid hc
  have F0 := Lib.hid (Fm.new (Fm.new (Fm.new (Fm.start Non w) rfl [.int .i64 S, .int .i64 W, .int .i64 L] 26) (by simp) [.slice a len cap] 30) (by simp) [.slice a' len' cap'] 48)
  have HR := Lib.hid r; have HR' := Lib.hid r'; have HM := Lib.hid hm; have HV := Lib.hid hv
  clear r r' hm hv hc
  go_enter Try.func32, Try.ntmps32
  go_upto_region 1 with fail
  obtain ⟨wv, hwv⟩ : ∃ wv, wv = ((w.alloc (.cells #[.int .i64 S, .int .i64 W, .int .i64 L] 26)).alloc (.cells #[.slice a len cap] 30)).alloc (.cells #[.slice a' len' cap'] 48) := ⟨_, rfl⟩
  have F1 := Lib.hid (show Fm Non w wv [[.int .i64 S, .int .i64 W, .int .i64 L], [.slice a len cap], [.slice a' len' cap']] from by rw [hwv]; exact F0.out)
  rw [← hwv]
  clear hwv F0
  have c0 := F1.out.h0.cell 0 _ rfl; have c1 := F1.out.h0.cell 1 _ rfl; have c2 := F1.out.h0.cell 2 _ rfl; have d0 := F1.out.h1.cell 0 _ rfl; have e0 := F1.out.h2.cell 0 _ rfl
  go_region_held3 (fun w' => w'.cell? ⟨w.heap.size, 0, none⟩ = some (.int .i64 S) ∧ w'.cell? ⟨w.heap.size, 1, none⟩ = some (.int .i64 W) ∧ w'.cell? ⟨w.heap.size, 2, none⟩ = some (.int .i64 L) ∧ w'.cell? ⟨w.heap.size + 1, 0, none⟩ = some (.slice a len cap) ∧ w'.cell? ⟨w.heap.size + 1 + 1, 0, none⟩ = some (.slice a' len' cap')) (((try dsimp only); (try go_split_ands); (repeat' apply And.intro); all_goals (repeat (first | assumption | (refine cell_later hb4 ?_) | (refine cell_later hb3 ?_) | (refine cell_drew ?_)))))
    (first
      | (go_at_call 38; (refine (rof_any S W L hC.out K' a' len' cap' ss HV.out _ (Row.below (RSl.stays RInt.stays) HR'.out F1.out.below.drew)).mono ?_); rintro e w3 ⟨oa3, on3, oc3, rfl, ho3, hb3⟩)
      | (go_at_call 35; (refine (rbelow_any ss.flatten U S W L hC.out (ofM ss) m (of_st HV.out) HM.out (fun _ => True) K oa3 on3 oc3 a len cap _ ho3.cubeT (Row.below (RSl.stays (RSl.stays RInt.stays)) HR.out (F1.out.below.drew.trans (hb3.mono F1.out.below.drew.size)))).mono ?_); rintro e w4 ⟨bb, rfl, hbb, hb4⟩))
  have F4 := Lib.hid (Fm.call hb4 (Fm.call hb3 F1.out.drew))
  have HB := Lib.hid hbb
  clear hb3 hb4 ho3 hbb c0 c1 c2 d0 e0
  go_wp2
  go_ret
  exact ⟨bb, rfl, HB.out, F4.out.below⟩
end Go.Proofs.Ytikhbijobkkhgaa
