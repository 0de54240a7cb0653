/-
  Contents and the states that describe them; accesses of contents, with and without sets. Printed by mkMbH.py.
-/
import Derived.Test.YtlpelpjcbclemaaZMuK
import Derived.Test.YtlpelpjcbclemaaMuN
import Derived.Test.YtlpelpjcbclemaaZCacheK
import Derived.Test.YtlpelpjcbclemaaCacheJ
import Derived.Test.YtlpelpjcbclemaaRunC
import Derived.Test.YtlpelpjcbclemaaZMaV
namespace Go.Proofs.Ytlpelpjcbclemaa
open Go.RowKit

theorem touch_get {S W : Nat} {m : List (List (List Int))} {n : Int} (h : ¬ S = 0) : touchM S W m n = m.set (setN S n) (useS W n (m.getD (setN S n) [])) := by unfold touchM; rw [if_neg h]
theorem OMat.matT {w : World} {fp : Nat → Prop} {a : Option Addr} {n cap : Nat} {X : List (List Int)} (h : OMat w fp (.slice a n cap) X) : Mat (fun _ => True) w a n cap X := h.read (fun _ _ => trivial)

theorem at_ofRow {x : List Int} {i : Nat} {y : Int} : At (ofRow x) i y ↔ x[i]? = some y ∧ 0 ≤ y := by
  unfold At ofRow
  constructor
  · rintro ⟨l, hl, hy⟩
    rw [List.getElem?_map, Option.map_eq_some_iff] at hl
    obtain ⟨z, hz, rfl⟩ := hl
    split at hy
    · simp at hy; subst hy; exact ⟨hz, by assumption⟩
    · cases hy
  · rintro ⟨h, h0⟩
    exact ⟨[y], by rw [List.getElem?_map, h]; simp [h0], by simp⟩
theorem acc_get {x : List Int} {k : Int} {i : Nat} {y : Int} (hx : 0 < x.length) : (acc x k)[i]? = some y ↔ (i = 0 ∧ y = k) ∨ ∃ a, x[a]? = some y ∧ a ≠ pos x k ∧ i = (if a < pos x k then a + 1 else a) ∧ 0 < i := by
  have hp := pos_lt (n := k) hx
  unfold acc
  cases i with
  | zero =>
    simp only [List.getElem?_cons_zero, Option.some.injEq]
    constructor
    · intro h; exact .inl ⟨trivial, h.symm⟩
    · rintro (h | ⟨a, _, _, _, h⟩)
      · exact h.2.symm
      · omega
  | succ j =>
    rw [List.getElem?_cons_succ]
    have hl : (x.take (pos x k)).length = pos x k := by rw [List.length_take]; omega
    by_cases hj : j < pos x k
    · rw [List.getElem?_append_left (by omega), List.getElem?_take, if_pos hj]
      constructor
      · intro h; exact .inr ⟨j, h, by omega, by rw [if_pos hj], by omega⟩
      · rintro (h | ⟨a, h1, h2, h3, _⟩)
        · omega
        · split at h3
          · obtain rfl : a = j := by omega
            exact h1
          · omega
    · rw [List.getElem?_append_right (by omega), hl, List.getElem?_drop, show pos x k + 1 + (j - pos x k) = j + 1 by omega]
      constructor
      · intro h; exact .inr ⟨j + 1, h, by omega, by rw [if_neg (by omega)], by omega⟩
      · rintro (h | ⟨a, h1, h2, h3, _⟩)
        · omega
        · split at h3
          · omega
          · obtain rfl : a = j + 1 := by omega
            exact h1
theorem ofRow_set {S W s : Nat} {x : List Int} (h : SetOk S W s x) : WSet (fun y => 0 ≤ y ∧ y ≤ 1048576 ∧ y % (S : Int) = s) W (ofRow x) := by
  refine ⟨by rw [ofRow_len]; have := h.1; omega, fun i l hl => ?_, fun i y hy => ?_, fun i j y hi hj => ?_⟩
  · unfold ofRow at hl
    rw [List.getElem?_map, Option.map_eq_some_iff] at hl
    obtain ⟨z, hz, rfl⟩ := hl
    split <;> simp [Asc]
  · obtain ⟨h1, h2⟩ := at_ofRow.1 hy
    rcases h.2 i y h1 with h3 | h3
    · omega
    · exact ⟨h3.1, h3.2.1, h3.2.2.1⟩
  · obtain ⟨h1, h2⟩ := at_ofRow.1 hi
    obtain ⟨h3, _⟩ := at_ofRow.1 hj
    have key : ∀ a b : Nat, x[a]? = some y → x[b]? = some y → ¬ a < b := fun a b ha hb hab => by
      rcases h.2 b y hb with h4 | h4
      · omega
      · refine h4.2.2.2.1 (List.mem_of_getElem? (i := a) ?_)
        rw [List.getElem?_take, if_pos hab]; exact ha
    have a1 := key i j h1 h3
    have a2 := key j i h3 h1
    omega
theorem plc_ofRow {S W s : Nat} {x : List Int} (h : SetOk S W s x) (_hx : 0 < x.length) {k : Int} (hk : 0 ≤ k) : (k ∈ x → plc (ofRow x) k = pos x k ∧ x[pos x k]? = some k) ∧ (k ∉ x → plc (ofRow x) k = x.length ∧ pos x k = x.length - 1) := by
  constructor
  · intro hm
    have hlt := List.idxOf_lt_length_of_mem hm
    have hg : x[pos x k]? = some k := by unfold pos; rw [if_pos hm, List.getElem?_eq_getElem hlt, List.getElem_idxOf hlt]
    exact ⟨(ofRow_set h).plc (at_ofRow.2 ⟨hg, hk⟩), hg⟩
  · intro hm
    refine ⟨?_, by unfold pos; rw [if_neg hm]⟩
    rw [plc_no (fun i hi => hm (List.mem_of_getElem? (at_ofRow.1 hi).1)), ofRow_len]
/-- An access of contents is a use of their state. -/
theorem ofRow_acc {S W s : Nat} {x : List Int} (h : SetOk S W s x) (hW : 0 < W) {k : Int} (h0 : 0 ≤ k) (h1 : k ≤ 1048576) (hs : k % (S : Int) = s) : ofRow (acc x k) = useS W k (ofRow x) := by
  have hxl : 0 < x.length := by have := h.1; omega
  have hlW : x.length = W := by have := h.1; omega
  have h' : SetOk S W s (acc x k) := setOk_acc h h0 h1 hs hxl
  obtain ⟨u1, u2⟩ := useS_spec (ofRow_set h) hW (n := k) ⟨h0, h1, hs⟩
  refine (ofRow_set h').ext u1 fun i y => ?_
  rw [at_ofRow, u2, acc_get hxl]
  obtain ⟨p1, p2⟩ := plc_ofRow h hxl h0
  constructor
  · rintro ⟨hy | ⟨a, ha, hne, hi, hi0⟩, hy0⟩
    · exact .inl hy
    · right
      have halt := (List.getElem?_eq_some_iff.1 ha).1
      have hyk : y ≠ k := fun e => by
        subst e
        have hm := List.mem_of_getElem? ha
        have e1 := (p1 hm).1
        have e2 := (ofRow_set h).once _ _ _ (at_ofRow.2 ⟨ha, h0⟩) (at_ofRow.2 ⟨(p1 hm).2, h0⟩)
        omega
      refine ⟨hyk, a, at_ofRow.2 ⟨ha, hy0⟩, ?_, ?_⟩
      · unfold dst
        by_cases hm : k ∈ x
        · rw [(p1 hm).1]; exact hi
        · have := p2 hm
          rw [this.1, if_pos halt]
          split at hi <;> omega
      · by_cases hm : k ∈ x
        · have := List.idxOf_lt_length_of_mem hm
          have hp := pos_lt (n := k) hxl
          split at hi <;> omega
        · have := p2 hm
          split at hi <;> omega
  · rintro (hy | ⟨hyk, a, ha, hi, hiW⟩)
    · exact ⟨.inl hy, by have := hy.2; omega⟩
    · obtain ⟨ha, hy0⟩ := at_ofRow.1 ha
      have halt := (List.getElem?_eq_some_iff.1 ha).1
      refine ⟨.inr ⟨a, ha, ?_, ?_, ?_⟩, hy0⟩
      · intro e
        subst e
        by_cases hm : k ∈ x
        · rw [(p1 hm).2] at ha; cases ha; exact hyk rfl
        · have := p2 hm
          unfold dst at hi
          rw [this.1, if_pos halt] at hi
          omega
      · unfold dst at hi
        by_cases hm : k ∈ x
        · rw [(p1 hm).1] at hi; exact hi
        · have := p2 hm
          rw [this.1, if_pos halt] at hi
          rw [if_pos (by omega)]; exact hi
      · unfold dst at hi
        by_cases hm : k ∈ x
        · rw [(p1 hm).1] at hi
          split at hi
          · omega
          · rename_i hnp
            by_cases ha0 : a = pos x k
            · subst ha0; rw [(p1 hm).2] at ha; cases ha; exact absurd rfl hyk
            · omega
        · have := p2 hm
          rw [this.1, if_pos halt] at hi
          omega
theorem of_acc {S W : Nat} {ss : List (List Int)} (h : ValidP S W ss) (hW : 0 < W) (hS : ¬ S = 0) {k : Int} (h0 : 0 ≤ k) (h1 : k ≤ 1048576) : ofM (accS S ss k) = touchM S W (ofM ss) k := by
  have hlt := setN_lt (S := S) (by omega) k
  have hl : ss.length = S := by have := h.1; omega
  have hg : ss[setN S k]? = some (ss.getD (setN S k) []) := by rw [List.getD_eq_getElem?_getD, List.getElem?_eq_getElem (by omega)]; rfl
  have hk := setN_int (S := S) (by omega) k
  rw [touch_get hS]
  unfold accS
  show ofM (ss.set (setN S k) (acc (ss.getD (setN S k) []) k)) = _
  have hgd : (ofM ss).getD (setN S k) [] = ofRow (ss.getD (setN S k) []) := by rw [List.getD_eq_getElem?_getD, ofM_get hg]; rfl
  rw [hgd, ← ofRow_acc (h.2 _ _ hg) hW h0 h1 hk.symm]
  unfold ofM
  rw [List.map_set]
def FewG (d : Nat) (w : World) (e : Ending) (w' : World) : Prop := ∃ (v : Value) (vs : List Value) (fps : Nat → Nat → Prop) (N : Nat) (xs : List Int), e = .returned v ∧ Grw OInt 3 w' w.heap.size N v vs fps xs ∧ xs.length ≤ 3 ∧ (∀ x ∈ xs, x ∈ Base) ∧ Deck w' d ∧ Chg (fun k => k = d) w w'
set_option maxHeartbeats 2000000 in
theorem m2few_grw (d : Nat) (w : World) (hd : Deck w d) :
    Calls Try.prog 23 #[.pointer (some ⟨d, 0, none⟩)] w (FewG d w) := by
  have hlt := hd.lt
  have HD := Lib.hid hd
  clear hd
  go_enter Try.func23, Try.ntmps23
  go_wp2_with fail
  refine (next_any d 4 (by omega) (by omega) _ HD.out).mono ?_
  rintro e w1 ⟨r1, rfl, a1, b1, hd1, hb1⟩
  have D1 := Lib.hid hd1; have C1 := Lib.hid hb1.chg; have Z1 := Lib.hid hb1.size
  clear hd1 hb1
  go_wp2
  go_loopw [3, 4] (fun s3 s4 wr => ∃ (k : Int) (v : Value) (xs : List Int) (vs : List Value) (fps : Nat → Nat → Prop) (N : Nat), s3 = v ∧ s4 = .int .i64 k ∧ 0 ≤ k ∧ xs.length + k ≤ 3 ∧ Grw OInt 3 wr w.heap.size N v vs fps xs ∧ (∀ x ∈ xs, x ∈ Base) ∧ Deck wr d ∧ Chg (fun k => k = d) w wr) (fun _ s4 _ => (intOf s4).toNat)
  case atStart => exact ⟨r1, _, [], [], _, _, rfl, rfl, a1, by simp; omega, Grw.nil OInt 3 w1 w.heap.size Z1.out, by simp, D1.out, C1.out⟩
  case round =>
    obtain ⟨k, v, xs, vs, fps, N, rfl, rfl, hk0, hk3, hg, hx, hd2, hc2⟩ := hrel
    have G2 := Lib.hid hg; have X2 := Lib.hid hx; have D2 := Lib.hid hd2; have C2 := Lib.hid hc2
    have Z2 := Lib.hid hc2.size
    clear hg hx hd2 hc2
    by_cases hk : 0 < k
    · go_wp2_with fail
      refine (m2line_any d _ D2.out).mono ?_
      rintro e w3 ⟨x, rfl, hxB, hd3, hc3⟩
      have G3 := Lib.hid (G2.out.chg OInt.loc hc3 (fun j hj _ e => by omega))
      have C3 := Lib.hid (C2.out.trans hc3 (fun _ _ h => h))
      have D3 := Lib.hid hd3
      have HX := Lib.hid hxB
      have hxo := base_ok hxB
      have B4 := Lib.hid (Blk.new w3 [.int .i64 x] 3)
      have Q4 := Lib.hid (G3.out.alloc OInt.loc (.cells #[.int .i64 x] 3))
      clear hd3 hc3 hxB
      go_wp2_with (at_builtin; refine wpList_append_grw rfl _ _ 22 rfl 3 Try.underlying22 info_int rfl OInt.loc Q4.out rfl w3.heap.size (.int .i64 x) 3 B4.out rfl (f := fun _ => False) (x := x) ⟨rfl, by omega, by omega⟩ (fun _ h => h.elim) rfl (by omega) (by decide) ?_; intro g cap w4 hap)
      go_roundw
      case rel =>
        refine ⟨k - 1, _, xs ++ [x], _, _, _, rfl, by go_num, by omega, by simp; omega, hap.out.grw, ?_, ?_, ?_⟩
        · intro y hy
          rcases List.mem_append.1 hy with h | h
          · exact X2.out y h
          · simp at h; subst h; exact HX.out
        · have hl3 : d < w3.heap.size := D3.out.lt
          refine (D3.out.below ((Below.refl _ _).alloc (Nat.le_refl _) _) (Nat.le_refl _)).chg hap.out.chg (fun j hj hjd e => ?_)
          have := (Q4.out.own _ e).1
          omega
        · exact (C3.out.alloc _).trans hap.out.chg (fun j hj e => by have := (Q4.out.own _ e).1; omega)
      case measure => simp [intOf]; omega
    · have hk0' : k = 0 := by omega
      subst hk0'
      go_wp2
      go_ret
      exact ⟨_, vs, fps, N, xs, rfl, G2.out, by omega, X2.out, D2.out, C2.out⟩

set_option maxHeartbeats 2000000 in
theorem use8_any (S W L : Nat) (hc : COk S W L) (hS : 1 ≤ S) (fp : Nat → Prop) (a : Option Addr) (len cap : Nat) (ss : List (List Int)) (w : World) (r : OMat w fp (.slice a len cap) ss)
    (n : Int) (h0 : 0 ≤ n) (h1 : n ≤ 8388608) (hline' : n / (L : Int) ≤ 1048576) (hw : Wide S W ss) (hon : Once (ss.getD (n / (L : Int) % (S : Int)).toNat []) (n / (L : Int))) :
    Calls Try.prog 26 #[CV S W L, .agg #[.slice a len cap], .int .i64 n] w fun e w' => e = .returned (.bool (hitS S ss (n / L))) ∧ OMat w' fp (.slice a len cap) (accS S ss (n / L)) ∧ Chg fp w w' := by
  obtain ⟨g1, g2, g3, g4, g5, g6⟩ := hc
  have hz : ((S : Int) == 0) = false := by simp; omega
  have hline : 0 ≤ n / (L : Int) := Int.ediv_nonneg h0 (by omega)
  have hacc : accS S ss (n / (L : Int)) = ss.set (n / (L : Int) % (S : Int)).toNat (acc (ss.getD (n / (L : Int) % (S : Int)).toNat []) (n / (L : Int))) := rfl
  have hhit : hitS S ss (n / (L : Int)) = decide (n / (L : Int) ∈ ss.getD (n / (L : Int) % (S : Int)).toNat []) := rfl
  have hset : n / (L : Int) % (S : Int) = ((n / (L : Int) % (S : Int)).toNat : Nat) := by have := Int.emod_nonneg (n / (L : Int)) (show (S : Int) ≠ 0 by omega); omega
  have hlt := setof_lt hS (n / (L : Int))
  have hx : ss[(n / (L : Int) % (S : Int)).toNat]? = some (ss.getD (n / (L : Int) % (S : Int)).toNat []) := by
    have := hw.1
    rw [List.getD_eq_getElem?_getD, List.getElem?_eq_getElem (by omega)]; rfl
  have hxl : (ss.getD (n / (L : Int) % (S : Int)).toNat []).length = W := hw.at hlt
  rw [hacc, hhit]
  obtain ⟨m, hm⟩ : ∃ m, m = n / (L : Int) := ⟨_, rfl⟩
  rw [← hm] at hline hline' hset hlt hx hxl hon ⊢
  generalize (m % (S : Int)).toNat = s at *
  generalize ss.getD s [] = x at *
  have hsl := (List.getElem?_eq_some_iff.1 hx).1
  rcases r with ⟨_, rfl⟩ | ⟨b, cap', vs, sp, fps, hv, r⟩
  · cases hx
  cases hv
  have hss := r.hsz; have hcap : ss.length ≤ cap := by have := r.hcap; omega
  have hcm := r.hmax
  obtain ⟨u, hu, hrow⟩ := r.row s x hx
  rcases hrow with ⟨_, rfl⟩ | ⟨rb, rc, us, sp', fps', rfl, q⟩
  · simp at hxl; omega
  have hqsz := q.hsz; have hqcap : x.length ≤ rc := by have := q.hcap; omega
  have hqm := q.hmax
  have hus := q.ints
  subst hus
  have hb := r.blk.cell (i := s) (v := .slice (some ⟨rb, 0, none⟩) x.length rc) (by rw [List.getElem?_append_left (by rw [r.hlen]; exact hsl)]; exact hu)
  rw [hxl] at hb
  have hblt := r.blk.lt
  have hs0 : (0 : Int) ≤ (s : Int) := by omega
  have hs1 : (s : Int) < (ss.length : Int) := by omega
  have hp := pos_lt (n := m) (x := x) (by omega)
  have bq0 : Blk ((w.alloc (.cells #[.int .i64 S, .int .i64 W, .int .i64 L] 26)).alloc (.cells #[.slice (some ⟨b, 0, none⟩) ss.length cap] 44)) rb 3 (ivs x ++ sp') := (q.blk.old _).old _
  have HQ := Lib.hid q; have HR := Lib.hid r; have HX := Lib.hid hx; have HU := Lib.hid hu; have HXL := Lib.hid hxl; have HO := Lib.hid hon; have HM := Lib.hid hm; have BQ := Lib.hid bq0
  have hWl : W ≤ rc := by omega
  clear q r hx hu hxl hon bq0 hacc hhit hw hm
  go_enter Try.func26, Try.ntmps26
  go_wp2
  rw [← HM.out]
  go_quiet (fail)
  have BQ1 := Lib.hid (BQ.out.drewN nq)
  have c1 : Chg Non w (((w.alloc (.cells #[.int .i64 S, .int .i64 W, .int .i64 L] 26)).alloc (.cells #[.slice (some ⟨b, 0, none⟩) ss.length cap] 44)).drewN nq) := (((Chg.refl w).alloc _).alloc _).drewN nq
  have C1 := Lib.hid c1
  clear hset c1 BQ hb
  go_wp2
  obtain ⟨w1, hw1⟩ : ∃ w1, w1 = (((w.alloc (.cells #[.int .i64 S, .int .i64 W, .int .i64 L] 26)).alloc (.cells #[.slice (some ⟨b, 0, none⟩) ss.length cap] 44)).drewN nq) := ⟨_, rfl⟩
  rw [← hw1] at BQ1 C1 ⊢
  clear hw1
  go_loop [9, 10, 11] (fun at_ hit i => ∃ k : Nat, k ≤ W ∧ i = .int .i64 k ∧ at_ = .int .i64 (atK x m k) ∧ hit = .bool (decide (m ∈ x.take k))) (fun _ _ i => W - (intOf i).toNat)
  case atStart => exact ⟨0, Nat.zero_le _, rfl, by unfold atK; simp; have := HXL.out; omega, by simp⟩
  case round =>
    obtain ⟨k, hk, rfl, rfl, rfl⟩ := hrel
    by_cases hlt : k < W
    · obtain ⟨z, hzz⟩ : ∃ z, x[k]? = some z := ⟨_, List.getElem?_eq_getElem (by have := HXL.out; omega)⟩
      have hcz : w1.cell? ⟨rb, k, none⟩ = some (.int .i64 z) := BQ1.out.cell (by rw [List.getElem?_append_left (by rw [ivs_length]; have := HXL.out; omega)]; exact ivs_get hzz)
      have HZ := Lib.hid hzz; clear hzz
      by_cases he : z = m
      · subst he
        have hb : (z == z) = true := by simp
        obtain ⟨e1, e2⟩ := atK_hit HO.out HZ.out
        have E1 := Lib.hid e1; have E2 := Lib.hid e2; clear e1 e2
        go_wp2
        go_round
        case rel => exact ⟨k + 1, by omega, by go_num, by rw [E1.out], by rw [decide_eq_true E2.out]⟩
        case measure => simp [intOf]; omega
      · have hb : (z == m) = false := by simp [he]
        obtain ⟨e1, e2⟩ := atK_miss HZ.out he
        have E1 := Lib.hid e1; have E2 := Lib.hid e2; clear e1 e2
        go_wp2
        go_round
        case rel => exact ⟨k + 1, by omega, by go_num, by rw [E1.out], by rw [decide_eq_decide.2 E2.out]⟩
        case measure => simp [intOf]; omega
    · obtain ⟨e1, e2⟩ := atK_all (x := x) (n := m) (k := k) (by have := HXL.out; omega)
      have e3 : decide (m ∈ x.take k) = decide (m ∈ x) := decide_eq_decide.2 e2
      rw [e1, e3]
      clear e1 e2 e3
      obtain ⟨hit, hh⟩ : ∃ hit, hit = decide (m ∈ x) := ⟨_, rfl⟩
      rw [← hh]
      have HH := Lib.hid hh; clear hh
      obtain ⟨p, hpp⟩ : ∃ p, p = pos x m := ⟨_, rfl⟩
      rw [← hpp] at hp ⊢
      have HP := Lib.hid hpp; clear hpp
      have hpW : p < W := by have := HXL.out; omega
      go_wp2
      go_loopw [12] (fun j wr => ∃ i : Nat, i ≤ p ∧ j = .int .i64 i ∧ Blk wr rb 3 (ivs (sh x p i) ++ sp') ∧ Chg (fps s) w wr) (fun j _ => (intOf j).toNat)
      case atStart => exact ⟨p, Nat.le_refl _, rfl, by rw [sh_start]; exact BQ1.out, C1.out.mono (fun _ _ h => h.elim)⟩
      case round =>
        obtain ⟨i, hi, rfl, bb, cc⟩ := hrel
        have BB := Lib.hid bb; have CC := Lib.hid cc
        by_cases hi0 : 0 < i
        · have e0 : wr.cell? ⟨rb, i - 1, none⟩ = some (.int .i64 (x.getD (i - 1) 0)) := bb.cell (by
            rw [List.getElem?_append_left (by rw [ivs_length, sh_length]; omega)]
            refine ivs_get ?_
            rw [sh_get (by omega), if_neg (by omega)])
          obtain ⟨v1, e1⟩ := bb.some0 (i := i) (by rw [List.length_append, ivs_length, sh_length]; omega)
          have ef := bb.free i; have el := bb.lt
          clear bb cc
          have q1 : ((i : Int) - 1).toNat = i - 1 := by omega
          have q2 : (0 : Int) ≤ (i : Int) - 1 := by omega
          have q3 : (i : Int) - 1 < (W : Int) := by omega
          have q4 : (i : Int) < (W : Int) := by omega
          go_wp2
          go_roundw
          case rel =>
            refine ⟨i - 1, by omega, by congr 1; omega, ?_, CC.out.setCell (fun _ => HQ.out.own) _⟩
            refine (BB.out.set i _).at ?_
            rw [← sh_step hi0 hi hp, List.set_append_left _ _ (by rw [ivs_length, sh_length]; omega)]
            unfold ivs
            rw [List.map_set]; rfl
          case measure => simp [intOf]; omega
        · obtain rfl : i = 0 := by omega
          obtain ⟨v1, e1⟩ := bb.some0 (i := 0) (by rw [List.length_append, ivs_length, sh_length]; omega)
          have ef := bb.free 0; have el := bb.lt
          clear bb cc
          go_wp2
          go_ret
          have hc : Chg (fps s) w (wr.setCell ⟨rb, 0, none⟩ (.int .i64 m)) := CC.out.setCell (fun _ => HQ.out.own) _
          have hr := HR.out; have hq := HQ.out
          refine ⟨ret_b HH.out, .inr ⟨b, cap, vs, sp, fps, by rw [List.length_set], ?_⟩, hc.mono fun k _ hk => (hr.sub s k hsl hk).1⟩
          refine hr.inner OInts.loc hsl HU.out hc (OInts.mk (sp := sp') ?_ ?_ ?_ hq.hmax ?_ hq.own ?_)
          · refine (BB.out.set 0 (.int .i64 m)).at ?_
            rw [List.set_append_left _ _ (by rw [ivs_length, sh_length]; omega)]
            have := sh_end (x := x) (n := m) (by rw [← HP.out]; exact hp)
            rw [← this, ← HP.out]
            unfold ivs
            rw [List.map_set]; rfl
          · rw [acc_length (by omega)]
          · rw [acc_length (by omega)]; exact hq.hcap
          · rw [acc_length (by omega)]; exact hq.hsz
          · exact acc_range hq.range (by omega) (by omega)

theorem use_none (W L : Nat) (a : Option Addr) (len cap : Nat) (w : World) (n : Int) : Calls Try.prog 26 #[CV (0 : Nat) W L, .agg #[.slice a len cap], .int .i64 n] w fun e w' => e = .returned (.bool false) ∧ Below w.heap.size w w' := by
  have F0 := Lib.hid (Fm.new (Fm.new (Fm.start Non w) rfl [.int .i64 (0 : Nat), .int .i64 W, .int .i64 L] 26) (by simp) [.slice a len cap] 44)
  go_enter Try.func26, Try.ntmps26
  go_wp2
  go_ret
  exact ⟨rfl, F0.out.below⟩

def useC (S : Nat) (ss : List (List Int)) (k : Int) : List (List Int) := if S = 0 then ss else accS S ss k
def hitC (S : Nat) (ss : List (List Int)) (k : Int) : Bool := if S = 0 then false else hitS S ss k
theorem useC_valid {S W : Nat} {ss : List (List Int)} (h : ValidP S W ss) (hW : 0 < W) {k : Int} (h0 : 0 ≤ k) (h1 : k ≤ 1048576) : ValidP S W (useC S ss k) := by
  unfold useC; split
  · exact h
  · exact valid_acc h (by omega) hW h0 h1
theorem of_useC {S W : Nat} {ss : List (List Int)} (h : ValidP S W ss) (hW : 0 < W) {k : Int} (h0 : 0 ≤ k) (h1 : k ≤ 1048576) : ofM (useC S ss k) = touchM S W (ofM ss) k := by
  by_cases hS : S = 0
  · unfold useC touchM; rw [if_pos hS, if_pos hS]
  · unfold useC; rw [if_neg hS]; exact of_acc h hW hS h0 h1
theorem mul_div {k : Int} {L : Nat} (hL : 1 ≤ L) : k * (L : Int) / (L : Int) = k := Int.mul_ediv_cancel _ (by omega)
theorem useC_any (S W L : Nat) (hc : COk S W L) (hL4 : L ≤ 4) (fp : Nat → Prop) (a : Option Addr) (len cap : Nat) (ss : List (List Int)) (w : World) (r : OMat w fp (.slice a len cap) ss) (hv : ValidP S W ss) (k : Int) (h0 : 0 ≤ k) (h1 : k ≤ 1048576) :
    Calls Try.prog 26 #[CV S W L, .agg #[.slice a len cap], .int .i64 (k * (L : Int))] w fun e w' => e = .returned (.bool (hitC S ss k)) ∧ OMat w' fp (.slice a len cap) (useC S ss k) ∧ Chg fp w w' := by
  have hC := hc
  obtain ⟨g1, g2, g3, g4, g5, g6⟩ := hc
  by_cases hS : S = 0
  · subst hS
    exact (use_none W L a len cap w (k * (L : Int))).mono fun e w' h => ⟨by unfold hitC; rw [if_pos rfl]; exact h.1, by unfold useC; rw [if_pos rfl]; exact OMat.loc.below r h.2, Chg.of_below h.2⟩
  · have hd := mul_div (k := k) (L := L) (by omega)
    have hm0 : 0 ≤ k * (L : Int) := Int.mul_nonneg h0 (by omega)
    have hm1 : k * (L : Int) ≤ 8388608 := Int.le_trans (Int.mul_le_mul h1 (show (L : Int) ≤ 4 by omega) (by omega) (by omega)) (by omega)
    have h := use8_any S W L hC (by omega) fp a len cap ss w r (k * (L : Int)) hm0 hm1 (by rw [hd]; exact h1) hv.wide (by rw [hd]; exact valid_once hv (by omega) h0)
    rw [hd] at h
    exact h.mono fun e w' h => ⟨by unfold hitC; rw [if_neg hS]; exact h.1, by unfold useC; rw [if_neg hS]; exact h.2.1, h.2.2⟩
theorem wrap_mul {k : Int} {L : Nat} (hL : L ≤ 4) (h0 : 0 ≤ k) (h1 : k ≤ 1048576) : IntKind.i64.wrap (k * (L : Int)) = k * (L : Int) := by
  have hm0 : 0 ≤ k * (L : Int) := Int.mul_nonneg h0 (by omega)
  have hm1 : k * (L : Int) ≤ 8388608 := Int.le_trans (Int.mul_le_mul h1 (show (L : Int) ≤ 4 by omega) (by omega) (by omega)) (by omega)
  exact IntWalk.i64_in _ (by omega)

/-- Blocks that are neither the deck nor the two variables. -/
def K3 (d bx bm k : Nat) : Prop := k ≠ d ∧ k ≠ bx ∧ k ≠ bm
theorem OMat.k3 {d bx bm A B : Nat} {w : World} {a : Option Addr} {n cap : Nat} {X : List (List Int)} (h : OMat w (Bt A B) (.slice a n cap) X) (h1 : d < A) (h2 : bx < A ∨ B ≤ bx) (h3 : bm < A ∨ B ≤ bm) : Mat (K3 d bx bm) w a n cap X := h.read (fun k hk => by have := hk.1; have := hk.2; exact ⟨by omega, by omega, by omega⟩)
theorem NewRet.fix {S : Nat} {X : List (List Int)} {w w' : World} {e : Ending} (h : NewRet X w e w') (hl : X.length = S) : ∃ a cap, e = .returned (.agg #[.slice a S cap]) ∧ OMat w' (Ge w.heap.size) (.slice a S cap) X ∧ Below w.heap.size w w' := by
  obtain ⟨a, n, cap, rfl, ho, hb⟩ := h
  have := (ho.matT).hlen
  obtain rfl : S = n := by omega
  exact ⟨a, cap, rfl, ho, hb⟩
end Go.Proofs.Ytlpelpjcbclemaa
