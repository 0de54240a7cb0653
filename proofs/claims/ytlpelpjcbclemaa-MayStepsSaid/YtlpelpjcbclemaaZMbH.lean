/-
  Contents and the states that describe them; accesses of contents, with and without sets. Printed by mkMbH.py.
  may.Either: after one of several lines was used. Printed by mkMbI.py.
-/
import Derived.Test.YtlpelpjcbclemaaZMuK
import Derived.Test.YtlpelpjcbclemaaMuN
import Derived.Test.YtlpelpjcbclemaaZCacheK
import Derived.Test.YtlpelpjcbclemaaCacheJ
import Derived.Test.YtlpelpjcbclemaaRunC
import Derived.Test.YtlpelpjcbclemaaZMaV
import Derived.Test.YtlpelpjcbclemaaMaL
import Derived.Test.YtlpelpjcbclemaaMaR
import Derived.Test.YtlpelpjcbclemaaMaF
namespace Go.Proofs.Ytlpelpjcbclemaa
open Go.RowKit

theorem touch_get {S W : Nat} {m : List (List (List Int))} {n : Int} (h : ¬ S = 0) : touchM S W m n = m.set (setN S n) (useS W n (m.getD (setN S n) [])) := by unfold touchM; rw [if_neg h]
theorem OMat.matT {w : World} {fp : Nat → Prop} {a : Option Addr} {n cap : Nat} {X : List (List Int)} (h : OMat w fp (.slice a n cap) X) : Mat (fun _ => True) w a n cap X := h.read (fun _ _ => trivial)

theorem at_ofRow {x : List Int} {i : Nat} {y : Int} : At (ofRow x) i y ↔ x[i]? = some y ∧ 0 ≤ y := by
  unfold At ofRow
  constructor
  · rintro ⟨l, hl, hy⟩
    rw [List.getElem?_map, Option.map_eq_some_iff] at hl
    obtain ⟨z, hz, rfl⟩ := hl
    split at hy
    · simp at hy; subst hy; exact ⟨hz, by assumption⟩
    · cases hy
  · rintro ⟨h, h0⟩
    exact ⟨[y], by rw [List.getElem?_map, h]; simp [h0], by simp⟩
theorem acc_get {x : List Int} {k : Int} {i : Nat} {y : Int} (hx : 0 < x.length) : (acc x k)[i]? = some y ↔ (i = 0 ∧ y = k) ∨ ∃ a, x[a]? = some y ∧ a ≠ pos x k ∧ i = (if a < pos x k then a + 1 else a) ∧ 0 < i := by
  have hp := pos_lt (n := k) hx
  unfold acc
  cases i with
  | zero =>
    simp only [List.getElem?_cons_zero, Option.some.injEq]
    constructor
    · intro h; exact .inl ⟨trivial, h.symm⟩
    · rintro (h | ⟨a, _, _, _, h⟩)
      · exact h.2.symm
      · omega
  | succ j =>
    rw [List.getElem?_cons_succ]
    have hl : (x.take (pos x k)).length = pos x k := by rw [List.length_take]; omega
    by_cases hj : j < pos x k
    · rw [List.getElem?_append_left (by omega), List.getElem?_take, if_pos hj]
      constructor
      · intro h; exact .inr ⟨j, h, by omega, by rw [if_pos hj], by omega⟩
      · rintro (h | ⟨a, h1, h2, h3, _⟩)
        · omega
        · split at h3
          · obtain rfl : a = j := by omega
            exact h1
          · omega
    · rw [List.getElem?_append_right (by omega), hl, List.getElem?_drop, show pos x k + 1 + (j - pos x k) = j + 1 by omega]
      constructor
      · intro h; exact .inr ⟨j + 1, h, by omega, by rw [if_neg (by omega)], by omega⟩
      · rintro (h | ⟨a, h1, h2, h3, _⟩)
        · omega
        · split at h3
          · omega
          · obtain rfl : a = j + 1 := by omega
            exact h1
theorem ofRow_set {S W s : Nat} {x : List Int} (h : SetOk S W s x) : WSet (fun y => 0 ≤ y ∧ y ≤ 1048576 ∧ y % (S : Int) = s) W (ofRow x) := by
  refine ⟨by rw [ofRow_len]; have := h.1; omega, fun i l hl => ?_, fun i y hy => ?_, fun i j y hi hj => ?_⟩
  · unfold ofRow at hl
    rw [List.getElem?_map, Option.map_eq_some_iff] at hl
    obtain ⟨z, hz, rfl⟩ := hl
    split <;> simp [Asc]
  · obtain ⟨h1, h2⟩ := at_ofRow.1 hy
    rcases h.2 i y h1 with h3 | h3
    · omega
    · exact ⟨h3.1, h3.2.1, h3.2.2.1⟩
  · obtain ⟨h1, h2⟩ := at_ofRow.1 hi
    obtain ⟨h3, _⟩ := at_ofRow.1 hj
    have key : ∀ a b : Nat, x[a]? = some y → x[b]? = some y → ¬ a < b := fun a b ha hb hab => by
      rcases h.2 b y hb with h4 | h4
      · omega
      · refine h4.2.2.2.1 (List.mem_of_getElem? (i := a) ?_)
        rw [List.getElem?_take, if_pos hab]; exact ha
    have a1 := key i j h1 h3
    have a2 := key j i h3 h1
    omega
theorem plc_ofRow {S W s : Nat} {x : List Int} (h : SetOk S W s x) (_hx : 0 < x.length) {k : Int} (hk : 0 ≤ k) : (k ∈ x → plc (ofRow x) k = pos x k ∧ x[pos x k]? = some k) ∧ (k ∉ x → plc (ofRow x) k = x.length ∧ pos x k = x.length - 1) := by
  constructor
  · intro hm
    have hlt := List.idxOf_lt_length_of_mem hm
    have hg : x[pos x k]? = some k := by unfold pos; rw [if_pos hm, List.getElem?_eq_getElem hlt, List.getElem_idxOf hlt]
    exact ⟨(ofRow_set h).plc (at_ofRow.2 ⟨hg, hk⟩), hg⟩
  · intro hm
    refine ⟨?_, by unfold pos; rw [if_neg hm]⟩
    rw [plc_no (fun i hi => hm (List.mem_of_getElem? (at_ofRow.1 hi).1)), ofRow_len]
/-- An access of contents is a use of their state. -/
theorem ofRow_acc {S W s : Nat} {x : List Int} (h : SetOk S W s x) (hW : 0 < W) {k : Int} (h0 : 0 ≤ k) (h1 : k ≤ 1048576) (hs : k % (S : Int) = s) : ofRow (acc x k) = useS W k (ofRow x) := by
  have hxl : 0 < x.length := by have := h.1; omega
  have hlW : x.length = W := by have := h.1; omega
  have h' : SetOk S W s (acc x k) := setOk_acc h h0 h1 hs hxl
  obtain ⟨u1, u2⟩ := useS_spec (ofRow_set h) hW (n := k) ⟨h0, h1, hs⟩
  refine (ofRow_set h').ext u1 fun i y => ?_
  rw [at_ofRow, u2, acc_get hxl]
  obtain ⟨p1, p2⟩ := plc_ofRow h hxl h0
  constructor
  · rintro ⟨hy | ⟨a, ha, hne, hi, hi0⟩, hy0⟩
    · exact .inl hy
    · right
      have halt := (List.getElem?_eq_some_iff.1 ha).1
      have hyk : y ≠ k := fun e => by
        subst e
        have hm := List.mem_of_getElem? ha
        have e1 := (p1 hm).1
        have e2 := (ofRow_set h).once _ _ _ (at_ofRow.2 ⟨ha, h0⟩) (at_ofRow.2 ⟨(p1 hm).2, h0⟩)
        omega
      refine ⟨hyk, a, at_ofRow.2 ⟨ha, hy0⟩, ?_, ?_⟩
      · unfold dst
        by_cases hm : k ∈ x
        · rw [(p1 hm).1]; exact hi
        · have := p2 hm
          rw [this.1, if_pos halt]
          split at hi <;> omega
      · by_cases hm : k ∈ x
        · have := List.idxOf_lt_length_of_mem hm
          have hp := pos_lt (n := k) hxl
          split at hi <;> omega
        · have := p2 hm
          split at hi <;> omega
  · rintro (hy | ⟨hyk, a, ha, hi, hiW⟩)
    · exact ⟨.inl hy, by have := hy.2; omega⟩
    · obtain ⟨ha, hy0⟩ := at_ofRow.1 ha
      have halt := (List.getElem?_eq_some_iff.1 ha).1
      refine ⟨.inr ⟨a, ha, ?_, ?_, ?_⟩, hy0⟩
      · intro e
        subst e
        by_cases hm : k ∈ x
        · rw [(p1 hm).2] at ha; cases ha; exact hyk rfl
        · have := p2 hm
          unfold dst at hi
          rw [this.1, if_pos halt] at hi
          omega
      · unfold dst at hi
        by_cases hm : k ∈ x
        · rw [(p1 hm).1] at hi; exact hi
        · have := p2 hm
          rw [this.1, if_pos halt] at hi
          rw [if_pos (by omega)]; exact hi
      · unfold dst at hi
        by_cases hm : k ∈ x
        · rw [(p1 hm).1] at hi
          split at hi
          · omega
          · rename_i hnp
            by_cases ha0 : a = pos x k
            · subst ha0; rw [(p1 hm).2] at ha; cases ha; exact absurd rfl hyk
            · omega
        · have := p2 hm
          rw [this.1, if_pos halt] at hi
          omega
theorem of_acc {S W : Nat} {ss : List (List Int)} (h : ValidP S W ss) (hW : 0 < W) (hS : ¬ S = 0) {k : Int} (h0 : 0 ≤ k) (h1 : k ≤ 1048576) : ofM (accS S ss k) = touchM S W (ofM ss) k := by
  have hlt := setN_lt (S := S) (by omega) k
  have hl : ss.length = S := by have := h.1; omega
  have hg : ss[setN S k]? = some (ss.getD (setN S k) []) := by rw [List.getD_eq_getElem?_getD, List.getElem?_eq_getElem (by omega)]; rfl
  have hk := setN_int (S := S) (by omega) k
  rw [touch_get hS]
  unfold accS
  show ofM (ss.set (setN S k) (acc (ss.getD (setN S k) []) k)) = _
  have hgd : (ofM ss).getD (setN S k) [] = ofRow (ss.getD (setN S k) []) := by rw [List.getD_eq_getElem?_getD, ofM_get hg]; rfl
  rw [hgd, ← ofRow_acc (h.2 _ _ hg) hW h0 h1 hk.symm]
  unfold ofM
  rw [List.map_set]
def FewG (d : Nat) (w : World) (e : Ending) (w' : World) : Prop := ∃ (v : Value) (vs : List Value) (fps : Nat → Nat → Prop) (N : Nat) (xs : List Int), e = .returned v ∧ Grw OInt 3 w' w.heap.size N v vs fps xs ∧ xs.length ≤ 3 ∧ (∀ x ∈ xs, x ∈ Base) ∧ Deck w' d ∧ Chg (fun k => k = d) w w'
set_option maxHeartbeats 2000000 in
theorem m2few_grw (d : Nat) (w : World) (hd : Deck w d) :
    Calls Try.prog 23 #[.pointer (some ⟨d, 0, none⟩)] w (FewG d w) := by
  have hlt := hd.lt
  have HD := Lib.hid hd
  clear hd
  go_enter Try.func23, Try.ntmps23
  go_wp2_with fail
  refine (next_any d 4 (by omega) (by omega) _ HD.out).mono ?_
  rintro e w1 ⟨r1, rfl, a1, b1, hd1, hb1⟩
  have D1 := Lib.hid hd1; have C1 := Lib.hid hb1.chg; have Z1 := Lib.hid hb1.size
  clear hd1 hb1
  go_wp2
  go_loopw [3, 4] (fun s3 s4 wr => ∃ (k : Int) (v : Value) (xs : List Int) (vs : List Value) (fps : Nat → Nat → Prop) (N : Nat), s3 = v ∧ s4 = .int .i64 k ∧ 0 ≤ k ∧ xs.length + k ≤ 3 ∧ Grw OInt 3 wr w.heap.size N v vs fps xs ∧ (∀ x ∈ xs, x ∈ Base) ∧ Deck wr d ∧ Chg (fun k => k = d) w wr) (fun _ s4 _ => (intOf s4).toNat)
  case atStart => exact ⟨r1, _, [], [], _, _, rfl, rfl, a1, by simp; omega, Grw.nil OInt 3 w1 w.heap.size Z1.out, by simp, D1.out, C1.out⟩
  case round =>
    obtain ⟨k, v, xs, vs, fps, N, rfl, rfl, hk0, hk3, hg, hx, hd2, hc2⟩ := hrel
    have G2 := Lib.hid hg; have X2 := Lib.hid hx; have D2 := Lib.hid hd2; have C2 := Lib.hid hc2
    have Z2 := Lib.hid hc2.size
    clear hg hx hd2 hc2
    by_cases hk : 0 < k
    · go_wp2_with fail
      refine (m2line_any d _ D2.out).mono ?_
      rintro e w3 ⟨x, rfl, hxB, hd3, hc3⟩
      have G3 := Lib.hid (G2.out.chg OInt.loc hc3 (fun j hj _ e => by omega))
      have C3 := Lib.hid (C2.out.trans hc3 (fun _ _ h => h))
      have D3 := Lib.hid hd3
      have HX := Lib.hid hxB
      have hxo := base_ok hxB
      have B4 := Lib.hid (Blk.new w3 [.int .i64 x] 3)
      have Q4 := Lib.hid (G3.out.alloc OInt.loc (.cells #[.int .i64 x] 3))
      clear hd3 hc3 hxB
      go_wp2_with (at_builtin; refine wpList_append_grw rfl _ _ 22 rfl 3 Try.underlying22 info_int rfl OInt.loc Q4.out rfl w3.heap.size (.int .i64 x) 3 B4.out rfl (f := fun _ => False) (x := x) ⟨rfl, by omega, by omega⟩ (fun _ h => h.elim) rfl (by omega) (by decide) ?_; intro g cap w4 hap)
      go_roundw
      case rel =>
        refine ⟨k - 1, _, xs ++ [x], _, _, _, rfl, by go_num, by omega, by simp; omega, hap.out.grw, ?_, ?_, ?_⟩
        · intro y hy
          rcases List.mem_append.1 hy with h | h
          · exact X2.out y h
          · simp at h; subst h; exact HX.out
        · have hl3 : d < w3.heap.size := D3.out.lt
          refine (D3.out.below ((Below.refl _ _).alloc (Nat.le_refl _) _) (Nat.le_refl _)).chg hap.out.chg (fun j hj hjd e => ?_)
          have := (Q4.out.own _ e).1
          omega
        · exact (C3.out.alloc _).trans hap.out.chg (fun j hj e => by have := (Q4.out.own _ e).1; omega)
      case measure => simp [intOf]; omega
    · have hk0' : k = 0 := by omega
      subst hk0'
      go_wp2
      go_ret
      exact ⟨_, vs, fps, N, xs, rfl, G2.out, by omega, X2.out, D2.out, C2.out⟩

set_option maxHeartbeats 2000000 in
theorem use8_any (S W L : Nat) (hc : COk S W L) (hS : 1 ≤ S) (fp : Nat → Prop) (a : Option Addr) (len cap : Nat) (ss : List (List Int)) (w : World) (r : OMat w fp (.slice a len cap) ss)
    (n : Int) (h0 : 0 ≤ n) (h1 : n ≤ 8388608) (hline' : n / (L : Int) ≤ 1048576) (hw : Wide S W ss) (hon : Once (ss.getD (n / (L : Int) % (S : Int)).toNat []) (n / (L : Int))) :
    Calls Try.prog 26 #[CV S W L, .agg #[.slice a len cap], .int .i64 n] w fun e w' => e = .returned (.bool (hitS S ss (n / L))) ∧ OMat w' fp (.slice a len cap) (accS S ss (n / L)) ∧ Chg fp w w' := by
  obtain ⟨g1, g2, g3, g4, g5, g6⟩ := hc
  have hz : ((S : Int) == 0) = false := by simp; omega
  have hline : 0 ≤ n / (L : Int) := Int.ediv_nonneg h0 (by omega)
  have hacc : accS S ss (n / (L : Int)) = ss.set (n / (L : Int) % (S : Int)).toNat (acc (ss.getD (n / (L : Int) % (S : Int)).toNat []) (n / (L : Int))) := rfl
  have hhit : hitS S ss (n / (L : Int)) = decide (n / (L : Int) ∈ ss.getD (n / (L : Int) % (S : Int)).toNat []) := rfl
  have hset : n / (L : Int) % (S : Int) = ((n / (L : Int) % (S : Int)).toNat : Nat) := by have := Int.emod_nonneg (n / (L : Int)) (show (S : Int) ≠ 0 by omega); omega
  have hlt := setof_lt hS (n / (L : Int))
  have hx : ss[(n / (L : Int) % (S : Int)).toNat]? = some (ss.getD (n / (L : Int) % (S : Int)).toNat []) := by
    have := hw.1
    rw [List.getD_eq_getElem?_getD, List.getElem?_eq_getElem (by omega)]; rfl
  have hxl : (ss.getD (n / (L : Int) % (S : Int)).toNat []).length = W := hw.at hlt
  rw [hacc, hhit]
  obtain ⟨m, hm⟩ : ∃ m, m = n / (L : Int) := ⟨_, rfl⟩
  rw [← hm] at hline hline' hset hlt hx hxl hon ⊢
  generalize (m % (S : Int)).toNat = s at *
  generalize ss.getD s [] = x at *
  have hsl := (List.getElem?_eq_some_iff.1 hx).1
  rcases r with ⟨_, rfl⟩ | ⟨b, cap', vs, sp, fps, hv, r⟩
  · cases hx
  cases hv
  have hss := r.hsz; have hcap : ss.length ≤ cap := by have := r.hcap; omega
  have hcm := r.hmax
  obtain ⟨u, hu, hrow⟩ := r.row s x hx
  rcases hrow with ⟨_, rfl⟩ | ⟨rb, rc, us, sp', fps', rfl, q⟩
  · simp at hxl; omega
  have hqsz := q.hsz; have hqcap : x.length ≤ rc := by have := q.hcap; omega
  have hqm := q.hmax
  have hus := q.ints
  subst hus
  have hb := r.blk.cell (i := s) (v := .slice (some ⟨rb, 0, none⟩) x.length rc) (by rw [List.getElem?_append_left (by rw [r.hlen]; exact hsl)]; exact hu)
  rw [hxl] at hb
  have hblt := r.blk.lt
  have hs0 : (0 : Int) ≤ (s : Int) := by omega
  have hs1 : (s : Int) < (ss.length : Int) := by omega
  have hp := pos_lt (n := m) (x := x) (by omega)
  have bq0 : Blk ((w.alloc (.cells #[.int .i64 S, .int .i64 W, .int .i64 L] 26)).alloc (.cells #[.slice (some ⟨b, 0, none⟩) ss.length cap] 44)) rb 3 (ivs x ++ sp') := (q.blk.old _).old _
  have HQ := Lib.hid q; have HR := Lib.hid r; have HX := Lib.hid hx; have HU := Lib.hid hu; have HXL := Lib.hid hxl; have HO := Lib.hid hon; have HM := Lib.hid hm; have BQ := Lib.hid bq0
  have hWl : W ≤ rc := by omega
  clear q r hx hu hxl hon bq0 hacc hhit hw hm
  go_enter Try.func26, Try.ntmps26
  go_wp2
  rw [← HM.out]
  go_quiet (fail)
  have BQ1 := Lib.hid (BQ.out.drewN nq)
  have c1 : Chg Non w (((w.alloc (.cells #[.int .i64 S, .int .i64 W, .int .i64 L] 26)).alloc (.cells #[.slice (some ⟨b, 0, none⟩) ss.length cap] 44)).drewN nq) := (((Chg.refl w).alloc _).alloc _).drewN nq
  have C1 := Lib.hid c1
  clear hset c1 BQ hb
  go_wp2
  obtain ⟨w1, hw1⟩ : ∃ w1, w1 = (((w.alloc (.cells #[.int .i64 S, .int .i64 W, .int .i64 L] 26)).alloc (.cells #[.slice (some ⟨b, 0, none⟩) ss.length cap] 44)).drewN nq) := ⟨_, rfl⟩
  rw [← hw1] at BQ1 C1 ⊢
  clear hw1
  go_loop [9, 10, 11] (fun at_ hit i => ∃ k : Nat, k ≤ W ∧ i = .int .i64 k ∧ at_ = .int .i64 (atK x m k) ∧ hit = .bool (decide (m ∈ x.take k))) (fun _ _ i => W - (intOf i).toNat)
  case atStart => exact ⟨0, Nat.zero_le _, rfl, by unfold atK; simp; have := HXL.out; omega, by simp⟩
  case round =>
    obtain ⟨k, hk, rfl, rfl, rfl⟩ := hrel
    by_cases hlt : k < W
    · obtain ⟨z, hzz⟩ : ∃ z, x[k]? = some z := ⟨_, List.getElem?_eq_getElem (by have := HXL.out; omega)⟩
      have hcz : w1.cell? ⟨rb, k, none⟩ = some (.int .i64 z) := BQ1.out.cell (by rw [List.getElem?_append_left (by rw [ivs_length]; have := HXL.out; omega)]; exact ivs_get hzz)
      have HZ := Lib.hid hzz; clear hzz
      by_cases he : z = m
      · subst he
        have hb : (z == z) = true := by simp
        obtain ⟨e1, e2⟩ := atK_hit HO.out HZ.out
        have E1 := Lib.hid e1; have E2 := Lib.hid e2; clear e1 e2
        go_wp2
        go_round
        case rel => exact ⟨k + 1, by omega, by go_num, by rw [E1.out], by rw [decide_eq_true E2.out]⟩
        case measure => simp [intOf]; omega
      · have hb : (z == m) = false := by simp [he]
        obtain ⟨e1, e2⟩ := atK_miss HZ.out he
        have E1 := Lib.hid e1; have E2 := Lib.hid e2; clear e1 e2
        go_wp2
        go_round
        case rel => exact ⟨k + 1, by omega, by go_num, by rw [E1.out], by rw [decide_eq_decide.2 E2.out]⟩
        case measure => simp [intOf]; omega
    · obtain ⟨e1, e2⟩ := atK_all (x := x) (n := m) (k := k) (by have := HXL.out; omega)
      have e3 : decide (m ∈ x.take k) = decide (m ∈ x) := decide_eq_decide.2 e2
      rw [e1, e3]
      clear e1 e2 e3
      obtain ⟨hit, hh⟩ : ∃ hit, hit = decide (m ∈ x) := ⟨_, rfl⟩
      rw [← hh]
      have HH := Lib.hid hh; clear hh
      obtain ⟨p, hpp⟩ : ∃ p, p = pos x m := ⟨_, rfl⟩
      rw [← hpp] at hp ⊢
      have HP := Lib.hid hpp; clear hpp
      have hpW : p < W := by have := HXL.out; omega
      go_wp2
      go_loopw [12] (fun j wr => ∃ i : Nat, i ≤ p ∧ j = .int .i64 i ∧ Blk wr rb 3 (ivs (sh x p i) ++ sp') ∧ Chg (fps s) w wr) (fun j _ => (intOf j).toNat)
      case atStart => exact ⟨p, Nat.le_refl _, rfl, by rw [sh_start]; exact BQ1.out, C1.out.mono (fun _ _ h => h.elim)⟩
      case round =>
        obtain ⟨i, hi, rfl, bb, cc⟩ := hrel
        have BB := Lib.hid bb; have CC := Lib.hid cc
        by_cases hi0 : 0 < i
        · have e0 : wr.cell? ⟨rb, i - 1, none⟩ = some (.int .i64 (x.getD (i - 1) 0)) := bb.cell (by
            rw [List.getElem?_append_left (by rw [ivs_length, sh_length]; omega)]
            refine ivs_get ?_
            rw [sh_get (by omega), if_neg (by omega)])
          obtain ⟨v1, e1⟩ := bb.some0 (i := i) (by rw [List.length_append, ivs_length, sh_length]; omega)
          have ef := bb.free i; have el := bb.lt
          clear bb cc
          have q1 : ((i : Int) - 1).toNat = i - 1 := by omega
          have q2 : (0 : Int) ≤ (i : Int) - 1 := by omega
          have q3 : (i : Int) - 1 < (W : Int) := by omega
          have q4 : (i : Int) < (W : Int) := by omega
          go_wp2
          go_roundw
          case rel =>
            refine ⟨i - 1, by omega, by congr 1; omega, ?_, CC.out.setCell (fun _ => HQ.out.own) _⟩
            refine (BB.out.set i _).at ?_
            rw [← sh_step hi0 hi hp, List.set_append_left _ _ (by rw [ivs_length, sh_length]; omega)]
            unfold ivs
            rw [List.map_set]; rfl
          case measure => simp [intOf]; omega
        · obtain rfl : i = 0 := by omega
          obtain ⟨v1, e1⟩ := bb.some0 (i := 0) (by rw [List.length_append, ivs_length, sh_length]; omega)
          have ef := bb.free 0; have el := bb.lt
          clear bb cc
          go_wp2
          go_ret
          have hc : Chg (fps s) w (wr.setCell ⟨rb, 0, none⟩ (.int .i64 m)) := CC.out.setCell (fun _ => HQ.out.own) _
          have hr := HR.out; have hq := HQ.out
          refine ⟨ret_b HH.out, .inr ⟨b, cap, vs, sp, fps, by rw [List.length_set], ?_⟩, hc.mono fun k _ hk => (hr.sub s k hsl hk).1⟩
          refine hr.inner OInts.loc hsl HU.out hc (OInts.mk (sp := sp') ?_ ?_ ?_ hq.hmax ?_ hq.own ?_)
          · refine (BB.out.set 0 (.int .i64 m)).at ?_
            rw [List.set_append_left _ _ (by rw [ivs_length, sh_length]; omega)]
            have := sh_end (x := x) (n := m) (by rw [← HP.out]; exact hp)
            rw [← this, ← HP.out]
            unfold ivs
            rw [List.map_set]; rfl
          · rw [acc_length (by omega)]
          · rw [acc_length (by omega)]; exact hq.hcap
          · rw [acc_length (by omega)]; exact hq.hsz
          · exact acc_range hq.range (by omega) (by omega)

theorem use_none (W L : Nat) (a : Option Addr) (len cap : Nat) (w : World) (n : Int) : Calls Try.prog 26 #[CV (0 : Nat) W L, .agg #[.slice a len cap], .int .i64 n] w fun e w' => e = .returned (.bool false) ∧ Below w.heap.size w w' := by
  have F0 := Lib.hid (Fm.new (Fm.new (Fm.start Non w) rfl [.int .i64 (0 : Nat), .int .i64 W, .int .i64 L] 26) (by simp) [.slice a len cap] 44)
  go_enter Try.func26, Try.ntmps26
  go_wp2
  go_ret
  exact ⟨rfl, F0.out.below⟩

def useC (S : Nat) (ss : List (List Int)) (k : Int) : List (List Int) := if S = 0 then ss else accS S ss k
def hitC (S : Nat) (ss : List (List Int)) (k : Int) : Bool := if S = 0 then false else hitS S ss k
theorem useC_valid {S W : Nat} {ss : List (List Int)} (h : ValidP S W ss) (hW : 0 < W) {k : Int} (h0 : 0 ≤ k) (h1 : k ≤ 1048576) : ValidP S W (useC S ss k) := by
  unfold useC; split
  · exact h
  · exact valid_acc h (by omega) hW h0 h1
theorem of_useC {S W : Nat} {ss : List (List Int)} (h : ValidP S W ss) (hW : 0 < W) {k : Int} (h0 : 0 ≤ k) (h1 : k ≤ 1048576) : ofM (useC S ss k) = touchM S W (ofM ss) k := by
  by_cases hS : S = 0
  · unfold useC touchM; rw [if_pos hS, if_pos hS]
  · unfold useC; rw [if_neg hS]; exact of_acc h hW hS h0 h1
theorem mul_div {k : Int} {L : Nat} (hL : 1 ≤ L) : k * (L : Int) / (L : Int) = k := Int.mul_ediv_cancel _ (by omega)
theorem useC_any (S W L : Nat) (hc : COk S W L) (hL4 : L ≤ 4) (fp : Nat → Prop) (a : Option Addr) (len cap : Nat) (ss : List (List Int)) (w : World) (r : OMat w fp (.slice a len cap) ss) (hv : ValidP S W ss) (k : Int) (h0 : 0 ≤ k) (h1 : k ≤ 1048576) :
    Calls Try.prog 26 #[CV S W L, .agg #[.slice a len cap], .int .i64 (k * (L : Int))] w fun e w' => e = .returned (.bool (hitC S ss k)) ∧ OMat w' fp (.slice a len cap) (useC S ss k) ∧ Chg fp w w' := by
  have hC := hc
  obtain ⟨g1, g2, g3, g4, g5, g6⟩ := hc
  by_cases hS : S = 0
  · subst hS
    exact (use_none W L a len cap w (k * (L : Int))).mono fun e w' h => ⟨by unfold hitC; rw [if_pos rfl]; exact h.1, by unfold useC; rw [if_pos rfl]; exact OMat.loc.below r h.2, Chg.of_below h.2⟩
  · have hd := mul_div (k := k) (L := L) (by omega)
    have hm0 : 0 ≤ k * (L : Int) := Int.mul_nonneg h0 (by omega)
    have hm1 : k * (L : Int) ≤ 8388608 := Int.le_trans (Int.mul_le_mul h1 (show (L : Int) ≤ 4 by omega) (by omega) (by omega)) (by omega)
    have h := use8_any S W L hC (by omega) fp a len cap ss w r (k * (L : Int)) hm0 hm1 (by rw [hd]; exact h1) hv.wide (by rw [hd]; exact valid_once hv (by omega) h0)
    rw [hd] at h
    exact h.mono fun e w' h => ⟨by unfold hitC; rw [if_neg hS]; exact h.1, by unfold useC; rw [if_neg hS]; exact h.2.1, h.2.2⟩
theorem wrap_mul {k : Int} {L : Nat} (hL : L ≤ 4) (h0 : 0 ≤ k) (h1 : k ≤ 1048576) : IntKind.i64.wrap (k * (L : Int)) = k * (L : Int) := by
  have hm0 : 0 ≤ k * (L : Int) := Int.mul_nonneg h0 (by omega)
  have hm1 : k * (L : Int) ≤ 8388608 := Int.le_trans (Int.mul_le_mul h1 (show (L : Int) ≤ 4 by omega) (by omega) (by omega)) (by omega)
  exact IntWalk.i64_in _ (by omega)

/-- Blocks that are neither the deck nor the two variables. -/
def K3 (d bx bm k : Nat) : Prop := k ≠ d ∧ k ≠ bx ∧ k ≠ bm
theorem OMat.k3 {d bx bm A B : Nat} {w : World} {a : Option Addr} {n cap : Nat} {X : List (List Int)} (h : OMat w (Bt A B) (.slice a n cap) X) (h1 : d < A) (h2 : bx < A ∨ B ≤ bx) (h3 : bm < A ∨ B ≤ bm) : Mat (K3 d bx bm) w a n cap X := h.read (fun k hk => by have := hk.1; have := hk.2; exact ⟨by omega, by omega, by omega⟩)
theorem NewRet.fix {S : Nat} {X : List (List Int)} {w w' : World} {e : Ending} (h : NewRet X w e w') (hl : X.length = S) : ∃ a cap, e = .returned (.agg #[.slice a S cap]) ∧ OMat w' (Ge w.heap.size) (.slice a S cap) X ∧ Below w.heap.size w w' := by
  obtain ⟨a, n, cap, rfl, ho, hb⟩ := h
  have := (ho.matT).hlen
  obtain rfl : S = n := by omega
  exact ⟨a, cap, rfl, ho, hb⟩
end Go.Proofs.Ytlpelpjcbclemaa
namespace Go.Proofs.Ytlpelpjcbclemaa
open Go.RowKit

set_option maxRecDepth 100000 in
set_option maxHeartbeats 8000000 in
theorem yeither_any (U : List Int) (hU : U.length ≤ 1000) (S W L : Nat) (hc : COk S W L) (m : List (List (List Int))) (o : List Int) (hm : YSt U S W m o) (Kr K' : Nat → Prop) (a : Option Addr) (len cap : Nat) (oa : Option Addr) (on oc : Nat) (a' : Option Addr) (len' cap' : Nat) (lines : List Int) (hli : LnsOk U lines) (w : World) (r : YCub Kr w a len cap oa on oc m o) (r' : Ints K' w a' len' cap' lines) :
    Calls Try.prog 24 #[CV S W L, YV a len cap oa on oc, .slice a' len' cap'] w (YRet (eitherY S W (m, o) lines).1 (eitherY S W (m, o) lines).2 w) := by
  have hl := r.cub.hlen; have hol := r.ints.hlen; have hl' := r'.hlen; have h6 := r'.hsz; have h7 := r'.hcap; have h8 := r'.hmax
  have hS : len = S := by rw [← hl]; exact hm.len
  have hO : on = S := by rw [← hol]; exact hm.olen
  subst hS
  subst hO
  have hC := Lib.hid hc
  obtain ⟨g1, g2, g3, g4, g5, g6⟩ := hc
  have F0 := Lib.hid (Fm.new (Fm.new (Fm.new (Fm.start Non w) rfl [.int .i64 on, .int .i64 W, .int .i64 L] 26) (by simp) [.slice a on cap, .slice oa on oc] 31) (by simp) [.slice none 0 0, .slice none 0 0] 31)
  have CP := Lib.hid (fun (w' : World) (hb : Below w.heap.size w w') => ycopy_any Kr a on cap oa on oc m o w' (r.below hb) (hm.mst.fews hU (by omega) (by omega)) (by omega))
  have TC := Lib.hid (fun (n : Int) (hn : 0 ≤ n ∧ n ≤ 1048576 ∧ n ∈ U) (w' : World) (hb : Below w.heap.size w w') => ytouch_any U hU on W L hC.out m o hm Kr a on cap oa on oc n hn.1 hn.2.1 hn.2.2 w' (r.below hb))
  have HR := Lib.hid r; have HR' := Lib.hid r'; have HM := Lib.hid hm; have HLI := Lib.hid hli
  clear r r' hm hl hol
  by_cases h0 : len' = 0
  · subst h0
    have hnil : lines = [] := List.length_eq_zero_iff.1 hl'
    subst hnil
    have HE := Lib.hid (show eitherY on W (m, o) [] = (m, o) from rfl)
    go_enter Try.func24, Try.ntmps24
    have c0 := F0.out.h1.cell 0 _ rfl; have c1 := F0.out.h1.cell 1 _ rfl; have lc := F0.out.h1.lt (by simp)
    go_wp2_with fail
    refine (CP.out _ F0.out.below).mono ?_
    rintro e w3 h3
    obtain ⟨ta, tc, pa, pc, f1, f2, rfl, ho3, hb3⟩ := YRet.fix h3 HM.out.len HM.out.olen
    have F3 := Lib.hid (Fm.call hb3 F0.out)
    have O3 := Lib.hid (ho3.ge (C := w.heap.size + 3) (by simp))
    clear c0 c1 lc h3 ho3 hb3
    have e0 := F3.out.h2.cell 0 _ rfl; have e1 := F3.out.h2.cell 1 _ rfl; have ef := F3.out.h2.free; have lt1 := F3.out.h2.lt (by simp)
    go_wp2
    refine bodyPost_ret (v := YV ta on tc pa on pc) (by simp [results, Try.results24, go_sem, e0, e1]) rfl ⟨ta, on, tc, pa, on, pc, _, _, rfl, OY.cast (OY.ge (OY.two O3.out (show w.heap.size + 2 < w.heap.size + 3 by omega) (Nat.le_refl _)) (by omega)) (by rw [HE.out]) (by rw [HE.out]), ((F3.out.set 2 0 _ rfl (by simp) _).set 2 1 _ rfl (by simp) _).below⟩
  · obtain ⟨lb, lo, x, rfl, hx, hcx, hx1, hx2, _, hbx⟩ := Ints.get HR'.out (show 0 < len' by omega)
    have HX := Lib.hid (show lines.getD 0 0 = x by rw [List.getD_eq_getElem?_getD, hx]; rfl)
    have hxo := HLI.out x (List.mem_of_getElem? hx)
    have E0 := Lib.hid (show eitherYP on W (m, o) lines 0 = touchYs on W (m, o) x by unfold eitherYP; rw [HX.out]; rfl)
    have TS := Lib.hid (ytouch_st HM.out (show 0 < W by omega) hxo.1 hxo.2.1 hxo.2.2)
    have TX := Lib.hid (TC.out x hxo)
    have hlen0 : 0 < lines.length := by omega
    have ES := Lib.hid (eitherYP_st (st := (m, o)) HM.out (show 0 < W by omega) HLI.out hlen0)
    have EM := Lib.hid (show eitherY on W (m, o) lines = eitherYP on W (m, o) lines (len' - 1) by unfold eitherY; rw [if_neg (fun e => by rw [e] at hlen0; simp at hlen0), hl'])
    have HL' := Lib.hid hl'
    rw [Nat.add_zero] at hcx
    clear hx hxo hl' hlen0 CP
    have hz : ((len' : Int) == 0) = false := by simp; omega
    go_enter Try.func24, Try.ntmps24
    go_upto_region 3 with fail
    obtain ⟨wv, hwv⟩ : ∃ wv : World, wv = (((w.alloc (.cells #[.int .i64 on, .int .i64 W, .int .i64 L] 26)).alloc (.cells #[.slice a on cap, .slice oa on oc] 31)).alloc (.cells #[.slice none 0 0, .slice none 0 0] 31)) := ⟨_, rfl⟩
    have F1 := Lib.hid (show Fm Non w wv [[.int .i64 on, .int .i64 W, .int .i64 L], [.slice a on cap, .slice oa on oc], [.slice none 0 0, .slice none 0 0]] from by rw [hwv]; exact F0.out)
    rw [← hwv]
    clear hwv F0
    have sv := F1.out.size
    simp only [List.length_cons, List.length_nil] at sv
    have c0 := F1.out.h0.cell 0 _ rfl; have c1 := F1.out.h0.cell 1 _ rfl; have c2 := F1.out.h0.cell 2 _ rfl; have e0 := F1.out.h1.cell 0 _ rfl; have e1 := F1.out.h1.cell 1 _ rfl
    have cx := (F1.out.below.cell (p := ⟨lb, lo, none⟩) hbx).trans hcx
    have F2 := Lib.hid F1.out.drew
    go_cut [7] (fun s7 wx => ∃ b f1 f2 na nc no noc, s7 = .pointer (some ⟨b, 0, none⟩) ∧ YVr wx (w.heap.size + 3) b f1 f2 on na nc no noc (touchYm on W m o x) (touchYo on W m o x) ∧ Fm Non w wx [[.int .i64 on, .int .i64 W, .int .i64 L], [.slice a on cap, .slice oa on oc], [.slice none 0 0, .slice none 0 0]])
    case first =>
      as_aux_lemma =>
        have k3 : (0 : Int) < (len' : Int) := by omega
        have k4 : 0 < len' := by omega
        refine hd_start 7 (fun w' => w'.cell? ⟨w.heap.size, 0, none⟩ = some (.int .i64 on) ∧ w'.cell? ⟨w.heap.size, 1, none⟩ = some (.int .i64 W) ∧ w'.cell? ⟨w.heap.size, 2, none⟩ = some (.int .i64 L) ∧ w'.cell? ⟨w.heap.size + 1, 0, none⟩ = some (.slice a on cap) ∧ w'.cell? ⟨w.heap.size + 1, 1, none⟩ = some (.slice oa on oc) ∧ w'.cell? ⟨lb, lo, none⟩ = some (.int .i64 x)) (by kernel_rfl) ⟨by kernel_rfl, by kernel_rfl, by kernel_rfl, by decide⟩ (by refine ⟨c0, c1, c2, e0, e1, cx⟩) (fun ok => ?_)
        refine hd_take_l (i := 0) (v := ?_) ok rfl (by decide) (by kernel_rfl) (by kernel_rfl) (fun _ _ _ h => h) (Or.inl ⟨by kernel_rfl, ?_⟩) ?_
        rotate_left
        · (intro w hSw; (try dsimp only at hSw); (try go_split_ands); go_simp; (try (with_reducible rfl)))
        go_frame
        refine hd_take_l (i := 1) (v := ?_) ok rfl (by decide) (by kernel_rfl) (by kernel_rfl) (fun _ _ _ h => h) (Or.inl ⟨by kernel_rfl, ?_⟩) ?_
        rotate_left
        · (intro w hSw; (try dsimp only at hSw); (try go_split_ands); go_simp; (try (with_reducible rfl)))
        go_frame
        refine hd_take_l (i := 2) (v := ?_) ok rfl (by decide) (by kernel_rfl) (by kernel_rfl) (fun _ _ _ h => h) (Or.inl ⟨by kernel_rfl, ?_⟩) ?_
        rotate_left
        · (intro w hSw; (try dsimp only at hSw); (try go_split_ands); go_simp; (try (with_reducible rfl)))
        go_frame
        refine hd_take_l (i := 3) (v := ?_) ok rfl (by decide) (by kernel_rfl) (by kernel_rfl) (fun _ _ _ h => h) (Or.inl ⟨by kernel_rfl, ?_⟩) ?_
        rotate_left
        · (intro w hSw; (try dsimp only at hSw); (try go_split_ands); go_simp; (try (with_reducible rfl)))
        go_frame
        refine hd_take_l (i := 4) (v := ?_) ok rfl (by decide) (by kernel_rfl) (by kernel_rfl) (fun _ _ _ h => h) (Or.inl ⟨by kernel_rfl, ?_⟩) ?_
        rotate_left
        · (intro w hSw; (try dsimp only at hSw); (try go_split_ands); go_simp; (try (with_reducible rfl)))
        go_frame
        refine hd_two_l (c := 5) (d := 6) rfl rfl (by decide) (by decide) (by kernel_rfl) (fun K hK => ?_) (fun K hK => ?_)
        · skip
          go_simp
          go_at_call 14
          refine (TX.out _ F2.out.below).mono ?_
          rintro e w5 hr5
          obtain ⟨ta, tc, pa, pc, f1, f2, rfl, ho5, hb5⟩ := YRet.fix hr5 TS.out.len TS.out.olen
          have s5 := hb5.size
          simp only [World.size_drew] at s5
          have F5 := Lib.hid (Fm.call hb5 F2.out)
          have O5 := Lib.hid ho5
          simp only [World.size_drew] at O5
          clear c0 c1 c2 e0 e1 cx hr5 ho5 hb5
          have c0 := F5.out.h0.cell 0 _ rfl; have c1 := F5.out.h0.cell 1 _ rfl; have c2 := F5.out.h0.cell 2 _ rfl; have e0 := F5.out.h1.cell 0 _ rfl; have e1 := F5.out.h1.cell 1 _ rfl
          have cx := (F5.out.below.cell (p := ⟨lb, lo, none⟩) hbx).trans hcx
          (try simp only [])
          refine hK _ _ (by refine ⟨?_, ?_, ?_, ?_, ?_, ?_⟩ <;> (first | exact c0 | exact c1 | exact c2 | exact e0 | exact e1 | exact cx)) ?_
          clear hK K
          (try go_frame)
          refine hd_only_l (c := 6) rfl (by decide) (by kernel_rfl) (fun K hK => ?_)
          go_simp
          (try simp only [])
          refine hK _ _ (by refine ⟨?_, ?_, ?_, ?_, ?_, ?_⟩ <;> (first | exact (cell_alloc (by omega) c0) | exact (cell_alloc (by omega) c1) | exact (cell_alloc (by omega) c2) | exact (cell_alloc (by omega) e0) | exact (cell_alloc (by omega) e1) | exact (cell_alloc (by omega) cx))) ?_
          clear hK K
          (try go_frame)
          clear ok c0 c1 c2 e0 e1 cx
          refine hd_done (by kernel_rfl) ?_
          simp only [List.drop_succ_cons, List.drop_zero]
          go_wp2_with fail
          go_meet
          exact ⟨w5.heap.size, _, _, _, _, _, _, rfl, YVr.newO O5.out (by omega), F5.out.more _⟩
        · skip
          go_simp
          have F5 := Lib.hid (F1.out.more (.cells #[.slice none 0 0, .slice none 0 0] 31)).drew; have H5 := Lib.hid (Has.new wv [.slice none 0 0, .slice none 0 0] 31).drew
          clear c0 c1 c2 e0 e1 cx
          have c0 := F5.out.h0.cell 0 _ rfl; have c1 := F5.out.h0.cell 1 _ rfl; have c2 := F5.out.h0.cell 2 _ rfl; have e0 := F5.out.h1.cell 0 _ rfl; have e1 := F5.out.h1.cell 1 _ rfl
          have cx := (F5.out.below.cell (p := ⟨lb, lo, none⟩) hbx).trans hcx
          (try simp only [])
          refine hK _ _ (by refine ⟨?_, ?_, ?_, ?_, ?_, ?_⟩ <;> (first | exact c0 | exact c1 | exact c2 | exact e0 | exact e1 | exact cx)) ?_
          clear hK K
          (try go_frame)
          refine hd_only_l (c := 5) rfl (by decide) (by kernel_rfl) (fun K hK => ?_)
          go_simp
          go_at_call 14
          refine (TX.out _ F5.out.below).mono ?_
          rintro e w5 hr5
          obtain ⟨ta, tc, pa, pc, f1, f2, rfl, ho5, hb5⟩ := YRet.fix hr5 TS.out.len TS.out.olen
          have s5 := hb5.size
          simp only [World.size_drew] at s5
          have F6 := Lib.hid (Fm.call hb5 F5.out)
          have O5 := Lib.hid ho5
          have H6 := Lib.hid (H5.out.below hb5 (by simp))
          simp only [World.size_drew, World.size_alloc] at O5
          clear c0 c1 c2 e0 e1 cx hr5 ho5 hb5
          have c0 := F6.out.h0.cell 0 _ rfl; have c1 := F6.out.h0.cell 1 _ rfl; have c2 := F6.out.h0.cell 2 _ rfl; have e0 := F6.out.h1.cell 0 _ rfl; have e1 := F6.out.h1.cell 1 _ rfl
          have cx := (F6.out.below.cell (p := ⟨lb, lo, none⟩) hbx).trans hcx
          (try simp only [])
          refine hK _ _ (by refine ⟨?_, ?_, ?_, ?_, ?_, ?_⟩ <;> (first | exact c0 | exact c1 | exact c2 | exact e0 | exact e1 | exact cx)) ?_
          clear hK K
          (try go_frame)
          have h0 := H6.out.cell 0 _ rfl; have h1 := H6.out.cell 1 _ rfl; have hf := H6.out.free; have hl := H6.out.lt (by simp)
          clear ok c0 c1 c2 e0 e1 cx
          refine hd_done (by kernel_rfl) ?_
          simp only [List.drop_succ_cons, List.drop_zero]
          go_wp2_with fail
          go_meet
          exact ⟨wv.heap.size, _, _, _, _, _, _, rfl, YVr.setO H6.out O5.out (by omega) (by omega), (F6.out.far (p := ⟨wv.heap.size, 0, none⟩) (.inr (by simp; omega)) _).far (p := ⟨wv.heap.size, 1, none⟩) (.inr (by simp; omega)) _⟩
    case rest =>
      obtain ⟨ob, f1, f2, na, nc, no, noc, rfl, hV, hF⟩ := hcut
      have F2 := Lib.hid hF; have V2 := Lib.hid hV
      clear hF hV c0 c1 c2 e0 e1 cx F1 TX
      have k5 : (1 : Int) ≤ (len' : Int) := by omega
      have k6 : (1 : Int) ≤ (cap' : Int) := by omega
      have k7 : (len' : Int) ≤ (cap' : Int) := by omega
      go_upto_region 4 with fail
      go_cut [2, 22, 23, 24] (fun s2 s24 s25 s26 wx => ∃ lo2 cap2 : Nat, (lo2 = lo + 1 ∨ len' = 1) ∧ s2 = .slice (some ⟨lb, lo, none⟩) len' cap' ∧ s24 = .slice (some ⟨lb, lo2, none⟩) (len' - 1) cap2 ∧ s25 = .int .i64 ((len' - 1 : Nat) : Int) ∧ s26 = .int .i64 0 ∧ YVr wx (w.heap.size + 3) ob f1 f2 on na nc no noc (touchYm on W m o x) (touchYo on W m o x) ∧ Fm Non w wx [[.int .i64 on, .int .i64 W, .int .i64 L], [.slice a on cap, .slice oa on oc], [.slice none 0 0, .slice none 0 0]])
      case first =>
        go_wp2
        all_goals
          go_meet
          refine ⟨_, _, ?_, by first | rfl | (have : cap' = 1 := (by omega); rw [this]), rfl, rfl, rfl, V2.out, F2.out⟩
          first | exact .inl rfl | (right; omega)
      case rest =>
        obtain ⟨lo2, cap2, hlo, rfl, rfl, rfl, rfl, hV, hF⟩ := hcut
        clear V2 F2
        have Z2 := Lib.hid (show ∃ f1 f2 na nc no noc, YVr wc (w.heap.size + 3) ob f1 f2 on na nc no noc (eitherYP on W (m, o) lines 0).1 (eitherYP on W (m, o) lines 0).2 from ⟨f1, f2, na, nc, no, noc, by rw [E0.out]; exact hV⟩)
        have F2 := Lib.hid hF
        clear hV hF
        go_wp2
        go_loopw [24] (fun i wr => ∃ k : Nat, k ≤ len' - 1 ∧ i = .int .i64 k ∧ (∃ f1 f2 na nc no noc, YVr wr (w.heap.size + 3) ob f1 f2 on na nc no noc (eitherYP on W (m, o) lines k).1 (eitherYP on W (m, o) lines k).2) ∧ Fm Non w wr [[.int .i64 on, .int .i64 W, .int .i64 L], [.slice a on cap, .slice oa on oc], [.slice none 0 0, .slice none 0 0]]) (fun i _ => len' - (intOf i).toNat)
        case atStart => exact ⟨0, Nat.zero_le _, rfl, Z2.out, F2.out⟩
        case round =>
          obtain ⟨k, hk, rfl, ⟨f1, f2, na, nc, no, noc, hV⟩, hF⟩ := hrel
          have V3 := Lib.hid hV; have F3 := Lib.hid hF
          clear hV hF
          by_cases hlt : k < len' - 1
          · obtain rfl : lo2 = lo + 1 := by omega
            obtain ⟨xb, xo, y, hxb, hy, hcy, hy1, hy2, _, hby⟩ := Ints.get HR'.out (show 1 + k < len' by omega)
            obtain ⟨rfl, rfl⟩ : lb = xb ∧ lo = xo := by simp only [Option.some.injEq, Addr.mk.injEq] at hxb; exact ⟨hxb.1, hxb.2.1⟩
            have hyo := HLI.out y (List.mem_of_getElem? hy)
            have TY := Lib.hid (TC.out y hyo)
            have EY := Lib.hid (eitherYP_succ (S := on) (W := W) (st := (m, o)) hy)
            have SY := Lib.hid (ytouch_st HM.out (show 0 < W by omega) hyo.1 hyo.2.1 hyo.2.2)
            have SX := Lib.hid (show YSt U on W (eitherYP on W (m, o) lines k).1 (eitherYP on W (m, o) lines k).2 from ES.out k)
            have cy := (F3.out.below.cell (p := ⟨lb, lo + (1 + k), none⟩) hby).trans hcy
            rw [show lo + (1 + k) = lo + 1 + k by omega] at cy
            clear hy hcy hyo hxb
            have c0 := F3.out.h0.cell 0 _ rfl; have c1 := F3.out.h0.cell 1 _ rfl; have c2 := F3.out.h0.cell 2 _ rfl; have e0 := F3.out.h1.cell 0 _ rfl; have e1 := F3.out.h1.cell 1 _ rfl
            have x0 := V3.out.has.cell 0 _ rfl; have x1 := V3.out.has.cell 1 _ rfl
            have vge := V3.out.ge
            generalize eitherYP on W (m, o) lines k = X at *
            have q0 : (0 : Int) ≤ (k : Int) := by omega
            have q1 : (k : Int) < ((len' - 1 : Nat) : Int) := by omega
            have F4 := Lib.hid F3.out.drew
            go_upto_region 7 with fail
            clear cy
            refine hd_start 7 (fun w' => w'.cell? ⟨w.heap.size, 0, none⟩ = some (.int .i64 on) ∧ w'.cell? ⟨w.heap.size, 1, none⟩ = some (.int .i64 W) ∧ w'.cell? ⟨w.heap.size, 2, none⟩ = some (.int .i64 L) ∧ w'.cell? ⟨w.heap.size + 1, 0, none⟩ = some (.slice a on cap) ∧ w'.cell? ⟨w.heap.size + 1, 1, none⟩ = some (.slice oa on oc) ∧ w'.cell? ⟨ob, 0, none⟩ = some (.slice na on nc) ∧ w'.cell? ⟨ob, 1, none⟩ = some (.slice no on noc)) (by kernel_rfl) ⟨by kernel_rfl, by kernel_rfl, by kernel_rfl, by decide⟩ (by refine ⟨c0, c1, c2, e0, e1, x0, x1⟩) (fun ok => ?_)
            refine hd_take_l (i := 0) (v := ?_) ok rfl (by decide) (by kernel_rfl) (by kernel_rfl) (fun _ _ _ h => h) (Or.inl ⟨by kernel_rfl, ?_⟩) ?_
            rotate_left
            · (intro w hSw; (try dsimp only at hSw); (try go_split_ands); go_simp; (try (with_reducible rfl)))
            go_frame
            refine hd_take_l (i := 1) (v := ?_) ok rfl (by decide) (by kernel_rfl) (by kernel_rfl) (fun _ _ _ h => h) (Or.inl ⟨by kernel_rfl, ?_⟩) ?_
            rotate_left
            · (intro w hSw; (try dsimp only at hSw); (try go_split_ands); go_simp; (try (with_reducible rfl)))
            go_frame
            refine hd_take_l (i := 2) (v := ?_) ok rfl (by decide) (by kernel_rfl) (by kernel_rfl) (fun _ _ _ h => h) (Or.inl ⟨by kernel_rfl, ?_⟩) ?_
            rotate_left
            · (intro w hSw; (try dsimp only at hSw); (try go_split_ands); go_simp; (try (with_reducible rfl)))
            go_frame
            refine hd_take_l (i := 3) (v := ?_) ok rfl (by decide) (by kernel_rfl) (by kernel_rfl) (fun _ _ _ h => h) (Or.inl ⟨by kernel_rfl, ?_⟩) ?_
            rotate_left
            · (intro w hSw; (try dsimp only at hSw); (try go_split_ands); go_simp; (try (with_reducible rfl)))
            go_frame
            refine hd_take_l (i := 4) (v := ?_) ok rfl (by decide) (by kernel_rfl) (by kernel_rfl) (fun _ _ _ h => h) (Or.inl ⟨by kernel_rfl, ?_⟩) ?_
            rotate_left
            · (intro w hSw; (try dsimp only at hSw); (try go_split_ands); go_simp; (try (with_reducible rfl)))
            go_frame
            refine hd_only_l (c := 5) rfl (by decide) (by kernel_rfl) (fun K hK => ?_)
            go_simp
            go_at_call 14
            refine (TY.out _ F4.out.below).mono ?_
            rintro e w5 hr5
            obtain ⟨ta, tc, pa, pc, g1, g2, rfl, ho5, hb5⟩ := YRet.fix hr5 SY.out.len SY.out.olen
            have s5 := hb5.size
            simp only [World.size_drew] at s5
            have F5 := Lib.hid (Fm.call hb5 F4.out)
            have V5 := Lib.hid (V3.out.below ((Below.refl _ _).drew.trans hb5))
            have T5 := Lib.hid ho5
            clear c0 c1 c2 e0 e1 x0 x1 hr5 ho5 hb5
            have c0 := F5.out.h0.cell 0 _ rfl; have c1 := F5.out.h0.cell 1 _ rfl; have c2 := F5.out.h0.cell 2 _ rfl; have e0 := F5.out.h1.cell 0 _ rfl; have e1 := F5.out.h1.cell 1 _ rfl
            have x0 := V5.out.has.cell 0 _ rfl; have x1 := V5.out.has.cell 1 _ rfl
            (try simp only [])
            refine hK _ _ (by refine ⟨?_, ?_, ?_, ?_, ?_, ?_, ?_⟩ <;> (first | exact c0 | exact c1 | exact c2 | exact e0 | exact e1 | exact x0 | exact x1)) ?_
            clear hK K
            (try go_frame)

            refine hd_only_l (c := 6) rfl (by decide) (by kernel_rfl) (fun K hK => ?_)
            go_simp
            go_at_call 19
            refine (yjoin_any U hU on W L hC.out X.1 (touchYm on W m o y) X.2 (touchYo on W m o y) SX.out SY.out (fun _ => True) (fun _ => True) na on nc no on noc ta on tc pa on pc w5 (V5.out.own.ycub (fun _ _ _ => trivial)) (T5.out.ycub (fun _ _ _ => trivial))).mono ?_
            rintro e w6 hr6
            obtain ⟨ja, jc, ia, ic, d1, d2, rfl, ho6, hb6⟩ := YRet.fix hr6 joinYm_len joinYo_len
            have F6 := Lib.hid (Fm.call hb6 F5.out)
            have V6 := Lib.hid (V5.out.below hb6)
            have J6 := Lib.hid (show OY w6 w5.heap.size d1 d2 ja on jc ia on ic (eitherYP on W (m, o) lines (k + 1)).1 (eitherYP on W (m, o) lines (k + 1)).2 by rw [EY.out]; exact ho6)
            have vl5 := V5.out.lt
            clear c0 c1 c2 e0 e1 x0 x1 hr6 ho6 hb6
            have c0 := F6.out.h0.cell 0 _ rfl; have c1 := F6.out.h0.cell 1 _ rfl; have c2 := F6.out.h0.cell 2 _ rfl; have e0 := F6.out.h1.cell 0 _ rfl; have e1 := F6.out.h1.cell 1 _ rfl
            have x0 := V6.out.has.cell 0 _ rfl; have x1 := V6.out.has.cell 1 _ rfl
            (try simp only [])
            refine hK _ _ (by refine ⟨?_, ?_, ?_, ?_, ?_, ?_, ?_⟩ <;> (first | exact c0 | exact c1 | exact c2 | exact e0 | exact e1 | exact x0 | exact x1)) ?_
            clear hK K
            (try go_frame)
            have xf := V6.out.has.free; have xl := V6.out.lt
            clear ok c0 c1 c2 e0 e1
            refine hd_done (by kernel_rfl) ?_
            simp only [List.drop_succ_cons, List.drop_zero]
            go_wp2
            go_roundw
            case rel => exact ⟨k + 1, by omega, by go_num, ⟨_, _, _, _, _, _, YVr.set V6.out J6.out vl5 (by omega)⟩, (F6.out.far (p := ⟨ob, 0, none⟩) (.inr (by simp; omega)) _).far (p := ⟨ob, 1, none⟩) (.inr (by simp; omega)) _⟩
            case measure => simp [intOf]; omega
          · have hkl : k = len' - 1 := by omega
            subst hkl
            rw [← EM.out] at V3
            have x0 := V3.out.has.cell 0 _ rfl; have x1 := V3.out.has.cell 1 _ rfl; have xl := V3.out.lt
            have e0 := F3.out.h2.cell 0 _ rfl; have e1 := F3.out.h2.cell 1 _ rfl; have ef := F3.out.h2.free; have lt1 := F3.out.h2.lt (by simp)
            go_wp2
            refine bodyPost_ret (v := YV na on nc no on noc) (by simp [results, Try.results24, go_sem, e0, e1]) rfl ⟨na, on, nc, no, on, noc, f1, f2, rfl, OY.ge (OY.two V3.out.own (show w.heap.size + 2 < w.heap.size + 3 by omega) (Nat.le_refl _)) (by omega), ((F3.out.set 2 0 _ rfl (by simp) _).set 2 1 _ rfl (by simp) _).below⟩
end Go.Proofs.Ytlpelpjcbclemaa
