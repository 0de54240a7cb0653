/-
  timeboundmake2.Terms, and what its lists are in memory.
-/
import Derived.Test.YtdegpgonphgbcaaZSxQ
import Derived.Test.YtdegpgonphgbcaaDeck
namespace Go.Proofs.Ytdegpgonphgbcaa
open Go.RowKit

theorem But.chg {d : Nat} {w w' : World} (h : But d w w') : Chg (fun k => k = d) w w' := ⟨h.os, h.tape, h.output, h.size, fun k hk hm => h.block k hk hm⟩
theorem Chg.but {d : Nat} {w w' : World} (h : Chg (fun k => k = d) w w') : But d w w' := ⟨h.os, h.tape, h.output, h.size, fun k hk hm => h.block k hk hm⟩
theorem Deck.chg {M : Nat → Prop} {w w' : World} {d : Nat} (h : Deck w d) (k : Chg M w w') (hM : ∀ j, j < w.heap.size → j ≤ d → ¬ M j) : Deck w' d := by
  have hd := h.lt
  obtain ⟨a, len, cap, zs, i, h1, h2, h3, h4⟩ := h
  refine ⟨a, len, cap, zs, i, ?_, h2, k.has h3 hd (hM d hd (Nat.le_refl _)), h4⟩
  rcases h1 with h1 | ⟨x, rfl, k1, k2, k3, k4, k5⟩
  · exact .inl h1
  · refine .inr ⟨x, rfl, k1, k2, k3, fun j hj => ?_, k5⟩
    have hx := h2 x rfl (by omega)
    exact (World.cell?_of_block (w := w) (a := x.add j) (by rw [add_block]; exact k.block _ (by omega) (hM _ (by omega) (by omega)))).trans (k4 j hj)
def tcs (l : List (Int × Int)) : List Value := l.flatMap fun t => [.int .i64 t.1, .int .i64 t.2]
theorem tcs_length (l : List (Int × Int)) : (tcs l).length = l.length * 2 := by
  induction l with
  | nil => rfl
  | cons x l ih => unfold tcs at ih ⊢; rw [List.flatMap_cons, List.length_append, ih]; simp; omega
theorem tcs_append (l m : List (Int × Int)) : tcs (l ++ m) = tcs l ++ tcs m := by unfold tcs; rw [List.flatMap_append]
theorem tcs_get : ∀ {l : List (Int × Int)} {i : Nat} {t : Int × Int}, l[i]? = some t → (tcs l)[i * 2]? = some (.int .i64 t.1) ∧ (tcs l)[i * 2 + 1]? = some (.int .i64 t.2)
  | [], i, x, h => by simp at h
  | y :: l, 0, x, h => by cases h; exact ⟨rfl, rfl⟩
  | y :: l, i + 1, x, h => by
    have h2 : l[i]? = some x := h
    have := tcs_get h2
    have e : tcs (y :: l) = [.int .i64 y.1, .int .i64 y.2] ++ tcs l := by unfold tcs; rw [List.flatMap_cons]
    rw [e, List.getElem?_append_right (by simp; omega), List.getElem?_append_right (by simp; omega)]
    simp only [List.length_cons, List.length_nil]
    rw [show (i + 1) * 2 - (0 + 1 + 1) = i * 2 by omega, show (i + 1) * 2 + 1 - (0 + 1 + 1) = i * 2 + 1 by omega]
    exact this
theorem info_tm : (Try.prog.info? 56).map (fun i => (i.zero, i.size, i.bytes)) = some (some (.agg #[.int .i64 0, .int .i64 0]), 2, 16) := by kernel_rfl
/-- A list of terms under construction is read as one. -/
theorem tm_read {w : World} {B n c : Nat} {a : Option Addr} {l : List (Int × Int)} (h : w.ownsRow B 56 2 (.slice a n c) n (tcs l)) (hl : l.length = n) (h9 : n ≤ 17592186044416) : Row RTm 2 (fun k => B ≤ k ∧ k < w.heap.size) w a n c l := by
  obtain ⟨h1, h2, h3⟩ := flat_len h
  refine ⟨hl, h2, by unfold maxLen at h3; omega, h9, fun i t ht => ?_⟩
  have hi := (List.getElem?_eq_some_iff.1 ht).1
  obtain ⟨g, rfl, hg, hgl, _, _, _, hc⟩ := flat_cells h (by omega)
  have := tcs_get ht
  exact ⟨g, 0, rfl, ⟨hg, hgl⟩, hgl, by rw [Nat.zero_add]; exact hc _ _ this.1, by rw [Nat.zero_add]; exact hc _ _ this.2⟩
/-- The terms made for the first k columns. -/
def TmOk (l : List (Int × Int)) (k : Int) : Prop := TermsOk l k 9 l.length
theorem TmOk.nil : TmOk [] 0 := fun _i _t h => absurd h (Nat.not_lt_zero _)
theorem TmOk.up {l : List (Int × Int)} {k m : Int} (h : TmOk l k) (hm : k ≤ m) : TmOk l m := fun i t hi ht => by
  obtain ⟨h1, h2, h3⟩ := h i t hi ht
  exact ⟨h1, by omega, h3⟩
theorem TmOk.snoc {l : List (Int × Int)} {k n : Int} (h : TmOk l k) (hk : 0 ≤ k) (hn : n ≠ 0) (h0 : -9 ≤ n) (h1 : n ≤ 9) : TmOk (l ++ [(k, n)]) (k + 1) := by
  intro i t hi ht
  rw [List.length_append, List.length_singleton] at hi
  by_cases e : i < l.length
  · rw [List.getElem?_append_left e] at ht
    obtain ⟨a, b, c, d⟩ := h i t e ht
    refine ⟨a, by omega, fun p s hp hs => ?_, d⟩
    rw [List.getElem?_append_left (by omega)] at hs
    exact c p s hp hs
  · have e2 : i = l.length := by omega
    subst e2
    rw [List.getElem?_append_right (Nat.le_refl _), Nat.sub_self] at ht
    cases ht
    refine ⟨hk, by show k < k + 1; omega, fun p s hp hs => ?_, hn, h0, h1⟩
    rw [List.getElem?_append_left (by omega)] at hs
    exact (h p s (by omega) hs).2.1
def TmRet (d : Nat) (cols : Int) (w : World) (e : Ending) (w' : World) : Prop := ∃ v l, e = .returned v ∧ w'.ownsRow w.heap.size 56 2 v l.length (tcs l) ∧ TmOk l cols ∧ l.length ≤ cols.toNat ∧ Deck w' d ∧ But d w w'
set_option maxHeartbeats 4000000 in
theorem mterms_any (d cols : Nat) (hc : cols ≤ 1000) (w : World) (hd : Deck w d) : Calls Try.prog 18 #[.pointer (some ⟨d, 0, none⟩), .int .i64 cols] w (TmRet d cols w) := by
  have HD := Lib.hid hd
  have HLT := Lib.hid hd.lt
  clear hd
  go_enter Try.func18, Try.ntmps18
  go_wp2
  go_loopw [6, 5] (fun s v wr => ∃ (k : Nat) (l : List (Int × Int)), k ≤ cols ∧ s = .int .i64 k ∧ wr.ownsRow w.heap.size 56 2 v l.length (tcs l) ∧ TmOk l k ∧ l.length ≤ k ∧ Deck wr d ∧ But d w wr) (fun s _ _ => cols - (intOf s).toNat)
  case atStart => exact ⟨0, [], Nat.zero_le _, rfl, World.ownsRow_nil _ _ _ _, TmOk.nil, Nat.le_refl _, HD.out, But.of_below (Below.refl _ _)⟩
  case round =>
    obtain ⟨k, l, hk, rfl, ho, ht, hl, hdk, hbt⟩ := hrel
    obtain ⟨a, c, rfl⟩ := flat_form ho
    have OW := Lib.hid ho; have TO := Lib.hid ht; have BT := Lib.hid hbt; have HL := Lib.hid hl
    clear ho ht hbt
    by_cases hlt : k < cols
    · go_wp2_with fail
      refine (next_any d 19 (by omega) (by omega) _ hdk).mono ?_
      rintro e w1 ⟨r1, rfl, a1, b1, hd1, hb1⟩
      have O1 := Lib.hid (flat_of OW.out hb1.chg (fun x h1 _ e => by have := HLT.out; omega))
      have B1 := Lib.hid (BT.out.trans hb1)
      clear hb1
      obtain ⟨n, hn⟩ : ∃ n : Int, n = r1 - 9 := ⟨_, rfl⟩
      have wn : IntKind.i64.wrap (r1 - 9) = n := by rw [Go.IntWalk.i64_in _ ⟨by omega, by omega⟩]; omega
      have n0 : -9 ≤ n := by omega
      have n1 : n ≤ 9 := by omega
      clear hn a1 b1
      by_cases hz : n = 0
      · subst hz
        have TU := Lib.hid (TO.out.up (m := (k + 1 : Nat)) (by omega))
        have D1 := Lib.hid hd1
        clear hd1
        go_wp2
        go_roundw
        case rel => exact ⟨k + 1, l, by omega, by go_num, O1.out, TU.out, by have := HL.out; omega, D1.out, B1.out⟩
        case measure => simp [intOf]; omega
      · have hzb : (n != 0) = true := by simpa using hz
        have HZ := Lib.hid hz
        clear hz
        go_wp2_with fail
        refine (next_any d 3 (by omega) (by omega) _ hd1).mono ?_
        rintro e w2 ⟨r2, rfl, a2, b2, hd2, hb2⟩
        have O2 := Lib.hid (flat_of O1.out hb2.chg (fun x h1 _ e => by have := HLT.out; omega))
        have B2 := Lib.hid (B1.out.trans hb2)
        have D2 := Lib.hid hd2
        clear hb2 hd1 hd2
        by_cases hr : 0 < r2
        · obtain ⟨w3, hw3⟩ : ∃ w3, w3 = w2.alloc (.cells #[.int .i64 k, .int .i64 n] 56) := ⟨_, rfl⟩
          have A3 := Lib.hid (show Below w2.heap.size w2 w3 by rw [hw3]; exact (Below.refl _ _).alloc (Nat.le_refl _) _)
          have N3 := Lib.hid (show Blk w3 w2.heap.size 56 (tcs [((k : Int), n)]) by rw [hw3]; exact Blk.new w2 _ _)
          have O3 := Lib.hid (flat_below O2.out A3.out)
          have HW3 := Lib.hid hw3
          have B3 := Lib.hid (B2.out.trans (But.of_below A3.out))
          have D3 := Lib.hid (D2.out.below A3.out (Nat.le_refl _))
          clear hw3
          go_wp2_with (at_builtin; rw [← HW3.out]; refine wpList_append_flat rfl (.tmp 23) (.tmp 27) 26 rfl 56 Try.underlying26 info_tm rfl (by decide) O3.out rfl (Nat.le_trans B2.out.size A3.out.size) ⟨w2.heap.size, 0, none⟩ 1 1 (tcs [((k : Int), n)]) rfl rfl (fun j u hu => by rw [Addr.add_lit, Nat.zero_add]; exact N3.out.cell hu) (by simp [tcs, Value.oneCell']) (by decide) (by have := HL.out; omega) (by decide) ?_; intro g cap w4 hap)
          have P := Lib.hid (show w4.ownsRow w.heap.size 56 2 (.slice (some ⟨g, 0, none⟩) (l.length + 1) cap) (l ++ [((k : Int), n)]).length (tcs (l ++ [((k : Int), n)])) ∧ Deck w4 d ∧ But d w w4 from by
            have ho := hap.out.owns
            rw [← tcs_append] at ho
            refine ⟨by rw [List.length_append]; exact ho, D3.out.chg hap.out.chg (fun j _ hj e => ?_), (B3.out.chg.trans hap.out.chg (fun x hx e => ?_)).but⟩
            · have := (O3.out.lt j e).1; have := HLT.out; omega
            · have := (O3.out.lt x e).1; omega)
          have TS := Lib.hid (TO.out.snoc (by omega) HZ.out n0 n1)
          clear hap
          go_wp2
          go_roundw
          case rel => exact ⟨k + 1, l ++ [((k : Int), n)], by omega, by go_num, by have := P.out.1; rwa [List.length_append] at this ⊢, TS.out, by have := HL.out; rw [List.length_append]; show l.length + 1 ≤ k + 1; omega, P.out.2.1, P.out.2.2⟩
          case measure => simp [intOf]; omega
        · have TU := Lib.hid (TO.out.up (m := (k + 1 : Nat)) (by omega))
          go_wp2
          go_roundw
          case rel => exact ⟨k + 1, l, by omega, by go_num, O2.out, TU.out, by have := HL.out; omega, D2.out, B2.out⟩
          case measure => simp [intOf]; omega
    · obtain rfl : k = cols := by omega
      have DK := Lib.hid hdk
      clear hdk
      go_wp2
      go_ret
      exact ⟨_, l, rfl, OW.out, TO.out, by rw [Int.toNat_natCast]; exact HL.out, DK.out, BT.out⟩
end Go.Proofs.Ytdegpgonphgbcaa
