/-
  timeboundmake2.Terms, and what its lists are in memory.
  timeboundmake2.Model: a small model.
-/
import Derived.Test.YtdegpgonphgbcaaZSxO
import Derived.Test.YtdegpgonphgbcaaDeck
import Derived.Test.YtdegpgonphgbcaaHeadq
namespace Go.Proofs.Ytdegpgonphgbcaa
open Go.RowKit

theorem But.chg {d : Nat} {w w' : World} (h : But d w w') : Chg (fun k => k = d) w w' := ⟨h.os, h.tape, h.output, h.size, fun k hk hm => h.block k hk hm⟩
theorem Chg.but {d : Nat} {w w' : World} (h : Chg (fun k => k = d) w w') : But d w w' := ⟨h.os, h.tape, h.output, h.size, fun k hk hm => h.block k hk hm⟩
theorem Deck.chg {M : Nat → Prop} {w w' : World} {d : Nat} (h : Deck w d) (k : Chg M w w') (hM : ∀ j, j < w.heap.size → j ≤ d → ¬ M j) : Deck w' d := by
  have hd := h.lt
  obtain ⟨a, len, cap, zs, i, h1, h2, h3, h4⟩ := h
  refine ⟨a, len, cap, zs, i, ?_, h2, k.has h3 hd (hM d hd (Nat.le_refl _)), h4⟩
  rcases h1 with h1 | ⟨x, rfl, k1, k2, k3, k4, k5⟩
  · exact .inl h1
  · refine .inr ⟨x, rfl, k1, k2, k3, fun j hj => ?_, k5⟩
    have hx := h2 x rfl (by omega)
    exact (World.cell?_of_block (w := w) (a := x.add j) (by rw [add_block]; exact k.block _ (by omega) (hM _ (by omega) (by omega)))).trans (k4 j hj)
def tcs (l : List (Int × Int)) : List Value := l.flatMap fun t => [.int .i64 t.1, .int .i64 t.2]
theorem tcs_length (l : List (Int × Int)) : (tcs l).length = l.length * 2 := by
  induction l with
  | nil => rfl
  | cons x l ih => unfold tcs at ih ⊢; rw [List.flatMap_cons, List.length_append, ih]; simp; omega
theorem tcs_append (l m : List (Int × Int)) : tcs (l ++ m) = tcs l ++ tcs m := by unfold tcs; rw [List.flatMap_append]
theorem tcs_get : ∀ {l : List (Int × Int)} {i : Nat} {t : Int × Int}, l[i]? = some t → (tcs l)[i * 2]? = some (.int .i64 t.1) ∧ (tcs l)[i * 2 + 1]? = some (.int .i64 t.2)
  | [], i, x, h => by simp at h
  | y :: l, 0, x, h => by cases h; exact ⟨rfl, rfl⟩
  | y :: l, i + 1, x, h => by
    have h2 : l[i]? = some x := h
    have := tcs_get h2
    have e : tcs (y :: l) = [.int .i64 y.1, .int .i64 y.2] ++ tcs l := by unfold tcs; rw [List.flatMap_cons]
    rw [e, List.getElem?_append_right (by simp; omega), List.getElem?_append_right (by simp; omega)]
    simp only [List.length_cons, List.length_nil]
    rw [show (i + 1) * 2 - (0 + 1 + 1) = i * 2 by omega, show (i + 1) * 2 + 1 - (0 + 1 + 1) = i * 2 + 1 by omega]
    exact this
theorem info_tm : (Try.prog.info? 56).map (fun i => (i.zero, i.size, i.bytes)) = some (some (.agg #[.int .i64 0, .int .i64 0]), 2, 16) := by kernel_rfl
/-- A list of terms under construction is read as one. -/
theorem tm_read {w : World} {B n c : Nat} {a : Option Addr} {l : List (Int × Int)} (h : w.ownsRow B 56 2 (.slice a n c) n (tcs l)) (hl : l.length = n) (h9 : n ≤ 17592186044416) : Row RTm 2 (fun k => B ≤ k ∧ k < w.heap.size) w a n c l := by
  obtain ⟨h1, h2, h3⟩ := flat_len h
  refine ⟨hl, h2, by unfold maxLen at h3; omega, h9, fun i t ht => ?_⟩
  have hi := (List.getElem?_eq_some_iff.1 ht).1
  obtain ⟨g, rfl, hg, hgl, _, _, _, hc⟩ := flat_cells h (by omega)
  have := tcs_get ht
  exact ⟨g, 0, rfl, ⟨hg, hgl⟩, hgl, by rw [Nat.zero_add]; exact hc _ _ this.1, by rw [Nat.zero_add]; exact hc _ _ this.2⟩
/-- The terms made for the first k columns. -/
def TmOk (l : List (Int × Int)) (k : Int) : Prop := TermsOk l k 9 l.length
theorem TmOk.nil : TmOk [] 0 := fun _i _t h => absurd h (Nat.not_lt_zero _)
theorem TmOk.up {l : List (Int × Int)} {k m : Int} (h : TmOk l k) (hm : k ≤ m) : TmOk l m := fun i t hi ht => by
  obtain ⟨h1, h2, h3⟩ := h i t hi ht
  exact ⟨h1, by omega, h3⟩
theorem TmOk.snoc {l : List (Int × Int)} {k n : Int} (h : TmOk l k) (hk : 0 ≤ k) (hn : n ≠ 0) (h0 : -9 ≤ n) (h1 : n ≤ 9) : TmOk (l ++ [(k, n)]) (k + 1) := by
  intro i t hi ht
  rw [List.length_append, List.length_singleton] at hi
  by_cases e : i < l.length
  · rw [List.getElem?_append_left e] at ht
    obtain ⟨a, b, c, d⟩ := h i t e ht
    refine ⟨a, by omega, fun p s hp hs => ?_, d⟩
    rw [List.getElem?_append_left (by omega)] at hs
    exact c p s hp hs
  · have e2 : i = l.length := by omega
    subst e2
    rw [List.getElem?_append_right (Nat.le_refl _), Nat.sub_self] at ht
    cases ht
    refine ⟨hk, by show k < k + 1; omega, fun p s hp hs => ?_, hn, h0, h1⟩
    rw [List.getElem?_append_left (by omega)] at hs
    exact (h p s (by omega) hs).2.1
def TmRet (d : Nat) (cols : Int) (w : World) (e : Ending) (w' : World) : Prop := ∃ v l, e = .returned v ∧ w'.ownsRow w.heap.size 56 2 v l.length (tcs l) ∧ TmOk l cols ∧ l.length ≤ cols.toNat ∧ Deck w' d ∧ But d w w'
set_option maxHeartbeats 4000000 in
theorem mterms_any (d cols : Nat) (hc : cols ≤ 1000) (w : World) (hd : Deck w d) : Calls Try.prog 18 #[.pointer (some ⟨d, 0, none⟩), .int .i64 cols] w (TmRet d cols w) := by
  have HD := Lib.hid hd
  have HLT := Lib.hid hd.lt
  clear hd
  go_enter Try.func18, Try.ntmps18
  go_wp2
  go_loopw [6, 5] (fun s v wr => ∃ (k : Nat) (l : List (Int × Int)), k ≤ cols ∧ s = .int .i64 k ∧ wr.ownsRow w.heap.size 56 2 v l.length (tcs l) ∧ TmOk l k ∧ l.length ≤ k ∧ Deck wr d ∧ But d w wr) (fun s _ _ => cols - (intOf s).toNat)
  case atStart => exact ⟨0, [], Nat.zero_le _, rfl, World.ownsRow_nil _ _ _ _, TmOk.nil, Nat.le_refl _, HD.out, But.of_below (Below.refl _ _)⟩
  case round =>
    obtain ⟨k, l, hk, rfl, ho, ht, hl, hdk, hbt⟩ := hrel
    obtain ⟨a, c, rfl⟩ := flat_form ho
    have OW := Lib.hid ho; have TO := Lib.hid ht; have BT := Lib.hid hbt; have HL := Lib.hid hl
    clear ho ht hbt
    by_cases hlt : k < cols
    · go_wp2_with fail
      refine (next_any d 19 (by omega) (by omega) _ hdk).mono ?_
      rintro e w1 ⟨r1, rfl, a1, b1, hd1, hb1⟩
      have O1 := Lib.hid (flat_of OW.out hb1.chg (fun x h1 _ e => by have := HLT.out; omega))
      have B1 := Lib.hid (BT.out.trans hb1)
      clear hb1
      obtain ⟨n, hn⟩ : ∃ n : Int, n = r1 - 9 := ⟨_, rfl⟩
      have wn : IntKind.i64.wrap (r1 - 9) = n := by rw [Go.IntWalk.i64_in _ ⟨by omega, by omega⟩]; omega
      have n0 : -9 ≤ n := by omega
      have n1 : n ≤ 9 := by omega
      clear hn a1 b1
      by_cases hz : n = 0
      · subst hz
        have TU := Lib.hid (TO.out.up (m := (k + 1 : Nat)) (by omega))
        have D1 := Lib.hid hd1
        clear hd1
        go_wp2
        go_roundw
        case rel => exact ⟨k + 1, l, by omega, by go_num, O1.out, TU.out, by have := HL.out; omega, D1.out, B1.out⟩
        case measure => simp [intOf]; omega
      · have hzb : (n != 0) = true := by simpa using hz
        have HZ := Lib.hid hz
        clear hz
        go_wp2_with fail
        refine (next_any d 3 (by omega) (by omega) _ hd1).mono ?_
        rintro e w2 ⟨r2, rfl, a2, b2, hd2, hb2⟩
        have O2 := Lib.hid (flat_of O1.out hb2.chg (fun x h1 _ e => by have := HLT.out; omega))
        have B2 := Lib.hid (B1.out.trans hb2)
        have D2 := Lib.hid hd2
        clear hb2 hd1 hd2
        by_cases hr : 0 < r2
        · obtain ⟨w3, hw3⟩ : ∃ w3, w3 = w2.alloc (.cells #[.int .i64 k, .int .i64 n] 56) := ⟨_, rfl⟩
          have A3 := Lib.hid (show Below w2.heap.size w2 w3 by rw [hw3]; exact (Below.refl _ _).alloc (Nat.le_refl _) _)
          have N3 := Lib.hid (show Blk w3 w2.heap.size 56 (tcs [((k : Int), n)]) by rw [hw3]; exact Blk.new w2 _ _)
          have O3 := Lib.hid (flat_below O2.out A3.out)
          have HW3 := Lib.hid hw3
          have B3 := Lib.hid (B2.out.trans (But.of_below A3.out))
          have D3 := Lib.hid (D2.out.below A3.out (Nat.le_refl _))
          clear hw3
          go_wp2_with (at_builtin; rw [← HW3.out]; refine wpList_append_flat rfl (.tmp 23) (.tmp 27) 26 rfl 56 Try.underlying26 info_tm rfl (by decide) O3.out rfl (Nat.le_trans B2.out.size A3.out.size) ⟨w2.heap.size, 0, none⟩ 1 1 (tcs [((k : Int), n)]) rfl rfl (fun j u hu => by rw [Addr.add_lit, Nat.zero_add]; exact N3.out.cell hu) (by simp [tcs, Value.oneCell']) (by decide) (by have := HL.out; omega) (by decide) ?_; intro g cap w4 hap)
          have P := Lib.hid (show w4.ownsRow w.heap.size 56 2 (.slice (some ⟨g, 0, none⟩) (l.length + 1) cap) (l ++ [((k : Int), n)]).length (tcs (l ++ [((k : Int), n)])) ∧ Deck w4 d ∧ But d w w4 from by
            have ho := hap.out.owns
            rw [← tcs_append] at ho
            refine ⟨by rw [List.length_append]; exact ho, D3.out.chg hap.out.chg (fun j _ hj e => ?_), (B3.out.chg.trans hap.out.chg (fun x hx e => ?_)).but⟩
            · have := (O3.out.lt j e).1; have := HLT.out; omega
            · have := (O3.out.lt x e).1; omega)
          have TS := Lib.hid (TO.out.snoc (by omega) HZ.out n0 n1)
          clear hap
          go_wp2
          go_roundw
          case rel => exact ⟨k + 1, l ++ [((k : Int), n)], by omega, by go_num, by have := P.out.1; rwa [List.length_append] at this ⊢, TS.out, by have := HL.out; rw [List.length_append]; show l.length + 1 ≤ k + 1; omega, P.out.2.1, P.out.2.2⟩
          case measure => simp [intOf]; omega
        · have TU := Lib.hid (TO.out.up (m := (k + 1 : Nat)) (by omega))
          go_wp2
          go_roundw
          case rel => exact ⟨k + 1, l, by omega, by go_num, O2.out, TU.out, by have := HL.out; omega, D2.out, B2.out⟩
          case measure => simp [intOf]; omega
    · obtain rfl : k = cols := by omega
      have DK := Lib.hid hdk
      clear hdk
      go_wp2
      go_ret
      exact ⟨_, l, rfl, OW.out, TO.out, by rw [Int.toNat_natCast]; exact HL.out, DK.out, BT.out⟩
end Go.Proofs.Ytdegpgonphgbcaa
namespace Go.Proofs.Ytdegpgonphgbcaa
open Go.RowKit

theorem own_set {w : World} {B : Nat} {e : TypeId} {sz g n cap : Nat} {xs : List Value} (h : w.ownsRow B e sz (.slice (some ⟨g, 0, none⟩) n cap) n xs) (k : Nat) (u : Value) : (w.setCell ⟨g, k, none⟩ u).ownsRow B e sz (.slice (some ⟨g, 0, none⟩) n cap) n (xs.set k u) := by
  refine ⟨by rw [List.length_set]; exact h.1, ?_⟩
  rcases h.2 with ⟨h1, _⟩ | ⟨g', cap', cur, h1, h2, h3, h4, h5, h6, h7⟩
  · cases h1
  · cases h1
    have hb : Blk w g e cur.toList := by unfold Blk; rw [Array.toArray_toList]; exact h3
    refine .inr ⟨g, cap, (cur.toList.set k u).toArray, rfl, h2, hb.set k u, h4, h5, by simpa using h6, ?_⟩
    rw [List.toList_toArray, List.take_set, h7]
theorem tcs_set {l : List (Int × Int)} {i : Nat} {a b z : Int} (h : l[i]? = some (a, b)) : (tcs l).set (i * 2 + 1) (.int .i64 z) = tcs (l.set i (a, z)) := by
  induction l generalizing i with
  | nil => simp at h
  | cons y l ih =>
    have e : ∀ (y : Int × Int) (l : List (Int × Int)), tcs (y :: l) = .int .i64 y.1 :: .int .i64 y.2 :: tcs l := fun y l => by unfold tcs; rw [List.flatMap_cons]; rfl
    cases i with
    | zero => cases h; rw [List.set_cons_zero, e, e]; rfl
    | succ i =>
      rw [List.set_cons_succ, e, e, ← ih (by simpa using h), show (i + 1) * 2 + 1 = i * 2 + 1 + 1 + 1 by omega]
      simp only [List.set_cons_succ]
def absT (t : Int × Int) : Int × Int := (t.1, max t.2 (-t.2))
/-- The first j coefficients without their signs. -/
def absAt (l : List (Int × Int)) (j : Nat) : List (Int × Int) := part (l.map absT) l j
theorem absAt_length (l : List (Int × Int)) (j : Nat) (hj : j ≤ l.length) : (absAt l j).length = l.length := part_length (by simp) hj
theorem absAt_get {l : List (Int × Int)} {j : Nat} {t : Int × Int} (h : l[j]? = some t) : (absAt l j)[j]? = some t := by
  unfold absAt
  rw [part_get (by simp) (List.getElem?_eq_some_iff.1 h).1]; exact h
theorem absAt_succ {l : List (Int × Int)} {j : Nat} {t : Int × Int} (h : l[j]? = some t) : (absAt l j).set j (absT t) = absAt l (j + 1) := part_succ (by simp) (by rw [List.getElem?_map, h]; rfl)
theorem absAt_all (l : List (Int × Int)) : absAt l l.length = l.map absT := part_all (by simp)
theorem TmOk.abs {l : List (Int × Int)} {k : Int} (h : TmOk l k) : TmOk (l.map absT) k := by
  intro i t hi ht
  rw [List.length_map] at hi
  rw [List.getElem?_map] at ht
  obtain ⟨s, hs, rfl⟩ := Option.map_eq_some_iff.1 ht
  obtain ⟨a, b, c, d, e, f⟩ := h i s hi hs
  refine ⟨a, b, fun p s' hp hs' => ?_, ?_, ?_, ?_⟩
  · rw [List.getElem?_map] at hs'
    obtain ⟨q, hq, rfl⟩ := Option.map_eq_some_iff.1 hs'
    exact c p q hp hq
  all_goals (unfold absT; dsimp only; omega)
def rcs (us : List Value) (rows : List (List (Int × Int) × Int)) : List Value := (us.zip rows).flatMap fun p => [p.1, .int .i64 p.2.2]
theorem rcs_snoc {us : List Value} {rows : List (List (Int × Int) × Int)} (h : us.length = rows.length) (u : Value) (x : List (Int × Int) × Int) : rcs (us ++ [u]) (rows ++ [x]) = rcs us rows ++ [u, .int .i64 x.2] := by
  unfold rcs
  rw [List.zip_append h, List.flatMap_append]; rfl
theorem rcs_get : ∀ {us : List Value} {rows : List (List (Int × Int) × Int)} {i : Nat} {u : Value} {x : List (Int × Int) × Int}, us[i]? = some u → rows[i]? = some x → (rcs us rows)[i * 2]? = some u ∧ (rcs us rows)[i * 2 + 1]? = some (.int .i64 x.2)
  | [], _, i, _, _, h, _ => by simp at h
  | _ :: _, [], i, _, _, _, h => by simp at h
  | u :: us, x :: rows, 0, _, _, h, h' => by cases h; cases h'; exact ⟨rfl, rfl⟩
  | v :: us, y :: rows, i + 1, u, x, h, h' => by
    have := rcs_get (us := us) (rows := rows) (i := i) (u := u) (x := x) h h'
    have e : rcs (v :: us) (y :: rows) = v :: .int .i64 y.2 :: rcs us rows := rfl
    rw [e, show (i + 1) * 2 = i * 2 + 1 + 1 by omega]
    exact this
theorem info_rw : (Try.prog.info? 50).map (fun i => (i.zero, i.size, i.bytes)) = some (some (.agg #[.slice none 0 0, .int .i64 0]), 2, 32) := by kernel_rfl
/-- The model while it is made: in the block P. -/
structure ModJ (B d P : Nat) (w0 wr : World) (cols : Nat) (c0 : Int) (vR vG : Value) (goal : List (Int × Int)) (us : List Value) (rows : List (List (Int × Int) × Int)) : Prop where
  pb : Blk wr P 28 [.int .i64 cols, vR, vG, .int .i64 c0]
  hR : wr.ownsRow B 50 2 vR rows.length (rcs us rows)
  hG : wr.ownsRow B 56 2 vG goal.length (tcs goal)
  t4 : Blk wr B 28 [.int .i64 0, .slice none 0 0, .slice none 0 0, .int .i64 0]
  ul : us.length = rows.length
  row : ∀ (i : Nat) (u : Value) (x : List (Int × Int) × Int), us[i]? = some u → rows[i]? = some x → wr.ownsRow B 56 2 u x.1.length (tcs x.1)
  ok : ∀ x ∈ rows, TmOk x.1 cols ∧ x.1.length ≤ cols ∧ -10 ≤ x.2 ∧ x.2 ≤ 50
  deck : Deck wr d
  but : But d w0 wr
section
variable {B d P cols : Nat} {w0 wr wy : World} {c0 : Int} {vR vG : Value} {goal : List (Int × Int)} {us : List Value} {rows : List (List (Int × Int) × Int)}
theorem ModJ.but' (h : ModJ B d P w0 wr cols c0 vR vG goal us rows) (hb : But d wr wy) (hd : Deck wy d) (hdB : d < B) (hP : B ≤ P) : ModJ B d P w0 wy cols c0 vR vG goal us rows := by
  have f : ∀ k, B ≤ k → k < wr.heap.size → ¬ k = d := fun k h1 _ e => by omega
  exact ⟨h.pb.chg hb.chg (fun e => by omega), flat_of h.hR hb.chg f, flat_of h.hG hb.chg f, h.t4.chg hb.chg (fun e => by omega), h.ul, fun i u x e1 e2 => flat_of (h.row i u x e1 e2) hb.chg f, h.ok, hd, h.but.trans hb⟩
theorem ModJ.call (h : ModJ B d P w0 wr cols c0 vR vG goal us rows) (hb : Below wr.heap.size wr wy) (hdB : d < B) (hP : B ≤ P) : ModJ B d P w0 wy cols c0 vR vG goal us rows :=
  h.but' (But.of_below hb) (h.deck.below hb (Nat.le_refl _)) hdB hP
/-- What was made since the model stood in wo was changed. -/
theorem ModJ.own (h : ModJ B d P w0 wr cols c0 vR vG goal us rows) {wo : World} (h0 : ModJ B d P w0 wo cols c0 vR vG goal us rows) {M : Nat → Prop} (hc : Chg M wr wy) (hM : ∀ k, M k → wo.heap.size ≤ k) : ModJ B d P w0 wy cols c0 vR vG goal us rows := by
  have low : ∀ k, k < wo.heap.size → ¬ M k := fun k hk e => by have := hM k e; omega
  refine ⟨h.pb.chg hc (low _ h0.pb.lt), ownsRow_of h.hR (fun k hk => hc.block k (h.hR.lt k hk).2 (low k (h0.hR.lt k hk).2)), ownsRow_of h.hG (fun k hk => hc.block k (h.hG.lt k hk).2 (low k (h0.hG.lt k hk).2)), h.t4.chg hc (low _ h0.t4.lt), h.ul,
    fun i u x e1 e2 => ownsRow_of (h.row i u x e1 e2) (fun k hk => hc.block k ((h.row i u x e1 e2).lt k hk).2 (low k ((h0.row i u x e1 e2).lt k hk).2)), h.ok, h.deck.chg hc (fun j hj hl e => ?_), (h.but.chg.trans hc (fun x hx e => ?_)).but⟩
  · have := hM j e; have := h0.deck.lt; omega
  · have := hM x e; have := h0.but.size; omega
/-- Behind the append of a row, and its store. -/
theorem ModJ.push (h : ModJ B d P w0 wr cols c0 vR vG goal us rows) {u : Value} {x : List (Int × Int) × Int} (hu : wr.ownsRow B 56 2 u x.1.length (tcs x.1)) (hx : TmOk x.1 cols ∧ x.1.length ≤ cols ∧ -10 ≤ x.2 ∧ x.2 ≤ 50) (hdB : d < B) (hBP : B < P) (hw : w0.heap.size = B)
    {v : Value} (hap : FApp 50 2 B vR rows.length 1 (rcs us rows) [u, .int .i64 x.2] wr wy v) : ModJ B d P w0 (wy.setCell ⟨P, 1, none⟩ v) cols c0 v vG goal (us ++ [u]) (rows ++ [x]) := by
  have cp : Chg (fun k => k = P) wy (wy.setCell ⟨P, 1, none⟩ v) := Chg.setCell (M := fun k => k = P) (p := ⟨P, 1, none⟩) (Chg.refl wy) (fun _ => rfl) _
  have nt : ∀ {k : Nat} {t : TypeId} {ys : List Value}, Blk wr k t ys → 50 ≠ t → ¬ vR.ownBlock = some k := fun hb ht e => by
    obtain ⟨cs, hc, _⟩ := owns_tag h.hR e
    exact blk_tag hc hb ht rfl
  have ntm : ∀ {v' : Value} {n : Nat} {xs : List Value}, wr.ownsRow B 56 2 v' n xs → wy.ownsRow B 56 2 v' n xs := fun ho => ownsRow_of ho (fun k hk => by
    obtain ⟨cs, hc, _⟩ := owns_tag ho hk
    exact hap.chg.block k (ho.lt k hk).2 (nt hc (by decide)))
  have np : ∀ {v' : Value} {n : Nat} {xs : List Value}, wr.ownsRow B 56 2 v' n xs → (wy.setCell ⟨P, 1, none⟩ v).ownsRow B 56 2 v' n xs := fun ho => ownsRow_of (ntm ho) (fun k hk => by
    obtain ⟨cs, hc, _⟩ := owns_tag ho hk
    exact cp.block k ((ntm ho).lt k hk).2 (fun e => by subst e; exact blk_tag hc h.pb (by decide) rfl))
  have hP := h.pb.chg hap.chg (nt h.pb (by decide))
  refine ⟨(hP.set 1 v).at rfl, ?_, np h.hG, (h.t4.chg hap.chg (nt h.t4 (by decide))).chg cp (fun e => by omega), by simp [h.ul], fun i u' x' e1 e2 => ?_, fun y hy => ?_, (h.deck.chg hap.chg (fun j _ hj e => ?_)).chg cp (fun j _ hj e => by omega), ((h.but.chg.trans hap.chg (fun y hy e => ?_)).trans cp (fun y hy e => by omega)).but⟩
  · have ho := hap.owns
    rw [← rcs_snoc h.ul] at ho
    have hn : (rows ++ [x]).length = rows.length + 1 := by simp
    rw [hn]
    exact ownsRow_of ho (fun k hk => by
      obtain ⟨cs, hc, _⟩ := owns_tag ho hk
      exact cp.block k (ho.lt k hk).2 (fun e => by subst e; exact blk_tag hc hP (by decide) rfl))
  · by_cases e : i < rows.length
    · rw [List.getElem?_append_left (by rw [h.ul]; exact e)] at e1
      rw [List.getElem?_append_left e] at e2
      exact np (h.row i u' x' e1 e2)
    · have hl := (List.getElem?_eq_some_iff.1 e2).1
      rw [List.length_append, List.length_singleton] at hl
      have hi : i = rows.length := by omega
      subst hi
      rw [List.getElem?_append_right (by rw [h.ul]; exact Nat.le_refl _), h.ul, Nat.sub_self] at e1
      rw [List.getElem?_append_right (Nat.le_refl _), Nat.sub_self] at e2
      cases e1; cases e2
      exact np hu
  · rcases List.mem_append.1 hy with h1 | h1
    · exact h.ok y h1
    · rw [List.mem_singleton] at h1; subst h1; exact hx
  · have := (h.hR.lt j e).1; omega
  · have := (h.hR.lt y e).1; omega
theorem ModJ.kept (h : ModJ B d P w0 wr cols c0 vR vG goal us rows) {n m : Nat} {xs news : List Value} {v : Value} (hap : FApp 50 2 B vR n m xs news wr wy v) : Blk wy P 28 [.int .i64 cols, vR, vG, .int .i64 c0] :=
  h.pb.chg hap.chg (fun e => by
    obtain ⟨cs, hc, _⟩ := owns_tag h.hR e
    exact blk_tag hc h.pb (by decide) rfl)
/-- The model's lists are read, behind stores to the result's variable. -/
theorem ModJ.last (h : ModJ B d P w0 wr cols c0 vR vG goal us rows) (hc : Chg (fun k => k = B) wr wy) (h6 : rows.length ≤ 6) (hg : goal.length ≤ 6) (hcl : cols ≤ 6) : ∃ aR cR aG cG, vR = .slice aR rows.length cR ∧ vG = .slice aG goal.length cG ∧ Row RRw 2 (fun k => B ≤ k ∧ k < wy.heap.size) wy aR rows.length cR rows ∧ Row RTm 2 (fun k => B ≤ k ∧ k < wy.heap.size) wy aG goal.length cG goal := by
  have ne : ∀ {k : Nat} {t : TypeId} {ys : List Value}, Blk wr k t ys → t ≠ 28 → k ≠ B := fun hb ht => blk_tag hb h.t4 ht
  have keep : ∀ {v' : Value} {t : TypeId} {sz n : Nat} {xs : List Value}, t ≠ 28 → wr.ownsRow B t sz v' n xs → wy.ownsRow B t sz v' n xs := fun ht ho => ownsRow_of ho (fun k hk => by
    obtain ⟨cs, hcs, _⟩ := owns_tag ho hk
    exact hc.block k (ho.lt k hk).2 (ne hcs ht))
  obtain ⟨aR, cR, rfl⟩ := flat_form h.hR
  obtain ⟨aG, cG, rfl⟩ := flat_form h.hG
  have hR := keep (by decide) h.hR
  obtain ⟨h1, h2, h3⟩ := flat_len hR
  refine ⟨aR, cR, aG, cG, rfl, rfl, ⟨rfl, h2, by unfold maxLen at h3; omega, by omega, fun i x hx => ?_⟩, tm_read (keep (by decide) h.hG) rfl (by omega)⟩
  have hi := (List.getElem?_eq_some_iff.1 hx).1
  obtain ⟨g, rfl, hg, hgl, _, _, _, hcell⟩ := flat_cells hR (by omega)
  obtain ⟨u, hu⟩ : ∃ u, us[i]? = some u := ⟨_, List.getElem?_eq_getElem (by rw [h.ul]; exact hi)⟩
  obtain ⟨k0, k1⟩ := rcs_get hu hx
  have ht := keep (by decide) (h.row i u x hu hx)
  obtain ⟨a, c, rfl⟩ := flat_form ht
  have hok := h.ok x (List.mem_of_getElem? hx)
  exact ⟨g, 0, rfl, ⟨hg, hgl⟩, hgl, ⟨a, _, c, by rw [Nat.zero_add]; exact hcell _ _ k0, tm_read ht rfl (by omega)⟩, by rw [Nat.zero_add]; exact hcell _ _ k1⟩
end
end Go.Proofs.Ytdegpgonphgbcaa
