/-
  timeboundmake2.
  timeboundmake2.
-/
import Derived.Deep.DeepCutAuto
import Derived.Test.YtdegpgonphgbcaaZSoA
import Derived.Test.YtdegpgonphgbcaaZHeadq
namespace Go.Proofs.Ytdegpgonphgbcaa
open Go.RowKit
theorem own_set {w : World} {B : Nat} {e : TypeId} {sz g n cap : Nat} {xs : List Value} (h : w.ownsRow B e sz (.slice (some ⟨g, 0, none⟩) n cap) n xs) (k : Nat) (u : Value) : (w.setCell ⟨g, k, none⟩ u).ownsRow B e sz (.slice (some ⟨g, 0, none⟩) n cap) n (xs.set k u) := by
  refine ⟨by rw [List.length_set]; exact h.1, ?_⟩
  rcases h.2 with ⟨h1, _⟩ | ⟨g', cap', cur, h1, h2, h3, h4, h5, h6, h7⟩
  · cases h1
  · cases h1
    have hb : Blk w g e cur.toList := by unfold Blk; rw [Array.toArray_toList]; exact h3
    refine .inr ⟨g, cap, (cur.toList.set k u).toArray, rfl, h2, hb.set k u, h4, h5, by simpa using h6, ?_⟩
    rw [List.toList_toArray, List.take_set, h7]
theorem tcs_set {l : List (Int × Int)} {i : Nat} {a b z : Int} (h : l[i]? = some (a, b)) : (tcs l).set (i * 2 + 1) (.int .i64 z) = tcs (l.set i (a, z)) := by
  induction l generalizing i with
  | nil => simp at h
  | cons y l ih =>
    have e : ∀ (y : Int × Int) (l : List (Int × Int)), tcs (y :: l) = .int .i64 y.1 :: .int .i64 y.2 :: tcs l := fun y l => by unfold tcs; rw [List.flatMap_cons]; rfl
    cases i with
    | zero => cases h; rw [List.set_cons_zero, e, e]; rfl
    | succ i =>
      rw [List.set_cons_succ, e, e, ← ih (by simpa using h), show (i + 1) * 2 + 1 = i * 2 + 1 + 1 + 1 by omega]
      simp only [List.set_cons_succ]
def absT (t : Int × Int) : Int × Int := (t.1, max t.2 (-t.2))
def absAt (l : List (Int × Int)) (j : Nat) : List (Int × Int) := part (l.map absT) l j
theorem absAt_get {l : List (Int × Int)} {j : Nat} {t : Int × Int} (h : l[j]? = some t) : (absAt l j)[j]? = some t := by
  unfold absAt
  rw [part_get (by simp) (List.getElem?_eq_some_iff.1 h).1]; exact h
theorem absAt_succ {l : List (Int × Int)} {j : Nat} {t : Int × Int} (h : l[j]? = some t) : (absAt l j).set j (absT t) = absAt l (j + 1) := part_succ (by simp) (by rw [List.getElem?_map, h]; rfl)
theorem absAt_all (l : List (Int × Int)) : absAt l l.length = l.map absT := part_all (by simp)
theorem TmOk.abs {l : List (Int × Int)} {k : Int} (h : TmOk l k) : TmOk (l.map absT) k := by
  intro i t hi ht
  rw [List.length_map] at hi
  rw [List.getElem?_map] at ht
  obtain ⟨s, hs, rfl⟩ := Option.map_eq_some_iff.1 ht
  obtain ⟨a, b, c, d, e, f⟩ := h i s hi hs
  refine ⟨a, b, fun p s' hp hs' => ?_, ?_, ?_, ?_⟩
  · rw [List.getElem?_map] at hs'
    obtain ⟨q, hq, rfl⟩ := Option.map_eq_some_iff.1 hs'
    exact c p q hp hq
  all_goals (unfold absT; dsimp only; omega)
def rcs (us : List Value) (rows : List (List (Int × Int) × Int)) : List Value := (us.zip rows).flatMap fun p => [p.1, .int .i64 p.2.2]
theorem rcs_snoc {us : List Value} {rows : List (List (Int × Int) × Int)} (h : us.length = rows.length) (u : Value) (x : List (Int × Int) × Int) : rcs (us ++ [u]) (rows ++ [x]) = rcs us rows ++ [u, .int .i64 x.2] := by
  unfold rcs
  rw [List.zip_append h, List.flatMap_append]; rfl
theorem rcs_get : ∀ {us : List Value} {rows : List (List (Int × Int) × Int)} {i : Nat} {u : Value} {x : List (Int × Int) × Int}, us[i]? = some u → rows[i]? = some x → (rcs us rows)[i * 2]? = some u ∧ (rcs us rows)[i * 2 + 1]? = some (.int .i64 x.2)
  | [], _, i, _, _, h, _ => by simp at h
  | _ :: _, [], i, _, _, _, h => by simp at h
  | u :: us, x :: rows, 0, _, _, h, h' => by cases h; cases h'; exact ⟨rfl, rfl⟩
  | v :: us, y :: rows, i + 1, u, x, h, h' => by
    have := rcs_get (us := us) (rows := rows) (i := i) (u := u) (x := x) h h'
    have e : rcs (v :: us) (y :: rows) = v :: .int .i64 y.2 :: rcs us rows := rfl
    rw [e, show (i + 1) * 2 = i * 2 + 1 + 1 by omega]
    exact this
theorem info_rw : (Try.prog.info? 50).map (fun i => (i.zero, i.size, i.bytes)) = some (some (.agg #[.slice none 0 0, .int .i64 0]), 2, 32) := by kernel_rfl
structure ModJ (B d P : Nat) (w0 wr : World) (cols : Nat) (c0 : Int) (vR vG : Value) (goal : List (Int × Int)) (us : List Value) (rows : List (List (Int × Int) × Int)) : Prop where
  pb : Blk wr P 28 [.int .i64 cols, vR, vG, .int .i64 c0]
  hR : wr.ownsRow B 50 2 vR rows.length (rcs us rows)
  hG : wr.ownsRow B 56 2 vG goal.length (tcs goal)
  t4 : Blk wr B 28 [.int .i64 0, .slice none 0 0, .slice none 0 0, .int .i64 0]
  ul : us.length = rows.length
  row : ∀ (i : Nat) (u : Value) (x : List (Int × Int) × Int), us[i]? = some u → rows[i]? = some x → wr.ownsRow B 56 2 u x.1.length (tcs x.1)
  ok : ∀ x ∈ rows, TmOk x.1 cols ∧ x.1.length ≤ cols ∧ -10 ≤ x.2 ∧ x.2 ≤ 50
  deck : Deck wr d
  but : But d w0 wr
section
variable {B d P cols : Nat} {w0 wr wy : World} {c0 : Int} {vR vG : Value} {goal : List (Int × Int)} {us : List Value} {rows : List (List (Int × Int) × Int)}
theorem ModJ.but' (h : ModJ B d P w0 wr cols c0 vR vG goal us rows) (hb : But d wr wy) (hd : Deck wy d) (hdB : d < B) (hP : B ≤ P) : ModJ B d P w0 wy cols c0 vR vG goal us rows := by
  have f : ∀ k, B ≤ k → k < wr.heap.size → ¬ k = d := fun k h1 _ e => by omega
  exact ⟨h.pb.chg hb.chg (fun e => by omega), flat_of h.hR hb.chg f, flat_of h.hG hb.chg f, h.t4.chg hb.chg (fun e => by omega), h.ul, fun i u x e1 e2 => flat_of (h.row i u x e1 e2) hb.chg f, h.ok, hd, h.but.trans hb⟩
theorem ModJ.call (h : ModJ B d P w0 wr cols c0 vR vG goal us rows) (hb : Below wr.heap.size wr wy) (hdB : d < B) (hP : B ≤ P) : ModJ B d P w0 wy cols c0 vR vG goal us rows :=
  h.but' (But.of_below hb) (h.deck.below hb (Nat.le_refl _)) hdB hP
theorem ModJ.own (h : ModJ B d P w0 wr cols c0 vR vG goal us rows) {wo : World} (h0 : ModJ B d P w0 wo cols c0 vR vG goal us rows) {M : Nat → Prop} (hc : Chg M wr wy) (hM : ∀ k, M k → wo.heap.size ≤ k) : ModJ B d P w0 wy cols c0 vR vG goal us rows := by
  have low : ∀ k, k < wo.heap.size → ¬ M k := fun k hk e => by have := hM k e; omega
  refine ⟨h.pb.chg hc (low _ h0.pb.lt), ownsRow_of h.hR (fun k hk => hc.block k (h.hR.lt k hk).2 (low k (h0.hR.lt k hk).2)), ownsRow_of h.hG (fun k hk => hc.block k (h.hG.lt k hk).2 (low k (h0.hG.lt k hk).2)), h.t4.chg hc (low _ h0.t4.lt), h.ul,
    fun i u x e1 e2 => ownsRow_of (h.row i u x e1 e2) (fun k hk => hc.block k ((h.row i u x e1 e2).lt k hk).2 (low k ((h0.row i u x e1 e2).lt k hk).2)), h.ok, h.deck.chg hc (fun j hj hl e => ?_), (h.but.chg.trans hc (fun x hx e => ?_)).but⟩
  · have := hM j e; have := h0.deck.lt; omega
  · have := hM x e; have := h0.but.size; omega
theorem ModJ.push (h : ModJ B d P w0 wr cols c0 vR vG goal us rows) {u : Value} {x : List (Int × Int) × Int} (hu : wr.ownsRow B 56 2 u x.1.length (tcs x.1)) (hx : TmOk x.1 cols ∧ x.1.length ≤ cols ∧ -10 ≤ x.2 ∧ x.2 ≤ 50) (hdB : d < B) (hBP : B < P) (hw : w0.heap.size = B)
    {v : Value} (hap : FApp 50 2 B vR rows.length 1 (rcs us rows) [u, .int .i64 x.2] wr wy v) : ModJ B d P w0 (wy.setCell ⟨P, 1, none⟩ v) cols c0 v vG goal (us ++ [u]) (rows ++ [x]) := by
  have cp : Chg (fun k => k = P) wy (wy.setCell ⟨P, 1, none⟩ v) := Chg.setCell (M := fun k => k = P) (p := ⟨P, 1, none⟩) (Chg.refl wy) (fun _ => rfl) _
  have nt : ∀ {k : Nat} {t : TypeId} {ys : List Value}, Blk wr k t ys → 50 ≠ t → ¬ vR.ownBlock = some k := fun hb ht e => by
    obtain ⟨cs, hc, _⟩ := owns_tag h.hR e
    exact blk_tag hc hb ht rfl
  have ntm : ∀ {v' : Value} {n : Nat} {xs : List Value}, wr.ownsRow B 56 2 v' n xs → wy.ownsRow B 56 2 v' n xs := fun ho => ownsRow_of ho (fun k hk => by
    obtain ⟨cs, hc, _⟩ := owns_tag ho hk
    exact hap.chg.block k (ho.lt k hk).2 (nt hc (by decide)))
  have np : ∀ {v' : Value} {n : Nat} {xs : List Value}, wr.ownsRow B 56 2 v' n xs → (wy.setCell ⟨P, 1, none⟩ v).ownsRow B 56 2 v' n xs := fun ho => ownsRow_of (ntm ho) (fun k hk => by
    obtain ⟨cs, hc, _⟩ := owns_tag ho hk
    exact cp.block k ((ntm ho).lt k hk).2 (fun e => by subst e; exact blk_tag hc h.pb (by decide) rfl))
  have hP := h.pb.chg hap.chg (nt h.pb (by decide))
  refine ⟨(hP.set 1 v).at rfl, ?_, np h.hG, (h.t4.chg hap.chg (nt h.t4 (by decide))).chg cp (fun e => by omega), by simp [h.ul], fun i u' x' e1 e2 => ?_, fun y hy => ?_, (h.deck.chg hap.chg (fun j _ hj e => ?_)).chg cp (fun j _ hj e => by omega), ((h.but.chg.trans hap.chg (fun y hy e => ?_)).trans cp (fun y hy e => by omega)).but⟩
  · have ho := hap.owns
    rw [← rcs_snoc h.ul] at ho
    have hn : (rows ++ [x]).length = rows.length + 1 := by simp
    rw [hn]
    exact ownsRow_of ho (fun k hk => by
      obtain ⟨cs, hc, _⟩ := owns_tag ho hk
      exact cp.block k (ho.lt k hk).2 (fun e => by subst e; exact blk_tag hc hP (by decide) rfl))
  · by_cases e : i < rows.length
    · rw [List.getElem?_append_left (by rw [h.ul]; exact e)] at e1
      rw [List.getElem?_append_left e] at e2
      exact np (h.row i u' x' e1 e2)
    · have hl := (List.getElem?_eq_some_iff.1 e2).1
      rw [List.length_append, List.length_singleton] at hl
      have hi : i = rows.length := by omega
      subst hi
      rw [List.getElem?_append_right (by rw [h.ul]; exact Nat.le_refl _), h.ul, Nat.sub_self] at e1
      rw [List.getElem?_append_right (Nat.le_refl _), Nat.sub_self] at e2
      cases e1; cases e2
      exact np hu
  · rcases List.mem_append.1 hy with h1 | h1
    · exact h.ok y h1
    · rw [List.mem_singleton] at h1; subst h1; exact hx
  · have := (h.hR.lt j e).1; omega
  · have := (h.hR.lt y e).1; omega
theorem ModJ.kept (h : ModJ B d P w0 wr cols c0 vR vG goal us rows) {n m : Nat} {xs news : List Value} {v : Value} (hap : FApp 50 2 B vR n m xs news wr wy v) : Blk wy P 28 [.int .i64 cols, vR, vG, .int .i64 c0] :=
  h.pb.chg hap.chg (fun e => by
    obtain ⟨cs, hc, _⟩ := owns_tag h.hR e
    exact blk_tag hc h.pb (by decide) rfl)
theorem ModJ.last (h : ModJ B d P w0 wr cols c0 vR vG goal us rows) (hc : Chg (fun k => k = B) wr wy) (h6 : rows.length ≤ 6) (hg : goal.length ≤ 6) (hcl : cols ≤ 6) : ∃ aR cR aG cG, vR = .slice aR rows.length cR ∧ vG = .slice aG goal.length cG ∧ Row RRw 2 (fun k => B ≤ k ∧ k < wy.heap.size) wy aR rows.length cR rows ∧ Row RTm 2 (fun k => B ≤ k ∧ k < wy.heap.size) wy aG goal.length cG goal := by
  have ne : ∀ {k : Nat} {t : TypeId} {ys : List Value}, Blk wr k t ys → t ≠ 28 → k ≠ B := fun hb ht => blk_tag hb h.t4 ht
  have keep : ∀ {v' : Value} {t : TypeId} {sz n : Nat} {xs : List Value}, t ≠ 28 → wr.ownsRow B t sz v' n xs → wy.ownsRow B t sz v' n xs := fun ht ho => ownsRow_of ho (fun k hk => by
    obtain ⟨cs, hcs, _⟩ := owns_tag ho hk
    exact hc.block k (ho.lt k hk).2 (ne hcs ht))
  obtain ⟨aR, cR, rfl⟩ := flat_form h.hR
  obtain ⟨aG, cG, rfl⟩ := flat_form h.hG
  have hR := keep (by decide) h.hR
  obtain ⟨h1, h2, h3⟩ := flat_len hR
  refine ⟨aR, cR, aG, cG, rfl, rfl, ⟨rfl, h2, by unfold maxLen at h3; omega, by omega, fun i x hx => ?_⟩, tm_read (keep (by decide) h.hG) rfl (by omega)⟩
  have hi := (List.getElem?_eq_some_iff.1 hx).1
  obtain ⟨g, rfl, hg, hgl, _, _, _, hcell⟩ := flat_cells hR (by omega)
  obtain ⟨u, hu⟩ : ∃ u, us[i]? = some u := ⟨_, List.getElem?_eq_getElem (by rw [h.ul]; exact hi)⟩
  obtain ⟨k0, k1⟩ := rcs_get hu hx
  have ht := keep (by decide) (h.row i u x hu hx)
  obtain ⟨a, c, rfl⟩ := flat_form ht
  have hok := h.ok x (List.mem_of_getElem? hx)
  exact ⟨g, 0, rfl, ⟨hg, hgl⟩, hgl, ⟨a, _, c, by rw [Nat.zero_add]; exact hcell _ _ k0, tm_read ht rfl (by omega)⟩, by rw [Nat.zero_add]; exact hcell _ _ k1⟩
end
def MdRet (d most : Nat) (w : World) (e : Ending) (w' : World) : Prop :=
  ∃ (n : Nat) (ra : Option Addr) (rn rc : Nat) (ga : Option Addr) (gn gc : Nat) (c0 : Int) (rows : List (List (Int × Int) × Int)) (goal : List (Int × Int)),
    e = .returned (MdV n (.slice ra rn rc) ga gn gc c0) ∧ Row RRw 2 (fun k => w.heap.size ≤ k ∧ k < w'.heap.size) w' ra rn rc rows ∧ Row RTm 2 (fun k => w.heap.size ≤ k ∧ k < w'.heap.size) w' ga gn gc goal ∧ SmallP n rows goal c0 ∧ n ≤ most ∧ Deck w' d ∧ But d w w'
set_option maxRecDepth 100000 in
set_option maxHeartbeats 16000000 in
theorem mmodel_any (d most : Nat) (hm : most ≤ 6) (w : World) (hd : Deck w d) : Calls Try.prog 10 #[.pointer (some ⟨d, 0, none⟩), .int .i64 most] w (MdRet d most w) := by
  have HLT := Lib.hid hd.lt
  obtain ⟨w1, hw1⟩ : ∃ w1, w1 = w.alloc (.cells #[.int .i64 0, .slice none 0 0, .slice none 0 0, .int .i64 0] 28) := ⟨_, rfl⟩
  have B1 := Lib.hid (show Below w.heap.size w w1 by rw [hw1]; exact (Below.refl _ _).alloc (Nat.le_refl _) _)
  have T1 := Lib.hid (show Blk w1 w.heap.size 28 [.int .i64 0, .slice none 0 0, .slice none 0 0, .int .i64 0] by rw [hw1]; exact Blk.new w _ _)
  have D1 := Lib.hid (hd.below B1.out (Nat.le_refl _))
  have HW1 := Lib.hid hw1
  have wm : IntKind.i64.wrap ((most : Int) + 1) = (most : Int) + 1 := Go.IntWalk.i64_in _ ⟨by omega, by omega⟩
  clear hw1 hd
  go_enter Try.func10, Try.ntmps10
  go_upto_region 1 with fail
  rw [← HW1.out]
  go_wp2_with fail
  refine (next_any d ((most : Int) + 1) (by omega) (by omega) _ D1.out).mono ?_
  rintro e w2 ⟨r1, rfl, a1, b1, hd2, hb2⟩
  obtain ⟨cols, rfl⟩ := Int.eq_ofNat_of_zero_le a1
  have T2 := Lib.hid (T1.out.chg hb2.chg (fun e => by have := HLT.out; omega))
  have B2 := Lib.hid ((But.of_below (d := d) B1.out).trans hb2)
  have hcm : cols ≤ most := by omega
  clear hb2 a1 b1 wm
  go_wp2_with fail
  refine (next_any d 9 (by omega) (by omega) _ hd2).mono ?_
  rintro e w3 ⟨r2, rfl, a2, b2, hd3, hb3⟩
  obtain ⟨c0, hc0⟩ : ∃ c0, c0 = r2 - 4 := ⟨_, rfl⟩
  have wc : IntKind.i64.wrap (r2 - 4) = c0 := by rw [Go.IntWalk.i64_in _ ⟨by omega, by omega⟩]; omega
  have hc01 : -4 ≤ c0 ∧ c0 ≤ 4 := by omega
  have T3 := Lib.hid (T2.out.chg hb3.chg (fun e => by have := HLT.out; omega))
  have B3 := Lib.hid (B2.out.trans hb3)
  have D3 := Lib.hid hd3
  have HC0 := Lib.hid hc01
  clear hb3 hd2 hd3 hc0 a2 b2 hc01
  obtain ⟨P, hP⟩ : ∃ P, P = w3.heap.size := ⟨_, rfl⟩
  obtain ⟨w4, hw4⟩ : ∃ w4, w4 = w3.alloc (.cells #[.int .i64 cols, .slice none 0 0, .slice none 0 0, .int .i64 c0] 28) := ⟨_, rfl⟩
  have A4 := Lib.hid (show Below w3.heap.size w3 w4 by rw [hw4]; exact (Below.refl _ _).alloc (Nat.le_refl _) _)
  have P4 := Lib.hid (show Blk w4 P 28 [.int .i64 cols, .slice none 0 0, .slice none 0 0, .int .i64 c0] by rw [hw4, hP]; exact Blk.new w3 _ _)
  have LP := Lib.hid (show w.heap.size < P from by rw [hP]; exact T3.out.lt)
  have T4 := Lib.hid (T3.out.below A4.out T3.out.lt)
  have B4 := Lib.hid (B3.out.trans (But.of_below A4.out))
  have D4 := Lib.hid (D3.out.below A4.out (Nat.le_refl _))
  have HW4 := Lib.hid hw4; have HP := Lib.hid hP
  clear hw4 hP
  go_upto_region 2 with fail
  rw [← HW4.out, ← HP.out]
  have p0 := P4.out.cell (i := 0) rfl
  go_wp2_with fail
  refine (mterms_any d cols (by omega) _ D4.out).mono ?_
  rintro e w5 ⟨vg, goal, rfl, hg, hgo, hgl, hd5, hb5⟩
  obtain ⟨ga, gc, rfl⟩ := flat_form hg
  have P5 := Lib.hid (P4.out.chg hb5.chg (fun e => by have := HLT.out; have := LP.out; omega))
  have T5 := Lib.hid (T4.out.chg hb5.chg (fun e => by have := HLT.out; omega))
  have B5 := Lib.hid (B4.out.trans hb5)
  have G5 := Lib.hid hg; have GO := Lib.hid hgo; have GL := Lib.hid hgl; have D5 := Lib.hid hd5
  clear hg hgo hgl hd5 hb5 p0
  have pf := P5.out.free; have p2 := P5.out.cell (i := 2) rfl
  have NP := Lib.hid (show ∀ k, (Value.slice ga goal.length gc).ownBlock = some k → k ≠ P from fun k hk => by
    obtain ⟨cs, hc, _⟩ := owns_tag G5.out hk
    exact blk_tag hc P5.out (by decide))
  obtain ⟨w6, hw6⟩ : ∃ w6, w6 = w5.setCell ⟨P, 2, none⟩ (.slice ga goal.length gc) := ⟨_, rfl⟩
  have C6 := Lib.hid (show Chg (fun x => x = P) w5 w6 by rw [hw6]; exact Chg.setCell (M := fun x => x = P) (p := ⟨P, 2, none⟩) (Chg.refl w5) (fun _ => rfl) _)
  have J6 := Lib.hid (show ModJ w.heap.size d P w w6 cols c0 (.slice none 0 0) (.slice ga goal.length gc) goal [] [] from
    ⟨by rw [hw6]; exact P5.out.set 2 _, World.ownsRow_nil _ _ _ _, ownsRow_of (flat_ge G5.out B4.out.size) (fun k hk => C6.out.block k (G5.out.lt k hk).2 (NP.out k hk)), T5.out.chg C6.out (fun e => by have := LP.out; omega), rfl, (fun i u x h => by simp at h), (fun x h => by cases h),
      D5.out.chg C6.out (fun j _ hj e => by have := LP.out; have := HLT.out; omega), (B5.out.chg.trans C6.out (fun x hx e => by have := LP.out; omega)).but⟩)
  go_upto_region 3 with fail
  rw [← hw6]
  clear hw6 G5 P5 T5 D5 B5 C6 NP D4 T4 P4 B4 pf p2
  go_wp2_with fail
  refine (next_any d 7 (by omega) (by omega) _ J6.out.deck).mono ?_
  rintro e w7 ⟨r7, rfl, a7, b7, hd7, hb7⟩
  obtain ⟨n7, rfl⟩ := Int.eq_ofNat_of_zero_le a7
  have J7 := Lib.hid (J6.out.but' hb7 hd7 HLT.out (by have := LP.out; omega))
  have hn7 : n7 ≤ 6 := by omega
  clear hb7 hd7 a7 b7 J6
  go_wp2
  go_loopw [6] (fun s wr => ∃ (k : Nat) (vR : Value) (us : List Value) (rows : List (List (Int × Int) × Int)), rows.length + k ≤ n7 ∧ s = .int .i64 k ∧ ModJ w.heap.size d P w wr cols c0 vR (.slice ga goal.length gc) goal us rows) (fun s _ => (intOf s).toNat)
  case atStart => exact ⟨n7, _, [], [], by simp, rfl, J7.out⟩
  case round =>
    obtain ⟨k, vR, us, rows, hk, rfl, hj⟩ := hrel
    have JR := Lib.hid hj
    clear hj J7
    obtain ⟨wo, rfl⟩ : ∃ wo : World, wo = wr := ⟨_, rfl⟩
    have HPw := Lib.hid (show w.heap.size ≤ P from Nat.le_of_lt LP.out)
    rcases Nat.eq_zero_or_pos k with hk0 | hk0
    · subst hk0
      have PB := Lib.hid JR.out.pb
      have q0 := PB.out.cell (i := 0) rfl; have q1 := PB.out.cell (i := 1) rfl; have q2 := PB.out.cell (i := 2) rfl; have q3 := PB.out.cell (i := 3) rfl
      have TT := Lib.hid JR.out.t4
      have t0 := TT.out.cell (i := 0) rfl; have t1 := TT.out.cell (i := 1) rfl; have t2 := TT.out.cell (i := 2) rfl; have t3 := TT.out.cell (i := 3) rfl
      have tf := TT.out.free
      obtain ⟨aR, cR, hvR⟩ := flat_form JR.out.hR
      subst hvR
      obtain ⟨nr, hnr⟩ : ∃ nr, nr = rows.length := ⟨_, rfl⟩
      rw [← hnr] at q1
      have T9 := Lib.hid ((((TT.out.set 0 (.int .i64 cols)).set 1 (.slice aR nr cR)).set 2 (.slice ga goal.length gc)).set 3 (.int .i64 c0))
      have C9 := Lib.hid (show Chg (fun k => k = w.heap.size) wo ((((wo.setCell ⟨w.heap.size, 0, none⟩ (.int .i64 cols)).setCell ⟨w.heap.size, 1, none⟩ (.slice aR nr cR)).setCell ⟨w.heap.size, 2, none⟩ (.slice ga goal.length gc)).setCell ⟨w.heap.size, 3, none⟩ (.int .i64 c0)) from
        Chg.setCell (p := ⟨w.heap.size, 3, none⟩) (Chg.setCell (p := ⟨w.heap.size, 2, none⟩) (Chg.setCell (p := ⟨w.heap.size, 1, none⟩) (Chg.setCell (M := fun k => k = w.heap.size) (p := ⟨w.heap.size, 0, none⟩) (Chg.refl wo) (fun _ => rfl) _) (fun _ => rfl) _) (fun _ => rfl) _) (fun _ => rfl) _)
      have HNR := Lib.hid hnr
      clear hnr
      go_wp2
      have e0 := T9.out.cell (i := 0) rfl; have e1 := T9.out.cell (i := 1) rfl; have e2 := T9.out.cell (i := 2) rfl; have e3 := T9.out.cell (i := 3) rfl
      have h6 : rows.length ≤ 6 := by omega
      have hgl : goal.length ≤ cols := by have := GL.out; rw [Int.toNat_natCast] at this; exact this
      obtain ⟨aR', cR', aG', cG', h1, h2, h3, h4⟩ := JR.out.last C9.out h6 (by omega) (by omega)
      obtain ⟨rfl, rfl⟩ : aR = aR' ∧ cR = cR' := by cases h1; exact ⟨rfl, rfl⟩
      obtain ⟨rfl, rfl⟩ : ga = aG' ∧ gc = cG' := by cases h2; exact ⟨rfl, rfl⟩
      refine bodyPost_ret (v := MdV cols (.slice aR nr cR) ga goal.length gc c0) (by simp [results, Try.results10, go_sem, e0, e1, e2, e3]) rfl ⟨cols, aR, nr, cR, ga, goal.length, gc, c0, rows, goal, rfl, by rw [HNR.out] at *; exact h3, h4, ?_, hcm, JR.out.deck.chg C9.out (fun j _ hj e => by have := HLT.out; omega), (JR.out.but.chg.trans C9.out (fun x hx e => by omega)).but⟩
      have hc := HC0.out
      exact ⟨by omega, by omega, by omega, GO.out, by omega, by omega, fun x hx => ⟨(JR.out.ok x hx).1, by have := (JR.out.ok x hx).2.2; omega⟩⟩
    · obtain ⟨k', rfl⟩ : ∃ k', k = k' + 1 := ⟨k - 1, by omega⟩
      have hk1 : (0 : Int) < ((k' + 1 : Nat) : Int) := by omega
      have wk : IntKind.i64.wrap (((k' + 1 : Nat) : Int) - 1) = (k' : Int) := by rw [Go.IntWalk.i64_in _ ⟨by omega, by omega⟩]; omega
      have p0 := JR.out.pb.cell (i := 0) rfl
      go_wp2_with fail
      refine (mterms_any d cols (by omega) _ JR.out.deck).mono ?_
      rintro e w1 ⟨v1, l1, rfl, ho1, hok1, hl1, hd1, hb1⟩
      obtain ⟨a1, c1, rfl⟩ := flat_form ho1
      have J1 := Lib.hid (JR.out.but' hb1 hd1 HLT.out HPw.out)
      have O1 := Lib.hid (flat_ge ho1 (show w.heap.size ≤ wo.heap.size from JR.out.but.size))
      have OK1 := Lib.hid hok1
      have HNO := Lib.hid (show ∀ k, (Value.slice a1 l1.length c1).ownBlock = some k → wo.heap.size ≤ k from fun k hk => (ho1.lt k hk).1)
      have hl1' : l1.length ≤ 6 := by rw [Int.toNat_natCast] at hl1; omega
      have HL1 := Lib.hid (show l1.length ≤ cols by rw [Int.toNat_natCast] at hl1; exact hl1)
      have S1 := Lib.hid hb1.size
      clear ho1 hok1 hl1 hd1 hb1 p0
      go_wp2_with fail
      refine (next_any d 61 (by omega) (by omega) _ J1.out.deck).mono ?_
      rintro e w2 ⟨r2', rfl, a2, b2, hd2, hb2⟩
      obtain ⟨mo, hmo⟩ : ∃ mo, mo = r2' - 10 := ⟨_, rfl⟩
      have wmo : IntKind.i64.wrap (r2' - 10) = mo := by rw [Go.IntWalk.i64_in _ ⟨by omega, by omega⟩]; omega
      have hmo2 : -10 ≤ mo ∧ mo ≤ 50 := by omega
      have J2 := Lib.hid (J1.out.but' hb2 hd2 HLT.out HPw.out)
      have O2 := Lib.hid (flat_of O1.out hb2.chg (fun x h1 _ e => by have := HLT.out; omega))
      have HMO := Lib.hid hmo2
      have S2 := Lib.hid hb2.size
      clear hb2 hd2 a2 b2 hmo hmo2 J1 O1
      obtain ⟨X, hX⟩ : ∃ X, X = w2.heap.size := ⟨_, rfl⟩
      obtain ⟨w3, hw3⟩ : ∃ w3, w3 = w2.alloc (.cells #[.slice a1 l1.length c1, .int .i64 mo] 50) := ⟨_, rfl⟩
      have A3 := Lib.hid (show Below w2.heap.size w2 w3 by rw [hw3]; exact (Below.refl _ _).alloc (Nat.le_refl _) _)
      have X3 := Lib.hid (show Blk w3 X 50 [.slice a1 l1.length c1, .int .i64 mo] by rw [hw3, hX]; exact Blk.new w2 _ _)
      have J3 := Lib.hid (J2.out.call A3.out HLT.out HPw.out)
      have O3 := Lib.hid (flat_below O2.out A3.out)
      have LX := Lib.hid (show w.heap.size ≤ X ∧ wo.heap.size ≤ X from by rw [hX]; exact ⟨J2.out.but.size, Nat.le_trans S1.out S2.out⟩)
      have HW3 := Lib.hid hw3; have HX := Lib.hid hX
      clear hw3 hX J2 O2
      go_upto_region 7 with fail
      rw [← HW3.out, ← HX.out]
      go_wp2_with fail
      refine (next_any d 3 (by omega) (by omega) _ J3.out.deck).mono ?_
      rintro e w4 ⟨r4, rfl, a4, b4, hd4, hb4⟩
      have J4 := Lib.hid (J3.out.but' hb4 hd4 HLT.out HPw.out)
      have O4 := Lib.hid (flat_of O3.out hb4.chg (fun x h1 _ e => by have := HLT.out; omega))
      have X4 := Lib.hid (X3.out.chg hb4.chg (fun e => by have := HLT.out; have := LX.out; omega))
      clear hb4 hd4 J3 O3 X3
      go_upto_if 38 with fail
      go_cut [] (fun wx => ∃ l2 mo2, ModJ w.heap.size d P w wx cols c0 vR (.slice ga goal.length gc) goal us rows ∧ wx.ownsRow w.heap.size 56 2 (.slice a1 l1.length c1) l1.length (tcs l2) ∧ l2.length = l1.length ∧ TmOk l2 cols ∧ Blk wx X 50 [.slice a1 l1.length c1, .int .i64 mo2] ∧ -10 ≤ mo2 ∧ mo2 ≤ 50)
      case first =>
        as_aux_lemma =>
          by_cases hr : 0 < r4
          rotate_left
          · have R := Lib.hid (show ∃ l2 mo2, ModJ w.heap.size d P w w4 cols c0 vR (.slice ga goal.length gc) goal us rows ∧ w4.ownsRow w.heap.size 56 2 (.slice a1 l1.length c1) l1.length (tcs l2) ∧ l2.length = l1.length ∧ TmOk l2 cols ∧ Blk w4 X 50 [.slice a1 l1.length c1, .int .i64 mo2] ∧ -10 ≤ mo2 ∧ mo2 ≤ 50 from ⟨l1, mo, J4.out, O4.out, rfl, OK1.out, X4.out, HMO.out⟩)
            go_wp2
            go_meet
            exact R.out
          · obtain ⟨n1, hn1⟩ : ∃ n, n = l1.length := ⟨_, rfl⟩
            rw [← hn1] at O4 X4 ⊢
            have HN1 := Lib.hid hn1
            have hn16 : n1 ≤ 6 := by rw [hn1]; exact hl1'
            have XN := Lib.hid (show ¬ (Value.slice a1 n1 c1).ownBlock = some X from fun e => by
              obtain ⟨cs, hc, _⟩ := owns_tag O4.out e
              exact blk_tag hc X4.out (by decide) rfl)
            have x0 := X4.out.cell (i := 0) rfl
            clear hn1
            go_wp2
            clear x0
            go_loopw [42] (fun s wr => ∃ j : Nat, j ≤ n1 ∧ s = .int .i64 j ∧ wr.ownsRow w.heap.size 56 2 (.slice a1 n1 c1) n1 (tcs (absAt l1 j)) ∧ Chg (fun x => (Value.slice a1 n1 c1).ownBlock = some x) w4 wr) (fun s _ => n1 - (intOf s).toNat)
            case atStart => exact ⟨0, Nat.zero_le _, rfl, by unfold absAt; rw [part_zero]; exact O4.out, Chg.refl _⟩
            case round =>
              obtain ⟨j, hj, rfl, hoj, hcj⟩ := hrel
              have OJ := Lib.hid hoj; have CJ := Lib.hid hcj
              clear hoj hcj
              have XJ := Lib.hid (X4.out.chg CJ.out XN.out)
              by_cases hlt : j < n1
              · obtain ⟨g, hag, hgB, hgl, _, _, _, hcell⟩ := flat_cells OJ.out (by omega)
                subst hag
                obtain ⟨⟨tof, tco⟩, htj⟩ : ∃ t, l1[j]? = some t := ⟨_, List.getElem?_eq_getElem (by rw [← HN1.out]; exact hlt)⟩
                have hta := absAt_get htj
                have hrange := (OK1.out j _ (List.getElem?_eq_some_iff.1 htj).1 htj).2.2.2.2
                dsimp only at hrange
                have cc := hcell _ _ (tcs_get hta).2
                have c0' := hcell _ _ (tcs_get hta).1
                dsimp only at cc
                have cf : wr.frozen? ⟨g, j * 2 + 1, none⟩ = false := by
                  obtain ⟨cs, hb, _⟩ := owns_tag OJ.out (k := g) rfl
                  exact hb.free _
                have x0 := XJ.out.cell (i := 0) rfl
                have wneg : IntKind.i64.wrap (-tco) = -tco := Go.IntWalk.i64_in _ ⟨by omega, by omega⟩
                have gX : X ≠ g := fun e => XN.out (by rw [e]; rfl)
                have PS := Lib.hid (show ∀ z, z = max tco (-tco) → (wr.setCell ⟨g, j * 2 + 1, none⟩ (.int .i64 z)).drew.ownsRow w.heap.size 56 2 (.slice (some ⟨g, 0, none⟩) n1 c1) n1 (tcs (absAt l1 (j + 1))) ∧ Chg (fun x => (Value.slice (some ⟨g, 0, none⟩) n1 c1).ownBlock = some x) w4 (wr.setCell ⟨g, j * 2 + 1, none⟩ (.int .i64 z)).drew from fun z hz => by
                  refine ⟨?_, (Chg.setCell (p := ⟨g, j * 2 + 1, none⟩) CJ.out (fun _ => rfl) _).drew⟩
                  rw [← absAt_succ htj]
                  unfold absT
                  rw [← tcs_set hta]
                  dsimp only
                  rw [← hz]
                  exact own_set OJ.out _ _)
                have hj1 : (j : Int) < (n1 : Int) := by omega
                clear hrange hcell hta htj c0'
                go_upto_region 11 with fail
                refine hd_start 17 (fun w' => w'.cell? ⟨X, 0, none⟩ = some (.slice (some ⟨g, 0, none⟩) n1 c1) ∧ w'.cell? ⟨g, j * 2 + 1, none⟩ = some (.int .i64 tco)) (by kernel_rfl) ⟨by kernel_rfl, by kernel_rfl, by kernel_rfl, by decide⟩ (by refine ⟨x0, cc⟩) (fun ok => ?_)
                refine hd_t 0 ok rfl ?_
                go_frame
                refine hd_t 1 ok rfl ?_
                go_frame
                refine hd_t 2 ok rfl ?_
                go_frame
                refine hd_t 3 ok rfl ?_
                go_frame
                refine hd_t 4 ok rfl ?_
                go_frame
                refine hd_t 5 ok rfl ?_
                go_frame
                refine hd_t 6 ok rfl ?_
                go_frame
                refine hd_t 7 ok rfl ?_
                go_frame
                refine hd_t 8 ok rfl ?_
                go_frame
                refine hd_t 9 ok rfl ?_
                go_frame
                refine hd_t 10 ok rfl ?_
                go_frame
                refine hd_t 11 ok rfl ?_
                go_frame
                refine hd_t 12 ok rfl ?_
                go_frame
                refine hd_t 13 ok rfl ?_
                go_frame
                refine hd_t 14 ok rfl ?_
                go_frame
                refine hd_t 15 ok rfl ?_
                go_frame
                refine hd_only_l (c := 16) rfl (by decide) (by kernel_rfl) (fun K hK => ?_)
                go_simp
                (try simp only [])
                refine hK _ _ (by refine ⟨?_, ?_⟩ <;> (first | exact x0 | exact cc)) ?_
                clear hK K
                (try go_frame)
                refine hd_done (by kernel_rfl) ?_
                simp only [List.drop_succ_cons, List.drop_zero]
                go_wp2
                all_goals
                  clear x0 cc cf
                  go_roundw
                  case rel => exact ⟨j + 1, by omega, by go_num, (PS.out _ (by omega)).1, (PS.out _ (by omega)).2⟩
                  case measure => simp [intOf]; omega
              · have hj2 : n1 = j := by omega
                subst hj2
                have OF := Lib.hid (show wr.ownsRow w.heap.size 56 2 (.slice a1 n1 c1) n1 (tcs (l1.map absT)) by have := OJ.out; rw [HN1.out, absAt_all, ← HN1.out] at this; exact this)
                have JF := Lib.hid (J4.out.own JR.out CJ.out (by rw [HN1.out]; exact HNO.out))
                have x0 := XJ.out.cell (i := 0) rfl
                have x1 := XJ.out.cell (i := 1) rfl
                have xf := XJ.out.free
                have hmo := HMO.out
                have wneg : IntKind.i64.wrap (-mo) = -mo := Go.IntWalk.i64_in _ ⟨by omega, by omega⟩
                have R := Lib.hid (show ∀ z, z = max mo (-mo) → ∃ l2 mo2, ModJ w.heap.size d P w (wr.setCell ⟨X, 1, none⟩ (.int .i64 z)) cols c0 vR (.slice ga goal.length gc) goal us rows ∧ (wr.setCell ⟨X, 1, none⟩ (.int .i64 z)).ownsRow w.heap.size 56 2 (.slice a1 l1.length c1) l1.length (tcs l2) ∧ l2.length = l1.length ∧ TmOk l2 cols ∧ Blk (wr.setCell ⟨X, 1, none⟩ (.int .i64 z)) X 50 [.slice a1 l1.length c1, .int .i64 mo2] ∧ -10 ≤ mo2 ∧ mo2 ≤ 50 from fun z hz => by
                  have CX : Chg (fun x => x = X) wr (wr.setCell ⟨X, 1, none⟩ (.int .i64 z)) := Chg.setCell (M := fun x => x = X) (p := ⟨X, 1, none⟩) (Chg.refl wr) (fun _ => rfl) _
                  rw [← HN1.out]
                  exact ⟨l1.map absT, z, JF.out.own JR.out CX (fun x e => by rw [e]; exact LX.out.2), ownsRow_of OF.out (fun x hx => CX.block x (OF.out.lt x hx).2 (fun e => XN.out (e ▸ hx))), by simp [HN1.out], OK1.out.abs, (XJ.out.set 1 (.int .i64 z)).at rfl, by omega, by omega⟩)
                clear hmo
                go_wp2
                all_goals
                  go_meet
                  exact R.out _ (by omega)
      case rest =>
        obtain ⟨l2, mo2, hj5, ho5, hl5, hok5, hx5, m1, m2⟩ := hcut
        obtain ⟨w5, hw5⟩ : ∃ w5 : World, w5 = wc := ⟨_, rfl⟩
        rw [← hw5] at hj5 ho5 hx5 ⊢
        clear hw5
        obtain ⟨aR, cR, hvR⟩ := flat_form hj5.hR
        subst hvR
        have x0 := hx5.cell (i := 0) rfl; have x1 := hx5.cell (i := 1) rfl
        have p1 := hj5.pb.cell (i := 1) rfl
        obtain ⟨nr, hnr⟩ : ∃ nr, nr = rows.length := ⟨_, rfl⟩
        rw [← hnr] at p1
        obtain ⟨n1, hn1⟩ : ∃ n, n = l1.length := ⟨_, rfl⟩
        rw [← hn1] at x0
        obtain ⟨w6, hw6⟩ : ∃ w6, w6 = w5.alloc (.cells #[.slice a1 n1 c1, .int .i64 mo2] 50) := ⟨_, rfl⟩
        have A6 := Lib.hid (show Below w5.heap.size w5 w6 by rw [hw6]; exact (Below.refl _ _).alloc (Nat.le_refl _) _)
        have N6 := Lib.hid (show Blk w6 w5.heap.size 50 [.slice a1 n1 c1, .int .i64 mo2] by rw [hw6]; exact Blk.new w5 _ _)
        have J6 := Lib.hid (hj5.call A6.out HLT.out HPw.out)
        have O6 := Lib.hid (flat_below ho5 A6.out)
        have HW6 := Lib.hid hw6
        have HOK := Lib.hid (show TmOk l2 cols ∧ l2.length ≤ cols ∧ -10 ≤ mo2 ∧ mo2 ≤ 50 from ⟨hok5, by rw [hl5]; exact HL1.out, m1, m2⟩)
        have HL5 := Lib.hid hl5; have HNR := Lib.hid hnr; have HN1 := Lib.hid hn1
        have hnr6 : nr ≤ 6 := by omega
        clear hw6 hj5 ho5 hl5 hok5 hx5 hnr hn1 JR J4 O4 X4
        go_wp2_with (at_builtin; rw [← HW6.out]; refine wpList_append_flat rfl (.tmp 73) (.tmp 75) 25 rfl 50 Try.underlying25 info_rw rfl (by decide) (n := nr) (by rw [HNR.out]; exact J6.out.hR) rfl (by exact J6.out.but.size) ⟨w5.heap.size, 0, none⟩ 1 1 [.slice a1 n1 c1, .int .i64 mo2] rfl rfl (fun j u hu => by rw [Addr.add_lit, Nat.zero_add]; exact N6.out.cell hu) (by simp [Value.oneCell']) (by decide) (by omega) (by decide) ?_; intro g cap w7 hap; have PU := Lib.hid (J6.out.push (x := (l2, mo2)) (by rw [HL5.out, ← HN1.out]; rw [← HN1.out] at O6; exact O6.out) HOK.out HLT.out LP.out rfl (by rw [← HNR.out]; exact hap.out)); have PB := Lib.hid (J6.out.kept (by rw [← HNR.out]; exact hap.out)); have q1 := PB.out.cell (i := 1) rfl; have qf := PB.out.free)
        clear x0 x1 p1 q1 qf
        go_roundw
        case rel => exact ⟨k', _, _, _, by rw [List.length_append]; show rows.length + 1 + k' ≤ n7; omega, by go_num, PU.out⟩
        case measure => simp [intOf]
end Go.Proofs.Ytdegpgonphgbcaa
