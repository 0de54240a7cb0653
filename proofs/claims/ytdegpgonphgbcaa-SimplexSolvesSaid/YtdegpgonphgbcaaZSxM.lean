/-
  The dictionary while simplex.
  A new row of simplex.
  The dictionary while simplex.
-/
import Derived.Deep.DeepCutAuto
import Derived.Test.YtdegpgonphgbcaaSxL
import Derived.Test.YtdegpgonphgbcaaZGrow
import Derived.Test.YtdegpgonphgbcaaZSxH
namespace Go.Proofs.Ytdegpgonphgbcaa
open Go.RowKit
theorem owns_tag {w : World} {B : Nat} {e : TypeId} {sz : Nat} {v : Value} {n : Nat} {xs : List Value} (h : w.ownsRow B e sz v n xs) {k : Nat} (hk : v.ownBlock = some k) : ∃ cs, Blk w k e cs ∧ B ≤ k := by
  rcases h.2 with ⟨rfl, _⟩ | ⟨g, cap, cur, rfl, hg, hb, _⟩
  · simp [Value.ownBlock] at hk
  · have : g = k := by simpa [Value.ownBlock] using hk
    subst this
    exact ⟨cur.toList, by unfold Blk; rw [Array.toArray_toList]; exact hb, hg⟩
theorem blk_tag {w : World} {b c : Nat} {s t : TypeId} {xs ys : List Value} (h : Blk w b s xs) (k : Blk w c t ys) (hst : s ≠ t) : b ≠ c := by
  intro e
  subst e
  unfold Blk at h k
  rw [h] at k
  injection k with k
  injection k with _ k
  exact hst k
def RowAt (w : World) (B : Nat) (u : Value) (row : List Rat) (g : Nat) : Prop := ∃ cap sp, u = .slice (some ⟨g, 0, none⟩) row.length cap ∧ FBlk w g row sp ∧ cap * 2 = row.length * 2 + sp.length ∧ cap ≤ 9223372036854775807 ∧ B ≤ g
structure BegRows (w : World) (B : Nat) (us : List Value) (gs : List Nat) (rows : List (List Rat)) : Prop where
  hu : us.length = rows.length
  hg : gs.length = rows.length
  row : ∀ (i : Nat) (u : Value) (g : Nat) (r : List Rat), us[i]? = some u → gs[i]? = some g → rows[i]? = some r → RowAt w B u r g
  nodup : gs.Nodup
theorem BegRows.nil (w : World) (B : Nat) : BegRows w B [] [] [] := ⟨rfl, rfl, fun i _ _ _ h => by simp at h, List.nodup_nil⟩
theorem BegRows.tag {w : World} {B : Nat} {us : List Value} {gs : List Nat} {rows : List (List Rat)} (h : BegRows w B us gs rows) {g : Nat} (hg : g ∈ gs) : ∃ cs, Blk w g 31 cs ∧ B ≤ g := by
  obtain ⟨i, hi⟩ := List.getElem?_of_mem hg
  have hl := (List.getElem?_eq_some_iff.1 hi).1
  obtain ⟨u, hu⟩ : ∃ u, us[i]? = some u := ⟨_, List.getElem?_eq_getElem (by rw [h.hu, ← h.hg]; exact hl)⟩
  obtain ⟨r, hr⟩ : ∃ r, rows[i]? = some r := ⟨_, List.getElem?_eq_getElem (by rw [← h.hg]; exact hl)⟩
  obtain ⟨_, _, _, hb, _, _, hB⟩ := h.row i u g r hu hi hr
  exact ⟨_, hb, hB⟩
theorem BegRows.chg {w w' : World} {B : Nat} {us : List Value} {gs : List Nat} {rows : List (List Rat)} (h : BegRows w B us gs rows) {M : Nat → Prop} (c : Chg M w w') (hM : ∀ g ∈ gs, ¬ M g) : BegRows w' B us gs rows :=
  ⟨h.hu, h.hg, fun i u g r e1 e2 e3 => by
    obtain ⟨cap, sp, h1, h2, h3, h4, h5⟩ := h.row i u g r e1 e2 e3
    exact ⟨cap, sp, h1, h2.chg c (hM g (List.mem_of_getElem? e2)), h3, h4, h5⟩, h.nodup⟩
theorem BegRows.below {w w' : World} {B : Nat} {us : List Value} {gs : List Nat} {rows : List (List Rat)} (h : BegRows w B us gs rows) (c : Below w.heap.size w w') : BegRows w' B us gs rows := h.chg (Chg.of_below (M := Non) c) (fun _ _ h => h)
theorem BegRows.snoc {w : World} {B : Nat} {us : List Value} {gs : List Nat} {rows : List (List Rat)} (h : BegRows w B us gs rows) {u : Value} {g : Nat} {r : List Rat} (hr : RowAt w B u r g) (hn : g ∉ gs) : BegRows w B (us ++ [u]) (gs ++ [g]) (rows ++ [r]) := by
  refine ⟨by simp [h.hu], by simp [h.hg], fun i u' g' r' e1 e2 e3 => ?_, ?_⟩
  · by_cases hi : i < rows.length
    · rw [List.getElem?_append_left (by rw [h.hu]; exact hi)] at e1
      rw [List.getElem?_append_left (by rw [h.hg]; exact hi)] at e2
      rw [List.getElem?_append_left hi] at e3
      exact h.row i u' g' r' e1 e2 e3
    · have hl := (List.getElem?_eq_some_iff.1 e3).1
      rw [List.length_append, List.length_singleton] at hl
      have hi2 : i = rows.length := by omega
      subst hi2
      rw [List.getElem?_append_right (by rw [h.hu]; exact Nat.le_refl _), h.hu, Nat.sub_self] at e1
      rw [List.getElem?_append_right (by rw [h.hg]; exact Nat.le_refl _), h.hg, Nat.sub_self] at e2
      rw [List.getElem?_append_right (Nat.le_refl _), Nat.sub_self] at e3
      cases e1; cases e2; cases e3
      exact hr
  · rw [List.nodup_append]
    exact ⟨h.nodup, by simp, fun a ha b hb e => by simp at hb; subst hb; subst e; exact hn ha⟩
theorem owns_of_fblk {w : World} {B g : Nat} {l sl : List Rat} (h : FBlk w g l (frs sl)) (hB : B ≤ g) (h9 : l.length + sl.length ≤ 1000) : w.ownsRow B 31 2 (.slice (some ⟨g, 0, none⟩) l.length (l.length + sl.length)) l.length (frs l) := by
  refine ⟨frs_length l, .inr ⟨g, l.length + sl.length, (frs l ++ frs sl).toArray, rfl, hB, h, by omega, by unfold maxLen; omega, ?_, ?_⟩⟩
  · simp [frs_length]; omega
  · simp [frs_length]
theorem fblk_of_owns {w : World} {B g n cap : Nat} {l : List Rat} (h : w.ownsRow B 31 2 (.slice (some ⟨g, 0, none⟩) n cap) n (frs l)) (hl : l.length = n) : ∃ sp, FBlk w g l sp ∧ cap * 2 = l.length * 2 + sp.length ∧ cap ≤ 9223372036854775807 ∧ B ≤ g := by
  rcases h.2 with ⟨h1, _⟩ | ⟨g', cap', cur, h1, h2, h3, h4, h5, h6, h7⟩
  · cases h1
  · cases h1
    refine ⟨cur.toList.drop (n * 2), ?_, ?_, by unfold maxLen at h5; omega, h2⟩
    · unfold FBlk Blk
      rw [← h7, List.take_append_drop, Array.toArray_toList]
      exact h3
    · have e : cur.toList.length = cap * 2 := by simpa using h6
      rw [List.length_drop, e, hl]; omega
def RowNew (w0 w' : World) (row : List Rat) (v : Value) : Prop := ∃ g cap sp, v = .slice (some ⟨g, 0, none⟩) row.length cap ∧ FBlk w' g row sp ∧ cap * 2 = row.length * 2 + sp.length ∧ cap ≤ 9223372036854775807 ∧ w0.heap.size ≤ g ∧ Below w0.heap.size w0 w'
theorem RowNew.call {w0 w' u : World} {row : List Rat} {v : Value} (h : RowNew w0 w' row v) (hu : Below w'.heap.size w' u) : RowNew w0 u row v := by
  obtain ⟨g, cap, sp, h1, h2, h3, h4, h5, h6⟩ := h
  exact ⟨g, cap, sp, h1, h2.below hu h2.lt, h3, h4, h5, h6.trans (hu.mono h6.size)⟩
def RowJ (wd w' : World) (x y : Rat) (n : Nat) (b4 b7 b8 : Bool) (v4 v7 v8 : Value) : Prop :=
  (b8 = true → (b4 = true ∧ b7 = true) ∧ RowNew wd w' ([x, y] ++ List.replicate n 0) v8) ∧ (b8 = false → ∃ g4 g7, (b4 = true → v4 = .slice (some ⟨g4, 0, none⟩) 2 2 ∧ FBlk w' g4 [x, y] [] ∧ wd.heap.size ≤ g4) ∧ (b7 = true → v7 = .slice (some ⟨g7, 0, none⟩) n n ∧ FBlk w' g7 (List.replicate n 0) []))
theorem RowJ.call {wd w' u : World} {x y : Rat} {n : Nat} {b4 b7 b8 : Bool} {v4 v7 v8 : Value} (h : RowJ wd w' x y n b4 b7 b8 v4 v7 v8) (hu : Below w'.heap.size w' u) : RowJ wd u x y n b4 b7 b8 v4 v7 v8 :=
  ⟨fun e => ⟨(h.1 e).1, (h.1 e).2.call hu⟩, fun e => by
    obtain ⟨g4, g7, h4, h7⟩ := h.2 e
    exact ⟨g4, g7, fun e => ⟨(h4 e).1, (h4 e).2.1.below hu (h4 e).2.1.lt, (h4 e).2.2⟩, fun e => ⟨(h7 e).1, (h7 e).2.below hu (h7 e).2.lt⟩⟩⟩
theorem RowJ.four {wd w' : World} {x y : Rat} {n : Nat} {b4 b7 b8 : Bool} {v4 v7 v8 : Value} (h : RowJ wd w' x y n b4 b7 b8 v4 v7 v8) (h4 : b4 = false) (hB : wd.heap.size ≤ w'.heap.size) : RowJ wd (w'.alloc (.cells (frs [x, y]).toArray 31)) x y n true b7 b8 (.slice (some ⟨w'.heap.size, 0, none⟩) 2 2) v7 v8 := by
  have h8 : b8 = false := by cases b8 with | false => rfl | true => exact absurd ((h.1 rfl).1.1.symm.trans h4) (by decide)
  subst h8
  obtain ⟨g4, g7, h4, h7⟩ := h.2 rfl
  exact ⟨fun e => (by cases e), fun _ => ⟨_, g7, fun _ => ⟨rfl, (Blk.new w' _ _).at (by simp), hB⟩, fun e => ⟨(h7 e).1, (h7 e).2.old _⟩⟩⟩
theorem RowJ.seven {wd w' u : World} {x y : Rat} {n : Nat} {b4 b7 b8 : Bool} {v4 v7 v8 : Value} (h : RowJ wd w' x y n b4 b7 b8 v4 v7 v8) (h7 : b7 = false) (hu : Below w'.heap.size w' u) {g : Nat} (hg : FBlk u g (List.replicate n 0) []) : RowJ wd u x y n b4 true b8 v4 (.slice (some ⟨g, 0, none⟩) n n) v8 := by
  have h8 : b8 = false := by cases b8 with | false => rfl | true => exact absurd ((h.1 rfl).1.2.symm.trans h7) (by decide)
  subst h8
  obtain ⟨g4, g7, h4, h7⟩ := (h.call hu).2 rfl
  exact ⟨fun e => (by cases e), fun _ => ⟨g4, g, h4, fun _ => ⟨rfl, hg⟩⟩⟩
theorem setCells_nil (w : World) (b o : Nat) : w.setCells b o [] = w := rfl
theorem step_append_frs {w w0 : World} {ops : Array Oper} {o : Oper} {a : Act} {K : Act → World → Prop} {Q : Exit → Act → World → Prop} {E : Prop} (hgd : o.guard = none) (s y : Operand)
    (ho : o.op = .call { callee := .builtin .append, args := #[s, y], argTypes := #[32, 32] }) (g4 g7 n : Nat) (xs : List Rat) (h2 : xs.length = 2) (hn : n ≤ 8) (h4 : FBlk w g4 xs []) (h7 : FBlk w g7 (List.replicate n 0) []) (hB : w0.heap.size ≤ g4) (hb : Below w0.heap.size w0 w)
    (hs : a.eval s = .slice (some ⟨g4, 0, none⟩) 2 2) (hy : a.eval y = .slice (some ⟨g7, 0, none⟩) n n)
    (h : ∀ v w', Hid (RowNew w0 w' (xs ++ List.replicate n 0) v) → K (a.put o.dst v) w') :
    if Region.wanted o (yielded ops a.tmps) = true then Oper.wp Try.prog o a w K Q else E := by
  have hB0 : w0.heap.size ≤ w.heap.size := hb.size
  have hu : Try.prog.underlying 32 = some (.slice 31) := Try.underlying32
  rcases Nat.eq_zero_or_pos n with rfl | hn0
  · obtain ⟨i0, hi0, hz0, hz1, hz2⟩ := info_parts info_fr
    refine step_append_room hgd s y 32 ho 31 i0 2 hu hi0 hz1 g4 0 2 2 hs ⟨g7, 0, none⟩ 0 0 [] hy rfl (fun j u h => by simp at h) (fun u h => by simp at h) (by omega) (fun j h => by simp at h) ?_
    rw [setCells_nil]
    refine h _ _ ⟨g4, 2, [], ?_, ?_, ?_, by omega, hB, hb⟩
    · simp [h2]
    · simpa using h4
    · simp [h2]
  · have ow : w.ownsRow w0.heap.size 31 2 (.slice (some ⟨g4, 0, none⟩) 2 2) 2 (frs xs) := by
      have := owns_of_fblk (B := w0.heap.size) (sl := []) h4 hB (by rw [h2]; decide)
      simpa [h2] using this
    refine step_append_flat hgd s y 32 ho 31 hu info_fr rfl (by decide) ow hs hB0 ⟨g7, 0, none⟩ n n (frs (List.replicate n 0)) hy (by rw [frs_length, List.length_replicate]) (fun j u hj => ?_) frs_one hn0 (by omega) (by decide) ?_
    · rw [Addr.add_lit, Nat.zero_add]
      exact h7.cell (by simpa using hj)
    · intro g cap w' hap
      have o2 := hap.out.owns
      rw [← frs_append] at o2
      obtain ⟨sp, h1, h2', h3, h4'⟩ := fblk_of_owns o2 (by simp [h2])
      refine h _ _ ⟨g, cap, sp, ?_, h1, h2', h3, h4', hb.trans (hap.out.chg.below (fun k hk e => ?_) hB0)⟩
      · simp [h2]
      · simp [Value.ownBlock] at e; omega
theorem info_fsl : (Try.prog.info? 32).map (fun i => (i.zero, i.size, i.bytes)) = some (some (.slice none 0 0), 1, 24) := by kernel_rfl
def RRw : Rd (List (Int × Int) × Int) := fun K w b o x => (∃ a n c, w.cell? ⟨b, o, none⟩ = some (.slice a n c) ∧ Row RTm 2 K w a n c x.1) ∧ w.cell? ⟨b, o + 1, none⟩ = some (.int .i64 x.2)
theorem RRw.stays : Stays RRw := fun _ _ _ _ _ _ h hs hK ⟨⟨a, n, c, h1, h2⟩, h3⟩ => ⟨⟨a, n, c, cell_stays h hK h1, h2.keeps RTm.stays h hs⟩, cell_stays h hK h3⟩
def rowSet (r : List Rat) (t : Int × Int) : List Rat := r.set (t.1 + 2).toNat ((-t.2 : Int) : Rat)
def rowOf (cols : Nat) (x : List (Int × Int) × Int) : List Rat := x.1.foldl rowSet ([(x.2 : Rat), 1] ++ List.replicate cols 0)
def outsOf (cols : Nat) : List Int := (List.range (cols + 1)).map Int.ofNat
def insOf (cols n : Nat) : List Int := (List.range n).map fun i => ((cols + 1 + i : Nat) : Int)
def begD (cols : Nat) (rows : List (List (Int × Int) × Int)) : Dc := ⟨insOf cols rows.length, outsOf cols, rows.map (rowOf cols) ++ [[0, -1] ++ List.replicate cols 0]⟩
def upTo (k : Nat) : List Int := (List.range k).map Int.ofNat
theorem upTo_succ (k : Nat) : ivs (upTo k) ++ [.int .i64 k] = ivs (upTo (k + 1)) := by
  unfold upTo ivs
  rw [List.range_succ, List.map_append, List.map_append]
  rfl
def BegRet (w : World) (d : Dc) (e : Ending) (w' : World) : Prop :=
  ∃ q vI vO vR fp fI fO fR, e = .returned (.pointer (some ⟨q, 0, none⟩)) ∧ Dic w' fp q d.ins d.outs d.rows vI vO vR fI fO fR ∧ (∀ x, fp x → w.heap.size ≤ x ∧ x < w'.heap.size) ∧ Below w.heap.size w w'
theorem insOf_succ {cols n ci : Nat} (h : ci = cols + 1 + n) : ivs (insOf cols n) ++ [.int .i64 ci] = ivs (insOf cols (n + 1)) := by
  unfold insOf ivs
  rw [List.range_succ, List.map_append, List.map_append, h]
  rfl
structure BegP (wx w4 : World) (q X nI : Nat) (ins : List Int) (vO vR : Value) (us : List Value) (gs : List Nat) (nR : Nat) (rows : List (List Rat)) (xs : List Value) : Prop where
  ex : ∃ vI, wx.ownsRow w4.heap.size 3 1 vI nI (ivs ins) ∧ Blk wx q 71 [vI, vO, vR]
  oR : wx.ownsRow w4.heap.size 32 1 vR nR us
  bR : BegRows wx w4.heap.size us gs rows
  hX : Blk wx X 50 xs
  chg : Chg (fun x => x = q) w4 wx
theorem begP_mk {w4 w6 w7 : World} {q X i ci : Nat} {aI : Option Addr} {cI g cap : Nat} {cs : List Value} {ins' : List Int} {vO vR : Value} {us : List Value} {gs : List Nat} {nR : Nat} {rows : List (List Rat)} {xs : List Value}
    (hap : FApp 3 1 w4.heap.size (.slice aI i cI) i 1 cs [.int .i64 ci] w6 w7 (.slice (some ⟨g, 0, none⟩) (i + 1) cap)) (o6 : w6.ownsRow w4.heap.size 3 1 (.slice aI i cI) i cs) (oR : w6.ownsRow w4.heap.size 32 1 vR nR us) (bR : BegRows w6 w4.heap.size us gs rows)
    (hq : Blk w6 q 71 [.slice aI i cI, vO, vR]) (hni : ¬ (Value.slice aI i cI).ownBlock = some q) (_h : True) (hq4 : q < w4.heap.size) (hX : Blk w6 X 50 xs) (hXq : X ≠ q) (hc : Chg (fun x => x = q) w4 w6) (he : cs ++ [.int .i64 ci] = ivs ins') :
    BegP (w7.setCell ⟨q, 0, none⟩ (.slice (some ⟨g, 0, none⟩) (i + 1) cap)) w4 q X (i + 1) ins' vO vR us gs nR rows xs := by
  have ho := hap.owns
  rw [he] at ho
  have cq : Chg (fun x => x = q) w7 (w7.setCell ⟨q, 0, none⟩ (.slice (some ⟨g, 0, none⟩) (i + 1) cap)) := Chg.setCell (M := fun x => x = q) (p := ⟨q, 0, none⟩) (Chg.refl w7) (fun _ => rfl) _
  have bq := hq.chg hap.chg hni
  have keep : ∀ {t : TypeId} {ys : List Value} {k : Nat}, Blk w6 k t ys → 3 ≠ t → k ≠ q → Blk (w7.setCell ⟨q, 0, none⟩ (.slice (some ⟨g, 0, none⟩) (i + 1) cap)) k t ys := fun hb ht hk => by
    refine (hb.chg hap.chg (fun e => ?_)).other hk _
    obtain ⟨cs, hc, _⟩ := owns_tag o6 e
    exact blk_tag hc hb ht rfl
  refine ⟨⟨_, ownsRow_of ho (fun k hk => cq.block k (ho.lt k hk).2 (fun e => by have := (ho.lt k hk).1; omega)), bq.set 0 _⟩, ownsRow_of oR (fun k hk => ?_), (bR.chg hap.chg (fun x hx e => ?_)).chg cq (fun x hx e => ?_), keep hX (by decide) hXq, (hc.trans hap.chg (fun x hx e => ?_)).setCell (fun _ => rfl) _⟩
  · obtain ⟨ys, hy, hb⟩ := owns_tag oR hk
    rw [keep hy (by decide) (by omega), hy]
  · obtain ⟨ys, hy, hb⟩ := bR.tag hx
    obtain ⟨cs, hc, _⟩ := owns_tag o6 e
    exact blk_tag hc hy (by decide) rfl
  · obtain ⟨ys, hy, hb⟩ := bR.tag hx
    omega
  · have := (o6.lt x e).1; omega
theorem OInts.of_owns' {w : World} {f : Nat → Prop} {v : Value} {xs : List Int} (h : w.ownsRow 0 3 1 v xs.length (ivs xs)) (hr : ∀ z ∈ xs, -9223372036854775808 ≤ z ∧ z ≤ 9223372036854775807) (hf : ∀ k, v.ownBlock = some k → f k) (hl : xs.length ≤ 17592186044416) : OInts w f v xs := by
  rcases h.2 with ⟨rfl, h0⟩ | ⟨g, cap, cur, rfl, _, hb, hn, hm, hs, ht⟩
  · exact .inl ⟨rfl, List.eq_nil_of_length_eq_zero h0⟩
  · rw [Nat.mul_one] at hs ht
    have e : cur = (ivs xs ++ cur.toList.drop xs.length).toArray := by rw [← ht, List.take_append_drop, Array.toArray_toList]
    refine OInts.mk (sp := cur.toList.drop xs.length) (by rw [Blk, ← e]; exact hb) rfl ?_ (by unfold maxLen at hm; omega) hl (hf _ rfl) hr
    have e2 : cur.toList.length = cur.size := Array.length_toList
    rw [List.length_drop]; omega
def rowTo (tm : List (Int × Int)) (r : List Rat) (j : Nat) : List Rat := (tm.take j).foldl rowSet r
theorem rowTo_length (tm : List (Int × Int)) (r : List Rat) (j : Nat) : (rowTo tm r j).length = r.length := by
  unfold rowTo
  generalize tm.take j = l
  induction l generalizing r with
  | nil => rfl
  | cons t l ih => rw [List.foldl_cons, ih]; simp [rowSet]
theorem rowTo_succ {tm : List (Int × Int)} {r : List Rat} {j : Nat} {t : Int × Int} (h : tm[j]? = some t) : rowTo tm r (j + 1) = rowSet (rowTo tm r j) t := by
  unfold rowTo
  rw [List.take_add_one, h, List.foldl_append]
  rfl
theorem BegP.below {w4 wx wy : World} {q X nI : Nat} {ins : List Int} {vO vR : Value} {us : List Value} {gs : List Nat} {nR : Nat} {rows : List (List Rat)} {xs : List Value} (h : BegP wx w4 q X nI ins vO vR us gs nR rows xs) (hb : Below wx.heap.size wx wy) : BegP wy w4 q X nI ins vO vR us gs nR rows xs := by
  obtain ⟨vI, h1, h2⟩ := h.ex
  exact ⟨⟨vI, flat_below h1 hb, h2.below hb h2.lt⟩, flat_below h.oR hb, h.bR.below hb, h.hX.below hb h.hX.lt, h.chg.tr hb⟩
theorem begR_mk0 {w4 w6 w7 : World} {q nI i : Nat} {ins : List Int} {vI vO : Value} {aR : Option Addr} {cR : Nat} {us : List Value} {gs : List Nat} {rows : List (List Rat)} (hI : w6.ownsRow w4.heap.size 3 1 vI nI (ivs ins)) (hQ : Blk w6 q 71 [vI, vO, .slice aR i cR]) (oR : w6.ownsRow w4.heap.size 32 1 (.slice aR i cR) i us) (bR : BegRows w6 w4.heap.size us gs rows) (chg : Chg (fun x => x = q) w4 w6) (hq4 : q < w4.heap.size)
    {g cap g2 cap2 : Nat} {sp : List Value} {row : List Rat} (fg : FBlk w6 g row sp) (hcap : cap * 2 = row.length * 2 + sp.length) (hcm : cap ≤ 9223372036854775807) (hg : w4.heap.size ≤ g) (hgn : g ∉ gs)
    (hap : FApp 32 1 w4.heap.size (.slice aR i cR) i 1 us [.slice (some ⟨g, 0, none⟩) row.length cap] w6 w7 (.slice (some ⟨g2, 0, none⟩) (i + 1) cap2)) :
    ∃ us' gs', (w7.setCell ⟨q, 2, none⟩ (.slice (some ⟨g2, 0, none⟩) (i + 1) cap2)).ownsRow w4.heap.size 3 1 vI nI (ivs ins) ∧ (w7.setCell ⟨q, 2, none⟩ (.slice (some ⟨g2, 0, none⟩) (i + 1) cap2)).ownsRow w4.heap.size 32 1 (.slice (some ⟨g2, 0, none⟩) (i + 1) cap2) (i + 1) us' ∧
      BegRows (w7.setCell ⟨q, 2, none⟩ (.slice (some ⟨g2, 0, none⟩) (i + 1) cap2)) w4.heap.size us' gs' (rows ++ [row]) ∧ Blk (w7.setCell ⟨q, 2, none⟩ (.slice (some ⟨g2, 0, none⟩) (i + 1) cap2)) q 71 [vI, vO, .slice (some ⟨g2, 0, none⟩) (i + 1) cap2] ∧
      Chg (fun x => x = q) w4 (w7.setCell ⟨q, 2, none⟩ (.slice (some ⟨g2, 0, none⟩) (i + 1) cap2)) := by
  have cq : Chg (fun x => x = q) w7 (w7.setCell ⟨q, 2, none⟩ (.slice (some ⟨g2, 0, none⟩) (i + 1) cap2)) := Chg.setCell (M := fun x => x = q) (p := ⟨q, 2, none⟩) (Chg.refl w7) (fun _ => rfl) _
  have nq : ¬ (Value.slice aR i cR).ownBlock = some q := fun e => by have := (oR.lt q e).1; omega
  have keep : ∀ {t : TypeId} {ys : List Value} {k : Nat}, Blk w6 k t ys → 32 ≠ t → k ≠ q → Blk (w7.setCell ⟨q, 2, none⟩ (.slice (some ⟨g2, 0, none⟩) (i + 1) cap2)) k t ys := fun hb ht hk => by
    refine (hb.chg hap.chg (fun e => ?_)).other hk _
    obtain ⟨cs, hc, _⟩ := owns_tag oR e
    exact blk_tag hc hb ht rfl
  have gq : ∀ x, w4.heap.size ≤ x → x ≠ q := fun x hx e => by omega
  have hb1 : BegRows w7 w4.heap.size us gs rows := bR.chg hap.chg (fun x hx e => by
    obtain ⟨ys, hy, _⟩ := bR.tag hx
    obtain ⟨cs, hc, _⟩ := owns_tag oR e
    exact blk_tag hc hy (by decide) rfl)
  have hb2 := hb1.chg cq (fun x hx e => by
    obtain ⟨ys, _, hb⟩ := bR.tag hx
    exact gq x hb e)
  refine ⟨_, gs ++ [g], ownsRow_of hI (fun k hk => ?_), ownsRow_of hap.owns (fun k hk => cq.block k (hap.owns.lt k hk).2 (gq k (hap.owns.lt k hk).1)), hb2.snoc ⟨cap, sp, rfl, keep fg (by decide) (gq g hg), hcap, hcm, hg⟩ hgn, (hQ.chg hap.chg nq).set 2 _, (chg.trans hap.chg (fun x hx e => ?_)).setCell (fun _ => rfl) _⟩
  · obtain ⟨ys, hy, hb⟩ := owns_tag hI hk
    rw [keep hy (by decide) (gq k hb), hy]
  · have := (oR.lt x e).1; omega
theorem begR_mk {w4 w6 w7 : World} {q X nI i : Nat} {ins : List Int} {vO : Value} {aR : Option Addr} {cR : Nat} {us : List Value} {gs : List Nat} {rows : List (List Rat)} {xs : List Value} (hp : BegP w6 w4 q X nI ins vO (.slice aR i cR) us gs i rows xs) (hq4 : q < w4.heap.size)
    {g cap g2 cap2 : Nat} {sp : List Value} {row : List Rat} (fg : FBlk w6 g row sp) (hcap : cap * 2 = row.length * 2 + sp.length) (hcm : cap ≤ 9223372036854775807) (hg : w4.heap.size ≤ g) (hgn : g ∉ gs)
    (hap : FApp 32 1 w4.heap.size (.slice aR i cR) i 1 us [.slice (some ⟨g, 0, none⟩) row.length cap] w6 w7 (.slice (some ⟨g2, 0, none⟩) (i + 1) cap2)) :
    ∃ vI us' gs', (w7.setCell ⟨q, 2, none⟩ (.slice (some ⟨g2, 0, none⟩) (i + 1) cap2)).ownsRow w4.heap.size 3 1 vI nI (ivs ins) ∧ (w7.setCell ⟨q, 2, none⟩ (.slice (some ⟨g2, 0, none⟩) (i + 1) cap2)).ownsRow w4.heap.size 32 1 (.slice (some ⟨g2, 0, none⟩) (i + 1) cap2) (i + 1) us' ∧
      BegRows (w7.setCell ⟨q, 2, none⟩ (.slice (some ⟨g2, 0, none⟩) (i + 1) cap2)) w4.heap.size us' gs' (rows ++ [row]) ∧ Blk (w7.setCell ⟨q, 2, none⟩ (.slice (some ⟨g2, 0, none⟩) (i + 1) cap2)) q 71 [vI, vO, .slice (some ⟨g2, 0, none⟩) (i + 1) cap2] ∧
      Chg (fun x => x = q) w4 (w7.setCell ⟨q, 2, none⟩ (.slice (some ⟨g2, 0, none⟩) (i + 1) cap2)) := by
  obtain ⟨vI, hI, hQ⟩ := hp.ex
  obtain ⟨us', gs', h⟩ := begR_mk0 hI hQ hp.oR hp.bR hp.chg hq4 fg hcap hcm hg hgn hap
  exact ⟨vI, us', gs', h⟩
def EndJ (wd w' : World) (B : Nat) (vR : Value) (nR : Nat) (us : List Value) (xy : List Rat) (cols : Nat) (v : Value) : Prop :=
  ∃ wm u g2 cap2, RowNew wd wm (xy ++ List.replicate cols 0) u ∧ FApp 32 1 B vR nR 1 us [u] wm w' (.slice (some ⟨g2, 0, none⟩) (nR + 1) cap2) ∧ v = .slice (some ⟨g2, 0, none⟩) (nR + 1) cap2
theorem BegRows.ge {w : World} {B B' : Nat} {us : List Value} {gs : List Nat} {rows : List (List Rat)} (h : BegRows w B us gs rows) (hB : B' ≤ B) : BegRows w B' us gs rows :=
  ⟨h.hu, h.hg, fun i u g r e1 e2 e3 => by
    obtain ⟨cap, sp, h1, h2, h3, h4, h5⟩ := h.row i u g r e1 e2 e3
    exact ⟨cap, sp, h1, h2, h3, h4, by omega⟩, h.nodup⟩
theorem dic_made {w : World} {B q nI nO nR : Nat} {ins outs : List Int} {rows : List (List Rat)} {vI vO vR : Value} {us : List Value} {gs : List Nat} (hI : w.ownsRow B 3 1 vI nI (ivs ins)) (hO : w.ownsRow B 3 1 vO nO (ivs outs)) (hR : w.ownsRow B 32 1 vR nR us) (hb : BegRows w B us gs rows) (hQ : Blk w q 71 [vI, vO, vR])
    (hio : ∀ k, vI.ownBlock = some k → ¬ vO.ownBlock = some k) (hqB : q < B) (nIl : nI = ins.length) (nOl : nO = outs.length) (nRl : nR = rows.length) (hl : ins.length ≤ 100 ∧ outs.length ≤ 100 ∧ rows.length ≤ 100) (rI : ∀ z ∈ ins, -9223372036854775808 ≤ z ∧ z ≤ 9223372036854775807) (rO : ∀ z ∈ outs, -9223372036854775808 ≤ z ∧ z ≤ 9223372036854775807) (h0 : 0 < rows.length) :
    Dic w (fun k => k = q ∨ (B ≤ k ∧ k < w.heap.size)) q ins outs rows vI vO vR (fun k => vI.ownBlock = some k) (fun k => vO.ownBlock = some k) (fun k => vR.ownBlock = some k ∨ k ∈ gs) := by
  subst nIl nOl nRl
  have z : ∀ {v : Value} {n : Nat} {xs : List Value} {e : TypeId}, w.ownsRow B e 1 v n xs → w.ownsRow 0 e 1 v n xs := fun h => flat_ge h (Nat.zero_le _)
  have tg : ∀ {g : Nat} {v : Value} {n : Nat} {xs : List Value} {e : TypeId}, g ∈ gs → w.ownsRow B e 1 v n xs → e ≠ 31 → ¬ v.ownBlock = some g := fun hg hv he k => by
    obtain ⟨ys, hy, _⟩ := hb.tag hg
    obtain ⟨cs, hc, _⟩ := owns_tag hv k
    exact blk_tag hc hy he rfl
  have tr : ∀ {v : Value} {n : Nat} {xs : List Value}, w.ownsRow B 3 1 v n xs → ∀ k, v.ownBlock = some k → ¬ vR.ownBlock = some k := fun hv k h1 h2 => by
    obtain ⟨cs, hc, _⟩ := owns_tag hv h1
    obtain ⟨ds, hd, _⟩ := owns_tag hR h2
    exact blk_tag hc hd (by decide) rfl
  have own : ∀ {v : Value} {n : Nat} {xs : List Value} {e : TypeId}, w.ownsRow B e 1 v n xs → ∀ k, v.ownBlock = some k → k = q ∨ (B ≤ k ∧ k < w.heap.size) := fun h k hk => .inr (h.lt k hk)
  have nq : ∀ {v : Value} {n : Nat} {xs : List Value} {e : TypeId}, w.ownsRow B e 1 v n xs → ¬ v.ownBlock = some q := fun h k => by have := (h.lt q k).1; omega
  refine ⟨hQ.has, OInts.of_owns' (z hI) rI (fun k h => h) (by omega), OInts.of_owns' (z hO) rO (fun k h => h) (by omega), ?_, own hI, own hO, ?_, .inl rfl, hio, ?_, ?_, nq hI, nq hO, ?_⟩
  · rcases hR.2 with ⟨_, h1⟩ | ⟨g, cap, cur, rfl, hg, hcur, hn, hm, hs, ht⟩
    · omega
    · rw [Nat.mul_one] at hs ht
      have hus : us.length = rows.length := hb.hu
      have e2 : cur.toList.length = cur.size := Array.length_toList
      refine .inr ⟨g, cap, us, cur.toList.drop rows.length, fun i k => gs[i]? = some k, rfl, ?_, hus, ?_, by unfold maxLen at hm; omega, by omega, .inl rfl, fun i x hx => ?_, fun i k hi hk => ?_, fun i j k hi hj h1 h2 => ?_⟩
      · show w.heap[g]? = _
        rw [hcur, ← ht, List.take_append_drop, Array.toArray_toList]
      · rw [List.length_drop]; omega
      · have hi := (List.getElem?_eq_some_iff.1 hx).1
        obtain ⟨u, hu⟩ : ∃ u, us[i]? = some u := ⟨_, List.getElem?_eq_getElem (by omega)⟩
        obtain ⟨k, hk⟩ : ∃ k, gs[i]? = some k := ⟨_, List.getElem?_eq_getElem (by rw [hb.hg]; exact hi)⟩
        obtain ⟨c, sp, h1, h2, h3, h4, h5⟩ := hb.row i u k x hu hk hx
        exact ⟨u, hu, .inr ⟨k, c, sp, h1, h2, h3, h4, hk⟩⟩
      · have hm' := List.mem_of_getElem? hk
        obtain ⟨ys, hy, _⟩ := hb.tag hm'
        exact ⟨.inr hm', fun e => tg hm' hR (by decide) (by rw [e]; rfl), hy.lt⟩
      · have h3 := (List.getElem?_eq_some_iff.1 h1)
        have h4 := (List.getElem?_eq_some_iff.1 h2)
        obtain ⟨l1, e1⟩ := h3
        obtain ⟨l2, e2⟩ := h4
        have hp := List.pairwise_iff_getElem.1 hb.nodup
        rcases Nat.lt_trichotomy i j with h | h | h
        · exact absurd (e1.trans e2.symm) (hp i j l1 l2 h)
        · exact h
        · exact absurd (e2.trans e1.symm) (hp j i l2 l1 h)
  · rintro k (h | h)
    · exact own hR k h
    · obtain ⟨ys, hy, hB⟩ := hb.tag h
      exact .inr ⟨hB, hy.lt⟩
  · rintro k h1 (h2 | h2)
    · exact tr hI k h1 h2
    · exact tg h2 hI (by decide) h1
  · rintro k h1 (h2 | h2)
    · exact tr hO k h1 h2
    · exact tg h2 hO (by decide) h1
  · rintro (h | h)
    · exact nq hR h
    · obtain ⟨ys, hy, hB⟩ := hb.tag h
      omega
end Go.Proofs.Ytdegpgonphgbcaa
