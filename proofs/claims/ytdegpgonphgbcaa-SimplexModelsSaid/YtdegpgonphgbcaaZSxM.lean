/-
  The dictionary while simplex.begin builds it: lists that grow by append, kept apart by the types of their blocks. Small laws.
  A new row of simplex.begin: two fractions and some zeros, joined by append. Small laws.
-/
import Derived.Test.YtdegpgonphgbcaaSxL
import Derived.Test.YtdegpgonphgbcaaZGrow2
import Derived.Test.YtdegpgonphgbcaaZSxH
namespace Go.Proofs.Ytdegpgonphgbcaa
open Go.RowKit

/-- The block of a list that grows has the list's type of elements. -/
theorem owns_tag {w : World} {B : Nat} {e : TypeId} {sz : Nat} {v : Value} {n : Nat} {xs : List Value} (h : w.ownsRow B e sz v n xs) {k : Nat} (hk : v.ownBlock = some k) : ∃ cs, Blk w k e cs ∧ B ≤ k := by
  rcases h.2 with ⟨rfl, _⟩ | ⟨g, cap, cur, rfl, hg, hb, _⟩
  · simp [Value.ownBlock] at hk
  · have : g = k := by simpa [Value.ownBlock] using hk
    subst this
    exact ⟨cur.toList, by unfold Blk; rw [Array.toArray_toList]; exact hb, hg⟩
theorem blk_tag {w : World} {b c : Nat} {s t : TypeId} {xs ys : List Value} (h : Blk w b s xs) (k : Blk w c t ys) (hst : s ≠ t) : b ≠ c := by
  intro e
  subst e
  unfold Blk at h k
  rw [h] at k
  injection k with k
  injection k with _ k
  exact hst k
/-- One row of the dictionary under construction, in the block g. -/
def RowAt (w : World) (B : Nat) (u : Value) (row : List Rat) (g : Nat) : Prop := ∃ cap sp, u = .slice (some ⟨g, 0, none⟩) row.length cap ∧ FBlk w g row sp ∧ cap * 2 = row.length * 2 + sp.length ∧ cap ≤ 9223372036854775807 ∧ B ≤ g
structure BegRows (w : World) (B : Nat) (us : List Value) (gs : List Nat) (rows : List (List Rat)) : Prop where
  hu : us.length = rows.length
  hg : gs.length = rows.length
  row : ∀ (i : Nat) (u : Value) (g : Nat) (r : List Rat), us[i]? = some u → gs[i]? = some g → rows[i]? = some r → RowAt w B u r g
  nodup : gs.Nodup
theorem BegRows.nil (w : World) (B : Nat) : BegRows w B [] [] [] := ⟨rfl, rfl, fun i _ _ _ h => by simp at h, List.nodup_nil⟩
theorem BegRows.tag {w : World} {B : Nat} {us : List Value} {gs : List Nat} {rows : List (List Rat)} (h : BegRows w B us gs rows) {g : Nat} (hg : g ∈ gs) : ∃ cs, Blk w g 31 cs ∧ B ≤ g := by
  obtain ⟨i, hi⟩ := List.getElem?_of_mem hg
  have hl := (List.getElem?_eq_some_iff.1 hi).1
  obtain ⟨u, hu⟩ : ∃ u, us[i]? = some u := ⟨_, List.getElem?_eq_getElem (by rw [h.hu, ← h.hg]; exact hl)⟩
  obtain ⟨r, hr⟩ : ∃ r, rows[i]? = some r := ⟨_, List.getElem?_eq_getElem (by rw [← h.hg]; exact hl)⟩
  obtain ⟨_, _, _, hb, _, _, hB⟩ := h.row i u g r hu hi hr
  exact ⟨_, hb, hB⟩
theorem BegRows.chg {w w' : World} {B : Nat} {us : List Value} {gs : List Nat} {rows : List (List Rat)} (h : BegRows w B us gs rows) {M : Nat → Prop} (c : Chg M w w') (hM : ∀ g ∈ gs, ¬ M g) : BegRows w' B us gs rows :=
  ⟨h.hu, h.hg, fun i u g r e1 e2 e3 => by
    obtain ⟨cap, sp, h1, h2, h3, h4, h5⟩ := h.row i u g r e1 e2 e3
    exact ⟨cap, sp, h1, h2.chg c (hM g (List.mem_of_getElem? e2)), h3, h4, h5⟩, h.nodup⟩
theorem BegRows.below {w w' : World} {B : Nat} {us : List Value} {gs : List Nat} {rows : List (List Rat)} (h : BegRows w B us gs rows) (c : Below w.heap.size w w') : BegRows w' B us gs rows := h.chg (Chg.of_below (M := Non) c) (fun _ _ h => h)
theorem BegRows.snoc {w : World} {B : Nat} {us : List Value} {gs : List Nat} {rows : List (List Rat)} (h : BegRows w B us gs rows) {u : Value} {g : Nat} {r : List Rat} (hr : RowAt w B u r g) (hn : g ∉ gs) : BegRows w B (us ++ [u]) (gs ++ [g]) (rows ++ [r]) := by
  refine ⟨by simp [h.hu], by simp [h.hg], fun i u' g' r' e1 e2 e3 => ?_, ?_⟩
  · by_cases hi : i < rows.length
    · rw [List.getElem?_append_left (by rw [h.hu]; exact hi)] at e1
      rw [List.getElem?_append_left (by rw [h.hg]; exact hi)] at e2
      rw [List.getElem?_append_left hi] at e3
      exact h.row i u' g' r' e1 e2 e3
    · have hl := (List.getElem?_eq_some_iff.1 e3).1
      rw [List.length_append, List.length_singleton] at hl
      have hi2 : i = rows.length := by omega
      subst hi2
      rw [List.getElem?_append_right (by rw [h.hu]; exact Nat.le_refl _), h.hu, Nat.sub_self] at e1
      rw [List.getElem?_append_right (by rw [h.hg]; exact Nat.le_refl _), h.hg, Nat.sub_self] at e2
      rw [List.getElem?_append_right (Nat.le_refl _), Nat.sub_self] at e3
      cases e1; cases e2; cases e3
      exact hr
  · rw [List.nodup_append]
    exact ⟨h.nodup, by simp, fun a ha b hb e => by simp at hb; subst hb; subst e; exact hn ha⟩
end Go.Proofs.Ytdegpgonphgbcaa
namespace Go.Proofs.Ytdegpgonphgbcaa
open Go.RowKit

theorem owns_of_fblk {w : World} {B g : Nat} {l sl : List Rat} (h : FBlk w g l (frs sl)) (hB : B ≤ g) (h9 : l.length + sl.length ≤ 1000) : w.ownsRow B 31 2 (.slice (some ⟨g, 0, none⟩) l.length (l.length + sl.length)) l.length (frs l) := by
  refine ⟨frs_length l, .inr ⟨g, l.length + sl.length, (frs l ++ frs sl).toArray, rfl, hB, h, by omega, by unfold maxLen; omega, ?_, ?_⟩⟩
  · simp [frs_length]; omega
  · simp [frs_length]
theorem fblk_of_owns {w : World} {B g n cap : Nat} {l : List Rat} (h : w.ownsRow B 31 2 (.slice (some ⟨g, 0, none⟩) n cap) n (frs l)) (hl : l.length = n) : ∃ sp, FBlk w g l sp ∧ cap * 2 = l.length * 2 + sp.length ∧ cap ≤ 9223372036854775807 ∧ B ≤ g := by
  rcases h.2 with ⟨h1, _⟩ | ⟨g', cap', cur, h1, h2, h3, h4, h5, h6, h7⟩
  · cases h1
  · cases h1
    refine ⟨cur.toList.drop (n * 2), ?_, ?_, by unfold maxLen at h5; omega, h2⟩
    · unfold FBlk Blk
      rw [← h7, List.take_append_drop, Array.toArray_toList]
      exact h3
    · have e : cur.toList.length = cap * 2 := by simpa using h6
      rw [List.length_drop, e, hl]; omega
/-- What a row under construction is, behind the append. -/
def RowNew (w0 w' : World) (row : List Rat) (v : Value) : Prop := ∃ g cap sp, v = .slice (some ⟨g, 0, none⟩) row.length cap ∧ FBlk w' g row sp ∧ cap * 2 = row.length * 2 + sp.length ∧ cap ≤ 9223372036854775807 ∧ w0.heap.size ≤ g ∧ Below w0.heap.size w0 w'
theorem RowNew.call {w0 w' u : World} {row : List Rat} {v : Value} (h : RowNew w0 w' row v) (hu : Below w'.heap.size w' u) : RowNew w0 u row v := by
  obtain ⟨g, cap, sp, h1, h2, h3, h4, h5, h6⟩ := h
  exact ⟨g, cap, sp, h1, h2.below hu h2.lt, h3, h4, h5, h6.trans (hu.mono h6.size)⟩
/-- While the row is made: the two parts, each where it is there. -/
def RowJ (wd w' : World) (x y : Rat) (n : Nat) (b4 b7 b8 : Bool) (v4 v7 v8 : Value) : Prop :=
  (b8 = true → (b4 = true ∧ b7 = true) ∧ RowNew wd w' ([x, y] ++ List.replicate n 0) v8) ∧ (b8 = false → ∃ g4 g7, (b4 = true → v4 = .slice (some ⟨g4, 0, none⟩) 2 2 ∧ FBlk w' g4 [x, y] [] ∧ wd.heap.size ≤ g4) ∧ (b7 = true → v7 = .slice (some ⟨g7, 0, none⟩) n n ∧ FBlk w' g7 (List.replicate n 0) []))
theorem RowJ.call {wd w' u : World} {x y : Rat} {n : Nat} {b4 b7 b8 : Bool} {v4 v7 v8 : Value} (h : RowJ wd w' x y n b4 b7 b8 v4 v7 v8) (hu : Below w'.heap.size w' u) : RowJ wd u x y n b4 b7 b8 v4 v7 v8 :=
  ⟨fun e => ⟨(h.1 e).1, (h.1 e).2.call hu⟩, fun e => by
    obtain ⟨g4, g7, h4, h7⟩ := h.2 e
    exact ⟨g4, g7, fun e => ⟨(h4 e).1, (h4 e).2.1.below hu (h4 e).2.1.lt, (h4 e).2.2⟩, fun e => ⟨(h7 e).1, (h7 e).2.below hu (h7 e).2.lt⟩⟩⟩
theorem RowJ.four {wd w' : World} {x y : Rat} {n : Nat} {b4 b7 b8 : Bool} {v4 v7 v8 : Value} (h : RowJ wd w' x y n b4 b7 b8 v4 v7 v8) (h4 : b4 = false) (hB : wd.heap.size ≤ w'.heap.size) : RowJ wd (w'.alloc (.cells (frs [x, y]).toArray 31)) x y n true b7 b8 (.slice (some ⟨w'.heap.size, 0, none⟩) 2 2) v7 v8 := by
  have h8 : b8 = false := by cases b8 with | false => rfl | true => exact absurd ((h.1 rfl).1.1.symm.trans h4) (by decide)
  subst h8
  obtain ⟨g4, g7, h4, h7⟩ := h.2 rfl
  exact ⟨fun e => (by cases e), fun _ => ⟨_, g7, fun _ => ⟨rfl, (Blk.new w' _ _).at (by simp), hB⟩, fun e => ⟨(h7 e).1, (h7 e).2.old _⟩⟩⟩
theorem RowJ.seven {wd w' u : World} {x y : Rat} {n : Nat} {b4 b7 b8 : Bool} {v4 v7 v8 : Value} (h : RowJ wd w' x y n b4 b7 b8 v4 v7 v8) (h7 : b7 = false) (hu : Below w'.heap.size w' u) {g : Nat} (hg : FBlk u g (List.replicate n 0) []) : RowJ wd u x y n b4 true b8 v4 (.slice (some ⟨g, 0, none⟩) n n) v8 := by
  have h8 : b8 = false := by cases b8 with | false => rfl | true => exact absurd ((h.1 rfl).1.2.symm.trans h7) (by decide)
  subst h8
  obtain ⟨g4, g7, h4, h7⟩ := (h.call hu).2 rfl
  exact ⟨fun e => (by cases e), fun _ => ⟨g4, g, h4, fun _ => ⟨rfl, hg⟩⟩⟩
theorem setCells_nil (w : World) (b o : Nat) : w.setCells b o [] = w := rfl
theorem step_append_frs {w w0 : World} {ops : Array Oper} {o : Oper} {a : Act} {K : Act → World → Prop} {Q : Exit → Act → World → Prop} {E : Prop} (hgd : o.guard = none) (s y : Operand)
    (ho : o.op = .call { callee := .builtin .append, args := #[s, y], argTypes := #[32, 32] }) (g4 g7 n : Nat) (xs : List Rat) (h2 : xs.length = 2) (hn : n ≤ 8) (h4 : FBlk w g4 xs []) (h7 : FBlk w g7 (List.replicate n 0) []) (hB : w0.heap.size ≤ g4) (hb : Below w0.heap.size w0 w)
    (hs : a.eval s = .slice (some ⟨g4, 0, none⟩) 2 2) (hy : a.eval y = .slice (some ⟨g7, 0, none⟩) n n)
    (h : ∀ v w', Hid (RowNew w0 w' (xs ++ List.replicate n 0) v) → K (a.put o.dst v) w') :
    if Region.wanted o (yielded ops a.tmps) = true then Oper.wp Try.prog o a w K Q else E := by
  have hB0 : w0.heap.size ≤ w.heap.size := hb.size
  have hu : Try.prog.underlying 32 = some (.slice 31) := Try.underlying32
  rcases Nat.eq_zero_or_pos n with rfl | hn0
  · obtain ⟨i0, hi0, hz0, hz1, hz2⟩ := info_parts info_fr
    refine step_append_room hgd s y 32 ho 31 i0 2 hu hi0 hz1 g4 0 2 2 hs ⟨g7, 0, none⟩ 0 0 [] hy rfl (fun j u h => by simp at h) (fun u h => by simp at h) (by omega) (fun j h => by simp at h) ?_
    rw [setCells_nil]
    refine h _ _ ⟨g4, 2, [], ?_, ?_, ?_, by omega, hB, hb⟩
    · simp [h2]
    · simpa using h4
    · simp [h2]
  · have ow : w.ownsRow w0.heap.size 31 2 (.slice (some ⟨g4, 0, none⟩) 2 2) 2 (frs xs) := by
      have := owns_of_fblk (B := w0.heap.size) (sl := []) h4 hB (by rw [h2]; decide)
      simpa [h2] using this
    refine step_append_flat hgd s y 32 ho 31 hu info_fr rfl (by decide) ow hs hB0 ⟨g7, 0, none⟩ n n (frs (List.replicate n 0)) hy (by rw [frs_length, List.length_replicate]) (fun j u hj => ?_) frs_one hn0 (by omega) (by decide) ?_
    · rw [Addr.add_lit, Nat.zero_add]
      exact h7.cell (by simpa using hj)
    · intro g cap w' hap
      have o2 := hap.out.owns
      rw [← frs_append] at o2
      obtain ⟨sp, h1, h2', h3, h4'⟩ := fblk_of_owns o2 (by simp [h2])
      refine h _ _ ⟨g, cap, sp, ?_, h1, h2', h3, h4', hb.trans (hap.out.chg.below (fun k hk e => ?_) hB0)⟩
      · simp [h2]
      · simp [Value.ownBlock] at e; omega
end Go.Proofs.Ytdegpgonphgbcaa
