/-
  SimplexOne: the model while it is made. Small laws.
-/
import Derived.Test.YtdegpgonphgbcaaZSoA
import Derived.Test.YtdegpgonphgbcaaSyG
import Derived.Test.YtdegpgonphgbcaaZSxV
import Derived.Test.YtdegpgonphgbcaaZFxX
import Derived.Test.YtdegpgonphgbcaaPrJ
namespace Go.Proofs.Ytdegpgonphgbcaa
open Go.RowKit

theorem row_low {w : World} {a : Option Addr} {n c : Nat} {rows : List MRow} (h : Row RRw 2 (fun _ => True) w a n c rows) : Row RRw 2 (fun k => k < w.heap.size) w a n c rows :=
  ⟨h.hlen, h.hcap, h.hmax, h.hsz, fun i x hx => by
    obtain ⟨b, o, h1, h2, h3, ⟨a', n', c', k0, hr⟩, k1⟩ := h.row i x hx
    exact ⟨b, o, h1, h3, h3, ⟨a', n', c', k0, hr.hlen, hr.hcap, hr.hmax, hr.hsz, fun j y hy => by
      obtain ⟨b', o', g1, g2, g3, g4⟩ := hr.row j y hy
      exact ⟨b', o', g1, g3, g3, g4⟩⟩, k1⟩⟩
theorem trm_low {w : World} {a : Option Addr} {n c : Nat} {l : List (Int × Int)} (h : Row RTm 2 (fun _ => True) w a n c l) : Row RTm 2 (fun k => k < w.heap.size) w a n c l :=
  ⟨h.hlen, h.hcap, h.hmax, h.hsz, fun j y hy => by
      obtain ⟨b', o', g1, g2, g3, g4⟩ := h.row j y hy
      exact ⟨b', o', g1, g3, g3, g4⟩⟩
theorem trm_one {w : World} {q : Nat} {a b : Int} (h : Blk w q 56 (tcs [(a, b)])) : Row RTm 2 (fun _ => True) w (some ⟨q, 0, none⟩) 1 1 [(a, b)] :=
  ⟨rfl, Nat.le_refl _, by decide, by decide, fun i p hi => by
    match i, hi with
    | 0, hi => cases hi; exact ⟨q, 0, rfl, trivial, h.lt, h.cell (i := 0) rfl, h.cell (i := 1) rfl⟩
    | i + 1, hi => simp at hi⟩
/-- The goal's terms in memory. -/
def GoalM (w : World) (g : Int) (ga : Option Addr) (gn gc : Nat) : Prop := (g = 0 ∧ ga = none ∧ gn = 0 ∧ gc = 0) ∨ (g ≠ 0 ∧ ∃ q, ga = some ⟨q, 0, none⟩ ∧ gn = 1 ∧ gc = 1 ∧ Blk w q 56 (tcs [((0 : Int), g)]))
theorem GoalM.read {w : World} {g : Int} {ga : Option Addr} {gn gc : Nat} (h : GoalM w g ga gn gc) : Row RTm 2 (fun k => k < w.heap.size) w ga gn gc (oneGoal g) := by
  unfold oneGoal
  rcases h with ⟨h, rfl, rfl, rfl⟩ | ⟨h, q, rfl, rfl, rfl, hb⟩
  · rw [if_pos h]; exact Row.nil _ _ _ _ _ (by decide)
  · rw [if_neg h]; exact trm_low (trm_one hb)
/-- What the variable best holds. -/
def BestM (l : List (Int × Int)) (cs : List Value) : Prop := (l = [] ∧ cs = [.int .i64 0, .int .i64 0]) ∨ ∃ best, IsLeast l best ∧ cs = FrC best
structure OneJ (B P Q : Nat) (w0 w : World) (g : Int) (ga : Option Addr) (gn gc : Nat) (l : List (Int × Int)) (vR : Value) (us cs : List Value) : Prop where
  pb : Blk w P 28 [.int .i64 1, vR, .slice ga gn gc, .int .i64 0]
  qb : Blk w Q 31 cs
  best : ∃ u v : Value, cs = [u, v]
  hG : GoalM w g ga gn gc
  hR : w.ownsRow B 50 2 vR l.length (rcs us (oneRows l))
  ul : us.length = l.length
  row : ∀ (i : Nat) (u : Value) (p : Int × Int), us[i]? = some u → l[i]? = some p → ∃ q, u = .slice (some ⟨q, 0, none⟩) 1 1 ∧ Blk w q 56 (tcs [((0 : Int), p.1)])
  ok : ∀ p ∈ l, 1 ≤ p.1 ∧ p.1 ≤ 9 ∧ 0 ≤ p.2 ∧ p.2 ≤ 50
  below : Below w0.heap.size w0 w
section
variable {B P Q : Nat} {w0 w w' : World} {g : Int} {ga : Option Addr} {gn gc : Nat} {l : List (Int × Int)} {vR : Value} {us cs : List Value}
theorem GoalM.chg {M : Nat → Prop} (h : GoalM w g ga gn gc) (hc : Chg M w w') (hM : ∀ k xs, Blk w k 56 xs → ¬ M k) : GoalM w' g ga gn gc := by
  rcases h with h | ⟨h, q, h1, h2, h3, hb⟩
  · exact .inl h
  · exact .inr ⟨h, q, h1, h2, h3, hb.chg hc (hM q _ hb)⟩
theorem OneJ.call (h : OneJ B P Q w0 w g ga gn gc l vR us cs) (hb : Below w.heap.size w w') : OneJ B P Q w0 w' g ga gn gc l vR us cs :=
  ⟨h.pb.below hb h.pb.lt, h.qb.below hb h.qb.lt, h.best, h.hG.chg (M := Non) (Chg.of_below hb) (fun _ _ _ h => h), flat_below h.hR hb, h.ul, fun i u p e1 e2 => by
    obtain ⟨q, hq, hk⟩ := h.row i u p e1 e2
    exact ⟨q, hq, hk.below hb hk.lt⟩, h.ok, h.below.trans (hb.mono h.below.size)⟩
/-- The best is another one. -/
theorem OneJ.setQ (h : OneJ B P Q w0 w g ga gn gc l vR us cs) (hQ : w0.heap.size ≤ Q) (x : Rat) : OneJ B P Q w0 ((w.setCell ⟨Q, 0, none⟩ (.int .i64 x.num)).setCell ⟨Q, 1, none⟩ (.int .i64 (x.den : Int))) g ga gn gc l vR us (FrC x) := by
  have c : Chg (fun k => k = Q) w ((w.setCell ⟨Q, 0, none⟩ (.int .i64 x.num)).setCell ⟨Q, 1, none⟩ (.int .i64 (x.den : Int))) := Chg.setCell (M := fun k => k = Q) (p := ⟨Q, 1, none⟩) (Chg.setCell (M := fun k => k = Q) (p := ⟨Q, 0, none⟩) (Chg.refl w) (fun _ => rfl) _) (fun _ => rfl) _
  refine ⟨h.pb.chg c (blk_tag h.pb h.qb (by decide)), ?_, ⟨_, _, rfl⟩, h.hG.chg c (fun k xs hk e => blk_tag hk h.qb (by decide) e), ownsRow_of h.hR (fun k hk => c.block k (h.hR.lt k hk).2 (fun e => by
    obtain ⟨_, hx, _⟩ := owns_tag h.hR hk
    exact blk_tag hx h.qb (by decide) e)), h.ul, fun i u p e1 e2 => ?_, h.ok, (h.below.setCell hQ _).setCell hQ _⟩
  · have h2 := (h.qb.set 0 (.int .i64 x.num)).set 1 (.int .i64 (x.den : Int))
    have hlen := h.best
    obtain ⟨u, v, rfl⟩ := hlen
    exact h2
  · obtain ⟨q, hq, hk⟩ := h.row i u p e1 e2
    exact ⟨q, hq, hk.chg c (blk_tag hk h.qb (by decide))⟩
/-- Behind the append of a row, and its store. -/
theorem OneJ.push {n : Nat} (hn : n = l.length) (h : OneJ B P Q w0 w g ga gn gc l vR us cs) (hP : w0.heap.size ≤ P) (hB : w0.heap.size ≤ B) {a b : Int} (ha : 1 ≤ a ∧ a ≤ 9) (hb : 0 ≤ b ∧ b ≤ 50) {T : Nat} (hT : Blk w T 56 (tcs [((0 : Int), a)])) {v' : Value} (hap : FApp 50 2 B vR n 1 (rcs us (oneRows l)) [.slice (some ⟨T, 0, none⟩) 1 1, .int .i64 b] w w' v') :
    OneJ B P Q w0 (w'.setCell ⟨P, 1, none⟩ v') g ga gn gc (l ++ [(a, b)]) v' (us ++ [.slice (some ⟨T, 0, none⟩) 1 1]) cs := by
  subst hn
  have hno : ∀ (k : Nat) (t : TypeId) (xs : List Value), Blk w k t xs → t ≠ 50 → ¬ vR.ownBlock = some k := fun k t xs hk ht e => by
    obtain ⟨_, hx, _⟩ := owns_tag h.hR e
    exact blk_tag hx hk (fun e => ht e.symm) rfl
  have P1 := h.pb.chg hap.chg (hno P _ _ h.pb (by decide))
  have c1 : Chg (fun k => k = P) w' (w'.setCell ⟨P, 1, none⟩ v') := Chg.setCell (M := fun k => k = P) (p := ⟨P, 1, none⟩) (Chg.refl w') (fun _ => rfl) v'
  have ne : ∀ (k : Nat) (t : TypeId) (xs : List Value), Blk w' k t xs → t ≠ 28 → ¬ k = P := fun k t xs hk ht => blk_tag hk P1 ht
  have two : ∀ (k : Nat) (t : TypeId) (xs : List Value), Blk w k t xs → t ≠ 50 → t ≠ 28 → Blk (w'.setCell ⟨P, 1, none⟩ v') k t xs := fun k t xs hk h1 h2 => by
    have h3 := hk.chg hap.chg (hno k _ _ hk h1)
    exact h3.chg c1 (ne k t xs h3 h2)
  have ho := hap.owns
  have er : rcs us (oneRows l) ++ [.slice (some ⟨T, 0, none⟩) 1 1, .int .i64 b] = rcs (us ++ [.slice (some ⟨T, 0, none⟩) 1 1]) (oneRows (l ++ [(a, b)])) := by
    unfold oneRows
    rw [List.map_append]
    exact (rcs_snoc (by rw [List.length_map]; exact h.ul) (.slice (some ⟨T, 0, none⟩) 1 1) ([((0 : Int), a)], b)).symm
  rw [er] at ho
  refine ⟨P1.set 1 v', two Q _ _ h.qb (by decide) (by decide), h.best, ?_, ?_, by rw [List.length_append, List.length_append, h.ul]; rfl, fun i u p e1 e2 => ?_, fun p hp => ?_, ?_⟩
  · rcases h.hG with hg | ⟨hg, q, k1, k2, k3, hk⟩
    · exact .inl hg
    · exact .inr ⟨hg, q, k1, k2, k3, two q _ _ hk (by decide) (by decide)⟩
  · rw [List.length_append]
    exact ownsRow_of ho (fun k hk => c1.block k (ho.lt k hk).2 (fun e => by
      obtain ⟨_, hx, _⟩ := owns_tag ho hk
      exact blk_tag hx P1 (by decide) e))
  · by_cases e : i < l.length
    · rw [List.getElem?_append_left (by rw [h.ul]; exact e)] at e1
      rw [List.getElem?_append_left e] at e2
      obtain ⟨q, hq, hk⟩ := h.row i u p e1 e2
      exact ⟨q, hq, two q _ _ hk (by decide) (by decide)⟩
    · have hl := (List.getElem?_eq_some_iff.1 e2).1
      rw [List.length_append, List.length_singleton] at hl
      have hi : i = l.length := by omega
      subst hi
      rw [List.getElem?_append_right (by rw [h.ul]; exact Nat.le_refl _), h.ul, Nat.sub_self] at e1
      rw [List.getElem?_append_right (Nat.le_refl _), Nat.sub_self] at e2
      cases e1; cases e2
      exact ⟨T, rfl, two T _ _ hT (by decide) (by decide)⟩
  · rcases List.mem_append.1 hp with h9 | h9
    · exact h.ok p h9
    · rw [List.mem_singleton.1 h9]; exact ⟨ha.1, ha.2, hb.1, hb.2⟩
  · refine ((h.below.trans (hap.chg.below (B := w0.heap.size) (fun k hk e => ?_) h.below.size)).setCell hP _)
    have := (h.hR.lt k e).1; omega
theorem OneJ.read (h : OneJ B P Q w0 w g ga gn gc l vR us cs) (hl : l.length ≤ 6) : ∃ a c, vR = .slice a l.length c ∧ Row RRw 2 (fun k => k < w.heap.size) w a l.length c (oneRows l) := by
  obtain ⟨a, c, rfl⟩ := flat_form h.hR
  refine ⟨a, c, rfl, row_low (rw_read h.hR (by unfold oneRows; simp) (by omega) ⟨by unfold oneRows; simp [h.ul], fun i u x e1 e2 => ?_⟩ (fun _ _ => trivial))⟩
  unfold oneRows at e2
  rw [List.getElem?_map] at e2
  obtain ⟨p, hp, rfl⟩ := Option.map_eq_some_iff.1 e2
  obtain ⟨q, rfl, hk⟩ := h.row i u p e1 hp
  exact ⟨_, _, _, rfl, trm_one hk⟩
end
theorem cast_pos {g : Int} (h : 0 < g) : (0 : Rat) < (g : Rat) := by
  have : ((0 : Int) : Rat) < (g : Rat) := Rat.intCast_lt_intCast.2 h
  simpa using this
theorem cast_nonpos {g : Int} (h : g ≤ 0) : (g : Rat) ≤ 0 := by
  have : (g : Rat) ≤ ((0 : Int) : Rat) := Rat.intCast_le_intCast.2 h
  simpa using this
/-- What Solve says of a program of one column. -/
theorem one_parts {l : List (Int × Int)} {g code x y : Int} (h : ∀ p ∈ l, 1 ≤ p.1 ∧ p.1 ≤ 9 ∧ 0 ≤ p.2 ∧ p.2 ≤ 50) (p : PartsOk 1 (oneRows l) (oneGoal g) 0 code x y) :
    (0 < g → l = [] → code = 35) ∧ (∀ best, 0 < g → IsLeast l best → code = 0 ∧ x = ((g : Rat) * best).num ∧ y = (((g : Rat) * best).den : Int)) ∧ (g ≤ 0 → code = 0 ∧ x = 0 ∧ y = 1) := by
  have z := one_zero h
  refine ⟨fun hg hl => ?_, fun best hg hb => ?_, fun hg => ?_⟩
  · subst hl
    rcases p with ⟨_, _, _, no⟩ | ⟨e, _⟩ | ⟨_, V, _, _, _, _, best⟩
    · exact absurd ⟨_, z⟩ no
    · exact e
    · exfalso
      have hV := best _ z
      rw [one_obj] at hV
      have hV0 : 0 ≤ V := by rw [Rat.mul_zero] at hV; exact hV
      have f : FeasX 1 (oneRows []) (fun _ => V + 1) := one_feas.2 ⟨by grind, fun p hp => by cases hp⟩
      have := best _ f
      rw [one_obj] at this
      have h1 : (1 : Rat) ≤ (g : Rat) := by
        have : ((1 : Int) : Rat) ≤ (g : Rat) := Rat.intCast_le_intCast.2 (by omega)
        simpa using this
      have h2 : 0 ≤ ((g : Rat) - 1) * (V + 1) := Rat.mul_nonneg (by grind) (by grind)
      grind
  · have hgp := cast_pos hg
    have up : ∀ y, FeasX 1 (oneRows l) y → (g : Rat) * y 0 ≤ (g : Rat) * best := fun y hy => by
      have h1 := ((one_le h hb).1 hy).2
      have := Rat.mul_nonneg (Rat.le_of_lt hgp) (show 0 ≤ best - y 0 by grind)
      grind
    have fb : FeasX 1 (oneRows l) (fun _ => best) := (one_le h hb).2 ⟨least_nonneg h hb, Rat.le_refl⟩
    rcases p with ⟨_, _, _, no⟩ | ⟨_, _, _, q⟩ | ⟨e, V, rfl, rfl, _, ⟨y, hy, hV⟩, bst⟩
    · exact absurd ⟨_, z⟩ no
    · obtain ⟨y, hy, hB⟩ := q ((g : Rat) * best + 1)
      rw [one_obj] at hB
      have := up y hy
      exfalso; grind
    · have h1 := bst _ fb
      rw [one_obj] at h1 hV
      have h2 := up y hy
      have : V = (g : Rat) * best := Rat.le_antisymm (by grind) h1
      rw [this]
      exact ⟨e, rfl, rfl⟩
  · have hgn := cast_nonpos hg
    have up : ∀ y, FeasX 1 (oneRows l) y → (g : Rat) * y 0 ≤ 0 := fun y hy => by
      have h1 := (one_feas.1 hy).1
      have := Rat.mul_nonneg (show 0 ≤ -(g : Rat) by grind) h1
      grind
    rcases p with ⟨_, _, _, no⟩ | ⟨_, _, _, q⟩ | ⟨e, V, rfl, rfl, _, ⟨y, hy, hV⟩, bst⟩
    · exact absurd ⟨_, z⟩ no
    · obtain ⟨y, hy, hB⟩ := q 1
      rw [one_obj] at hB
      have := up y hy
      exfalso; grind
    · have h1 := bst _ z
      rw [one_obj] at h1 hV
      have h2 := up y hy
      have : V = 0 := Rat.le_antisymm (by grind) (by rw [Rat.mul_zero] at h1; exact h1)
      rw [this]
      exact ⟨e, rfl, rfl⟩
theorem least_first {a b : Int} : IsLeast [(a, b)] ((b : Rat) / (a : Rat)) := ⟨⟨(a, b), List.mem_singleton.2 rfl, rfl⟩, fun p hp => by rw [List.mem_singleton.1 hp]; exact Rat.le_refl⟩
theorem least_snoc {l : List (Int × Int)} {best : Rat} (h : IsLeast l best) (a b : Int) : IsLeast (l ++ [(a, b)]) (if (b : Rat) / (a : Rat) < best then (b : Rat) / (a : Rat) else best) := by
  obtain ⟨⟨p, hp, e⟩, hall⟩ := h
  split
  · rename_i hlt
    refine ⟨⟨(a, b), List.mem_append_right _ (List.mem_singleton.2 rfl), rfl⟩, fun q hq => ?_⟩
    rcases List.mem_append.1 hq with h | h
    · have := hall q h; grind
    · rw [List.mem_singleton.1 h]; exact Rat.le_refl
  · rename_i hlt
    refine ⟨⟨p, List.mem_append_left _ hp, e⟩, fun q hq => ?_⟩
    rcases List.mem_append.1 hq with h | h
    · exact hall q h
    · rw [List.mem_singleton.1 h]; dsimp only; grind
end Go.Proofs.Ytdegpgonphgbcaa
