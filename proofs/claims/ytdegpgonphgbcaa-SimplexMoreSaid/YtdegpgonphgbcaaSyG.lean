/-
  Models that are copied and changed: what their lists are in memory. Small laws.
-/
import Derived.Test.YtdegpgonphgbcaaSyC
import Derived.Test.YtdegpgonphgbcaaZSyD
import Derived.Test.YtdegpgonphgbcaaOpen
namespace Go.Proofs.Ytdegpgonphgbcaa
open Go.RowKit

theorem Row.wide2 {α : Type} {R : Rd α} {sz n c : Nat} {K K' : Nat → Prop} {w : World} {a : Option Addr} {xs : List α} (h : Row R sz K w a n c xs) (hW : ∀ b o x, R K w b o x → R K' w b o x) (hK : ∀ k, K k → K' k) : Row R sz K' w a n c xs :=
  ⟨h.hlen, h.hcap, h.hmax, h.hsz, fun i x hx => by
    obtain ⟨b, o, h1, h2, h3, h4⟩ := h.row i x hx
    exact ⟨b, o, h1, hK b h2, h3, hW _ _ _ h4⟩⟩
theorem tm_wide {K K' : Nat → Prop} {w : World} {a : Option Addr} {n c : Nat} {xs : List (Int × Int)} (h : Row RTm 2 K w a n c xs) (hK : ∀ k, K k → K' k) : Row RTm 2 K' w a n c xs := Row.wide2 h (fun _ _ _ h => h) hK
theorem rw_wide {K K' : Nat → Prop} {w : World} {a : Option Addr} {n c : Nat} {xs : List (List (Int × Int) × Int)} (h : Row RRw 2 K w a n c xs) (hK : ∀ k, K k → K' k) : Row RRw 2 K' w a n c xs :=
  Row.wide2 h (fun b o x h => by
    obtain ⟨⟨a, n, c, h1, h2⟩, h3⟩ := h
    exact ⟨⟨a, n, c, h1, tm_wide h2 hK⟩, h3⟩) hK
/-- The values of the terms' slices of rows. -/
def TmsAt (K : Nat → Prop) (w : World) (us : List Value) (rows : List (List (Int × Int) × Int)) : Prop := us.length = rows.length ∧ ∀ (i : Nat) (u : Value) (x : List (Int × Int) × Int), us[i]? = some u → rows[i]? = some x → ∃ a n c, u = .slice a n c ∧ Row RTm 2 K w a n c x.1
theorem TmsAt.nil (K : Nat → Prop) (w : World) : TmsAt K w [] [] := ⟨rfl, fun i u x h => by simp at h⟩
theorem TmsAt.chg {K M : Nat → Prop} {w w' : World} {us : List Value} {rows : List (List (Int × Int) × Int)} (h : TmsAt K w us rows) (hc : Chg M w w') (hM : ∀ k, K k → ¬ M k) : TmsAt K w' us rows :=
  ⟨h.1, fun i u x h1 h2 => by
    obtain ⟨a, n, c, rfl, hr⟩ := h.2 i u x h1 h2
    exact ⟨a, n, c, rfl, hr.keeps RTm.stays (fun y hy hl => hc.block y hl (hM y hy)) hc.size⟩⟩
theorem TmsAt.wide {K K' : Nat → Prop} {w : World} {us : List Value} {rows : List (List (Int × Int) × Int)} (h : TmsAt K w us rows) (hK : ∀ k, K k → K' k) : TmsAt K' w us rows :=
  ⟨h.1, fun i u x h1 h2 => by
    obtain ⟨a, n, c, rfl, hr⟩ := h.2 i u x h1 h2
    exact ⟨a, n, c, rfl, tm_wide hr hK⟩⟩
theorem TmsAt.snoc {K : Nat → Prop} {w : World} {us : List Value} {rows : List (List (Int × Int) × Int)} (h : TmsAt K w us rows) {a : Option Addr} {n c : Nat} {x : List (Int × Int) × Int} (hr : Row RTm 2 K w a n c x.1) : TmsAt K w (us ++ [.slice a n c]) (rows ++ [x]) := by
  refine ⟨by simp [h.1], fun i u y e1 e2 => ?_⟩
  by_cases e : i < rows.length
  · rw [List.getElem?_append_left (by rw [h.1]; exact e)] at e1
    rw [List.getElem?_append_left e] at e2
    exact h.2 i u y e1 e2
  · have hl := (List.getElem?_eq_some_iff.1 e2).1
    rw [List.length_append, List.length_singleton] at hl
    have hi : i = rows.length := by omega
    subst hi
    rw [List.getElem?_append_right (by rw [h.1]; exact Nat.le_refl _), h.1, Nat.sub_self] at e1
    rw [List.getElem?_append_right (Nat.le_refl _), Nat.sub_self] at e2
    cases e1; cases e2
    exact ⟨a, n, c, rfl, hr⟩
theorem rcs_length {us : List Value} {rows : List (List (Int × Int) × Int)} (h : us.length = rows.length) : (rcs us rows).length = rows.length * 2 := by
  induction us generalizing rows with
  | nil => cases rows with | nil => rfl | cons _ _ => simp at h
  | cons u us ih =>
    cases rows with
    | nil => simp at h
    | cons x rows =>
      have e : rcs (u :: us) (x :: rows) = u :: .int .i64 x.2 :: rcs us rows := rfl
      rw [e, List.length_cons, List.length_cons, ih (by simpa using h), List.length_cons]; omega
theorem rcs_one {K : Nat → Prop} {w : World} {us : List Value} {rows : List (List (Int × Int) × Int)} (h : TmsAt K w us rows) : ∀ v ∈ rcs us rows, v.oneCell' = true := fun v hv => by
  obtain ⟨j, hj⟩ := List.getElem?_of_mem hv
  have hl := (List.getElem?_eq_some_iff.1 hj).1
  rw [rcs_length h.1] at hl
  obtain ⟨x, hx⟩ : ∃ x, rows[j / 2]? = some x := ⟨_, List.getElem?_eq_getElem (by omega)⟩
  obtain ⟨u, hu⟩ : ∃ u, us[j / 2]? = some u := ⟨_, List.getElem?_eq_getElem (by rw [h.1]; omega)⟩
  obtain ⟨k0, k1⟩ := rcs_get hu hx
  obtain ⟨a, n, c, rfl, _⟩ := h.2 _ _ _ hu hx
  rcases Nat.mod_two_eq_zero_or_one j with e | e
  · rw [show j / 2 * 2 = j by omega, hj] at k0; cases k0; rfl
  · rw [show j / 2 * 2 + 1 = j by omega, hj] at k1; cases k1; rfl
/-- An owned list of rows is read. -/
theorem rw_read {K : Nat → Prop} {w : World} {B n c : Nat} {a : Option Addr} {us : List Value} {rows : List (List (Int × Int) × Int)} (h : w.ownsRow B 50 2 (.slice a n c) n (rcs us rows)) (hn : rows.length = n) (h9 : n ≤ 17592186044416) (ht : TmsAt K w us rows) (hK : ∀ k, B ≤ k → K k) : Row RRw 2 K w a n c rows := by
  obtain ⟨h1, h2, h3⟩ := flat_len h
  refine ⟨hn, h2, by unfold maxLen at h3; omega, h9, fun i x hx => ?_⟩
  have hi := (List.getElem?_eq_some_iff.1 hx).1
  obtain ⟨g, rfl, hg, hgl, _, _, _, hc⟩ := flat_cells h (by omega)
  obtain ⟨u, hu⟩ : ∃ u, us[i]? = some u := ⟨_, List.getElem?_eq_getElem (by rw [ht.1]; exact hi)⟩
  obtain ⟨k0, k1⟩ := rcs_get hu hx
  obtain ⟨a', n', c', rfl, hr⟩ := ht.2 _ _ _ hu hx
  exact ⟨g, 0, rfl, hK g hg, hgl, ⟨a', n', c', by rw [Nat.zero_add]; exact hc _ _ k0, hr⟩, by rw [Nat.zero_add]; exact hc _ _ k1⟩
/-- The cells of a list of rows, to be appended elsewhere. -/
theorem rw_cells {K : Nat → Prop} {w : World} {a : Option Addr} {n c : Nat} {rows : List (List (Int × Int) × Int)} (h : Row RRw 2 K w a n c rows) (hn : 0 < n) : ∃ ad us, a = some ad ∧ TmsAt K w us rows ∧ ∀ j u, (rcs us rows)[j]? = some u → w.cell? (ad.add j) = some u := by
  obtain ⟨x0, hx0⟩ : ∃ x, rows[0]? = some x := ⟨_, List.getElem?_eq_getElem (by rw [h.hlen]; exact hn)⟩
  obtain ⟨b, o, rfl, hb, hbl, _⟩ := h.row 0 x0 hx0
  have each : ∀ i x, rows[i]? = some x → RRw K w b (o + i * 2) x := fun i x hx => by
    obtain ⟨b', o', e, _, _, hr⟩ := h.row i x hx
    cases e; exact hr
  have hget : ∀ i x, rows[i]? = some x → ((List.range rows.length).map fun i => (w.cell? ⟨b, o + i * 2, none⟩).getD undef)[i]? = some ((w.cell? ⟨b, o + i * 2, none⟩).getD undef) := fun i x hx => by
    rw [List.getElem?_map, List.getElem?_range (List.getElem?_eq_some_iff.1 hx).1]; rfl
  refine ⟨⟨b, o, none⟩, (List.range rows.length).map fun i => (w.cell? ⟨b, o + i * 2, none⟩).getD undef, rfl, ⟨by simp, fun i u x hu hx => ?_⟩, fun j u hj => ?_⟩
  · obtain ⟨⟨a', n', c', k0, hr⟩, _⟩ := each i x hx
    rw [hget i x hx, k0] at hu
    cases hu
    exact ⟨a', n', c', rfl, hr⟩
  · have hl := (List.getElem?_eq_some_iff.1 hj).1
    rw [rcs_length (by simp)] at hl
    obtain ⟨x, hx⟩ : ∃ x, rows[j / 2]? = some x := ⟨_, List.getElem?_eq_getElem (by omega)⟩
    obtain ⟨⟨a', n', c', k0, hr⟩, k1⟩ := each _ x hx
    have hu := hget _ x hx
    rw [k0] at hu
    obtain ⟨g0, g1⟩ := rcs_get hu hx
    rw [Addr.add_lit]
    rcases Nat.mod_two_eq_zero_or_one j with e | e
    · rw [show j / 2 * 2 = j by omega] at g0 k0
      rw [hj] at g0; cases g0; exact k0
    · rw [show j / 2 * 2 + 1 = j by omega] at g1
      rw [show o + j / 2 * 2 + 1 = o + j by omega] at k1
      rw [hj] at g1; cases g1; exact k1
theorem tm_cells {K : Nat → Prop} {w : World} {a : Option Addr} {n c : Nat} {l : List (Int × Int)} (h : Row RTm 2 K w a n c l) (hn : 0 < n) : ∃ ad, a = some ad ∧ ∀ j u, (tcs l)[j]? = some u → w.cell? (ad.add j) = some u := by
  obtain ⟨x0, hx0⟩ : ∃ x, l[0]? = some x := ⟨_, List.getElem?_eq_getElem (by rw [h.hlen]; exact hn)⟩
  obtain ⟨b, o, rfl, hb, hbl, _⟩ := h.row 0 x0 hx0
  refine ⟨⟨b, o, none⟩, rfl, fun j u hj => ?_⟩
  have hl := (List.getElem?_eq_some_iff.1 hj).1
  rw [tcs_length] at hl
  obtain ⟨x, hx⟩ : ∃ x, l[j / 2]? = some x := ⟨_, List.getElem?_eq_getElem (by omega)⟩
  obtain ⟨b', o', e, _, _, k0, k1⟩ := h.row _ x hx
  cases e
  obtain ⟨g0, g1⟩ := tcs_get hx
  rw [Addr.add_lit]
  rcases Nat.mod_two_eq_zero_or_one j with e | e
  · rw [show j / 2 * 2 = j by omega] at g0 k0
    rw [hj] at g0; cases g0; exact k0
  · rw [show j / 2 * 2 + 1 = j by omega] at g1
    rw [show o + j / 2 * 2 + 1 = o + j by omega] at k1
    rw [hj] at g1; cases g1; exact k1
theorem tcs_one (l : List (Int × Int)) : ∀ v ∈ tcs l, v.oneCell' = true := fun v h => by
  obtain ⟨x, _, hv⟩ := List.mem_flatMap.1 h
  simp at hv
  rcases hv with rfl | rfl <;> rfl
/-- Terms that ascend below a number are no more than it. -/
theorem tm_count {l : List (Int × Int)} {cols m : Int} (h : TermsOk l cols m l.length) : l.length ≤ cols.toNat := by
  have key : ∀ (i : Nat) (t : Int × Int), l[i]? = some t → (i : Int) ≤ t.1 := by
    intro i
    induction i with
    | zero => intro t ht; exact (h 0 t (List.getElem?_eq_some_iff.1 ht).1 ht).1
    | succ i ih =>
      intro t ht
      have hl := (List.getElem?_eq_some_iff.1 ht).1
      obtain ⟨s, hs⟩ : ∃ s, l[i]? = some s := ⟨_, List.getElem?_eq_getElem (by omega)⟩
      have h1 := ih s hs
      have h2 := (h (i + 1) t hl ht).2.2.1 i s rfl hs
      omega
  rcases Nat.eq_zero_or_pos l.length with h0 | h0
  · omega
  · obtain ⟨t, ht⟩ : ∃ t, l[l.length - 1]? = some t := ⟨_, List.getElem?_eq_getElem (by omega)⟩
    have h1 := key _ t ht
    have h2 := (h _ t (by omega) ht).2.1
    omega
/-- A model in the block b, its lists anywhere. -/
def MdAt (w : World) (b o : Nat) : Prop := ∃ (cols : Int) (ra : Option Addr) (rn rc : Nat) (ga : Option Addr) (gn gc : Nat) (c0 : Int) (rows : List (List (Int × Int) × Int)) (goal : List (Int × Int)),
  w.cell? ⟨b, o, none⟩ = some (.int .i64 cols) ∧ w.cell? ⟨b, o + 1, none⟩ = some (.slice ra rn rc) ∧ w.cell? ⟨b, o + 2, none⟩ = some (.slice ga gn gc) ∧ w.cell? ⟨b, o + 3, none⟩ = some (.int .i64 c0) ∧ Row RRw 2 All w ra rn rc rows ∧ Row RTm 2 All w ga gn gc goal
end Go.Proofs.Ytdegpgonphgbcaa
