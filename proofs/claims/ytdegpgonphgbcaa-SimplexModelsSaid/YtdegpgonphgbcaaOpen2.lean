/-
  Slices of pairs that came in, read to the bottom. Small laws, no program in sight.
-/
import Derived.Deep.SlicePairs
import Derived.Test.YtdegpgonphgbcaaOpen
namespace Go.Proofs.Ytdegpgonphgbcaa
open Go.ChangeShapes Go.WideShapes Go.Deep Go.Joins Go.RowKit

section
variable {H : Type} {enc : TypeId × Value → H} {P : Program} {w : World} {held : Bool}
/-- Two cells that are read as data of two types stand for something. -/
def Opens2 {α : Type} (enc : TypeId × Value → H) (P : Program) (w : World) (held : Bool) (t0 t1 : TypeId) (Q : Rd α) : Prop :=
  ∀ (v0 v1 : Value) (fuel : Nat) (x0 x1 : DataW H × List MemPlace), DataW.trod enc P w 0 (fun _ => true) held fuel t0 [v0] = some x0 → DataW.trod enc P w 0 (fun _ => true) held fuel t1 [v1] = some x1 →
    (∀ n ∈ x0.1.weights P t0, n ≤ reachBytes) → (∀ n ∈ x1.1.weights P t1, n ≤ reachBytes) → ∃ y : α, ∀ b o, w.cell? ⟨b, o, none⟩ = some v0 → w.cell? ⟨b, o + 1, none⟩ = some v1 → Q All w b o y
theorem row2_of {α : Type} {Q : Rd α} {t e : TypeId} {f0 f1 : Field} {fuel : Nat} {v : Value} {x : DataW H × List MemPlace} (ht : P.underlying t = some (.slice e)) (he : P.underlying e = some (.struct #[f0, f1])) (ce : P.cellsOf e = 2) (o0 : f0.offset = 0) (o1 : f1.offset = 1) (c0 : P.cellsOf f0.type = 1) (c1 : P.cellsOf f1.type = 1) (hby : 8 ≤ P.bytesOf e)
    (hQ : Opens2 enc P w held f0.type f1.type Q) (h : DataW.trod enc P w 0 (fun _ => true) held fuel t [v] = some x) (hw : ∀ n ∈ x.1.weights P t, n ≤ reachBytes) : ∃ a len cap ys, v = .slice a len cap ∧ Row Q 2 All w a len cap ys := by
  rcases open_slice_pairs ht he ce o0 o1 c0 c1 h with ⟨h0, _⟩ | ⟨a, len, cap, m, n, V0, V1, D0, D1, P0, P1, h0, _, hl, hm, hmm, rfl, hx⟩
  · exact ⟨none, 0, 0, [], by simpa using h0, Row.nil Q 2 All w none (by decide)⟩
  · simp only [if_true] at hmm
    subst hmm
    have hcap : m * P.bytesOf e ≤ reachBytes := hw _ (by simp only [DataW.weights, ht, List.length_map, List.length_range]; rw [show len + (m - len) = m by omega]; exact List.mem_cons_self)
    have h8 : m * 8 ≤ reachBytes := Nat.le_trans (Nat.mul_le_mul_left _ hby) hcap
    have hr : reachBytes = 140737488351232 := rfl
    have hwe : ∀ i, i < len → ∀ k ∈ (DataW.agg [D0 i, D1 i]).weights P e, k ≤ reachBytes := fun i hi k hk => hw k (by
      simp only [DataW.weights, ht, List.mem_cons, List.mem_append]
      exact .inr (.inl (weights_all (List.mem_map.2 ⟨i, List.mem_range.2 hi, rfl⟩) k hk)))
    have each : ∀ i, i < len → ∃ y : Option α, ∃ z, y = some z ∧ ∀ b o, w.cell? ⟨b, o, none⟩ = some (V0 i) → w.cell? ⟨b, o + 1, none⟩ = some (V1 i) → Q All w b o z := fun i hi => by
      obtain ⟨z, hz⟩ := hQ (V0 i) (V1 i) n (D0 i, P0 i) (D1 i, P1 i) (hx i (by omega)).2.2.1 (hx i (by omega)).2.2.2 (weigh_part (f := f0) (j := 0) he (hwe i hi) rfl rfl) (weigh_part (f := f1) (j := 1) he (hwe i hi) rfl rfl)
      exact ⟨some z, z, rfl, hz⟩
    obtain ⟨y, hy⟩ := choose_lt each
    have hz : ∀ i, i < len → ∃ z, y i = some z := fun i hi => by obtain ⟨z, hz, _⟩ := hy i hi; exact ⟨z, hz⟩
    have hlen : ((List.range len).filterMap y).length = len ∧ ∀ i, i < len → ((List.range len).filterMap y)[i]? = y i := by
      clear hy each
      revert hz
      have key : ∀ k, (∀ i, i < k → ∃ z, y i = some z) → ((List.range k).filterMap y).length = k ∧ ∀ i, i < k → ((List.range k).filterMap y)[i]? = y i := fun k => by
        induction k with
        | zero => exact fun _ => ⟨rfl, fun i hi => absurd hi (Nat.not_lt_zero _)⟩
        | succ k ih =>
          intro hz
          obtain ⟨h1, h2⟩ := ih (fun i hi => hz i (by omega))
          obtain ⟨z, hzk⟩ := hz k (by omega)
          rw [List.range_succ, List.filterMap_append]
          have e : List.filterMap y [k] = [z] := by simp [hzk]
          rw [e]
          refine ⟨by rw [List.length_append, h1]; rfl, fun i hi => ?_⟩
          rcases Nat.lt_or_ge i k with hlt | hge
          · rw [List.getElem?_append_left (by omega)]; exact h2 i hlt
          · obtain rfl : i = k := by omega
            rw [List.getElem?_append_right (by omega), h1, Nat.sub_self, hzk]; rfl
      exact key len
    refine ⟨some a, len, m, (List.range len).filterMap y, by simpa using h0, hlen.1, hl, by unfold maxLen at hm; omega, by omega, fun i z hi => ?_⟩
    have hil : i < len := by have := (List.getElem?_eq_some_iff.1 hi).1; rw [hlen.1] at this; exact this
    obtain ⟨z', hz', hq⟩ := hy i hil
    rw [hlen.2 i hil, hz'] at hi
    cases hi
    have hci := (hx i (by omega)).1
    have hci1 := (hx i (by omega)).2.1
    obtain ⟨b, off, spot⟩ := a
    have hspot : spot = none := by simpa [Addr.add] using World.cell?_spot (hx 0 (by omega)).1
    subst hspot
    rw [Go.WideShapes.add_plain] at hci hci1
    exact ⟨b, off, rfl, trivial, World.block_lt_of_cell? w _ hci, hq b _ hci (by rw [Nat.add_assoc]; exact hci1)⟩
def RTm' : Rd (Int × Int) := fun _ w b o p => w.cell? ⟨b, o, none⟩ = some (.int .i64 p.1) ∧ w.cell? ⟨b, o + 1, none⟩ = some (.int .i64 p.2)
theorem opens2_ints {t0 t1 : TypeId} (h0 : P.underlying t0 = some (.int .i64)) (h1 : P.underlying t1 = some (.int .i64)) : Opens2 enc P w held t0 t1 RTm' := fun v0 v1 fuel x0 x1 e0 e1 _ _ => by
  obtain ⟨n0, hn0, _, _⟩ := DataW.trod_int h0 e0
  obtain ⟨n1, hn1, _, _⟩ := DataW.trod_int h1 e1
  obtain rfl : v0 = .int .i64 n0 := by simpa using hn0
  obtain rfl : v1 = .int .i64 n1 := by simpa using hn1
  exact ⟨(n0, n1), fun b o c0 c1 => ⟨c0, c1⟩⟩
end
end Go.Proofs.Ytdegpgonphgbcaa
