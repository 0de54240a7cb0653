/-
  Slices that came in, read to the bottom: lists of numbers, lists of lists, and so on. Each slice takes at most as many bytes as the form's reach. Small laws, no program in sight.
  An array of numbers that came in, as the reader reads it: taken apart. Small laws, no program in sight.
  A struct of five fields of one cell each, opened; a slice of truth values that came in. Small laws, no program in sight.
-/
import Derived.Deep.Slices
import Derived.SizedLaws
import Derived.Lib.SmallJoins
import Derived.Laws.IdiomArrays
import Derived.WideShapes
import Derived.Test.YtonbmijhbbodnaaMem
import Derived.Test.YtonbmijhbbodnaaZMake
namespace Go.Proofs.Ytonbmijhbbodnaa
open Go.ChangeShapes Go.WideShapes Go.Deep Go.Joins Go.RowKit

section
variable {H : Type} {enc : TypeId × Value → H} {P : Program} {w : World} {held : Bool}
def All (_ : Nat) : Prop := True
/-- A value of one cell that is read as data of type e stands for something. -/
def Opens {α : Type} (enc : TypeId × Value → H) (P : Program) (w : World) (held : Bool) (e : TypeId) (Q : Rd α) : Prop :=
  ∀ (v : Value) (fuel : Nat) (x : DataW H × List MemPlace), DataW.trod enc P w 0 (fun _ => true) held fuel e [v] = some x → (∀ n ∈ x.1.weights P e, n ≤ reachBytes) → ∃ y : α, ∀ b o, w.cell? ⟨b, o, none⟩ = some v → Q All w b o y
theorem opens_int {e : TypeId} (he : P.underlying e = some (.int .i64)) : Opens enc P w held e RInt := fun v fuel x h _ => by
  obtain ⟨n, hn, _, hw⟩ := DataW.trod_int he h
  obtain rfl : v = .int .i64 n := by simpa using hn
  have hv : -9223372036854775808 ≤ n ∧ n ≤ 9223372036854775807 := by simpa [Lit.wf, IntKind.min, IntKind.max, IntKind.signed, IntKind.bits] using hw
  exact ⟨n, fun b o hc => ⟨hc, hv⟩⟩
def RBool : Rd Bool := fun _ w b o z => w.cell? ⟨b, o, none⟩ = some (.bool z)
theorem weights_all {e : TypeId} : ∀ {l : List (DataW H)} {d : DataW H}, d ∈ l → ∀ n ∈ d.weights P e, n ∈ DataW.weightsAll P e l
  | a :: l, d, h, n, hn => by
    simp only [DataW.weightsAll, List.mem_append]
    rcases List.mem_cons.1 h with rfl | h
    · exact .inl hn
    · exact .inr (weights_all h n hn)
theorem row_of {α : Type} {Q : Rd α} {t e : TypeId} {fuel : Nat} {v : Value} {x : DataW H × List MemPlace} (ht : P.underlying t = some (.slice e)) (hc : P.cellsOf e = 1) (hby : 8 ≤ P.bytesOf e) (hQ : Opens enc P w held e Q)
    (h : DataW.trod enc P w 0 (fun _ => true) held fuel t [v] = some x) (hw : ∀ n ∈ x.1.weights P t, n ≤ reachBytes) : ∃ a len cap ys, v = .slice a len cap ∧ Row Q 1 All w a len cap ys := by
  rcases open_slice1 ht hc h with ⟨h0, _⟩ | ⟨a, len, cap, m, n, V, D, Pl, h0, _, hl, hm, hmm, rfl, hx⟩
  · exact ⟨none, 0, 0, [], by simpa using h0, Row.nil Q 1 All w none (by decide)⟩
  · simp only [if_true] at hmm
    subst hmm
    have hcap : m * P.bytesOf e ≤ reachBytes := hw _ (by simp only [DataW.weights, ht, List.length_map, List.length_range]; rw [show len + (m - len) = m by omega]; exact List.mem_cons_self)
    have h8 : m * 8 ≤ reachBytes := Nat.le_trans (Nat.mul_le_mul_left _ hby) hcap
    have hr : reachBytes = 140737488351232 := rfl
    have each : ∀ i, i < len → ∃ y : Option α, ∃ z, y = some z ∧ ∀ b o, w.cell? ⟨b, o, none⟩ = some (V i) → Q All w b o z := fun i hi => by
      obtain ⟨z, hz⟩ := hQ (V i) n (D i, Pl i) (hx i (by omega)).2 (fun k hk => hw k (by
        simp only [DataW.weights, ht, List.mem_cons, List.mem_append]
        exact .inr (.inl (weights_all (List.mem_map.2 ⟨i, List.mem_range.2 hi, rfl⟩) k hk))))
      exact ⟨some z, z, rfl, hz⟩
    obtain ⟨y, hy⟩ := choose_lt each
    have hz : ∀ i, i < len → ∃ z, y i = some z := fun i hi => by obtain ⟨z, hz, _⟩ := hy i hi; exact ⟨z, hz⟩
    have hlen : ((List.range len).filterMap y).length = len ∧ ∀ i, i < len → ((List.range len).filterMap y)[i]? = y i := by
      clear hy each
      revert hz
      have key : ∀ k, (∀ i, i < k → ∃ z, y i = some z) → ((List.range k).filterMap y).length = k ∧ ∀ i, i < k → ((List.range k).filterMap y)[i]? = y i := fun k => by
        induction k with
        | zero => exact fun _ => ⟨rfl, fun i hi => absurd hi (Nat.not_lt_zero _)⟩
        | succ k ih =>
          intro hz
          obtain ⟨h1, h2⟩ := ih (fun i hi => hz i (by omega))
          obtain ⟨z, hzk⟩ := hz k (by omega)
          rw [List.range_succ, List.filterMap_append]
          have e : List.filterMap y [k] = [z] := by simp [hzk]
          rw [e]
          refine ⟨by rw [List.length_append, h1]; rfl, fun i hi => ?_⟩
          rcases Nat.lt_or_ge i k with hlt | hge
          · rw [List.getElem?_append_left (by omega)]; exact h2 i hlt
          · obtain rfl : i = k := by omega
            rw [List.getElem?_append_right (by omega), h1, Nat.sub_self, hzk]; rfl
      exact key len
    refine ⟨some a, len, m, (List.range len).filterMap y, by simpa using h0, hlen.1, hl, by unfold maxLen at hm; omega, by omega, fun i z hi => ?_⟩
    have hil : i < len := by have := (List.getElem?_eq_some_iff.1 hi).1; rw [hlen.1] at this; exact this
    obtain ⟨z', hz', hq⟩ := hy i hil
    rw [hlen.2 i hil, hz'] at hi
    cases hi
    have hci := (hx i (by omega)).1
    obtain ⟨b, off, spot⟩ := a
    have hspot : spot = none := by simpa [Addr.add] using World.cell?_spot (hx 0 (by omega)).1
    subst hspot
    rw [Go.WideShapes.add_plain] at hci
    exact ⟨b, off, rfl, trivial, World.block_lt_of_cell? w _ hci, hq b _ (by rw [Nat.mul_one]; exact hci)⟩
theorem opens_slice {α : Type} {Q : Rd α} {t e : TypeId} (ht : P.underlying t = some (.slice e)) (hc : P.cellsOf e = 1) (hby : 8 ≤ P.bytesOf e) (hQ : Opens enc P w held e Q) : Opens enc P w held t (RSl Q 1) := fun v fuel x h hw => by
  obtain ⟨a, len, cap, ys, rfl, hr⟩ := row_of ht hc hby hQ h hw
  exact ⟨ys, fun b o hcell => ⟨a, len, cap, hcell, hr⟩⟩
/-- The weights of an argument. -/
theorem weigh {ts : List TypeId} {ds : List (DataW H)} (h : (DataW.weightsEach P ts ds).all (· ≤ reachBytes) = true) {j : Nat} {t : TypeId} {d : DataW H} (ht : ts[j]? = some t) (hd : ds[j]? = some d) : ∀ n ∈ d.weights P t, n ≤ reachBytes := fun n hn => by
  simpa using List.all_eq_true.1 h n (DataW.weights_mem_each ht hd n hn)
theorem weigh_part {t : TypeId} {fs : Array Field} {parts : List (DataW H)} {j : Nat} {f : Field} {d : DataW H} (hs : P.underlying t = some (.struct fs)) (h : ∀ n ∈ (DataW.agg parts).weights P t, n ≤ reachBytes) (hf : fs.toList[j]? = some f) (hd : parts[j]? = some d) : ∀ n ∈ d.weights P f.type, n ≤ reachBytes := fun n hn => h n (by
  simp only [DataW.weights, hs]
  exact DataW.weights_mem_each (by rw [List.getElem?_map, hf]; rfl) hd n hn)
/-- A struct of one slice. -/
theorem open_agg1 {r : Reach} {b0 : Nat} {t : TypeId} {f0 : Field} {v : Value} {d : DataW H} {p : List MemPlace} (hs : P.underlying t = some (.struct #[f0])) (hone : oneCellFields P #[f0] = true) (hC : P.cellsOf t = 1)
    (hv : Value.okWide P w r b0 t v) (h : DataW.Trod enc P w 0 (fun _ => true) held t v d p) : ∃ (v0 : Value) (y0 : DataW H × List MemPlace) (n : Nat), v = .agg #[v0] ∧ d = .agg [y0.1] ∧ p = y0.2 ∧ DataW.trod enc P w 0 (fun _ => true) held n f0.type [v0] = some y0 := by
  obtain ⟨cs, rfl, hsz⟩ := okWide_struct hs hv
  have h1 : cs.size = 1 := hsz.trans hC
  obtain ⟨c0, rfl⟩ : ∃ c0, cs = #[c0] := ⟨cs[0], by apply Array.ext; · simp [h1]
                                                    · intro i hi _; have : i = 0 := by omega
                                                      subst this; simp⟩
  obtain ⟨fuel, hf⟩ := h
  obtain ⟨y0, n, hx, _, h0⟩ := trod_struct1 hs hf
  obtain ⟨o0, k0⟩ := hone_of hone 0 f0 rfl
  simp only [Prod.mk.injEq] at hx
  exact ⟨c0, y0, n, rfl, hx.1, hx.2, by simpa [Value.cells, o0, k0] using h0⟩
end
end Go.Proofs.Ytonbmijhbbodnaa
namespace Go.Proofs.Ytonbmijhbbodnaa
open Go.ChangeShapes

theorem list4 {α : Type} : ∀ (l : List α), l.length = 4 → ∃ a b c d, l = [a, b, c, d]
  | [a, b, c, d], _ => ⟨a, b, c, d, rfl⟩
  | [], h => by simp at h
  | [_], h => by simp at h
  | [_, _], h => by simp at h
  | [_, _, _], h => by simp at h
  | _ :: _ :: _ :: _ :: _ :: _, h => by simp at h
theorem list8 {α : Type} (l : List α) (h : l.length = 8) : ∃ a b c d a' b' c' d', l = [a, b, c, d, a', b', c', d'] := by
  obtain ⟨a, b, c, d, h1⟩ := list4 (l.take 4) (by rw [List.length_take]; omega)
  obtain ⟨a', b', c', d', h2⟩ := list4 (l.drop 4) (by rw [List.length_drop]; omega)
  refine ⟨a, b, c, d, a', b', c', d', ?_⟩
  rw [← List.take_append_drop 4 l, h1, h2]
  rfl
section
variable {H : Type} {enc : TypeId × Value → H} {P : Program} {w : World} {base : Nat} {spare : Nat → Bool} {held : Bool}
set_option maxHeartbeats 4000000 in
theorem trod_array8 {t e : TypeId} {fuel : Nat} {c0 c1 c2 c3 c4 c5 c6 c7 : Value} {x : DataW H × List MemPlace} (ht : P.underlying t = some (.array 8 e)) (hce : P.cellsOf e = 1)
    (h : DataW.trod enc P w base spare held fuel t [c0, c1, c2, c3, c4, c5, c6, c7] = some x) :
    ∃ y0 y1 y2 y3 y4 y5 y6 y7 n, x = (.agg [y0.1, y1.1, y2.1, y3.1, y4.1, y5.1, y6.1, y7.1], y0.2 ++ (y1.2 ++ (y2.2 ++ (y3.2 ++ (y4.2 ++ (y5.2 ++ (y6.2 ++ y7.2))))))) ∧ DataW.trod enc P w base spare held n e [c0] = some y0 ∧ DataW.trod enc P w base spare held n e [c1] = some y1 ∧ DataW.trod enc P w base spare held n e [c2] = some y2 ∧ DataW.trod enc P w base spare held n e [c3] = some y3 ∧ DataW.trod enc P w base spare held n e [c4] = some y4 ∧ DataW.trod enc P w base spare held n e [c5] = some y5 ∧ DataW.trod enc P w base spare held n e [c6] = some y6 ∧ DataW.trod enc P w base spare held n e [c7] = some y7 := by
  cases fuel with
  | zero => simp [DataW.trod] at h
  | succ n =>
    unfold DataW.trod at h
    rw [ht] at h
    have r8 : List.range 8 = [0, 1, 2, 3, 4, 5, 6, 7] := rfl
    simp [r8, hce] at h
    obtain ⟨_, h⟩ := h
    cases h0 : DataW.trod enc P w base spare held n e [c0] with
    | none => simp [h0] at h
    | some y0 =>
    cases h1 : DataW.trod enc P w base spare held n e [c1] with
    | none => simp [h0, h1] at h
    | some y1 =>
    cases h2 : DataW.trod enc P w base spare held n e [c2] with
    | none => simp [h0, h1, h2] at h
    | some y2 =>
    cases h3 : DataW.trod enc P w base spare held n e [c3] with
    | none => simp [h0, h1, h2, h3] at h
    | some y3 =>
    cases h4 : DataW.trod enc P w base spare held n e [c4] with
    | none => simp [h0, h1, h2, h3, h4] at h
    | some y4 =>
    cases h5 : DataW.trod enc P w base spare held n e [c5] with
    | none => simp [h0, h1, h2, h3, h4, h5] at h
    | some y5 =>
    cases h6 : DataW.trod enc P w base spare held n e [c6] with
    | none => simp [h0, h1, h2, h3, h4, h5, h6] at h
    | some y6 =>
    cases h7 : DataW.trod enc P w base spare held n e [c7] with
    | none => simp [h0, h1, h2, h3, h4, h5, h6, h7] at h
    | some y7 =>
      simp [h0, h1, h2, h3, h4, h5, h6, h7] at h
      exact ⟨y0, y1, y2, y3, y4, y5, y6, y7, n, h.symm, h0, h1, h2, h3, h4, h5, h6, h7⟩
end
end Go.Proofs.Ytonbmijhbbodnaa
namespace Go.Proofs.Ytonbmijhbbodnaa
open Go.ChangeShapes Go.WideShapes Go.Deep Go.Joins Go.RowKit

theorem list5 {α : Type} (l : List α) (h : l.length = 5) : ∃ a b c d e, l = [a, b, c, d, e] := by
  obtain ⟨a, b, c, d, h1⟩ := list4 (l.take 4) (by rw [List.length_take]; omega)
  obtain ⟨e, h2⟩ : ∃ e, l.drop 4 = [e] := by
    have : (l.drop 4).length = 1 := by rw [List.length_drop]; omega
    match hl : l.drop 4, this with
    | [e], _ => exact ⟨e, rfl⟩
  refine ⟨a, b, c, d, e, ?_⟩
  rw [← List.take_append_drop 4 l, h1, h2]
  rfl
section
variable {H : Type} {enc : TypeId × Value → H} {P : Program} {w : World} {held : Bool} {base : Nat} {spare : Nat → Bool}
theorem trod_struct5 {t : TypeId} {f0 f1 f2 f3 f4 : Field} {fuel : Nat} {cs : List Value} {x : DataW H × List MemPlace} (ht : P.underlying t = some (.struct #[f0, f1, f2, f3, f4])) (h : DataW.trod enc P w base spare held fuel t cs = some x) :
    ∃ y0 y1 y2 y3 y4 n, x = (.agg [y0.1, y1.1, y2.1, y3.1, y4.1], y0.2 ++ (y1.2 ++ (y2.2 ++ (y3.2 ++ y4.2)))) ∧ DataW.trod enc P w base spare held n f0.type ((cs.drop f0.offset).take (P.cellsOf f0.type)) = some y0 ∧
      DataW.trod enc P w base spare held n f1.type ((cs.drop f1.offset).take (P.cellsOf f1.type)) = some y1 ∧ DataW.trod enc P w base spare held n f2.type ((cs.drop f2.offset).take (P.cellsOf f2.type)) = some y2 ∧
      DataW.trod enc P w base spare held n f3.type ((cs.drop f3.offset).take (P.cellsOf f3.type)) = some y3 ∧ DataW.trod enc P w base spare held n f4.type ((cs.drop f4.offset).take (P.cellsOf f4.type)) = some y4 := by
  obtain ⟨xs, n, _, rfl, _, hlen, hf⟩ := DataW.trod_struct ht h
  match xs, hlen with
  | [y0, y1, y2, y3, y4], _ => exact ⟨y0, y1, y2, y3, y4, n, by simp, by simpa using hf 0 f0 rfl, by simpa using hf 1 f1 rfl, by simpa using hf 2 f2 rfl, by simpa using hf 3 f3 rfl, by simpa using hf 4 f4 rfl⟩
theorem open_agg5 {r : Reach} {b0 : Nat} {t : TypeId} {f0 f1 f2 f3 f4 : Field} {v : Value} {d : DataW H} {p : List MemPlace} (hs : P.underlying t = some (.struct #[f0, f1, f2, f3, f4])) (hone : oneCellFields P #[f0, f1, f2, f3, f4] = true) (hC : P.cellsOf t = 5)
    (hv : Value.okWide P w r b0 t v) (h : DataW.Trod enc P w base spare held t v d p) :
    ∃ (v0 v1 v2 v3 v4 : Value) (y0 y1 y2 y3 y4 : DataW H × List MemPlace) (n : Nat), v = .agg #[v0, v1, v2, v3, v4] ∧ d = .agg [y0.1, y1.1, y2.1, y3.1, y4.1] ∧ p = y0.2 ++ (y1.2 ++ (y2.2 ++ (y3.2 ++ y4.2))) ∧
      DataW.trod enc P w base spare held n f0.type [v0] = some y0 ∧ DataW.trod enc P w base spare held n f1.type [v1] = some y1 ∧ DataW.trod enc P w base spare held n f2.type [v2] = some y2 ∧ DataW.trod enc P w base spare held n f3.type [v3] = some y3 ∧ DataW.trod enc P w base spare held n f4.type [v4] = some y4 := by
  obtain ⟨cs, rfl, hsz⟩ := okWide_struct hs hv
  obtain ⟨l⟩ := cs
  obtain ⟨c0, c1, c2, c3, c4, rfl⟩ := list5 l (hsz.trans hC)
  obtain ⟨fuel, hf⟩ := h
  obtain ⟨y0, y1, y2, y3, y4, n, hx, h0, h1, h2, h3, h4⟩ := trod_struct5 hs hf
  obtain ⟨o0, k0⟩ := hone_of hone 0 f0 rfl
  obtain ⟨o1, k1⟩ := hone_of hone 1 f1 rfl
  obtain ⟨o2, k2⟩ := hone_of hone 2 f2 rfl
  obtain ⟨o3, k3⟩ := hone_of hone 3 f3 rfl
  obtain ⟨o4, k4⟩ := hone_of hone 4 f4 rfl
  simp only [Prod.mk.injEq] at hx
  exact ⟨c0, c1, c2, c3, c4, y0, y1, y2, y3, y4, n, rfl, hx.1, hx.2, by simpa [Value.cells, o0, k0] using h0, by simpa [Value.cells, o1, k1] using h1, by simpa [Value.cells, o2, k2] using h2, by simpa [Value.cells, o3, k3] using h3, by simpa [Value.cells, o4, k4] using h4⟩
theorem opens_bool {e : TypeId} (he : P.underlying e = some .bool) : Opens enc P w held e RBo := fun v fuel x h _ => by
  obtain ⟨b, hb, _⟩ := DataW.trod_bool he h
  obtain rfl : v = .bool b := by simpa using hb
  exact ⟨b, fun b o hc => hc⟩
/-- A slice of elements of one byte or more: as row_of, where it is no longer than rows are. -/
theorem row_of1 {α : Type} {Q : Rd α} {t e : TypeId} {fuel : Nat} {v : Value} {x : DataW H × List MemPlace} (ht : P.underlying t = some (.slice e)) (hc : P.cellsOf e = 1) (hby : 1 ≤ P.bytesOf e) (hQ : Opens enc P w held e Q)
    (h : DataW.trod enc P w 0 (fun _ => true) held fuel t [v] = some x) (hw : ∀ n ∈ x.1.weights P t, n ≤ reachBytes) : ∃ a len cap ys, v = .slice a len cap ∧ len ≤ 140737488351232 ∧ (len ≤ 17592186044416 → Row Q 1 All w a len cap ys) := by
  rcases open_slice1 ht hc h with ⟨h0, _⟩ | ⟨a, len, cap, m, n, V, D, Pl, h0, _, hl, hm, hmm, rfl, hx⟩
  · exact ⟨none, 0, 0, [], by simpa using h0, by omega, fun _ => Row.nil Q 1 All w none (by decide)⟩
  · simp only [if_true] at hmm
    subst hmm
    have hcap : m * P.bytesOf e ≤ reachBytes := hw _ (by simp only [DataW.weights, ht, List.length_map, List.length_range]; rw [show len + (m - len) = m by omega]; exact List.mem_cons_self)
    have h8 : m * 1 ≤ reachBytes := Nat.le_trans (Nat.mul_le_mul_left _ hby) hcap
    have hr : reachBytes = 140737488351232 := rfl
    have each : ∀ i, i < len → ∃ y : Option α, ∃ z, y = some z ∧ ∀ b o, w.cell? ⟨b, o, none⟩ = some (V i) → Q All w b o z := fun i hi => by
      obtain ⟨z, hz⟩ := hQ (V i) n (D i, Pl i) (hx i (by omega)).2 (fun k hk => hw k (by
        simp only [DataW.weights, ht, List.mem_cons, List.mem_append]
        exact .inr (.inl (weights_all (List.mem_map.2 ⟨i, List.mem_range.2 hi, rfl⟩) k hk))))
      exact ⟨some z, z, rfl, hz⟩
    obtain ⟨y, hy⟩ := choose_lt each
    have hz : ∀ i, i < len → ∃ z, y i = some z := fun i hi => by obtain ⟨z, hz, _⟩ := hy i hi; exact ⟨z, hz⟩
    have hlen : ((List.range len).filterMap y).length = len ∧ ∀ i, i < len → ((List.range len).filterMap y)[i]? = y i := by
      clear hy each
      revert hz
      have key : ∀ k, (∀ i, i < k → ∃ z, y i = some z) → ((List.range k).filterMap y).length = k ∧ ∀ i, i < k → ((List.range k).filterMap y)[i]? = y i := fun k => by
        induction k with
        | zero => exact fun _ => ⟨rfl, fun i hi => absurd hi (Nat.not_lt_zero _)⟩
        | succ k ih =>
          intro hz
          obtain ⟨h1, h2⟩ := ih (fun i hi => hz i (by omega))
          obtain ⟨z, hzk⟩ := hz k (by omega)
          rw [List.range_succ, List.filterMap_append]
          have e : List.filterMap y [k] = [z] := by simp [hzk]
          rw [e]
          refine ⟨by rw [List.length_append, h1]; rfl, fun i hi => ?_⟩
          rcases Nat.lt_or_ge i k with hlt | hge
          · rw [List.getElem?_append_left (by omega)]; exact h2 i hlt
          · obtain rfl : i = k := by omega
            rw [List.getElem?_append_right (by omega), h1, Nat.sub_self, hzk]; rfl
      exact key len
    refine ⟨some a, len, m, (List.range len).filterMap y, by simpa using h0, by omega, fun hsz => ⟨hlen.1, hl, by unfold maxLen at hm; omega, hsz, fun i z hi => ?_⟩⟩
    have hil : i < len := by have := (List.getElem?_eq_some_iff.1 hi).1; rw [hlen.1] at this; exact this
    obtain ⟨z', hz', hq⟩ := hy i hil
    rw [hlen.2 i hil, hz'] at hi
    cases hi
    have hci := (hx i (by omega)).1
    obtain ⟨b, off, spot⟩ := a
    have hspot : spot = none := by simpa [Addr.add] using World.cell?_spot (hx 0 (by omega)).1
    subst hspot
    rw [Go.WideShapes.add_plain] at hci
    exact ⟨b, off, rfl, trivial, World.block_lt_of_cell? w _ hci, hq b _ (by rw [Nat.mul_one]; exact hci)⟩
end
end Go.Proofs.Ytonbmijhbbodnaa
