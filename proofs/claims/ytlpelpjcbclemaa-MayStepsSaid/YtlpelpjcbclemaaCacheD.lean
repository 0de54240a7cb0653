/-
  cache.copied: contents in new memory.
-/
import Derived.Test.YtlpelpjcbclemaaZCacheA
import Derived.Test.YtlpelpjcbclemaaZGrow
namespace Go.Proofs.Ytlpelpjcbclemaa
open Go.RowKit

theorem info_sl : (Try.prog.info? 22).map (fun i => (i.zero, i.size, i.bytes)) = some (some (.slice none 0 0), 1, 24) := by kernel_rfl
theorem make_rows (n : Nat) (h : n ≤ 1000000) (w : World) (kl kc : IntKind) : (Instr.makeSlice 42 (.int kl (n : Int)) (.int kc (n : Int))).run Try.prog w = .ok (.slice (some ⟨w.heap.size, 0, none⟩) n n) (w.alloc (.cells (zeros (.slice none 0 0) n).toArray 22)) := by
  rw [← madeCells_zeros]
  exact run_make_row' 42 22 (.slice none 0 0) 24 Try.underlying42 info_sl rfl kl kc n (by omega) (by omega) w

/-- The cells of a list of rows, of which the first k are made, in blocks from B on. -/
def cRows (B : Nat) (ss : List (List Int)) (k : Nat) : List Value :=
  (List.range ss.length).map fun i => if i < k then .slice (some ⟨B + i, 0, none⟩) (ss.getD i []).length (ss.getD i []).length else .slice none 0 0
theorem cRows_length (B : Nat) (ss : List (List Int)) (k : Nat) : (cRows B ss k).length = ss.length := by simp [cRows]
theorem cRows_get {B : Nat} {ss : List (List Int)} {k i : Nat} {x : List Int} (h : ss[i]? = some x) (hk : i < k) : (cRows B ss k)[i]? = some (.slice (some ⟨B + i, 0, none⟩) x.length x.length) := by
  have hi := (List.getElem?_eq_some_iff.1 h).1
  unfold cRows
  rw [List.getElem?_map, List.getElem?_range hi]
  simp [hk, h]
theorem cRows_zero (B : Nat) (ss : List (List Int)) : cRows B ss 0 = zeros (.slice none 0 0) ss.length := by
  unfold cRows zeros
  apply List.ext_getElem?
  intro i
  by_cases h : i < ss.length <;> simp [h]
theorem cRows_succ {B : Nat} {ss : List (List Int)} {k : Nat} {x : List Int} (h : ss[k]? = some x) : (cRows B ss k).set k (.slice (some ⟨B + k, 0, none⟩) x.length x.length) = cRows B ss (k + 1) := by
  have hk := (List.getElem?_eq_some_iff.1 h).1
  apply List.ext_getElem?
  intro i
  rw [List.getElem?_set]
  by_cases hi : i < ss.length
  · unfold cRows
    simp only [List.getElem?_map, List.getElem?_range hi, List.length_map, List.length_range, hk, if_true]
    by_cases e : k = i
    · subst e; simp [h]
    · simp only [e, if_false, Option.map_some]
      by_cases h2 : i < k
      · simp [h2, Nat.lt_succ_of_lt h2]
      · have : ¬ i < k + 1 := by omega
        simp [h2, this]
  · have hne : ¬ k = i := by omega
    simp only [hne, if_false]
    unfold cRows
    rw [List.getElem?_eq_none (by simp; omega), List.getElem?_eq_none (by simp; omega)]

theorem copied_end {w w' : World} {ss : List (List Int)} {B : Nat} (hb : Blk w' B 22 (cRows (B + 2) ss ss.length)) (hB : w.heap.size ≤ B) (hn : ss.length ≤ 1000000) (hs : B + 2 + ss.length ≤ w'.heap.size)
    (hr : ∀ i x, ss[i]? = some x → Blk w' (B + 2 + i) 3 (ivs x) ∧ x.length ≤ 17592186044416 ∧ ∀ z ∈ x, -9223372036854775808 ≤ z ∧ z ≤ 9223372036854775807) :
    OMat w' (fun k => w.heap.size ≤ k) (.slice (some ⟨B, 0, none⟩) ss.length ss.length) ss := by
  refine .inr ⟨B, ss.length, cRows (B + 2) ss ss.length, [], fun i k => k = B + 2 + i, rfl, ⟨by rw [List.append_nil]; exact hb, cRows_length _ _ _, by simp, by omega, by omega, hB, fun i x h => ?_, fun i k hi hk => by subst hk; exact ⟨by omega, by omega, by omega⟩, fun i j k _ _ h1 h2 => by omega⟩⟩
  obtain ⟨h1, h2, h3⟩ := hr i x h
  refine ⟨_, cRows_get h (List.getElem?_eq_some_iff.1 h).1, .inr ⟨B + 2 + i, x.length, ivs x, [], fun _ _ => False, rfl, by rw [List.append_nil]; exact h1, ivs_length x, by simp, by omega, h2, rfl, fun j z hz => ⟨_, ivs_get hz, rfl, h3 z (List.mem_of_getElem? hz)⟩, fun _ _ _ h => h.elim, fun _ _ _ _ _ h => h.elim⟩⟩

/-- What comes back is new contents. -/
def NewRet (ss : List (List Int)) (w : World) (e : Ending) (w' : World) : Prop :=
  ∃ a n cap, e = .returned (.agg #[.slice a n cap]) ∧ OMat w' (Ge w.heap.size) (.slice a n cap) ss ∧ Below w.heap.size w w'
theorem OMat.ge {w : World} {B B' : Nat} {v : Value} {ss : List (List Int)} (h : OMat w (Ge B) v ss) (hB : B' ≤ B) : OMat w (Ge B') v ss := OwnRow.wid _ w _ _ v ss (fun _ hk => Nat.le_trans hB hk) h
theorem OMat.bt {w : World} {B : Nat} {v : Value} {ss : List (List Int)} (h : OMat w (Ge B) v ss) : OMat w (Bt B w.heap.size) v ss := by
  rcases h with h | ⟨b, cap, vs, sp, fps, hv, r⟩
  · exact .inl h
  · exact .inr ⟨b, cap, vs, sp, fps, hv, r.blk, r.hlen, r.hcap, r.hmax, r.hsz, ⟨r.own, r.blk.lt⟩, r.row, fun i k hi hk => ⟨⟨(r.sub i k hi hk).1, (r.sub i k hi hk).2.2⟩, (r.sub i k hi hk).2⟩, r.apart⟩
theorem OMat.of_bt {w : World} {B B' C : Nat} {v : Value} {ss : List (List Int)} (h : OMat w (Bt B C) v ss) (hB : B' ≤ B) : OMat w (Ge B') v ss := OwnRow.wid _ w _ _ v ss (fun _ hk => Nat.le_trans hB hk.1) h
end Go.Proofs.Ytlpelpjcbclemaa
