/-
  ages.Use: the ages in a set behind the use of a line.
-/
import Derived.Test.YtlpelpjcbclemaaMuF
import Derived.Test.YtlpelpjcbclemaaCacheD
namespace Go.Proofs.Ytlpelpjcbclemaa
open Go.RowKit

/-- Lines of few numbers. -/
structure Lns (U : List Int) (P : Int → Prop) : Prop where
  sub : ∀ x, P x → x ∈ U ∧ 0 ≤ x ∧ x ≤ 1048576
  len : U.length ≤ 1000
theorem Lns.short {U : List Int} {P : Int → Prop} (h : Lns U P) {W : Nat} {g : List (List Int)} (hg : WSet P W g) : ∀ (i : Nat) l, g[i]? = some l → Asc l ∧ l.length ≤ 10000 := fun i l hl =>
  ⟨hg.asc i l hl, by
    have := asc_short (U := U) (hg.asc i l hl) fun x hx => (h.sub x (hg.mem i x ⟨l, hl, hx⟩)).1
    have := h.len; omega⟩
theorem Lns.range {U : List Int} {P : Int → Prop} (h : Lns U P) {x : Int} (hx : P x) : -9223372036854775808 ≤ x ∧ x ≤ 9223372036854775807 := by have := h.sub x hx; omega
theorem OMat.nils {w : World} {fp : Nat → Prop} {b n : Nat} (h : Blk w b 22 (zeros (.slice none 0 0) n)) (hf : fp b) (hn : n ≤ 1000000) : OMat w fp (.slice (some ⟨b, 0, none⟩) n n) (List.replicate n []) := by
  refine .inr ⟨b, n, zeros (.slice none 0 0) n, [], fun _ _ => False, by rw [List.length_replicate], ⟨by rw [List.append_nil]; exact h, by rw [zeros_length, List.length_replicate], by simp, by omega, by rw [List.length_replicate]; omega, hf, fun i x hx => ?_, fun _ _ _ h => h.elim, fun _ _ _ _ _ h => h.elim⟩⟩
  rw [List.getElem?_replicate] at hx
  split at hx
  · cases hx; exact ⟨_, zeros_get (by assumption), .inl ⟨rfl, rfl⟩⟩
  · cases hx
def MatRet (g : List (List Int)) (w : World) (e : Ending) (w' : World) : Prop := ∃ v, e = .returned v ∧ OMat w' (Ge w.heap.size) v g ∧ Below w.heap.size w w'
/-- What an operation in place leaves of a list that a call owns from B on. -/
theorem OMat.step {B : Nat} {w w' : World} {v : Value} {g : List (List Int)} (r : OMat w' (Grown (Ge B) w) v g) (hB : B ≤ w.heap.size) : OMat w' (Ge B) v g := OwnRow.wid _ w' _ _ v g (fun _k hk => hk.elim id (fun h => Nat.le_trans hB h)) r
end Go.Proofs.Ytlpelpjcbclemaa
