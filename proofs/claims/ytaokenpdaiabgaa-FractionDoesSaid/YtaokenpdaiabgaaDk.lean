/-
  Two variables that are made while numbers are multiplied: small laws for the document's Add and Cmp.
-/
import Derived.Test.YtaokenpdaiabgaaDc
import Derived.Deep.RegionLaw
import Derived.Deep.DeepCutAuto
namespace Go.Proofs.Ytaokenpdaiabgaa
open Go.RowKit

/-! ### Two variables that are made while numbers are multiplied -/
theorem cell_alloc {w : World} {b o : Nat} {v : Value} {ob : Obj} (hb : b < w.heap.size) (h : w.cell? ⟨b, o, none⟩ = some v) : (w.alloc ob).cell? ⟨b, o, none⟩ = some v := (World.cell?_alloc_lt w ob ⟨b, o, none⟩ hb).trans h
theorem cell_drew {w : World} {p : Addr} {v : Value} (h : w.cell? p = some v) : w.drew.cell? p = some v := h
abbrev zz : Obj := .cells #[.int .u64 0, .int .u64 0] 48
theorem Has.k_new2 {w : World} {b : Nat} {u v : Value} (e : b = w.heap.size) : Has (w.alloc (.cells #[u, v] 48)) b [u, v] := e ▸ Has.new w [u, v] 48
theorem Has.k_set2 {w : World} {b : Nat} {u v x y : Value} (h : Has w b [u, v]) : Has ((w.setCell ⟨b, 0, none⟩ x).setCell ⟨b, 1, none⟩ y) b [x, y] := (h.set0 x).set1 y
theorem Has.k_set {w : World} {b g k : Nat} {vs : List Value} {v : Value} (hne : b ≠ g) (h : Has w b vs) : Has (w.setCell ⟨g, k, none⟩ v) b vs := h.other hne
theorem Fr.k_alloc {w wr : World} {l : List (List Value)} {o : Obj} (s : Fr w wr l) : Fr w (wr.alloc o) l := s.more o
theorem Fr.k_set {w wr : World} {l : List (List Value)} {g k : Nat} {v : Value} (hg : w.heap.size + l.length ≤ g) (s : Fr w wr l) : Fr w (wr.setCell ⟨g, k, none⟩ v) l :=
  ⟨s.below.trans ((Below.refl _ _).setCell (by simp; omega) _), by simpa using s.size, fun i vs h => (s.has i vs h).other (by have := (List.getElem?_eq_some_iff.1 h).1; simp; omega)⟩
/-- Two variables of two words. -/
def TwoW (w : World) (l : List (List Value)) (A B : Nat) (s6 s7 : Value) (wx : World) : Prop :=
  ∃ bx by_ : Nat, s6 = .pointer (some ⟨bx, 0, none⟩) ∧ s7 = .pointer (some ⟨by_, 0, none⟩) ∧ Has wx bx [.int .u64 (wh A), .int .u64 (wl A)] ∧ Has wx by_ [.int .u64 (wh B), .int .u64 (wl B)] ∧ Fr w wx l ∧ w.heap.size + l.length ≤ bx ∧ w.heap.size + l.length ≤ by_ ∧ bx ≠ by_

theorem sv_scale (a : Nat) (b : Nat) (n : Bool) : sv (a * b) n = sv a n * (b : Int) := by
  unfold sv
  split
  · rw [Int.natCast_mul, Int.neg_mul]
  · rw [Int.natCast_mul]
theorem add_law (xn yn : Int) (xd yd : Nat) : sv (plN (xn.natAbs * yd) (yn.natAbs * xd) (decide (xn < 0)) (decide (yn < 0))) (plS (xn.natAbs * yd) (yn.natAbs * xd) (decide (xn < 0)) (decide (yn < 0))) = xn * (yd : Int) + yn * (xd : Int) := by
  rw [sv_plus, sv_scale, sv_scale, sv_abs, sv_abs]

end Go.Proofs.Ytaokenpdaiabgaa
