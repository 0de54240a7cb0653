/-
  What the operations of a region leave, and what keeps it so: states, variables.
-/
import Derived.Test.YtlpelpjcbclemaaMbB
import Derived.Test.YtlpelpjcbclemaaHeadi
namespace Go.Proofs.Ytlpelpjcbclemaa
open Go.RowKit

/-- The value v is a state, its blocks are from A to C. -/
def StP (d S : Nat) (w : World) (A C : Nat) (v : Value) (R : List (List (List Int)) → List Int → Prop) : Prop := ∃ ta tc ua uc m o, v = YV ta S tc ua S uc ∧ YCub (Bt A C) w ta S tc ua S uc m o ∧ C ≤ w.heap.size ∧ d < A ∧ R m o
theorem StP.keep {d S A C : Nat} {w w' : World} {v : Value} {R : List (List (List Int)) → List Int → Prop} (hc : Chg (fun k => k = d) w w') (h : StP d S w A C v R) : StP d S w' A C v R := by
  obtain ⟨ta, tc, ua, uc, m, o, rfl, h1, h2, h3, h4⟩ := h
  exact ⟨ta, tc, ua, uc, m, o, rfl, h1.chg hc (fun k hk e => by have := hk.1; omega), Nat.le_trans h2 hc.size, h3, h4⟩
theorem StP.of {d S B : Nat} {w : World} {f1 f2 : Nat → Prop} {ta ua : Option Addr} {tc uc : Nat} {m : List (List (List Int))} {o : List Int} {R : List (List (List Int)) → List Int → Prop} (h : OY w B f1 f2 ta S tc ua S uc m o) (hd : d < B) (hr : R m o) : StP d S w B w.heap.size (YV ta S tc ua S uc) R :=
  ⟨ta, tc, ua, uc, m, o, rfl, h.bt, Nat.le_refl _, hd, hr⟩
/-- The value v is a variable for a state, with nothing in it as yet. -/
def VarP (d : Nat) (w0 w : World) (x : Nat) (v : Value) : Prop := v = .pointer (some ⟨x, 0, none⟩) ∧ Has w x [.slice none 0 0, .slice none 0 0] ∧ w0.heap.size ≤ x ∧ x ≠ d ∧ x < w.heap.size
theorem VarP.keep {d x : Nat} {w0 w w' : World} {v : Value} (hc : Chg (fun k => k = d) w w') (h : VarP d w0 w x v) : VarP d w0 w' x v :=
  ⟨h.1, hc.has h.2.1 h.2.2.2.2 h.2.2.2.1, h.2.2.1, h.2.2.2.1, Nat.lt_of_lt_of_le h.2.2.2.2 hc.size⟩
theorem VarP.new {d : Nat} {w0 w : World} (h0 : w0.heap.size ≤ w.heap.size) (hd : d < w.heap.size) : VarP d w0 (w.alloc (.cells #[.slice none 0 0, .slice none 0 0] 31)) w.heap.size (.pointer (some ⟨w.heap.size, 0, none⟩)) :=
  ⟨rfl, Has.new w [.slice none 0 0, .slice none 0 0] 31, h0, by omega, by simp⟩
theorem sep_set {K : Nat → Prop} {w : World} {x i j : Nat} {u v : Value} {a : Option Addr} {n c : Nat} {oa : Option Addr} {on oc : Nat} {m : List (List (List Int))} {o : List Int} (hx : ∀ k, K k → k ≠ x) (h : YCub K w a n c oa on oc m o) : YCub K ((w.setCell ⟨x, i, none⟩ u).setCell ⟨x, j, none⟩ v) a n c oa on oc m o := YCub.k_set hx (YCub.k_set hx h)
theorem bt_ne {A C x : Nat} (h : x < A ∨ C ≤ x) : ∀ k, Bt A C k → k ≠ x := fun k hk e => by have := hk.1; have := hk.2; omega
/-- A variable that has got its state. -/
theorem one_stored {d S x A C tc uc : Nat} {ta ua : Option Addr} {m : List (List (List Int))} {o : List Int} {w0 w : World} (hc : Chg (fun k => k = d) w0 w) (hx : Has w x [.slice none 0 0, .slice none 0 0]) (h0x : w0.heap.size ≤ x) (nx : x ≠ d) (lx : x < w.heap.size) (h : YCub (Bt A C) w ta S tc ua S uc m o) (dA : d < A) (s1 : x < A ∨ C ≤ x) :
    SVar d S x ta tc ua uc m o ((w.setCell ⟨x, 0, none⟩ (.slice ta S tc)).setCell ⟨x, 1, none⟩ (.slice ua S uc)) ∧ Chg (fun k => k = d) w0 ((w.setCell ⟨x, 0, none⟩ (.slice ta S tc)).setCell ⟨x, 1, none⟩ (.slice ua S uc)) :=
  ⟨⟨hx.k_set01, (sep_set (bt_ne s1) h).ndb dA, nx, by simpa using lx⟩, (hc.k_set h0x).k_set h0x⟩
/-- Two variables that have got their states. -/
theorem two_stored {d S x y A C A' C' tc uc tc' uc' : Nat} {ta ua ta' ua' : Option Addr} {m m' : List (List (List Int))} {o o' : List Int} {w0 w : World} (hc : Chg (fun k => k = d) w0 w)
    (hx : Has w x [.slice none 0 0, .slice none 0 0]) (h0x : w0.heap.size ≤ x) (nx : x ≠ d) (lx : x < w.heap.size) (hy : Has w y [.slice none 0 0, .slice none 0 0]) (h0y : w0.heap.size ≤ y) (ny : y ≠ d) (ly : y < w.heap.size) (hxy : x ≠ y)
    (h : YCub (Bt A C) w ta S tc ua S uc m o) (dA : d < A) (h' : YCub (Bt A' C') w ta' S tc' ua' S uc' m' o') (dA' : d < A') (s1 : x < A ∨ C ≤ x) (s2 : y < A ∨ C ≤ y) (s3 : x < A' ∨ C' ≤ x) (s4 : y < A' ∨ C' ≤ y) :
    SVar d S x ta tc ua uc m o ((((w.setCell ⟨x, 0, none⟩ (.slice ta S tc)).setCell ⟨x, 1, none⟩ (.slice ua S uc)).setCell ⟨y, 0, none⟩ (.slice ta' S tc')).setCell ⟨y, 1, none⟩ (.slice ua' S uc')) ∧
    SVar d S y ta' tc' ua' uc' m' o' ((((w.setCell ⟨x, 0, none⟩ (.slice ta S tc)).setCell ⟨x, 1, none⟩ (.slice ua S uc)).setCell ⟨y, 0, none⟩ (.slice ta' S tc')).setCell ⟨y, 1, none⟩ (.slice ua' S uc')) ∧
    Chg (fun k => k = d) w0 ((((w.setCell ⟨x, 0, none⟩ (.slice ta S tc)).setCell ⟨x, 1, none⟩ (.slice ua S uc)).setCell ⟨y, 0, none⟩ (.slice ta' S tc')).setCell ⟨y, 1, none⟩ (.slice ua' S uc')) := by
  have q := one_stored hc hx h0x nx lx h dA s1
  have hy1 : Has ((w.setCell ⟨x, 0, none⟩ (.slice ta S tc)).setCell ⟨x, 1, none⟩ (.slice ua S uc)) y [.slice none 0 0, .slice none 0 0] := (hy.k_set hxy).k_set hxy
  have q2 := one_stored q.2 hy1 h0y ny (by simpa using ly) (sep_set (bt_ne s3) h') dA' s4
  exact ⟨⟨(q.1.has.k_set (fun e => hxy e.symm)).k_set (fun e => hxy e.symm), (sep_set (bt_ne s2) (sep_set (bt_ne s1) h)).ndb dA, nx, by simpa using lx⟩, q2.1, q2.2⟩
end Go.Proofs.Ytlpelpjcbclemaa
