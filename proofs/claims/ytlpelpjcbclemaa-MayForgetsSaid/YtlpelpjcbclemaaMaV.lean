/-
  A state in a variable: new, stored anew, kept.
-/
import Derived.Test.YtlpelpjcbclemaaMaG
namespace Go.Proofs.Ytlpelpjcbclemaa
open Go.RowKit

theorem YVr.set {w : World} {B b : Nat} {f1 f2 g1 g2 : Nat → Prop} {S c oc c' oc' D : Nat} {a oa a' oa' : Option Addr} {m m' : List (List (List Int))} {o o' : List Int} (h : YVr w B b f1 f2 S a c oa oc m o) (k : OY w D g1 g2 a' S c' oa' S oc' m' o') (hD : b < D) (hB : B ≤ D) :
    YVr ((w.setCell ⟨b, 0, none⟩ (.slice a' S c')).setCell ⟨b, 1, none⟩ (.slice oa' S oc')) B b g1 g2 S a' c' oa' oc' m' o' := by
  have kc : Chg (fun j => j = b) w ((w.setCell ⟨b, 0, none⟩ (.slice a' S c')).setCell ⟨b, 1, none⟩ (.slice oa' S oc')) := (Chg.setCell (M := fun j => j = b) (Chg.refl _) (fun _ => rfl) _).setCell (fun _ => rfl) _
  exact ⟨(h.has.set0 _).set1 _, (k.chg kc (fun j hj _ e => by omega)).ge hB, h.ge, by simpa using h.lt, fun e => by have := (k.s1 b e).1; omega, fun e => by have := (k.s2 b e).1; omega⟩
theorem YVr.newO {w : World} {E D : Nat} {f1 f2 : Nat → Prop} {S c oc : Nat} {a oa : Option Addr} {m : List (List (List Int))} {o : List Int} (h : OY w D f1 f2 a S c oa S oc m o) (hE : E ≤ D ∧ E ≤ w.heap.size) :
    YVr (w.alloc (.cells #[.slice a S c, .slice oa S oc] 31)) E w.heap.size f1 f2 S a c oa oc m o :=
  ⟨Has.new w [.slice a S c, .slice oa S oc] 31, (h.ge hE.1).below ((Below.refl _ _).alloc (Nat.le_refl _) _), hE.2, by simp, fun e => by have := (h.s1 _ e).2; omega, fun e => by have := (h.s2 _ e).2; omega⟩
theorem YVr.setO {w : World} {E D b : Nat} {f1 f2 : Nat → Prop} {S c oc : Nat} {a oa : Option Addr} {m : List (List (List Int))} {o : List Int} {u v : Value} (hx : Has w b [u, v]) (h : OY w D f1 f2 a S c oa S oc m o) (hD : b < D) (hE : E ≤ b) :
    YVr ((w.setCell ⟨b, 0, none⟩ (.slice a S c)).setCell ⟨b, 1, none⟩ (.slice oa S oc)) E b f1 f2 S a c oa oc m o :=
  ⟨(hx.set0 _).set1 _, (h.chg (M := fun j => j = b) ((Chg.setCell (M := fun j => j = b) (Chg.refl _) (fun _ => rfl) _).setCell (fun _ => rfl) _) (fun j hj _ e => by omega)).ge (by omega), hE, by simpa using hx.lt (by simp), fun e => by have := (h.s1 _ e).1; omega, fun e => by have := (h.s2 _ e).1; omega⟩
end Go.Proofs.Ytlpelpjcbclemaa
