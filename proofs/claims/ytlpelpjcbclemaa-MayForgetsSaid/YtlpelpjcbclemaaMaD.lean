/-
  States of lines that can be there, owned; may.Copy, may.Top, the document's Top.
-/
import Derived.Test.YtlpelpjcbclemaaMaC
import Derived.Test.YtlpelpjcbclemaaMuK
import Derived.Test.YtlpelpjcbclemaaKeep2
import Derived.Deep.RegionHeld3
namespace Go.Proofs.Ytlpelpjcbclemaa
open Go.RowKit

/-- A state that a call owns: its lists and its numbers lie in blocks of their own, from B on. -/
structure OY (w : World) (B : Nat) (f1 f2 : Nat → Prop) (a : Option Addr) (n c : Nat) (oa : Option Addr) (on oc : Nat) (m : List (List (List Int))) (o : List Int) : Prop where
  sets : OCub w f1 (.slice a n c) m
  oth : OInts w f2 (.slice oa on oc) o
  s1 : ∀ k, f1 k → B ≤ k ∧ k < w.heap.size
  s2 : ∀ k, f2 k → B ≤ k ∧ k < w.heap.size
  ap : ∀ k, f1 k → ¬ f2 k
theorem OY.ycub {w : World} {B : Nat} {f1 f2 K : Nat → Prop} {a : Option Addr} {n c : Nat} {oa : Option Addr} {on oc : Nat} {m : List (List (List Int))} {o : List Int} (h : OY w B f1 f2 a n c oa on oc m o) (hK : ∀ k, B ≤ k → k < w.heap.size → K k) : YCub K w a n c oa on oc m o :=
  ⟨h.sets.read (fun k hk => hK k (h.s1 k hk).1 (h.s1 k hk).2), h.oth.read (fun k hk => hK k (h.s2 k hk).1 (h.s2 k hk).2)⟩
theorem OY.chg {w w' : World} {M : Nat → Prop} {B : Nat} {f1 f2 : Nat → Prop} {a : Option Addr} {n c : Nat} {oa : Option Addr} {on oc : Nat} {m : List (List (List Int))} {o : List Int} (h : OY w B f1 f2 a n c oa on oc m o) (k : Chg M w w') (hM : ∀ j, B ≤ j → j < w.heap.size → ¬ M j) : OY w' B f1 f2 a n c oa on oc m o :=
  ⟨OCub.loc.chg h.sets k (fun j hj _ => hM j (h.s1 j hj).1 (h.s1 j hj).2), OInts.loc.chg h.oth k (fun j hj _ => hM j (h.s2 j hj).1 (h.s2 j hj).2), fun j hj => ⟨(h.s1 j hj).1, Nat.lt_of_lt_of_le (h.s1 j hj).2 k.size⟩, fun j hj => ⟨(h.s2 j hj).1, Nat.lt_of_lt_of_le (h.s2 j hj).2 k.size⟩, h.ap⟩
theorem OY.below {w w' : World} {B : Nat} {f1 f2 : Nat → Prop} {a : Option Addr} {n c : Nat} {oa : Option Addr} {on oc : Nat} {m : List (List (List Int))} {o : List Int} (h : OY w B f1 f2 a n c oa on oc m o) (k : Below w.heap.size w w') : OY w' B f1 f2 a n c oa on oc m o :=
  h.chg (M := Non) (Chg.of_below k) (fun _ _ _ h => h)
theorem OY.ge {w : World} {B C : Nat} {f1 f2 : Nat → Prop} {a : Option Addr} {n c : Nat} {oa : Option Addr} {on oc : Nat} {m : List (List (List Int))} {o : List Int} (h : OY w B f1 f2 a n c oa on oc m o) (hC : C ≤ B) : OY w C f1 f2 a n c oa on oc m o :=
  ⟨h.sets, h.oth, fun k hk => ⟨Nat.le_trans hC (h.s1 k hk).1, (h.s1 k hk).2⟩, fun k hk => ⟨Nat.le_trans hC (h.s2 k hk).1, (h.s2 k hk).2⟩, h.ap⟩
theorem OY.two {w : World} {B C d : Nat} {f1 f2 : Nat → Prop} {a : Option Addr} {n c : Nat} {oa : Option Addr} {on oc : Nat} {m : List (List (List Int))} {o : List Int} {u v : Value} (h : OY w B f1 f2 a n c oa on oc m o) (hd : d < C) (hC : C ≤ B) : OY ((w.setCell ⟨d, 0, none⟩ u).setCell ⟨d, 1, none⟩ v) C f1 f2 a n c oa on oc m o :=
  OY.ge (OY.chg (M := fun j => j = d) h ((Chg.setCell (M := fun j => j = d) (Chg.refl _) (fun _ => rfl) _).setCell (fun _ => rfl) _) (fun j hj _ e => by omega)) hC
/-- A call hands back a state of its own. -/
def YRet (m : List (List (List Int))) (o : List Int) (w : World) (e : Ending) (w' : World) : Prop := ∃ a n c oa on oc f1 f2, e = .returned (YV a n c oa on oc) ∧ OY w' w.heap.size f1 f2 a n c oa on oc m o ∧ Below w.heap.size w w'
theorem OY.mk2 {w1 w2 : World} {B : Nat} {a : Option Addr} {n c : Nat} {oa : Option Addr} {on oc : Nat} {m : List (List (List Int))} {o : List Int} (h1 : OCub w1 (Ge B) (.slice a n c) m) (hb : Below w1.heap.size w1 w2) (h2 : OInts w2 (Ge w1.heap.size) (.slice oa on oc) o) (hB : B ≤ w1.heap.size) :
    OY w2 B (Bt B w1.heap.size) (Bt w1.heap.size w2.heap.size) a n c oa on oc m o :=
  ⟨OCub.loc.below h1.bt1 hb, h2.bt1, fun k hk => ⟨hk.1, Nat.lt_of_lt_of_le hk.2 hb.size⟩, fun k hk => ⟨Nat.le_trans hB hk.1, hk.2⟩, fun k h1 h2 => by have := h1.2; have := h2.1; omega⟩
theorem YRet.fix {S : Nat} {m : List (List (List Int))} {o : List Int} {w w' : World} {e : Ending} (h : YRet m o w e w') (hl : m.length = S) (hol : o.length = S) : ∃ a c oa oc f1 f2, e = .returned (YV a S c oa S oc) ∧ OY w' w.heap.size f1 f2 a S c oa S oc m o ∧ Below w.heap.size w w' := by
  obtain ⟨a, n, c, oa, on, oc, f1, f2, rfl, ho, hb⟩ := h
  have h1 := (ho.ycub (K := fun _ => True) (fun _ _ _ => trivial)).cub.hlen
  have h2 := (ho.ycub (K := fun _ => True) (fun _ _ _ => trivial)).ints.hlen
  obtain rfl : S = n := by omega
  obtain rfl : S = on := by omega
  exact ⟨a, c, oa, oc, f1, f2, rfl, ho, hb⟩

set_option maxHeartbeats 4000000 in
theorem ycopy_any (K : Nat → Prop) (a : Option Addr) (len cap : Nat) (oa : Option Addr) (on oc : Nat) (m : List (List (List Int))) (o : List Int) (w : World) (r : YCub K w a len cap oa on oc m o) (hf : Fews m) (hn : on ≤ 100) :
    Calls Try.prog 39 #[YV a len cap oa on oc] w (YRet m o w) := by
  have F0 := Lib.hid (Fm.new (Fm.new (Fm.start Non w) rfl [.slice a len cap, .slice oa on oc] 31) (by simp) [.slice none 0 0, .slice none 0 0] 31)
  have HR := Lib.hid r; clear r
  go_enter Try.func39, Try.ntmps39
  go_wp2
  obtain ⟨wv, hwv⟩ : ∃ wv : World, wv = (w.alloc (.cells #[.slice a len cap, .slice oa on oc] 31)).alloc (.cells #[.slice none 0 0, .slice none 0 0] 31) := ⟨_, rfl⟩
  have F1 := Lib.hid (show Fm Non w wv [[.slice a len cap, .slice oa on oc], [.slice none 0 0, .slice none 0 0]] from by rw [hwv]; exact F0.out)
  rw [← hwv]
  clear hwv F0
  have c0 := F1.out.h0.cell 0 _ rfl; have c1 := F1.out.h0.cell 1 _ rfl; have lt0 := F1.out.h0.lt (by simp)
  have e0 := F1.out.h1.cell 0 _ rfl; have e1 := F1.out.h1.cell 1 _ rfl; have ef := F1.out.h1.free; have lt1 := F1.out.h1.lt (by simp)
  have sv := F1.out.size
  simp only [List.length_cons, List.length_nil] at sv
  go_region_held3 (fun w' => w'.cell? ⟨w.heap.size, 0, none⟩ = some (.slice a len cap) ∧ w'.cell? ⟨w.heap.size, 1, none⟩ = some (.slice oa on oc)) (((try dsimp only); (try go_split_ands); (repeat' apply And.intro); all_goals (repeat (first | assumption | (refine cell_set (by omega) ?_) | (refine cell_later hb4 ?_) | (refine cell_later hb3 ?_) | (refine cell_drew ?_)))))
    (first
      | (go_at_call 60; ((with_reducible refine (acopy_any K a len cap m _ (HR.out.below F1.out.below.drew).cub hf).mono ?_); rintro e w3 ⟨ta, tn, tc, rfl, ho3, hb3⟩))
      | (go_at_call 61; ((with_reducible refine (clone_any K oa on oc o _ (HR.out.below (F1.out.below.drew.trans (hb3.mono F1.out.below.drew.size))).ints (by omega)).mono ?_); rintro e w4 ⟨v4, rfl, ho4, hb4⟩; obtain ⟨va, vc, rfl⟩ : ∃ a c, v4 = .slice a o.length c := (by obtain ⟨a, c, h⟩ := ho4.form; exact ⟨a, c, h⟩); have F4 := Lib.hid (Fm.call hb4 (Fm.call hb3 F1.out.drew)); have g0 := F4.out.h1.cell 0 _ rfl; have g1 := F4.out.h1.cell 1 _ rfl; have gf := F4.out.h1.free; have gl := F4.out.h1.lt (by simp))))
  have s3 := hb3.size
  have O4 := Lib.hid (OY.mk2 ho3 hb4 ho4 s3)
  clear c0 c1 e0 e1 ef lt0 lt1 ho3 hb3 ho4 hb4
  go_wp2
  refine bodyPost_ret (v := YV ta tn tc va o.length vc) (by simp [results, Try.results39, go_sem, g0, g1]) rfl ⟨ta, tn, tc, va, o.length, vc, _, _, rfl, OY.ge (B := w.heap.size + 2) (OY.two O4.out (show w.heap.size + 1 < w.heap.size + 2 by omega) (by simpa using sv)) (by omega), ((F4.out.set 1 0 _ rfl (by simp) _).set 1 1 _ rfl (by simp) _).below⟩
end Go.Proofs.Ytlpelpjcbclemaa
