/-
  States of lines that can be there, owned; may.Copy, may.Top, the document's Top.
  may.Top, the document's Top: the states that know nothing.
  The document's Touch.
-/
import Derived.Deep.RegionHeld3
import Derived.Test.YtlpelpjcbclemaaZMaB
import Derived.Test.YtlpelpjcbclemaaZMuK
import Derived.Test.YtlpelpjcbclemaaZCacheL
namespace Go.Proofs.Ytlpelpjcbclemaa
open Go.RowKit

/-- A state that a call owns: its lists and its numbers lie in blocks of their own, from B on. -/
structure OY (w : World) (B : Nat) (f1 f2 : Nat → Prop) (a : Option Addr) (n c : Nat) (oa : Option Addr) (on oc : Nat) (m : List (List (List Int))) (o : List Int) : Prop where
  sets : OCub w f1 (.slice a n c) m
  oth : OInts w f2 (.slice oa on oc) o
  s1 : ∀ k, f1 k → B ≤ k ∧ k < w.heap.size
  s2 : ∀ k, f2 k → B ≤ k ∧ k < w.heap.size
  ap : ∀ k, f1 k → ¬ f2 k
theorem OY.ycub {w : World} {B : Nat} {f1 f2 K : Nat → Prop} {a : Option Addr} {n c : Nat} {oa : Option Addr} {on oc : Nat} {m : List (List (List Int))} {o : List Int} (h : OY w B f1 f2 a n c oa on oc m o) (hK : ∀ k, B ≤ k → k < w.heap.size → K k) : YCub K w a n c oa on oc m o :=
  ⟨h.sets.read (fun k hk => hK k (h.s1 k hk).1 (h.s1 k hk).2), h.oth.read (fun k hk => hK k (h.s2 k hk).1 (h.s2 k hk).2)⟩
theorem OY.chg {w w' : World} {M : Nat → Prop} {B : Nat} {f1 f2 : Nat → Prop} {a : Option Addr} {n c : Nat} {oa : Option Addr} {on oc : Nat} {m : List (List (List Int))} {o : List Int} (h : OY w B f1 f2 a n c oa on oc m o) (k : Chg M w w') (hM : ∀ j, B ≤ j → j < w.heap.size → ¬ M j) : OY w' B f1 f2 a n c oa on oc m o :=
  ⟨OCub.loc.chg h.sets k (fun j hj _ => hM j (h.s1 j hj).1 (h.s1 j hj).2), OInts.loc.chg h.oth k (fun j hj _ => hM j (h.s2 j hj).1 (h.s2 j hj).2), fun j hj => ⟨(h.s1 j hj).1, Nat.lt_of_lt_of_le (h.s1 j hj).2 k.size⟩, fun j hj => ⟨(h.s2 j hj).1, Nat.lt_of_lt_of_le (h.s2 j hj).2 k.size⟩, h.ap⟩
theorem OY.below {w w' : World} {B : Nat} {f1 f2 : Nat → Prop} {a : Option Addr} {n c : Nat} {oa : Option Addr} {on oc : Nat} {m : List (List (List Int))} {o : List Int} (h : OY w B f1 f2 a n c oa on oc m o) (k : Below w.heap.size w w') : OY w' B f1 f2 a n c oa on oc m o :=
  h.chg (M := Non) (Chg.of_below k) (fun _ _ _ h => h)
theorem OY.ge {w : World} {B C : Nat} {f1 f2 : Nat → Prop} {a : Option Addr} {n c : Nat} {oa : Option Addr} {on oc : Nat} {m : List (List (List Int))} {o : List Int} (h : OY w B f1 f2 a n c oa on oc m o) (hC : C ≤ B) : OY w C f1 f2 a n c oa on oc m o :=
  ⟨h.sets, h.oth, fun k hk => ⟨Nat.le_trans hC (h.s1 k hk).1, (h.s1 k hk).2⟩, fun k hk => ⟨Nat.le_trans hC (h.s2 k hk).1, (h.s2 k hk).2⟩, h.ap⟩
theorem OY.two {w : World} {B C d : Nat} {f1 f2 : Nat → Prop} {a : Option Addr} {n c : Nat} {oa : Option Addr} {on oc : Nat} {m : List (List (List Int))} {o : List Int} {u v : Value} (h : OY w B f1 f2 a n c oa on oc m o) (hd : d < C) (hC : C ≤ B) : OY ((w.setCell ⟨d, 0, none⟩ u).setCell ⟨d, 1, none⟩ v) C f1 f2 a n c oa on oc m o :=
  OY.ge (OY.chg (M := fun j => j = d) h ((Chg.setCell (M := fun j => j = d) (Chg.refl _) (fun _ => rfl) _).setCell (fun _ => rfl) _) (fun j hj _ e => by omega)) hC
/-- A call hands back a state of its own. -/
def YRet (m : List (List (List Int))) (o : List Int) (w : World) (e : Ending) (w' : World) : Prop := ∃ a n c oa on oc f1 f2, e = .returned (YV a n c oa on oc) ∧ OY w' w.heap.size f1 f2 a n c oa on oc m o ∧ Below w.heap.size w w'
theorem OY.mk2 {w1 w2 : World} {B : Nat} {a : Option Addr} {n c : Nat} {oa : Option Addr} {on oc : Nat} {m : List (List (List Int))} {o : List Int} (h1 : OCub w1 (Ge B) (.slice a n c) m) (hb : Below w1.heap.size w1 w2) (h2 : OInts w2 (Ge w1.heap.size) (.slice oa on oc) o) (hB : B ≤ w1.heap.size) :
    OY w2 B (Bt B w1.heap.size) (Bt w1.heap.size w2.heap.size) a n c oa on oc m o :=
  ⟨OCub.loc.below h1.bt1 hb, h2.bt1, fun k hk => ⟨hk.1, Nat.lt_of_lt_of_le hk.2 hb.size⟩, fun k hk => ⟨Nat.le_trans hB hk.1, hk.2⟩, fun k h1 h2 => by have := h1.2; have := h2.1; omega⟩
theorem YRet.fix {S : Nat} {m : List (List (List Int))} {o : List Int} {w w' : World} {e : Ending} (h : YRet m o w e w') (hl : m.length = S) (hol : o.length = S) : ∃ a c oa oc f1 f2, e = .returned (YV a S c oa S oc) ∧ OY w' w.heap.size f1 f2 a S c oa S oc m o ∧ Below w.heap.size w w' := by
  obtain ⟨a, n, c, oa, on, oc, f1, f2, rfl, ho, hb⟩ := h
  have h1 := (ho.ycub (K := fun _ => True) (fun _ _ _ => trivial)).cub.hlen
  have h2 := (ho.ycub (K := fun _ => True) (fun _ _ _ => trivial)).ints.hlen
  obtain rfl : S = n := by omega
  obtain rfl : S = on := by omega
  exact ⟨a, c, oa, oc, f1, f2, rfl, ho, hb⟩

set_option maxHeartbeats 4000000 in
theorem ycopy_any (K : Nat → Prop) (a : Option Addr) (len cap : Nat) (oa : Option Addr) (on oc : Nat) (m : List (List (List Int))) (o : List Int) (w : World) (r : YCub K w a len cap oa on oc m o) (hf : Fews m) (hn : on ≤ 100) :
    Calls Try.prog 39 #[YV a len cap oa on oc] w (YRet m o w) := by
  have F0 := Lib.hid (Fm.new (Fm.new (Fm.start Non w) rfl [.slice a len cap, .slice oa on oc] 31) (by simp) [.slice none 0 0, .slice none 0 0] 31)
  have HR := Lib.hid r; clear r
  go_enter Try.func39, Try.ntmps39
  go_wp2
  obtain ⟨wv, hwv⟩ : ∃ wv : World, wv = (w.alloc (.cells #[.slice a len cap, .slice oa on oc] 31)).alloc (.cells #[.slice none 0 0, .slice none 0 0] 31) := ⟨_, rfl⟩
  have F1 := Lib.hid (show Fm Non w wv [[.slice a len cap, .slice oa on oc], [.slice none 0 0, .slice none 0 0]] from by rw [hwv]; exact F0.out)
  rw [← hwv]
  clear hwv F0
  have c0 := F1.out.h0.cell 0 _ rfl; have c1 := F1.out.h0.cell 1 _ rfl; have lt0 := F1.out.h0.lt (by simp)
  have e0 := F1.out.h1.cell 0 _ rfl; have e1 := F1.out.h1.cell 1 _ rfl; have ef := F1.out.h1.free; have lt1 := F1.out.h1.lt (by simp)
  have sv := F1.out.size
  simp only [List.length_cons, List.length_nil] at sv
  go_region_held3 (fun w' => w'.cell? ⟨w.heap.size, 0, none⟩ = some (.slice a len cap) ∧ w'.cell? ⟨w.heap.size, 1, none⟩ = some (.slice oa on oc)) (((try dsimp only); (try go_split_ands); (repeat' apply And.intro); all_goals (repeat (first | assumption | (refine cell_set (by omega) ?_) | (refine cell_later hb4 ?_) | (refine cell_later hb3 ?_) | (refine cell_drew ?_)))))
    (first
      | (go_at_call 60; ((with_reducible refine (acopy_any K a len cap m _ (HR.out.below F1.out.below.drew).cub hf).mono ?_); rintro e w3 ⟨ta, tn, tc, rfl, ho3, hb3⟩))
      | (go_at_call 61; ((with_reducible refine (clone_any K oa on oc o _ (HR.out.below (F1.out.below.drew.trans (hb3.mono F1.out.below.drew.size))).ints (by omega)).mono ?_); rintro e w4 ⟨v4, rfl, ho4, hb4⟩; obtain ⟨va, vc, rfl⟩ : ∃ a c, v4 = .slice a o.length c := (by obtain ⟨a, c, h⟩ := ho4.form; exact ⟨a, c, h⟩); have F4 := Lib.hid (Fm.call hb4 (Fm.call hb3 F1.out.drew)); have g0 := F4.out.h1.cell 0 _ rfl; have g1 := F4.out.h1.cell 1 _ rfl; have gf := F4.out.h1.free; have gl := F4.out.h1.lt (by simp))))
  have s3 := hb3.size
  have O4 := Lib.hid (OY.mk2 ho3 hb4 ho4 s3)
  clear c0 c1 e0 e1 ef lt0 lt1 ho3 hb3 ho4 hb4
  go_wp2
  refine bodyPost_ret (v := YV ta tn tc va o.length vc) (by simp [results, Try.results39, go_sem, g0, g1]) rfl ⟨ta, tn, tc, va, o.length, vc, _, _, rfl, OY.ge (B := w.heap.size + 2) (OY.two O4.out (show w.heap.size + 1 < w.heap.size + 2 by omega) (by simpa using sv)) (by omega), ((F4.out.set 1 0 _ rfl (by simp) _).set 1 1 _ rfl (by simp) _).below⟩
end Go.Proofs.Ytlpelpjcbclemaa
namespace Go.Proofs.Ytlpelpjcbclemaa
open Go.RowKit

def topO (S : Nat) : List Int := List.replicate S 0
theorem StRet.fx {S : Nat} {X : List (List (List Int))} {w w' : World} {e : Ending} (h : StRet X w e w') (hl : X.length = S) : ∃ a cap, e = .returned (.agg #[.slice a S cap]) ∧ OCub w' (Ge w.heap.size) (.slice a S cap) X ∧ Below w.heap.size w w' := by
  obtain ⟨a, n, cap, rfl, ho, hb⟩ := h
  have := (OCub.read (K := fun _ => True) (fun _ _ => trivial) ho).hlen
  obtain rfl : S = n := by omega
  exact ⟨a, cap, rfl, ho, hb⟩
theorem topO_len (S : Nat) : (topO S).length = S := List.length_replicate
theorem topO_get {S s : Nat} (h : s < S) : (topO S)[s]? = some ((0 : Nat) : Int) := by unfold topO; rw [List.getElem?_replicate, if_pos h]; rfl
theorem YSet.nils (P : Int → Prop) (W : Nat) : YSet P W (List.replicate W []) 0 := ⟨WSet.nils P W, Nat.zero_le _, fun _ _ h => absurd h not_at_nils⟩
theorem ytop_st (U : List Int) (S W : Nat) : YSt U S W (topS S W) (topO S) := ⟨topS_len S W, topO_len S, fun s g h => by
  have hs : s < S := by have := (List.getElem?_eq_some_iff.1 h).1; rw [topS_len] at this; exact this
  rw [topS_get hs] at h
  cases h
  exact ⟨0, topO_get hs, YSet.nils _ _⟩⟩
theorem OInts.zeros {w : World} {fp : Nat → Prop} {b n : Nat} (h : Blk w b 3 (Proofs.Ytlpelpjcbclemaa.zeros (.int .i64 0) n)) (hf : fp b) (hn : n ≤ 1000000) : OInts w fp (.slice (some ⟨b, 0, none⟩) n n) (List.replicate n 0) :=
  OInts.mk (zs := List.replicate n 0) (sp := []) (by rw [zeros_ints] at h; rw [List.append_nil]; exact h) (by simp) (by simp) (by omega) (by simp; omega) hf (fun z hz => by rw [List.eq_of_mem_replicate hz]; omega)
theorem OY.mk3 {w : World} {A B C D : Nat} {a : Option Addr} {n c : Nat} {oa : Option Addr} {on oc : Nat} {m : List (List (List Int))} {o : List Int} (h1 : OCub w (Bt A B) (.slice a n c) m) (h2 : OInts w (Bt C D) (.slice oa on oc) o) (hab : B ≤ C ∨ D ≤ A) (hB : B ≤ w.heap.size) (hD : D ≤ w.heap.size) (E : Nat) (hE : E ≤ A) (hE2 : E ≤ C) :
    OY w E (Bt A B) (Bt C D) a n c oa on oc m o :=
  ⟨h1, h2, fun k hk => ⟨Nat.le_trans hE hk.1, Nat.lt_of_lt_of_le hk.2 hB⟩, fun k hk => ⟨Nat.le_trans hE2 hk.1, Nat.lt_of_lt_of_le hk.2 hD⟩, fun k h1 h2 => by have := h1.1; have := h1.2; have := h2.1; have := h2.2; omega⟩

set_option maxHeartbeats 2000000 in
theorem ytop_any (S W L : Nat) (hc : COk S W L) (w : World) : Calls Try.prog 13 #[CV S W L] w (YRet (topS S W) (topO S) w) := by
  have hC := Lib.hid hc
  obtain ⟨g1, g2, g3, g4, g5, g6⟩ := hc
  have F0 := Lib.hid (Fm.new (Fm.new (Fm.start Non w) rfl [.int .i64 S, .int .i64 W, .int .i64 L] 26) (by simp) [.slice none 0 0, .slice none 0 0] 31)
  have hm1 := fun w => make_ints S (by omega) w .i64 .i64
  go_enter Try.func13, Try.ntmps13
  go_wp2_with fail
  refine (atop_any S W L hC.out _).mono ?_
  rintro e w3 ⟨ta, tn, tc, rfl, ho3, hb3⟩
  obtain rfl : S = tn := by have h1 := (OCub.read (K := fun _ => True) (fun _ _ => trivial) ho3).hlen; rw [topS_len] at h1; exact h1
  have s3 := hb3.size
  simp only [World.size_alloc] at s3
  have F3 := Lib.hid ((Fm.call hb3 F0.out).more (.cells (zeros (.int .i64 0) S).toArray 3))
  have Z3 := Lib.hid (OInts.zeros (fp := Bt w3.heap.size (w3.heap.size + 1)) (Blk.new w3 (zeros (.int .i64 0) S) 3) ⟨Nat.le_refl _, Nat.lt_succ_self _⟩ (by omega))
  have O3 := Lib.hid (OCub.loc.below ho3.bt1 ((Below.refl _ _).alloc (Nat.le_refl _) (.cells (zeros (.int .i64 0) S).toArray 3)))
  simp only [World.size_alloc] at O3
  have hcl := (OCub.read (K := fun _ => True) (fun _ _ => trivial) ho3).hcap; have hcm := (OCub.read (K := fun _ => True) (fun _ _ => trivial) ho3).hmax
  have e0 := F3.out.h1.cell 0 _ rfl; have e1 := F3.out.h1.cell 1 _ rfl; have ef := F3.out.h1.free; have lt1 := F3.out.h1.lt (by simp)
  clear ho3 hb3
  go_wp2
  refine bodyPost_ret (v := YV ta S tc (some ⟨w3.heap.size, 0, none⟩) S S) (by simp [results, Try.results13, go_sem, e0, e1]) rfl ⟨ta, S, tc, _, S, S, _, _, rfl, OY.ge (OY.two (C := w.heap.size + 2) (OY.mk3 O3.out Z3.out (.inl (Nat.le_refl _)) (by simp) (by simp) (w.heap.size + 2) (by omega) (by omega)) (by omega) (by omega)) (by omega), ((F3.out.set 1 0 _ rfl (by simp) _).set 1 1 _ rfl (by simp) _).below⟩

theorem top_way1 {w3 : World} {d A n S tc : Nat} {ta : Option Addr} {X : List (List (List Int))} {u v : Value} (ho : OCub w3 (Ge A) (.slice ta S tc) X) (hd : d < A) (hA : A ≤ w3.heap.size) (hn : n ≤ 1000000) :
    OY (((w3.setCell ⟨d, 0, none⟩ u).setCell ⟨d, 1, none⟩ v).alloc (.cells (zeros (.int .i64 0) n).toArray 3)) A (Bt A w3.heap.size) (Bt w3.heap.size (w3.heap.size + 1)) ta S tc (some ⟨w3.heap.size, 0, none⟩) n n X (List.replicate n 0) := by
  have c : Chg (fun j => j = d) w3 (((w3.setCell ⟨d, 0, none⟩ u).setCell ⟨d, 1, none⟩ v).alloc (.cells (zeros (.int .i64 0) n).toArray 3)) := ((Chg.setCell (M := fun j => j = d) (Chg.refl _) (fun _ => rfl) _).setCell (fun _ => rfl) _).alloc _
  refine OY.mk3 (OCub.loc.chg ho.bt1 c (fun j hj _ e => by have := hj.1; omega)) (OInts.zeros ((Blk.new ((w3.setCell ⟨d, 0, none⟩ u).setCell ⟨d, 1, none⟩ v) (zeros (.int .i64 0) n) 3).at' (by simp)) ⟨Nat.le_refl _, Nat.lt_succ_self _⟩ hn) (.inl (Nat.le_refl _)) (by simp) (by simp) A (Nat.le_refl _) hA
theorem top_way2 {w3 : World} {d A g n S tc : Nat} {ta : Option Addr} {X : List (List (List Int))} {u v : Value} (ho : OCub w3 (Ge A) (.slice ta S tc) X) (hb : Blk w3 g 3 (zeros (.int .i64 0) n)) (hd : d < g) (hg : g < A) (hn : n ≤ 1000000) :
    OY ((w3.setCell ⟨d, 0, none⟩ u).setCell ⟨d, 1, none⟩ v) g (Bt A w3.heap.size) (Bt g (g + 1)) ta S tc (some ⟨g, 0, none⟩) n n X (List.replicate n 0) := by
  have c : Chg (fun j => j = d) w3 ((w3.setCell ⟨d, 0, none⟩ u).setCell ⟨d, 1, none⟩ v) := (Chg.setCell (M := fun j => j = d) (Chg.refl _) (fun _ => rfl) _).setCell (fun _ => rfl) _
  have hl := hb.lt
  exact OY.mk3 (OCub.loc.chg ho.bt1 c (fun j hj _ e => by have := hj.1; omega)) (OInts.zeros (hb.chg c (by omega)) ⟨Nat.le_refl _, Nat.lt_succ_self _⟩ hn) (.inr (by omega)) (by simp) (by simp; omega) g (by omega) (Nat.le_refl _)
set_option maxHeartbeats 2000000 in
theorem yrtop_any (S W L : Nat) (hc : COk S W L) (w : World) : Calls Try.prog 35 #[CV S W L] w (YRet (topS S W) (topO S) w) := by
  have hC := Lib.hid hc
  obtain ⟨g1, g2, g3, g4, g5, g6⟩ := hc
  have F0 := Lib.hid (Fm.new (Fm.new (Fm.start Non w) rfl [.int .i64 S, .int .i64 W, .int .i64 L] 26) (by simp) [.slice none 0 0, .slice none 0 0] 31)
  have hm1 := fun w => make_ints S (by omega) w .i64 .i64
  have hfd : ∀ (a : Option Addr) (n c : Nat) (w : World), (Instr.field 71 (.agg #[.slice a n c]) 0).run Try.prog w = .ok (.slice a n c) w := fun _ _ _ _ => by kernel_rfl
  go_enter Try.func35, Try.ntmps35
  go_wp2
  obtain ⟨wv, hwv⟩ : ∃ wv : World, wv = (w.alloc (.cells #[.int .i64 S, .int .i64 W, .int .i64 L] 26)).alloc (.cells #[.slice none 0 0, .slice none 0 0] 31) := ⟨_, rfl⟩
  have F1 := Lib.hid (show Fm Non w wv [[.int .i64 S, .int .i64 W, .int .i64 L], [.slice none 0 0, .slice none 0 0]] from by rw [hwv]; exact F0.out)
  rw [← hwv]
  clear hwv F0
  have c0 := F1.out.h0.cell 0 _ rfl; have c1 := F1.out.h0.cell 1 _ rfl; have c2 := F1.out.h0.cell 2 _ rfl; have lt0 := F1.out.h0.lt (by simp)
  have e0 := F1.out.h1.cell 0 _ rfl; have e1 := F1.out.h1.cell 1 _ rfl; have ef := F1.out.h1.free; have lt1 := F1.out.h1.lt (by simp)
  have sv := F1.out.size
  simp only [List.length_cons, List.length_nil] at sv
  go_region_held3 (fun w' => w'.cell? ⟨w.heap.size, 0, none⟩ = some (.int .i64 S) ∧ w'.cell? ⟨w.heap.size, 1, none⟩ = some (.int .i64 W) ∧ w'.cell? ⟨w.heap.size, 2, none⟩ = some (.int .i64 L)) (((try dsimp only); (try go_split_ands); (repeat' apply And.intro); all_goals (repeat (first | assumption | (refine cell_set (by omega) ?_) | (refine cell_later hb3 ?_) | (refine cell_alloc (by first | assumption | omega | (simp; omega)) ?_) | (refine cell_drew ?_)))))
    (first
      | (go_at_call 57; ((with_reducible refine (rtop_any S W L hC.out _).mono ?_); rintro e w3 h3; obtain ⟨ta, tc, rfl, ho3, hb3⟩ := StRet.fx h3 (topS_len S W); have F3 := Lib.hid (show Fm Non w w3 [[.int .i64 S, .int .i64 W, .int .i64 L], [.slice none 0 0, .slice none 0 0]] from (by first | exact Fm.call hb3 F1.out.drew | exact Fm.call hb3 (F1.out.more _).drew)); have k0 := F3.out.h1.cell 0 _ rfl; have k1 := F3.out.h1.cell 1 _ rfl; have kf := F3.out.h1.free; have kl := F3.out.h1.lt (by simp); have s3 := hb3.size; have l3 : w.heap.size < w3.heap.size := (by first | omega | (simp at s3; omega)); have hcl := (OCub.read (K := fun _ => True) (fun _ _ => trivial) ho3).hcap; have hcm := (OCub.read (K := fun _ => True) (fun _ _ => trivial) ho3).hmax)))
  · go_wp2
    refine bodyPost_ret (v := YV ta S tc (some ⟨w3.heap.size, 0, none⟩) S S) (by simp [results, Try.results35, go_sem, k0, k1, kl]) rfl ⟨ta, S, tc, _, S, S, _, _, rfl, OY.ge (top_way1 ho3 (by simp; omega) s3 (by omega)) (by simp; omega), (((F3.out.set 1 0 _ rfl (by simp) _).set 1 1 _ rfl (by simp) _).more _).below⟩
  · have BZ := Lib.hid ((Blk.new wv (zeros (.int .i64 0) S) 3).drew.below hb3 (by simp))
    go_wp2
    refine bodyPost_ret (v := YV ta S tc (some ⟨wv.heap.size, 0, none⟩) S S) (by simp [results, Try.results35, go_sem, k0, k1]) rfl ⟨ta, S, tc, _, S, S, _, _, rfl, OY.ge (top_way2 ho3 BZ.out (by omega) (by simp) (by omega)) (by omega), ((F3.out.set 1 0 _ rfl (by simp) _).set 1 1 _ rfl (by simp) _).below⟩
end Go.Proofs.Ytlpelpjcbclemaa
namespace Go.Proofs.Ytlpelpjcbclemaa
open Go.RowKit

theorem useStep_none {n x : Int} {h a : Nat} {out : List (List Int)} (hx : x = n) : useStep n h a out x = out := if_pos hx
theorem useStep_put {n x : Int} {h a : Nat} {out : List (List Int)} (hx : ¬ x = n) : useStep n h a out x = put out (dst h a) x := if_neg hx
end Go.Proofs.Ytlpelpjcbclemaa
