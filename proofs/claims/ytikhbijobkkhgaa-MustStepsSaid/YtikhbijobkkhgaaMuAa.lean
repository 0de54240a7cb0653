/-
  What is kept by the ways of a region that makes variables of its own: small laws.
-/
import Derived.Test.YtikhbijobkkhgaaMuZ
namespace Go.Proofs.Ytikhbijobkkhgaa
open Go.RowKit

theorem OCub.k_below {w w' : World} {fp : Nat → Prop} {v : Value} {X : List (List (List Int))} (hb : Below w.heap.size w w') (h : OCub w fp v X) : OCub w' fp v X := OCub.loc.below h hb
theorem OCub.k_drew {w : World} {fp : Nat → Prop} {v : Value} {X : List (List (List Int))} (h : OCub w fp v X) : OCub w.drew fp v X := OCub.loc.below h (Below.refl _ _).drew
theorem OCub.k_chg {d : Nat} {w w' : World} {fp : Nat → Prop} {v : Value} {X : List (List (List Int))} (hc : Chg (fun k => k = d) w w') (hd : ∀ i, fp i → i ≠ d) (h : OCub w fp v X) : OCub w' fp v X := OCub.loc.chg h hc (fun i hi _ e => hd i hi e)
theorem Chg.k_tr {M : Nat → Prop} {a b c : World} (hc : Below b.heap.size b c) (h : Chg M a b) : Chg M a c := h.tr hc
theorem Has.k_old {w : World} {b : Nat} {vs : List Value} {o : Obj} (hb : b < w.heap.size) (h : Has w b vs) : Has (w.alloc o) b vs := h.old hb
theorem Has.kc_below {w w' : World} {b : Nat} {vs : List Value} (hc : Below w.heap.size w w') (hb : b < w.heap.size) (h : Has w b vs) : Has w' b vs := h.below hc hb
theorem BoolRet.tt {p : Prop} {w w' : World} {e : Ending} (h : BoolRet p w e w') (hp : p) : e = .returned (.bool true) ∧ Below w.heap.size w w' := by
  obtain ⟨b, rfl, hb, hw⟩ := h
  exact ⟨by rw [hb.2 hp], hw⟩
theorem OCub.ndb {d A C : Nat} {w : World} {a : Option Addr} {n cap : Nat} {X : List (List (List Int))} (hd : d < A) (h : OCub w (Bt A C) (.slice a n cap) X) : Cube (Nd d) w a n cap X := h.read (fun k hk => by have := hk.1; unfold Nd; omega)
theorem OCub.ndb' {d A C : Nat} {w : World} {a : Option Addr} {n cap : Nat} {X : List (List (List Int))} (h : OCub w (Bt A C) (.slice a n cap) X) (hd : d < A) : Cube (Nd d) w a n cap X := OCub.ndb hd h
theorem Cube.k_chg {d : Nat} {w w' : World} {a : Option Addr} {n cap : Nat} {X : List (List (List Int))} (h : Cube (Nd d) w a n cap X) (hc : Chg (fun k => k = d) w w') : Cube (Nd d) w' a n cap X := Cube.chg h hc (fun _ h => h)
theorem MSt.union {U V : List Int} {S W : Nat} {m : List (List (List Int))} (h : MSt U S W m) : MSt (U ++ V) S W m := h.mono (fun _ hx => List.mem_append_left _ hx)
theorem MSt.union' {U V : List Int} {S W : Nat} {m : List (List (List Int))} (h : MSt V S W m) : MSt (U ++ V) S W m := h.mono (fun _ hx => List.mem_append_right _ hx)

/-! ### The order of states -/
theorem joinM_at {S W : Nat} {U V : List Int} {a b : List (List (List Int))} (ha : MSt U S W a) (hb : MSt V S W b) {s : Nat} {j : List (List Int)} (h : (joinM W a b)[s]? = some j) : ∃ f g, a[s]? = some f ∧ b[s]? = some g ∧ j = joinS W f g ∧ WSet (PS U S s) W f ∧ WSet (PS V S s) W g := by
  have hs : s < S := by have := (List.getElem?_eq_some_iff.1 h).1; rw [joinM_len ha.len hb.len] at this; exact this
  obtain ⟨f, hf, _, hfw⟩ := ha.at hs
  obtain ⟨g, hg, _, hgw⟩ := hb.at hs
  rw [joinM_get hf hg] at h
  exact ⟨f, g, hf, hg, (Option.some.inj h).symm, hfw, hgw⟩
theorem below_join {S W : Nat} {U V : List Int} {a b : List (List (List Int))} (ha : MSt U S W a) (hb : MSt V S W b) : BelowM a (joinM W a b) ∧ BelowM b (joinM W a b) := by
  constructor
  · intro s f j hf hj
    obtain ⟨f', g, hf', hg, rfl, hfw, hgw⟩ := joinM_at ha hb hj
    rw [hf'] at hf; cases hf
    exact (under_join hfw hgw).1
  · intro s g j hg hj
    obtain ⟨f, g', hf, hg', rfl, hfw, hgw⟩ := joinM_at ha hb hj
    rw [hg'] at hg; cases hg
    exact (under_join hfw hgw).2
theorem BelowM.trans {S W : Nat} {U : List Int} {a b c : List (List (List Int))} (hb : MSt U S W b) (hl : c.length = S) (h : BelowM a b) (k : BelowM b c) : BelowM a c := fun s f g hf hg => by
  have hs : s < S := by have := (List.getElem?_eq_some_iff.1 hg).1; omega
  obtain ⟨e, he, _, _⟩ := hb.at hs
  exact (h s f e hf he).trans (k s e g he hg)
theorem BelowM.least {S W : Nat} {U V : List Int} {a b c : List (List (List Int))} (ha : MSt U S W a) (hb : MSt V S W b) (h : BelowM a c) (k : BelowM b c) : BelowM (joinM W a b) c := fun s j g hj hg => by
  obtain ⟨f, e, hf, he, rfl, hfw, hgw⟩ := joinM_at ha hb hj
  exact join_least hfw hgw (h s f g hf hg) (k s e g he hg)
theorem BelowM.top {S W : Nat} (a : List (List (List Int))) : BelowM a (topS S W) := fun s f g _ hg => by
  unfold topS at hg
  rw [List.getElem?_replicate] at hg
  split at hg
  · cases hg
    intro i y ⟨l, hl, hy⟩
    rw [List.getElem?_replicate] at hl
    split at hl
    · cases hl; cases hy
    · cases hl
  · cases hg
theorem BelowM.touch {S W : Nat} {U V : List Int} {a b : List (List (List Int))} (ha : MSt U S W a) (hb : MSt V S W b) (hW : 0 < W) {k : Int} (h0 : 0 ≤ k) (h1 : k ≤ 1048576) (hU : k ∈ U) (hV : k ∈ V) (h : BelowM a b) : BelowM (touchM S W a k) (touchM S W b k) := by
  by_cases hS : S = 0
  · unfold touchM; rw [if_pos hS, if_pos hS]; exact h
  · intro s f g hf hg
    rw [touch_get hS] at hf hg
    have hlt := setN_lt (S := S) (by omega) k
    obtain ⟨f0, hf0, hfd, hfw⟩ := ha.at hlt
    obtain ⟨g0, hg0, hgd, hgw⟩ := hb.at hlt
    rw [hfd] at hf; rw [hgd] at hg
    by_cases hs : setN S k = s
    · subst hs
      rw [List.getElem?_set_self (by rw [ha.len]; exact hlt)] at hf
      rw [List.getElem?_set_self (by rw [hb.len]; exact hlt)] at hg
      cases hf; cases hg
      have hk := setN_int (S := S) (by omega) k
      exact under_use hfw hgw hW ⟨h0, h1, hk.symm, hU⟩ ⟨h0, h1, hk.symm, hV⟩ (h _ _ _ hf0 hg0)
    · rw [List.getElem?_set_ne hs] at hf hg
      exact h s f g hf hg
theorem joinM_self {S W : Nat} {U : List Int} {a : List (List (List Int))} (ha : MSt U S W a) : joinM W a a = a := by
  apply List.ext_getElem?
  intro s
  by_cases hs : s < S
  · obtain ⟨f, hf, _, hfw⟩ := ha.at hs
    rw [joinM_get hf hf, hf, join_self hfw]
  · rw [List.getElem?_eq_none (by rw [joinM_len ha.len ha.len]; omega), List.getElem?_eq_none (by rw [ha.len]; omega)]
theorem joinM_comm {S W : Nat} {U V : List Int} {a b : List (List (List Int))} (ha : MSt U S W a) (hb : MSt V S W b) : joinM W a b = joinM W b a := by
  apply List.ext_getElem?
  intro s
  by_cases hs : s < S
  · obtain ⟨f, hf, _, hfw⟩ := ha.at hs
    obtain ⟨g, hg, _, hgw⟩ := hb.at hs
    rw [joinM_get hf hg, joinM_get hg hf, join_comm hfw hgw]
  · rw [List.getElem?_eq_none (by rw [joinM_len ha.len hb.len]; omega), List.getElem?_eq_none (by rw [joinM_len hb.len ha.len]; omega)]
theorem touch_twice {S W : Nat} {U : List Int} {a : List (List (List Int))} (ha : MSt U S W a) (hW : 0 < W) {k : Int} (h0 : 0 ≤ k) (h1 : k ≤ 1048576) (hU : k ∈ U) : touchM S W (touchM S W a k) k = touchM S W a k := by
  by_cases hS : S = 0
  · unfold touchM; rw [if_pos hS, if_pos hS]
  · have hlt := setN_lt (S := S) (by omega) k
    obtain ⟨f0, hf0, hfd, hfw⟩ := ha.at hlt
    rw [touch_get (m := touchM S W a k) hS, touch_get hS, List.set_set, List.getD_eq_getElem?_getD (l := a.set _ _), List.getElem?_set_self (by rw [ha.len]; exact hlt), Option.getD_some, hfd, use_twice hfw hW ⟨h0, h1, (setN_int (S := S) (by omega) k).symm, hU⟩]
end Go.Proofs.Ytikhbijobkkhgaa
