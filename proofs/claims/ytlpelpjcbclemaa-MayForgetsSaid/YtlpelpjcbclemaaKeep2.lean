/-
  What is kept through new blocks, stores elsewhere and calls: small laws.
-/
import Derived.Test.YtlpelpjcbclemaaCacheL
import Derived.Test.YtlpelpjcbclemaaKeep
namespace Go.Proofs.Ytlpelpjcbclemaa
open Go.RowKit

theorem OMat.k_alloc {w : World} {fp : Nat → Prop} {v : Value} {ss : List (List Int)} {o : Obj} (h : OMat w fp v ss) : OMat (w.alloc o) fp v ss := OMat.loc.below h ((Below.refl _ _).alloc (Nat.le_refl _) _)
theorem OMat.k_set {w : World} {fp : Nat → Prop} {v : Value} {ss : List (List Int)} {b k : Nat} {u : Value} (h : OMat w fp v ss) (hb : ¬ fp b) : OMat (w.setCell ⟨b, k, none⟩ u) fp v ss :=
  OMat.loc.chg (M := fun j => j = b) h (Chg.setCell (M := fun j => j = b) (Chg.refl _) (fun _ => rfl) _) (fun _ hj _ e => hb (e ▸ hj))
theorem OMat.k_chg {w w' : World} {fp : Nat → Prop} {v : Value} {ss : List (List Int)} {d : Nat} (hc : Chg (fun k => k = d) w w') (h : OMat w fp v ss) (hb : ¬ fp d) : OMat w' fp v ss := OMat.loc.chg h hc (fun _ hj _ e => hb (e ▸ hj))
theorem OMat.k_below {w w' : World} {fp : Nat → Prop} {v : Value} {ss : List (List Int)} (hc : Below w.heap.size w w') (h : OMat w fp v ss) : OMat w' fp v ss := OMat.loc.below h hc
theorem OMat.k_drew {w : World} {fp : Nat → Prop} {v : Value} {ss : List (List Int)} (h : OMat w fp v ss) : OMat w.drew fp v ss := OMat.loc.below h (Below.refl _ _).drew
theorem Deck.k_alloc {w : World} {d : Nat} {o : Obj} (h : Deck w d) : Deck (w.alloc o) d := h.below ((Below.refl w.heap.size w).alloc (Nat.le_refl _) o) (Nat.le_refl _)
theorem Deck.k_drew {w : World} {d : Nat} (h : Deck w d) : Deck w.drew d := h.drewN 1
/-- Which blocks a list lies in: not those of the variables. -/
def Off (l : List Nat) (k : Nat) : Prop := k ∉ l
theorem off4 {a b c d k : Nat} (h1 : k ≠ a) (h2 : k ≠ b) (h3 : k ≠ c) (h4 : k ≠ d) : Off [a, b, c, d] k := by unfold Off; simp; omega
theorem OMat.off {w : World} {A C : Nat} {a : Option Addr} {len cap : Nat} {ss : List (List Int)} {bx by_ cb d : Nat} (h : OMat w (Bt A C) (.slice a len cap) ss) (h1 : bx < A ∨ C ≤ bx) (h2 : by_ < A ∨ C ≤ by_) (h3 : cb < A ∨ C ≤ cb) (h4 : d < A ∨ C ≤ d) : Mat (Off [bx, by_, cb, d]) w a len cap ss :=
  OMat.read (fun k hk => off4 (by have := hk.1; have := hk.2; omega) (by have := hk.1; have := hk.2; omega) (by have := hk.1; have := hk.2; omega) (by have := hk.1; have := hk.2; omega)) h
theorem Has.k_new {w : World} {b : Nat} {v : Value} {t : TypeId} (e : b = w.heap.size) : Has (w.alloc (.cells #[v] t)) b [v] := e ▸ Has.new w [v] t
theorem Chg.k_set {M : Nat → Prop} {a b : World} {g k : Nat} {v : Value} (hp : a.heap.size ≤ g) (h : Chg M a b) : Chg M a (b.setCell ⟨g, k, none⟩ v) := h.setCell (fun e => by simp at e; omega) v
theorem Chg.k_call {d : Nat} {a b c : World} (hc : Chg (fun k => k = d) b c) (h : Chg (fun k => k = d) a b) : Chg (fun k => k = d) a c := h.trans hc (fun _ _ h => h)
theorem Deck.k_set {w : World} {d g k : Nat} {v : Value} (hp : d < g) (h : Deck w d) : Deck (w.setCell ⟨g, k, none⟩ v) d := h.other hp v
theorem Has.k_set0 {w : World} {b : Nat} {v : Value} (h : Has w b [.slice none 0 0]) : Has (w.setCell ⟨b, 0, none⟩ v) b [v] := h.set0 v
theorem Has.k_set {w : World} {b g k : Nat} {vs : List Value} {v : Value} (hne : g ≠ b) (h : Has w b vs) : Has (w.setCell ⟨g, k, none⟩ v) b vs := h.other (fun e => hne e.symm)
theorem Has.k_below {w w' : World} {b : Nat} {vs : List Value} (hc : Below w.heap.size w w') (hb : b < w.heap.size) (h : Has w b vs) : Has w' b vs := h.below hc hb
theorem Has.k_chg {w w' : World} {b d : Nat} {vs : List Value} (hc : Chg (fun k => k = d) w w') (hb : b < w.heap.size) (hd : b ≠ d) (h : Has w b vs) : Has w' b vs := hc.has h hb hd

/-- Two variables with right contents; the deck is as it was. -/
structure TwoL (wv : World) (d cb S W : Nat) (s7 s8 : Value) (wx : World) (bx by_ : Nat) (xa ya : Option Addr) (xn xc yn yc : Nat) (ss tt : List (List Int)) : Prop where
  e7 : s7 = .pointer (some ⟨bx, 0, none⟩)
  e8 : s8 = .pointer (some ⟨by_, 0, none⟩)
  hx : Has wx bx [.slice xa xn xc]
  hy : Has wx by_ [.slice ya yn yc]
  ne : bx ≠ by_
  lx : wv.heap.size ≤ bx
  ly : wv.heap.size ≤ by_
  mx : Mat (Off [bx, by_, cb, d]) wx xa xn xc ss
  my : Mat (Off [bx, by_, cb, d]) wx ya yn yc tt
  vx : ValidP S W ss
  vy : ValidP S W tt
  dk : Deck wx d
  chg : Chg (fun k => k = d) wv wx
def TwoLines (wv : World) (d cb S W : Nat) (s7 s8 : Value) (wx : World) : Prop := ∃ bx by_ xa ya xn xc yn yc ss tt, TwoL wv d cb S W s7 s8 wx bx by_ xa ya xn xc yn yc ss tt
end Go.Proofs.Ytlpelpjcbclemaa
