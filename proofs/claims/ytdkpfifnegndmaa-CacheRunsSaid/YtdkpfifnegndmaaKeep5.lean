/-
  One content in a variable, that its function owns.
-/
import Derived.Test.YtdkpfifnegndmaaCacheP
import Derived.Test.YtdkpfifnegndmaaKeep3
import Derived.Test.YtdkpfifnegndmaaCacheN
namespace Go.Proofs.Ytdkpfifnegndmaa
open Go.RowKit

/-- Where the contents may lie. -/
def Own3 (d cb bx k : Nat) : Prop := d < k ∧ k ≠ cb ∧ k ≠ bx
/-- The cache, a variable with contents of its own, the deck; what has changed is no older than the deck. -/
structure One (w0 : World) (d cb bx S W L : Nat) (wr : World) (xa : Option Addr) (xn xc : Nat) (ss : List (List Int)) : Prop where
  hc : Has wr cb [.int .i64 S, .int .i64 W, .int .i64 L]
  hx : Has wr bx [.slice xa xn xc]
  mx : OMat wr (Own3 d cb bx) (.slice xa xn xc) ss
  dk : Deck wr d
  chg : Chg (Ge d) w0 wr
theorem omat_own {w : World} {B d cb bx : Nat} {v : Value} {ss : List (List Int)} (h : OMat w (Ge B) v ss) (h1 : d < B) (h2 : cb < B) (h3 : bx < B) : OMat w (Own3 d cb bx) v ss :=
  OwnRow.wid _ w _ _ v ss (fun k hk => ⟨Nat.lt_of_lt_of_le h1 hk, fun e => by have : B ≤ k := hk; omega, fun e => by have : B ≤ k := hk; omega⟩) h
theorem omat_own' {w : World} {A C d cb bx : Nat} {v : Value} {ss : List (List Int)} (h : OMat w (Bt A C) v ss) (h1 : d < A) (h2 : cb < A) (h3 : C ≤ bx) : OMat w (Own3 d cb bx) v ss :=
  OwnRow.wid _ w _ _ v ss (fun k hk => ⟨by have := hk.1; omega, by have := hk.1; omega, by have := hk.2; omega⟩) h
section
variable {w0 : World} {d cb bx S W L : Nat} {wr : World} {xa : Option Addr} {xn xc : Nat} {ss : List (List Int)}
theorem One.below {w' : World} (h : One w0 d cb bx S W L wr xa xn xc ss) (hb : Below wr.heap.size wr w') : One w0 d cb bx S W L w' xa xn xc ss :=
  ⟨h.hc.below hb (h.hc.lt (by simp)), h.hx.below hb (h.hx.lt (by simp)), OMat.loc.below h.mx hb, h.dk.below hb (Nat.le_refl _), h.chg.tr hb⟩
theorem One.drewN (h : One w0 d cb bx S W L wr xa xn xc ss) (n : Nat) : One w0 d cb bx S W L (wr.drewN n) xa xn xc ss := h.below (below_drewN (Below.refl _ _) n)
theorem One.next {w' : World} (h : One w0 d cb bx S W L wr xa xn xc ss) (hb : Chg (fun k => k = d) wr w') (hd : Deck w' d) (h1 : d < cb) (h2 : d < bx) : One w0 d cb bx S W L w' xa xn xc ss :=
  ⟨hb.has h.hc (h.hc.lt (by simp)) (by omega), hb.has h.hx (h.hx.lt (by simp)) (by omega), OMat.k_chg hb h.mx (fun hk => by have := hk.1; omega), hd, h.chg.trans hb (fun k _ e => by unfold Ge; omega)⟩
theorem One.put {w' : World} {a : Option Addr} {n c : Nat} {uu : List (List Int)} (h : One w0 d cb bx S W L wr xa xn xc ss) (hb : Below wr.heap.size wr w') (ho : OMat w' (Own3 d cb bx) (.slice a n c) uu)
    (h1 : d < cb) (h2 : cb < bx) : One w0 d cb bx S W L (w'.setCell ⟨bx, 0, none⟩ (.slice a n c)) a n c uu := by
  have g := h.below hb
  exact ⟨g.hc.other (by simp; omega), g.hx.set0 _, OMat.k_set ho (fun hk => hk.2.2 rfl), g.dk.other (by simp; omega) _, g.chg.setCell (fun _ => by unfold Ge; simp; omega) _⟩
/-- Rows changed in place. -/
theorem One.rows {w' : World} {f : Nat → Prop} {uu : List (List Int)} (h : One w0 d cb bx S W L wr xa xn xc ss) (hb : Chg f wr w') (hf : ∀ k, f k → Own3 d cb bx k) (ho : OMat w' (Own3 d cb bx) (.slice xa xn xc) uu) : One w0 d cb bx S W L w' xa xn xc uu :=
  ⟨hb.has h.hc (h.hc.lt (by simp)) (fun e => (hf _ e).2.1 rfl), hb.has h.hx (h.hx.lt (by simp)) (fun e => (hf _ e).2.2 rfl), ho, h.dk.chg hb (fun j _ hj e => by have := (hf _ e).1; omega), h.chg.trans hb (fun k _ e => by have := (hf _ e).1; unfold Ge; omega)⟩
end
end Go.Proofs.Ytdkpfifnegndmaa
