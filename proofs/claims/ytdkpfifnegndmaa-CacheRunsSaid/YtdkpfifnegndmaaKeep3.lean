/-
  Two contents in two variables, through touches that are stored back into them.
-/
import Derived.Test.YtdkpfifnegndmaaCacheP
import Derived.Test.YtdkpfifnegndmaaKeep2
namespace Go.Proofs.Ytdkpfifnegndmaa
open Go.RowKit

/-- The cache, two variables with right contents, the deck; what has changed is no older than the deck. -/
structure Two (w0 : World) (d cb bx by_ S W L : Nat) (wr : World) (xa ya : Option Addr) (xn xc yn yc : Nat) (ss tt : List (List Int)) : Prop where
  hc : Has wr cb [.int .i64 S, .int .i64 W, .int .i64 L]
  hx : Has wr bx [.slice xa xn xc]
  hy : Has wr by_ [.slice ya yn yc]
  mx : Mat (Off [bx, by_, cb, d]) wr xa xn xc ss
  my : Mat (Off [bx, by_, cb, d]) wr ya yn yc tt
  vx : ValidP S W ss
  vy : ValidP S W tt
  dk : Deck wr d
  chg : Chg (Ge d) w0 wr
theorem off_mono {l : List Nat} {A : Nat} (h : ∀ b ∈ l, b < A) : ∀ k, A ≤ k → Off l k := fun k hk hm => by have := h k hm; omega
theorem mat_off {w : World} {B : Nat} {a : Option Addr} {n c : Nat} {ss : List (List Int)} {l : List Nat} (h : OMat w (Ge B) (.slice a n c) ss) (hl : ∀ b ∈ l, b < B) : Mat (Off l) w a n c ss :=
  OMat.read (fun k hk => off_mono hl k hk) h
theorem mat_store {w : World} {a : Option Addr} {n c : Nat} {ss : List (List Int)} {l : List Nat} {b k : Nat} {v : Value} (hb : b ∈ l) (h : Mat (Off l) w a n c ss) : Mat (Off l) (w.setCell ⟨b, k, none⟩ v) a n c ss :=
  h.chg (M := fun j => j = b) (Chg.setCell (M := fun j => j = b) (Chg.refl _) (fun _ => rfl) _) (fun j hj e => hj (e ▸ hb))
section
variable {w0 : World} {d cb bx by_ S W L : Nat} {wr : World} {xa ya : Option Addr} {xn xc yn yc : Nat} {ss tt : List (List Int)}
theorem Two.below {w' : World} (h : Two w0 d cb bx by_ S W L wr xa ya xn xc yn yc ss tt) (hb : Below wr.heap.size wr w') : Two w0 d cb bx by_ S W L w' xa ya xn xc yn yc ss tt :=
  ⟨h.hc.below hb (h.hc.lt (by simp)), h.hx.below hb (h.hx.lt (by simp)), h.hy.below hb (h.hy.lt (by simp)), h.mx.below hb, h.my.below hb, h.vx, h.vy, h.dk.below hb (Nat.le_refl _), h.chg.tr hb⟩
theorem Two.drewN (h : Two w0 d cb bx by_ S W L wr xa ya xn xc yn yc ss tt) (n : Nat) : Two w0 d cb bx by_ S W L (wr.drewN n) xa ya xn xc yn yc ss tt := h.below (below_drewN (Below.refl _ _) n)
theorem Two.next {w' : World} (h : Two w0 d cb bx by_ S W L wr xa ya xn xc yn yc ss tt) (hb : Chg (fun k => k = d) wr w') (hd : Deck w' d) (h1 : d < cb) (h2 : d < bx) (h3 : d < by_) : Two w0 d cb bx by_ S W L w' xa ya xn xc yn yc ss tt :=
  ⟨hb.has h.hc (h.hc.lt (by simp)) (by omega), hb.has h.hx (h.hx.lt (by simp)) (by omega), hb.has h.hy (h.hy.lt (by simp)) (by omega), h.mx.chg hb (fun k hk e => hk (by subst e; simp)), h.my.chg hb (fun k hk e => hk (by subst e; simp)), h.vx, h.vy, hd, h.chg.trans hb (fun k _ e => by unfold Ge; omega)⟩
theorem Two.setx {w' : World} {a : Option Addr} {n c : Nat} {uu : List (List Int)} (h : Two w0 d cb bx by_ S W L wr xa ya xn xc yn yc ss tt) (hb : Below wr.heap.size wr w') (ho : OMat w' (Ge wr.heap.size) (.slice a n c) uu) (hv : ValidP S W uu)
    (h1 : d < cb) (h2 : cb < bx) (h3 : cb < by_) (hne : bx ≠ by_) : Two w0 d cb bx by_ S W L (w'.setCell ⟨bx, 0, none⟩ (.slice a n c)) a ya n c yn yc uu tt := by
  have g := h.below hb
  have lx := h.hx.lt (by simp); have ly := h.hy.lt (by simp); have lc := h.hc.lt (by simp); have ld := h.dk.lt
  exact ⟨g.hc.other (by simp; omega), g.hx.set0 _, g.hy.other (by simp; omega), mat_store (by simp) (mat_off ho (by simp; omega)), mat_store (by simp) g.my, hv, h.vy, g.dk.other (by simp; omega) _, g.chg.setCell (fun _ => by unfold Ge; simp; omega) _⟩
theorem Two.sety {w' : World} {a : Option Addr} {n c : Nat} {uu : List (List Int)} (h : Two w0 d cb bx by_ S W L wr xa ya xn xc yn yc ss tt) (hb : Below wr.heap.size wr w') (ho : OMat w' (Ge wr.heap.size) (.slice a n c) uu) (hv : ValidP S W uu)
    (h1 : d < cb) (h2 : cb < bx) (h3 : cb < by_) (hne : bx ≠ by_) : Two w0 d cb bx by_ S W L (w'.setCell ⟨by_, 0, none⟩ (.slice a n c)) xa a xn xc n c ss uu := by
  have g := h.below hb
  have lx := h.hx.lt (by simp); have ly := h.hy.lt (by simp); have lc := h.hc.lt (by simp); have ld := h.dk.lt
  exact ⟨g.hc.other (by simp; omega), g.hx.other (by simp; omega), g.hy.set0 _, mat_store (by simp) g.mx, mat_store (by simp) (mat_off ho (by simp; omega)), h.vx, hv, g.dk.other (by simp; omega) _, g.chg.setCell (fun _ => by unfold Ge; simp; omega) _⟩
end
end Go.Proofs.Ytdkpfifnegndmaa
