/-
  Two contents of two caches in two variables.
-/
import Derived.Test.YtdkpfifnegndmaaCacheP
import Derived.Test.YtdkpfifnegndmaaKeep3
namespace Go.Proofs.Ytdkpfifnegndmaa
open Go.RowKit

theorem OMat.offl {w : World} {A C : Nat} {a : Option Addr} {len cap : Nat} {ss : List (List Int)} {l : List Nat} (h : OMat w (Bt A C) (.slice a len cap) ss) (hl : ∀ b ∈ l, b < A ∨ C ≤ b) : Mat (Off l) w a len cap ss :=
  OMat.read (fun k hk hm => by have := hl k hm; have := hk.1; have := hk.2; omega) h
theorem off_pair {A C x y : Nat} (h1 : x < A ∨ C ≤ x) (h2 : y < A ∨ C ≤ y) : ∀ b ∈ [x, y], b < A ∨ C ≤ b := fun b hb => by simp at hb; omega
theorem lt_pair {A x y : Nat} (h1 : x < A) (h2 : y < A) : ∀ b ∈ [x, y], b < A := fun b hb => by simp at hb; omega
theorem Chg.k_tr {M : Nat → Prop} {a b c : World} (hc : Below b.heap.size b c) (h : Chg M a b) : Chg M a c := h.tr hc
/-- Two variables with empty contents. -/
structure TwoE (wv : World) (S W V : Nat) (s7 s8 : Value) (wx : World) (bx by_ : Nat) (xa ya : Option Addr) (xn xc yn yc : Nat) : Prop where
  e7 : s7 = .pointer (some ⟨bx, 0, none⟩)
  e8 : s8 = .pointer (some ⟨by_, 0, none⟩)
  hx : Has wx bx [.slice xa xn xc]
  hy : Has wx by_ [.slice ya yn yc]
  ne : bx ≠ by_
  lx : wv.heap.size ≤ bx
  ly : wv.heap.size ≤ by_
  mx : Mat (Off [bx, by_]) wx xa xn xc (List.replicate S (List.replicate W (-1)))
  my : Mat (Off [bx, by_]) wx ya yn yc (List.replicate S (List.replicate V (-1)))
  chg : Chg Non wv wx
def TwoEmpty (wv : World) (S W V : Nat) (s7 s8 : Value) (wx : World) : Prop := ∃ bx by_ xa ya xn xc yn yc, TwoE wv S W V s7 s8 wx bx by_ xa ya xn xc yn yc

/-- Two caches, two variables with right contents; nothing older has changed. -/
structure Gr (w0 : World) (cb cd bx by_ S W V L : Nat) (wr : World) (xa ya : Option Addr) (xn xc yn yc : Nat) (ss tt : List (List Int)) : Prop where
  hc : Has wr cb [.int .i64 S, .int .i64 W, .int .i64 L]
  hd : Has wr cd [.int .i64 S, .int .i64 V, .int .i64 L]
  hx : Has wr bx [.slice xa xn xc]
  hy : Has wr by_ [.slice ya yn yc]
  mx : Mat (Off [bx, by_]) wr xa xn xc ss
  my : Mat (Off [bx, by_]) wr ya yn yc tt
  vx : ValidP S W ss
  vy : ValidP S V tt
  chg : Chg Non w0 wr
section
variable {w0 : World} {cb cd bx by_ S W V L : Nat} {wr : World} {xa ya : Option Addr} {xn xc yn yc : Nat} {ss tt : List (List Int)}
theorem Gr.non {w' : World} (h : Gr w0 cb cd bx by_ S W V L wr xa ya xn xc yn yc ss tt) (hb : Chg Non wr w') : Gr w0 cb cd bx by_ S W V L w' xa ya xn xc yn yc ss tt :=
  ⟨hb.has h.hc (h.hc.lt (by simp)) id, hb.has h.hd (h.hd.lt (by simp)) id, hb.has h.hx (h.hx.lt (by simp)) id, hb.has h.hy (h.hy.lt (by simp)) id, h.mx.chg hb (fun _ _ e => e), h.my.chg hb (fun _ _ e => e), h.vx, h.vy, h.chg.trans hb (fun _ _ e => e.elim)⟩
theorem Gr.putx {a : Option Addr} {n c : Nat} {uu : List (List Int)} (h : Gr w0 cb cd bx by_ S W V L wr xa ya xn xc yn yc ss tt) (mu : Mat (Off [bx, by_]) wr a n c uu) (vu : ValidP S W uu)
    (h0 : w0.heap.size ≤ bx) (h1 : bx ≠ by_) (h2 : cb < bx) (h3 : cd < bx) : Gr w0 cb cd bx by_ S W V L (wr.setCell ⟨bx, 0, none⟩ (.slice a n c)) a ya n c yn yc uu tt :=
  ⟨h.hc.other (by simp; omega), h.hd.other (by simp; omega), h.hx.set0 _, h.hy.other (by simp; omega), mat_store (by simp) mu, mat_store (by simp) h.my, vu, h.vy, h.chg.setCell (fun e => by simp at e; omega) _⟩
theorem Gr.puty {a : Option Addr} {n c : Nat} {uu : List (List Int)} (h : Gr w0 cb cd bx by_ S W V L wr xa ya xn xc yn yc ss tt) (mu : Mat (Off [bx, by_]) wr a n c uu) (vu : ValidP S V uu)
    (h0 : w0.heap.size ≤ by_) (h1 : bx ≠ by_) (h2 : cb < by_) (h3 : cd < by_) : Gr w0 cb cd bx by_ S W V L (wr.setCell ⟨by_, 0, none⟩ (.slice a n c)) xa a xn xc n c ss uu :=
  ⟨h.hc.other (by simp; omega), h.hd.other (by simp; omega), h.hx.other (by simp; omega), h.hy.set0 _, mat_store (by simp) h.mx, mat_store (by simp) mu, h.vx, vu, h.chg.setCell (fun e => by simp at e; omega) _⟩
end
end Go.Proofs.Ytdkpfifnegndmaa
