/-
  The variables of MustDescribes; accesses with and without sets.
-/
import Derived.Test.YtikhbijobkkhgaaMuAd
namespace Go.Proofs.Ytikhbijobkkhgaa
open Go.RowKit

def useC (S : Nat) (ss : List (List Int)) (k : Int) : List (List Int) := if S = 0 then ss else accS S ss k
def hitC (S : Nat) (ss : List (List Int)) (k : Int) : Bool := if S = 0 then false else hitS S ss k
theorem useC_valid {S W : Nat} {ss : List (List Int)} (h : ValidP S W ss) (hW : 0 < W) {k : Int} (h0 : 0 ≤ k) (h1 : k ≤ 1048576) : ValidP S W (useC S ss k) := by
  unfold useC; split
  · exact h
  · exact valid_acc h (by omega) hW h0 h1
theorem of_useC {S W : Nat} {ss : List (List Int)} (h : ValidP S W ss) (hW : 0 < W) {k : Int} (h0 : 0 ≤ k) (h1 : k ≤ 1048576) : ofM (useC S ss k) = touchM S W (ofM ss) k := by
  by_cases hS : S = 0
  · unfold useC touchM; rw [if_pos hS, if_pos hS]
  · unfold useC; rw [if_neg hS]; exact of_acc h hW hS h0 h1
theorem known_hitC {S W : Nat} {U : List Int} {ss : List (List Int)} {m : List (List (List Int))} (h : ValidP S W ss) (hm : MSt U S W m) (hb : BelowM (ofM ss) m) {z : Int} (ha : ageN S W m z < W) : hitC S ss z = true := by
  by_cases hS : S = 0
  · exfalso; subst hS; rw [ageN_zero] at ha; omega
  · unfold hitC; rw [if_neg hS]; exact known_hits h hm hb hS ha
theorem mul_div {k : Int} {L : Nat} (hL : 1 ≤ L) : k * (L : Int) / (L : Int) = k := Int.mul_ediv_cancel _ (by omega)
theorem useC_any (S W L : Nat) (hc : COk S W L) (hL4 : L ≤ 4) (fp : Nat → Prop) (a : Option Addr) (len cap : Nat) (ss : List (List Int)) (w : World) (r : OMat w fp (.slice a len cap) ss) (hv : ValidP S W ss) (k : Int) (h0 : 0 ≤ k) (h1 : k ≤ 1048576) :
    Calls Try.prog 31 #[CV S W L, .agg #[.slice a len cap], .int .i64 (k * (L : Int))] w fun e w' => e = .returned (.bool (hitC S ss k)) ∧ OMat w' fp (.slice a len cap) (useC S ss k) ∧ Chg fp w w' := by
  have hC := hc
  obtain ⟨g1, g2, g3, g4, g5, g6⟩ := hc
  by_cases hS : S = 0
  · subst hS
    exact (use_none W L a len cap w (k * (L : Int))).mono fun e w' h => ⟨by unfold hitC; rw [if_pos rfl]; exact h.1, by unfold useC; rw [if_pos rfl]; exact OMat.loc.below r h.2, Chg.of_below h.2⟩
  · have hd := mul_div (k := k) (L := L) (by omega)
    have hm0 : 0 ≤ k * (L : Int) := Int.mul_nonneg h0 (by omega)
    have hm1 : k * (L : Int) ≤ 8388608 := Int.le_trans (Int.mul_le_mul h1 (show (L : Int) ≤ 4 by omega) (by omega) (by omega)) (by omega)
    have h := use8_any S W L hC (by omega) fp a len cap ss w r (k * (L : Int)) hm0 hm1 (by rw [hd]; exact h1) hv.wide (by rw [hd]; exact valid_once hv (by omega) h0)
    rw [hd] at h
    exact h.mono fun e w' h => ⟨by unfold hitC; rw [if_neg hS]; exact h.1, by unfold useC; rw [if_neg hS]; exact h.2.1, h.2.2⟩
theorem wrap_mul {k : Int} {L : Nat} (hL : L ≤ 4) (h0 : 0 ≤ k) (h1 : k ≤ 1048576) : IntKind.i64.wrap (k * (L : Int)) = k * (L : Int) := by
  have hm0 : 0 ≤ k * (L : Int) := Int.mul_nonneg h0 (by omega)
  have hm1 : k * (L : Int) ≤ 8388608 := Int.le_trans (Int.mul_le_mul h1 (show (L : Int) ≤ 4 by omega) (by omega) (by omega)) (by omega)
  exact IntWalk.i64_in _ (by omega)

/-- Blocks that are neither the deck nor the two variables. -/
def K3 (d bx bm k : Nat) : Prop := k ≠ d ∧ k ≠ bx ∧ k ≠ bm
structure DI (w : World) (U : List Int) (S W L bX bx bm : Nat) (xa : Option Addr) (xc : Nat) (ss : List (List Int)) (ma : Option Addr) (mc : Nat) (m : List (List (List Int))) (wr : World) : Prop where
  hX : Has wr bX [.int .i64 S, .int .i64 W, .int .i64 L]
  hx : Has wr bx [.slice xa S xc]
  hm : Has wr bm [.slice ma S mc]
  mat : Mat (K3 w.heap.size bx bm) wr xa S xc ss
  cub : Cube (K3 w.heap.size bx bm) wr ma S mc m
  vs : ValidP S W ss
  st : MSt U S W m
  dk : Deck wr w.heap.size
  chg : Chg (Ge w.heap.size) w wr
  o1 : w.heap.size < bX
  o2 : bX < bx
  o3 : bx < bm
  o4 : bm < wr.heap.size
section
variable {w wr w' : World} {U : List Int} {S W L bX bx bm xc mc : Nat} {xa ma : Option Addr} {ss : List (List Int)} {m : List (List (List Int))}
theorem DI.deck (h : DI w U S W L bX bx bm xa xc ss ma mc m wr) (c : Chg (fun k => k = w.heap.size) wr w') (hd : Deck w' w.heap.size) : DI w U S W L bX bx bm xa xc ss ma mc m w' := by
  have := h.o1; have := h.o2; have := h.o3; have := h.o4
  exact ⟨c.has h.hX (by omega) (by omega), c.has h.hx (by omega) (by omega), c.has h.hm (by omega) (by omega), h.mat.chg c (fun k hk => hk.1), Cube.chg h.cub c (fun k hk => hk.1), h.vs, h.st, hd, h.chg.gt c (Nat.le_refl _), h.o1, h.o2, h.o3, Nat.lt_of_lt_of_le h.o4 c.size⟩
theorem DI.call (h : DI w U S W L bX bx bm xa xc ss ma mc m wr) (b : Below wr.heap.size wr w') : DI w U S W L bX bx bm xa xc ss ma mc m w' := h.deck (Chg.dk b) (h.dk.below b (Nat.le_refl _))
theorem DI.setm (h : DI w U S W L bX bx bm xa xc ss ma mc m wr) {ma' : Option Addr} {mc' : Nat} {m' : List (List (List Int))} (hc : Cube (K3 w.heap.size bx bm) wr ma' S mc' m') (hs : MSt U S W m') : DI w U S W L bX bx bm xa xc ss ma' mc' m' (wr.setCell ⟨bm, 0, none⟩ (.slice ma' S mc')) := by
  have := h.o1; have := h.o2; have := h.o3; have := h.o4
  have c : Chg (fun k => k = bm) wr (wr.setCell ⟨bm, 0, none⟩ (.slice ma' S mc')) := Chg.setCell (M := fun j => j = bm) (Chg.refl _) (fun _ => rfl) _
  exact ⟨c.has h.hX (by omega) (by omega), c.has h.hx (by omega) (by omega), h.hm.set0 _, h.mat.chg c (fun k hk => hk.2.2), Cube.chg hc c (fun k hk => hk.2.2), h.vs, hs, h.dk.other (by show w.heap.size < bm; omega) _, h.chg.setCell (fun e => by show Ge w.heap.size bm; unfold Ge; omega) _, h.o1, h.o2, h.o3, by simpa using h.o4⟩
theorem DI.setx (h : DI w U S W L bX bx bm xa xc ss ma mc m wr) {xa' : Option Addr} {xc' : Nat} {ss' : List (List Int)} (hc : Mat (K3 w.heap.size bx bm) wr xa' S xc' ss') (hs : ValidP S W ss') : DI w U S W L bX bx bm xa' xc' ss' ma mc m (wr.setCell ⟨bx, 0, none⟩ (.slice xa' S xc')) := by
  have := h.o1; have := h.o2; have := h.o3; have := h.o4
  have c : Chg (fun k => k = bx) wr (wr.setCell ⟨bx, 0, none⟩ (.slice xa' S xc')) := Chg.setCell (M := fun j => j = bx) (Chg.refl _) (fun _ => rfl) _
  exact ⟨c.has h.hX (by omega) (by omega), h.hx.set0 _, c.has h.hm (by omega) (by omega), Mat.chg hc c (fun k hk => hk.2.1), Cube.chg h.cub c (fun k hk => hk.2.1), hs, h.st, h.dk.other (by show w.heap.size < bx; omega) _, h.chg.setCell (fun e => by show Ge w.heap.size bx; unfold Ge; omega) _, h.o1, h.o2, h.o3, by simpa using h.o4⟩
end
theorem OCub.k3 {d bx bm B : Nat} {w : World} {a : Option Addr} {n cap : Nat} {X : List (List (List Int))} (h : OCub w (Ge B) (.slice a n cap) X) (h1 : d < B) (h2 : bx < B) (h3 : bm < B) : Cube (K3 d bx bm) w a n cap X := h.read (fun k hk => by unfold Ge at hk; exact ⟨by omega, by omega, by omega⟩)
theorem OMat.k3 {d bx bm A B : Nat} {w : World} {a : Option Addr} {n cap : Nat} {X : List (List Int)} (h : OMat w (Bt A B) (.slice a n cap) X) (h1 : d < A) (h2 : bx < A ∨ B ≤ bx) (h3 : bm < A ∨ B ≤ bm) : Mat (K3 d bx bm) w a n cap X := h.read (fun k hk => by have := hk.1; have := hk.2; exact ⟨by omega, by omega, by omega⟩)
theorem OCub.k3b {d bx bm A B : Nat} {w : World} {a : Option Addr} {n cap : Nat} {X : List (List (List Int))} (h : OCub w (Bt A B) (.slice a n cap) X) (h1 : d < A) (h2 : bx < A ∨ B ≤ bx) (h3 : bm < A ∨ B ≤ bm) : Cube (K3 d bx bm) w a n cap X := h.read (fun k hk => by have := hk.1; have := hk.2; exact ⟨by omega, by omega, by omega⟩)
theorem NewRet.fix {S : Nat} {X : List (List Int)} {w w' : World} {e : Ending} (h : NewRet X w e w') (hl : X.length = S) : ∃ a cap, e = .returned (.agg #[.slice a S cap]) ∧ OMat w' (Ge w.heap.size) (.slice a S cap) X ∧ Below w.heap.size w w' := by
  obtain ⟨a, n, cap, rfl, ho, hb⟩ := h
  have := (ho.matT).hlen
  obtain rfl : S = n := by omega
  exact ⟨a, cap, rfl, ho, hb⟩
end Go.Proofs.Ytikhbijobkkhgaa
