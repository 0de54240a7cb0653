/-
  cache.Touch with right contents, with and without sets.
-/
import Derived.Test.YtdkpfifnegndmaaCacheF
import Derived.Test.YtdkpfifnegndmaaCacheK
namespace Go.Proofs.Ytdkpfifnegndmaa
open Go.RowKit

/-- The contents after an access of address n; whether it is a hit. -/
def tch (S L : Nat) (ss : List (List Int)) (n : Int) : List (List Int) := if S = 0 then ss else accS S ss (n / (L : Int))
def thit (S L : Nat) (ss : List (List Int)) (n : Int) : Bool := if S = 0 then false else hitS S ss (n / (L : Int))
theorem touch_ok (S W L : Nat) (hc : COk S W L) (K : Nat → Prop) (a : Option Addr) (len cap : Nat) (ss : List (List Int)) (w : World) (r : Mat K w a len cap ss) (hv : ValidP S W ss) (n : Int) (h0 : 0 ≤ n) (h1 : n ≤ 1048576) :
    Calls Try.prog 16 #[CV S W L, .agg #[.slice a len cap], .int .i64 n] w (TouchRet (tch S L ss n) (thit S L ss n) 0 w) := by
  have hn : len ≤ 1000000 := by have := r.hlen; have := hv.1; have := hc.s1; omega
  by_cases hS : S = 0
  · have h := touch_none S W L hc K a len cap ss w r hn hv n h0 h1 hS
    unfold tch thit
    rw [if_pos hS, if_pos hS]
    exact h
  · have h := touch_any S W L hc K a len cap ss w r hn hv n h0 h1 (by omega)
    unfold tch thit
    rw [if_neg hS, if_neg hS]
    exact h
theorem tch_valid {S W L : Nat} {ss : List (List Int)} (hc : COk S W L) (h : ValidP S W ss) {n : Int} (h0 : 0 ≤ n) (h1 : n ≤ 1048576) : ValidP S W (tch S L ss n) := by
  unfold tch
  split
  · exact h
  · have := hc.w0; have := hc.l0
    exact valid_acc h (by omega) (by omega) (Int.ediv_nonneg h0 (by omega)) (Int.le_trans (Int.ediv_le_self _ h0) h1)
theorem tch_line {S L : Nat} {ss : List (List Int)} {n m : Int} (h : n / (L : Int) = m / (L : Int)) : tch S L ss n = tch S L ss m ∧ thit S L ss n = thit S L ss m := by unfold tch thit; rw [h]; exact ⟨rfl, rfl⟩
end Go.Proofs.Ytdkpfifnegndmaa
