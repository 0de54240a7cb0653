/-
  cache.Misses for right contents, with sets or without.
-/
import Derived.Test.YtdkpfifnegndmaaCacheG
import Derived.Test.YtdkpfifnegndmaaLru2
namespace Go.Proofs.Ytdkpfifnegndmaa
open Go.RowKit

def msn (S L : Nat) (ss : List (List Int)) (adr : List Int) : Nat := if S = 0 then adr.length else mm S ss (adr.map (· / (L : Int)))
theorem misses_ok (S W L : Nat) (hc : COk S W L) (K K2 : Nat → Prop) (a : Option Addr) (len cap : Nat) (ss : List (List Int)) (w : World) (r : Mat K w a len cap ss) (ab : Option Addr) (al ac : Nat) (adr : List Int) (ra : Ints K2 w ab al ac adr) (hv : ValidP S W ss) (hr : ∀ z ∈ adr, 0 ≤ z ∧ z ≤ 1048576) :
    Calls Try.prog 14 #[CV S W L, .agg #[.slice a len cap], .slice ab al ac] w (Int2Ret (msn S L ss adr) 0 w) := by
  have hn : len ≤ 1000000 := by have := r.hlen; have := hv.1; have := hc.s1; omega
  unfold msn
  by_cases hS : S = 0
  · rw [if_pos hS]; exact misses_none S W L hc K K2 a len cap ss w r hn ab al ac adr ra hv hS hr
  · rw [if_neg hS]; exact misses_any S W L hc K K2 a len cap ss w r hn ab al ac adr ra hv (by omega) hr
theorem msn_le (S L : Nat) (ss : List (List Int)) (adr : List Int) : msn S L ss adr ≤ adr.length := by
  unfold msn
  split
  · exact Nat.le_refl _
  · exact Nat.le_trans (mm_le S _ ss) (by rw [List.length_map]; exact Nat.le_refl _)
theorem msn_near {S W L : Nat} (hW : 1 ≤ W) {ss tt : List (List Int)} (hs : ValidP S W ss) (ht : ValidP S W tt) (adr : List Int) : msn S L ss adr ≤ msn S L tt adr + S * W := by
  unfold msn
  split
  · omega
  · exact mm_near (by omega) (by omega) hs.wide ht.wide _
theorem take_map_mod {z1 : List Int} {k : Nat} {z m : Int} (h : z1[k]? = some z) : (z1.take (k + 1)).map (· % m) = (z1.take k).map (· % m) ++ [z % m] := by
  rw [List.take_add_one, h]; simp
end Go.Proofs.Ytdkpfifnegndmaa
