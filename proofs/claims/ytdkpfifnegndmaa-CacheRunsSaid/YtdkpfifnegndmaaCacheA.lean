/-
  Small functions of caches and of lists of integers: what each returns.
-/
import Derived.Test.YtdkpfifnegndmaaRows
import Derived.Test.YtdkpfifnegndmaaOwn
import Derived.Test.YtdkpfifnegndmaaLru
import Derived.Deep.QuietTactic
import Derived.BigQuiet
import Derived.LoopTactic
namespace Go.Proofs.Ytdkpfifnegndmaa
open Go.RowKit

theorem ret_i {k : IntKind} {a b : Int} (h : a = b) : Ending.returned (.int k a) = .returned (.int k b) := by rw [h]
theorem ret_b {a b : Bool} (h : a = b) : Ending.returned (.bool a) = .returned (.bool b) := by rw [h]
theorem between_yes (n lo hi : Int) (h0 : lo ≤ n) (h1 : n ≤ hi) (w : World) :
    Calls Try.prog 30 #[.int .i64 n, .int .i64 lo, .int .i64 hi] w fun e w' => e = .returned (.bool true) ∧ w' = w := by
  go_enter Try.func30, Try.ntmps30
  go_wp2
  go_ret
  exact ⟨rfl, rfl⟩
theorem between_no (n lo hi : Int) (h : n < lo ∨ hi < n) (w : World) :
    Calls Try.prog 30 #[.int .i64 n, .int .i64 lo, .int .i64 hi] w fun e w' => e = .returned (.bool false) ∧ w' = w := by
  by_cases h0 : lo ≤ n
  · have h1 : hi < n := by omega
    go_enter Try.func30, Try.ntmps30
    go_wp2
    go_ret
    exact ⟨ret_b (by simp; omega), rfl⟩
  · go_enter Try.func30, Try.ntmps30
    go_wp2
    go_ret
    exact ⟨rfl, rfl⟩

/-- The numbers of a right cache. -/
structure COk (S W L : Int) : Prop where
  s0 : 0 ≤ S
  s1 : S ≤ 8
  w0 : 1 ≤ W
  w1 : W ≤ 4
  l0 : 1 ≤ L
  l1 : L ≤ 8
abbrev CV (S W L : Int) : Value := .agg #[.int .i64 S, .int .i64 W, .int .i64 L]

set_option maxHeartbeats 400000 in
theorem check_ok (S W L : Int) (h : COk S W L) (w : World) :
    Calls Try.prog 32 #[CV S W L] w fun e w' => e = .returned (.int .i64 0) ∧ Below w.heap.size w w' := by
  obtain ⟨h1, h2, h3, h4, h5, h6⟩ := h
  go_enter Try.func32, Try.ntmps32
  go_wp2_with fail
  refine (between_yes _ _ _ (by omega) (by omega) _).mono ?_
  rintro e w' ⟨rfl, rfl⟩
  go_wp2_with fail
  refine (between_yes _ _ _ (by omega) (by omega) _).mono ?_
  rintro e w' ⟨rfl, rfl⟩
  go_wp2_with fail
  refine (between_yes _ _ _ (by omega) (by omega) _).mono ?_
  rintro e w' ⟨rfl, rfl⟩
  go_wp2
  go_ret
  exact ⟨rfl, (Below.refl _ _).alloc (Nat.le_refl _) _⟩

def idx (zs : List Int) (v : Int) : Int := if v ∈ zs then zs.idxOf v else -1
theorem idx_found {zs : List Int} {v : Int} {k : Nat} (h : v ∉ zs.take k) (e : zs[k]? = some v) : idx zs v = k := by
  obtain ⟨hk, he⟩ := List.getElem?_eq_some_iff.1 e
  have hm : v ∈ zs := he ▸ List.getElem_mem hk
  unfold idx
  rw [if_pos hm]
  have : zs.idxOf v = k := by
    conv => lhs; rw [← List.take_append_drop k zs]
    rw [List.idxOf_append, if_neg h, List.drop_eq_getElem_cons hk, he, List.idxOf_cons_self, List.length_take]
    omega
  rw [this]
theorem idx_none {zs : List Int} {v : Int} (h : v ∉ zs) : idx zs v = -1 := by unfold idx; rw [if_neg h]
theorem not_mem_take_succ {zs : List Int} {v z : Int} {k : Nat} (h : v ∉ zs.take k) (e : zs[k]? = some z) (hne : v ≠ z) : v ∉ zs.take (k + 1) := by
  rw [List.take_add_one, e]
  simp [h, hne]

set_option maxHeartbeats 400000 in
theorem index_any (K : Nat → Prop) (a : Option Addr) (len cap : Nat) (zs : List Int) (v : Int) (w : World) (r : Ints K w a len cap zs) :
    Calls Try.prog 44 #[.slice a len cap, .int .i64 v] w fun e w' => e = .returned (.int .i64 (idx zs v)) ∧ w' = w := by
  have hl := r.len63
  have HR := Lib.hid r; clear r
  go_enter Try.func44, Try.ntmps44
  go_wp2
  go_loop [8] (fun i => ∃ k : Nat, k ≤ len ∧ i = .int .i64 k ∧ v ∉ zs.take k) (fun i => len - (intOf i).toNat)
  case atStart => exact ⟨0, Nat.zero_le _, rfl, by simp⟩
  case round =>
    obtain ⟨k, hk, rfl, hno⟩ := hrel
    have HN := Lib.hid hno; clear hno
    by_cases hlt : k < len
    · obtain ⟨b, o, z, rfl, hz, hc, hz1, hz2, _, _⟩ := Ints.get HR.out hlt
      have HZ := Lib.hid hz; clear hz
      by_cases hv : v = z
      · subst hv
        have hb : (v == v) = true := by simp
        go_wp2
        go_ret
        exact ⟨ret_i (idx_found HN.out HZ.out).symm, rfl⟩
      · have hb : (v == z) = false := by simp [hv]
        go_wp2
        go_round
        case rel => exact ⟨k + 1, by omega, by go_num, not_mem_take_succ HN.out HZ.out hv⟩
        case measure => simp [intOf]; omega
    · go_wp2
      go_ret
      have : v ∉ zs := by
        have := HN.out
        rwa [List.take_of_length_le (by have := HR.out.hlen; omega)] at this
      exact ⟨ret_i (idx_none this).symm, rfl⟩

theorem contains_any (K : Nat → Prop) (a : Option Addr) (len cap : Nat) (zs : List Int) (v : Int) (w : World) (r : Ints K w a len cap zs) :
    Calls Try.prog 45 #[.slice a len cap, .int .i64 v] w fun e w' => e = .returned (.bool (decide (v ∈ zs))) ∧ w' = w := by
  have h := index_any K a len cap zs v w r
  have HH := Lib.hid h; clear h r
  by_cases hv : v ∈ zs
  · have hi : idx zs v = (zs.idxOf v : Nat) := by unfold idx; rw [if_pos hv]
    have hd : decide (v ∈ zs) = true := by simpa using hv
    have HD := Lib.hid hd; have HI := Lib.hid hi; clear hd hi
    go_enter Try.func45, Try.ntmps45
    go_wp2_with fail
    refine HH.out.mono ?_
    rintro e w' ⟨rfl, rfl⟩
    rw [HI.out]
    go_wp2
    go_ret
    exact ⟨ret_b HD.out.symm, rfl⟩
  · have hd : decide (v ∈ zs) = false := by simpa using hv
    have hi := idx_none hv
    have HD := Lib.hid hd; have HI := Lib.hid hi; clear hd hi
    go_enter Try.func45, Try.ntmps45
    go_wp2_with fail
    refine HH.out.mono ?_
    rintro e w' ⟨rfl, rfl⟩
    rw [HI.out]
    go_wp2
    go_ret
    exact ⟨ret_b HD.out.symm, rfl⟩
end Go.Proofs.Ytdkpfifnegndmaa
