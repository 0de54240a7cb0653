/-
  Small functions of caches and of lists of integers: what each returns.
-/
import Derived.Test.YtlpelpjcbclemaaRows
import Derived.Test.YtlpelpjcbclemaaOwn
import Derived.Test.YtlpelpjcbclemaaLru
import Derived.Deep.QuietTactic
import Derived.BigQuiet
import Derived.LoopTactic
namespace Go.Proofs.Ytlpelpjcbclemaa
open Go.RowKit

theorem ret_i {k : IntKind} {a b : Int} (h : a = b) : Ending.returned (.int k a) = .returned (.int k b) := by rw [h]
theorem ret_b {a b : Bool} (h : a = b) : Ending.returned (.bool a) = .returned (.bool b) := by rw [h]
theorem between_yes (n lo hi : Int) (h0 : lo ≤ n) (h1 : n ≤ hi) (w : World) :
    Calls Try.prog 74 #[.int .i64 n, .int .i64 lo, .int .i64 hi] w fun e w' => e = .returned (.bool true) ∧ w' = w := by
  go_enter Try.func74, Try.ntmps74
  go_wp2
  go_ret
  exact ⟨rfl, rfl⟩
theorem between_no (n lo hi : Int) (h : n < lo ∨ hi < n) (w : World) :
    Calls Try.prog 74 #[.int .i64 n, .int .i64 lo, .int .i64 hi] w fun e w' => e = .returned (.bool false) ∧ w' = w := by
  by_cases h0 : lo ≤ n
  · have h1 : hi < n := by omega
    go_enter Try.func74, Try.ntmps74
    go_wp2
    go_ret
    exact ⟨ret_b (by simp; omega), rfl⟩
  · go_enter Try.func74, Try.ntmps74
    go_wp2
    go_ret
    exact ⟨rfl, rfl⟩

/-- The numbers of a right cache. -/
structure COk (S W L : Int) : Prop where
  s0 : 0 ≤ S
  s1 : S ≤ 8
  w0 : 1 ≤ W
  w1 : W ≤ 4
  l0 : 1 ≤ L
  l1 : L ≤ 8
abbrev CV (S W L : Int) : Value := .agg #[.int .i64 S, .int .i64 W, .int .i64 L]

set_option maxHeartbeats 400000 in
theorem check_ok (S W L : Int) (h : COk S W L) (w : World) :
    Calls Try.prog 59 #[CV S W L] w fun e w' => e = .returned (.int .i64 0) ∧ Below w.heap.size w w' := by
  obtain ⟨h1, h2, h3, h4, h5, h6⟩ := h
  go_enter Try.func59, Try.ntmps59
  go_wp2_with fail
  refine (between_yes _ _ _ (by omega) (by omega) _).mono ?_
  rintro e w' ⟨rfl, rfl⟩
  go_wp2_with fail
  refine (between_yes _ _ _ (by omega) (by omega) _).mono ?_
  rintro e w' ⟨rfl, rfl⟩
  go_wp2_with fail
  refine (between_yes _ _ _ (by omega) (by omega) _).mono ?_
  rintro e w' ⟨rfl, rfl⟩
  go_wp2
  go_ret
  exact ⟨rfl, (Below.refl _ _).alloc (Nat.le_refl _) _⟩

def idx (zs : List Int) (v : Int) : Int := if v ∈ zs then zs.idxOf v else -1
theorem idx_found {zs : List Int} {v : Int} {k : Nat} (h : v ∉ zs.take k) (e : zs[k]? = some v) : idx zs v = k := by
  obtain ⟨hk, he⟩ := List.getElem?_eq_some_iff.1 e
  have hm : v ∈ zs := he ▸ List.getElem_mem hk
  unfold idx
  rw [if_pos hm]
  have : zs.idxOf v = k := by
    conv => lhs; rw [← List.take_append_drop k zs]
    rw [List.idxOf_append, if_neg h, List.drop_eq_getElem_cons hk, he, List.idxOf_cons_self, List.length_take]
    omega
  rw [this]
theorem idx_none {zs : List Int} {v : Int} (h : v ∉ zs) : idx zs v = -1 := by unfold idx; rw [if_neg h]
theorem not_mem_take_succ {zs : List Int} {v z : Int} {k : Nat} (h : v ∉ zs.take k) (e : zs[k]? = some z) (hne : v ≠ z) : v ∉ zs.take (k + 1) := by
  rw [List.take_add_one, e]
  simp [h, hne]

end Go.Proofs.Ytlpelpjcbclemaa
