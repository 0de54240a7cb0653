/-
  Which fractions of any two numbers are valid: fraction.Valid and the document's Valid answer alike.
-/
import Derived.Test.YtaokenpdaiabgaaDb
namespace Go.Proofs.Ytaokenpdaiabgaa
open Go.RowKit

def BoolB (b : Bool) (w : World) (e : Ending) (w' : World) : Prop := e = .returned (.bool b) ∧ Below w.heap.size w w'
theorem fr_two (w : World) (a b : Int) : Fr w (w.alloc (.cells #[.int .i64 a, .int .i64 b] 24)) [[.int .i64 a, .int .i64 b]] := Fr.new (Fr.refl w) rfl [.int .i64 a, .int .i64 b] 24
theorem valid_out (a b : Int) (ha : -9223372036854775808 ≤ a) (ha' : a ≤ 9223372036854775807) (h : a < -1152921504606846976 ∨ 1152921504606846976 < a) (w : World) :
    Calls Try.prog 22 #[.agg #[.int .i64 a, .int .i64 b]] w (BoolB false w) := by
  have WN := Lib.hid (fun w => within_no a 1152921504606846976 (by omega) (by omega) h w)
  clear h
  go_enter Try.func22, Try.ntmps22
  go_wp2_with fail
  refine (WN.out _).mono ?_
  rintro e w' ⟨rfl, rfl⟩
  go_wp2
  go_returns
  exact ⟨rfl, (fr_two w a b).below⟩
theorem valid_den (a b : Int) (ha : -1152921504606846976 ≤ a) (ha' : a ≤ 1152921504606846976) (h : b < 1 ∨ 1152921504606846976 < b) (w : World) :
    Calls Try.prog 22 #[.agg #[.int .i64 a, .int .i64 b]] w (BoolB false w) := by
  have WN := Lib.hid (fun w => within_yes a 1152921504606846976 (by omega) (by omega) ha ha' w)
  rcases h with h | h
  · go_enter Try.func22, Try.ntmps22
    go_wp2_with fail
    refine (WN.out _).mono ?_
    rintro e w' ⟨rfl, rfl⟩
    go_wp2
    go_returns
    exact ⟨rfl, (fr_two w a b).below⟩
  · have h1 : 1 ≤ b := by omega
    go_enter Try.func22, Try.ntmps22
    go_wp2_with fail
    refine (WN.out _).mono ?_
    rintro e w' ⟨rfl, rfl⟩
    go_wp2
    go_returns
    exact ⟨rfl, (fr_two w a b).below⟩
theorem valid_gcd (a b : Int) (ha : -1152921504606846976 ≤ a) (ha' : a ≤ 1152921504606846976) (hb : 1 ≤ b) (hb' : b ≤ 1152921504606846976) (hg : ¬ Int.gcd a b = 1) (w : World) :
    Calls Try.prog 22 #[.agg #[.int .i64 a, .int .i64 b]] w (BoolB false w) := by
  have WN := Lib.hid (fun w => within_yes a 1152921504606846976 (by omega) (by omega) ha ha' w)
  have hgb : (((Int.gcd a b : Nat) : Int) == 1) = false := by simp; omega
  have CM := Lib.hid (fun x y e1 e2 w => common_at (x := x) (y := y) a b e1 e2 (by omega) (by omega) w)
  clear hg
  obtain ⟨g, hgg⟩ : ∃ g, g = Int.gcd a b := ⟨_, rfl⟩
  rw [← hgg] at hgb CM
  clear hgg
  go_enter Try.func22, Try.ntmps22
  go_wp2_with (first | (go_at_call 31; refine (WN.out _).mono ?_; rintro e w' ⟨rfl, rfl⟩) | (go_at_call 46; refine Calls.mono (CM.out _ _ (by omega) (by omega) _) ?_; rintro e w2 ⟨rfl, hb2⟩; have hbel := (Fr.call hb2 (fr_two w a b)).below))
  all_goals go_returns
  all_goals exact ⟨by first | rfl | simp [hgb], hbel⟩

theorem rvalid_out (a b : Int) (h : a < -1152921504606846976 ∨ 1152921504606846976 < a ∨ b < 1 ∨ 1152921504606846976 < b) (w : World) :
    Calls Try.prog 10 #[.agg #[.int .i64 a, .int .i64 b]] w (BoolB false w) := by
  by_cases h1 : a < -1152921504606846976
  · go_enter Try.func10, Try.ntmps10
    go_wp2
    go_returns
    exact ⟨rfl, (fr_two w a b).below⟩
  · by_cases h2 : 1152921504606846976 < a
    · go_enter Try.func10, Try.ntmps10
      go_wp2
      go_returns
      exact ⟨rfl, (fr_two w a b).below⟩
    · by_cases h3 : b < 1
      · go_enter Try.func10, Try.ntmps10
        go_wp2
        go_returns
        exact ⟨rfl, (fr_two w a b).below⟩
      · have h4 : 1152921504606846976 < b := by omega
        clear h
        go_enter Try.func10, Try.ntmps10
        go_wp2
        go_returns
        exact ⟨rfl, (fr_two w a b).below⟩
theorem rvalid_gcd (a b : Int) (ha : -1152921504606846976 ≤ a) (ha' : a ≤ 1152921504606846976) (hb : 1 ≤ b) (hb' : b ≤ 1152921504606846976) (hg : ¬ Int.gcd a b = 1) (w : World) :
    Calls Try.prog 10 #[.agg #[.int .i64 a, .int .i64 b]] w (BoolB false w) := by
  have hgl : Nat.gcd a.natAbs b.natAbs ≤ b.natAbs := Nat.gcd_le_right _ (by omega)
  have hg' : ¬ Nat.gcd a.natAbs b.natAbs = 1 := hg
  have GC := Lib.hid (fun l m e1 e2 w => gcd_at (l := l) (m := m) a.natAbs b.natAbs e1 e2 (by omega) (by omega) (by omega) w)
  obtain ⟨g, hgg⟩ : ∃ g, g = Nat.gcd a.natAbs b.natAbs := ⟨_, rfl⟩
  rw [← hgg] at hg' GC
  have hgb : ((g : Int) == 1) = false := by simp; omega
  have hgn : ¬ (g : Int) = 1 := by omega
  clear hg hgg hgl
  go_enter Try.func10, Try.ntmps10
  go_wp2
  go_region_held3 (fun w' => w'.cell? ⟨w.heap.size, 0, none⟩ = some (.int .i64 a) ∧ w'.cell? ⟨w.heap.size, 1, none⟩ = some (.int .i64 b)) (first | go_keep | (refine ⟨cell_later hb2 ?_, cell_later hb2 ?_⟩ <;> go_keep))
    (first | (go_at_call 36; refine (size_any _ (by omega) (by omega) _).mono ?_; rintro e w' ⟨rfl, rfl⟩) | (go_at_call 35; refine Calls.mono (GC.out _ _ (by omega) (by rw [IntWalk.u64_in _ (by omega)]; omega) _) ?_; rintro e w2 ⟨rfl, hb2⟩))
  go_wp2
  go_returns
  exact ⟨by simp [hgb], (((Below.refl _ _).alloc (Nat.le_refl _) _).drew).trans (hb2.mono (by go_size))⟩
theorem valid_pair (a b : Int) (ha : -9223372036854775808 ≤ a) (ha' : a ≤ 9223372036854775807) :
    ∃ v : Bool, (∀ w, Calls Try.prog 22 #[.agg #[.int .i64 a, .int .i64 b]] w (BoolB v w)) ∧ (∀ w, Calls Try.prog 10 #[.agg #[.int .i64 a, .int .i64 b]] w (BoolB v w)) := by
  by_cases h1 : a < -1152921504606846976 ∨ 1152921504606846976 < a
  · exact ⟨false, valid_out a b ha ha' h1, rvalid_out a b (by omega)⟩
  · by_cases h2 : b < 1 ∨ 1152921504606846976 < b
    · exact ⟨false, valid_den a b (by omega) (by omega) h2, rvalid_out a b (by omega)⟩
    · by_cases h3 : Int.gcd a b = 1
      · exact ⟨true, valid_yes a b (by omega) (by omega) (by omega) (by omega) h3, rvalid_yes a b (by omega) (by omega) (by omega) (by omega) h3⟩
      · exact ⟨false, valid_gcd a b (by omega) (by omega) (by omega) (by omega) h3, rvalid_gcd a b (by omega) (by omega) (by omega) (by omega) h3⟩
end Go.Proofs.Ytaokenpdaiabgaa
