/-
  cache.Valid, checked, Line, Set.
-/
import Derived.Test.YtlpelpjcbclemaaCacheB
namespace Go.Proofs.Ytlpelpjcbclemaa
open Go.RowKit

/-- Right contents. -/
def ValidP (S W : Int) (ss : List (List Int)) : Prop := (ss.length : Int) = S ∧ ∀ (i : Nat) x, ss[i]? = some x → SetOk S W i x

def IntRet (n : Int) (w : World) (e : Ending) (w' : World) : Prop := e = .returned (.int .i64 n) ∧ Below w.heap.size w w'
set_option maxHeartbeats 1000000 in
theorem setof_any (S W L : Int) (hc : COk S W L) (hS : 1 ≤ S) (n : Int) (hn : 0 ≤ n) (hn' : n ≤ 9223372036854775807) (w : World) :
    Calls Try.prog 62 #[CV S W L, .int .i64 n] w (IntRet (n % S) w) := by
  have hC := Lib.hid hc
  obtain ⟨h1, h2, h3, h4, h5, h6⟩ := hc
  have hz : (S == 0) = false := by simp; omega
  have f0 := Fm.new (Fm.start Non w) rfl [.int .i64 S, .int .i64 W, .int .i64 L] 26
  have F0 := Lib.hid f0; clear f0
  go_enter Try.func62, Try.ntmps62
  go_wp2_with fail
  refine (check_ok _ _ _ hC.out _).mono ?_
  rintro e w1 ⟨rfl, hb1⟩
  have f1 := Fm.call hb1 F0.out
  have t0 := f1.h0
  have c0 := t0.cell 0 _ rfl; have c1 := t0.cell 1 _ rfl; have c2 := t0.cell 2 _ rfl; have lt0 := t0.lt (by simp)
  go_wp2
  go_ret
  exact ⟨rfl, f1.below⟩
set_option maxHeartbeats 1000000 in
theorem setof_none (W L : Int) (hc : COk 0 W L) (n : Int) (w : World) :
    Calls Try.prog 62 #[CV 0 W L, .int .i64 n] w (IntRet (-1) w) := by
  have hC := Lib.hid hc
  obtain ⟨h1, h2, h3, h4, h5, h6⟩ := hc
  have f0 := Fm.new (Fm.start Non w) rfl [.int .i64 0, .int .i64 W, .int .i64 L] 26
  have F0 := Lib.hid f0; clear f0
  by_cases hn : n < 0
  all_goals
    go_enter Try.func62, Try.ntmps62
    go_wp2_with fail
    refine (check_ok _ _ _ hC.out _).mono ?_
    rintro e w1 ⟨rfl, hb1⟩
    have f1 := Fm.call hb1 F0.out
    have t0 := f1.h0
    have c0 := t0.cell 0 _ rfl; have c1 := t0.cell 1 _ rfl; have c2 := t0.cell 2 _ rfl; have lt0 := t0.lt (by simp)
    go_wp2
    go_ret
    exact ⟨rfl, f1.below⟩
end Go.Proofs.Ytlpelpjcbclemaa
