/-
  Writes, both.
-/
import Derived.Test.YtonbmijhbbodnaaZInE
import Derived.Test.YtonbmijhbbodnaaInD
namespace Go.Proofs.Ytonbmijhbbodnaa
open Go.RowKit

def wrI (x : Ins) : Int := if chkI x = 0 ∧ 1 ≤ x.k ∧ x.k ≤ 4 then x.a else 0
def WrRet (x : Ins) (w : World) (e : Ending) (w' : World) : Prop := e = .returned (.int .i64 (wrI x)) ∧ Below w.heap.size w w'
theorem wr_bad {x : Ins} (h : chkI x ≠ 0) : wrI x = 0 := by unfold wrI; rw [if_neg (fun g => h g.1)]
set_option maxHeartbeats 4000000 in
theorem writes_any (x : Ins) (w : World) : Calls Try.prog 30 #[IV x] w (WrRet x w) := by
  have F0 := Lib.hid (Fm.new (Fm.start Non w) rfl (ICells x) 50)
  go_enter Try.func30, Try.ntmps30
  go_wp2_with fail
  refine (check_any x _).mono ?_
  rintro e w1 ⟨rfl, hb1⟩
  have F1 := Lib.hid (Fm.call hb1 F0.out)
  have t0 := F1.out.h0
  have e0 := t0.cell 0 _ rfl; have e1 := t0.cell 1 _ rfl; have e2 := t0.cell 2 _ rfl; have e3 := t0.cell 3 _ rfl; have e4 := t0.cell 4 _ rfl; have e5 := t0.cell 5 _ rfl
  clear t0 hb1
  by_cases hc : chkI x = 0
  · rw [hc]
    have HK := Lib.hid (small_of hc)
    by_cases h1 : 1 ≤ x.k ∧ x.k ≤ 4
    · have HW := Lib.hid (show wrI x = x.a by unfold wrI; rw [if_pos ⟨hc, h1⟩])
      have hk : x.k = 1 ∨ x.k = 2 ∨ x.k = 3 ∨ x.k = 4 := by omega
      rcases hk with hk | hk | hk | hk
      all_goals
        rw [hk] at e0
        go_wp2
        go_ret
        exact ⟨by rw [HW.out]; rfl, F1.out.below⟩
    · have HW := Lib.hid (show wrI x = 0 by unfold wrI; rw [if_neg (fun g => h1 g.2)])
      have n1 : ¬ x.k = 1 := by omega
      have n2 : ¬ x.k = 2 := by omega
      have n3 : ¬ x.k = 3 := by omega
      have n4 : ¬ x.k = 4 := by omega
      go_wp2
      go_ret
      exact ⟨by rw [HW.out]; rfl, F1.out.below⟩
  · have HW := Lib.hid (wr_bad hc)
    go_wp2
    go_ret
    exact ⟨by rw [HW.out]; rfl, F1.out.below⟩
set_option maxHeartbeats 4000000 in
theorem rwrites_any (x : Ins) (w : World) : Calls Try.prog 49 #[IV x] w (WrRet x w) := by
  have F0 := Lib.hid (Fm.new (Fm.start Non w) rfl (ICells x) 50)
  go_enter Try.func49, Try.ntmps49
  go_wp2_with fail
  refine (rcheck_any x _).mono ?_
  rintro e w1 ⟨rfl, hb1⟩
  have F1 := Lib.hid (Fm.call hb1 F0.out)
  have t0 := F1.out.h0
  have e0 := t0.cell 0 _ rfl; have e1 := t0.cell 1 _ rfl; have e2 := t0.cell 2 _ rfl; have e3 := t0.cell 3 _ rfl; have e4 := t0.cell 4 _ rfl; have e5 := t0.cell 5 _ rfl
  clear t0 hb1
  by_cases hc : chkI x = 0
  · rw [hc]
    by_cases h1 : x.k < 1
    · have HW := Lib.hid (show wrI x = 0 by unfold wrI; rw [if_neg (fun g => by omega)])
      go_wp2
      go_ret
      exact ⟨by rw [HW.out]; rfl, F1.out.below⟩
    · by_cases h2 : 4 < x.k
      · have HW := Lib.hid (show wrI x = 0 by unfold wrI; rw [if_neg (fun g => by omega)])
        go_wp2
        go_ret
        exact ⟨by rw [HW.out]; rfl, F1.out.below⟩
      · have HW := Lib.hid (show wrI x = x.a by unfold wrI; rw [if_pos ⟨hc, by omega, by omega⟩])
        go_wp2
        go_ret
        exact ⟨by rw [HW.out]; rfl, F1.out.below⟩
  · have HW := Lib.hid (wr_bad hc)
    go_wp2
    go_ret
    exact ⟨by rw [HW.out]; rfl, F1.out.below⟩
end Go.Proofs.Ytonbmijhbbodnaa
