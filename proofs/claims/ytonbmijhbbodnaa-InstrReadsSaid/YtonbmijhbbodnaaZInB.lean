/-
  instr.Check: the first error of an instruction.
  A cell that is kept by a store elsewhere, or by a new block: small laws.
-/
import Derived.Test.YtonbmijhbbodnaaZInA
import Derived.Test.YtonbmijhbbodnaaMem
namespace Go.Proofs.Ytonbmijhbbodnaa
open Go.RowKit

def ChkRet (x : Ins) (w : World) (e : Ending) (w' : World) : Prop := e = .returned (.int .i64 (chkI x)) ∧ Below w.heap.size w w'
abbrev CallB (P : Program) (f : FuncId) (l : Array Value) (b : Bool) : Prop := ∀ w : World, Calls P f l w fun e w' => e = .returned (.bool b) ∧ w' = w
set_option maxRecDepth 100000 in
set_option maxHeartbeats 8000000 in
theorem check_any (x : Ins) (w : World) : Calls Try.prog 48 #[IV x] w (ChkRet x w) := by
  obtain ⟨k, a, b, c, op, imm⟩ := x
  have F0 := Lib.hid (Fm.new (Fm.start Non w) rfl (ICells ⟨k, a, b, c, op, imm⟩) 50)
  have NM := Lib.hid (named_any k)
  unfold NamedRet at NM
  obtain ⟨f, hf⟩ : ∃ f, f = fldOf k := ⟨_, rfl⟩
  obtain ⟨r, hr⟩ : ∃ r, r = kn k := ⟨_, rfl⟩
  have HC := Lib.hid (show chkI ⟨k, a, b, c, op, imm⟩ = if r then (if goodI f ⟨k, a, b, c, op, imm⟩ then 0 else 10) else 6 by rw [hf, hr]; rfl)
  rw [← hf, ← hr] at NM
  clear hf hr
  obtain ⟨fa, fb, fc, fo, fi, fl, fm⟩ := f
  cases r with
  | false =>
    go_enter Try.func48, Try.ntmps48
    go_wp2_with fail
    refine (NM.out _).mono ?_
    rintro e w1 ⟨rfl, hw⟩
    have F1 := Lib.hid (Fm.call hw F0.out)
    clear hw
    go_wp2
    go_ret
    exact ⟨by rw [HC.out]; rfl, (F1.out.more _).below⟩
  | true =>
    obtain ⟨ra, hra⟩ : ∃ r, r = regB fa a := ⟨_, rfl⟩
    obtain ⟨rb, hrb⟩ : ∃ r, r = regB fb b := ⟨_, rfl⟩
    obtain ⟨rc, hrc⟩ : ∃ r, r = regB fc c := ⟨_, rfl⟩
    obtain ⟨ok, hok⟩ : ∃ r, r = opB op := ⟨_, rfl⟩
    have RA : CallB Try.prog 83 #[.bool fa, .int .i64 a] ra := fun w => by rw [hra]; exact register_any fa a w
    have RB : CallB Try.prog 83 #[.bool fb, .int .i64 b] rb := fun w => by rw [hrb]; exact register_any fb b w
    have RC : CallB Try.prog 83 #[.bool fc, .int .i64 c] rc := fun w => by rw [hrc]; exact register_any fc c w
    have RO : CallB Try.prog 84 #[.int .i64 op] ok := fun w => by rw [hok]; exact known_any op w
    have HG := Lib.hid (show chkI ⟨k, a, b, c, op, imm⟩ = if (ra && rb && rc && (fo == ok) && (fo || op == 0) && decide (fl ≤ imm) && decide (imm ≤ fm)) then 0 else 10 by
      rw [HC.out, hra, hrb, hrc, hok]; rfl)
    clear HC hra hrb hrc hok
    cases ra with
    | false =>
      go_enter Try.func48, Try.ntmps48
      go_wp2_with fail
      refine (NM.out _).mono ?_
      rintro e w1 ⟨rfl, hw⟩
      have F1 := Lib.hid (Fm.call hw F0.out)
      clear hw
      go_wp2
      have F2 := Lib.hid (F1.out.more (.cells (FCells ⟨fa, fb, fc, fo, fi, fl, fm⟩).toArray 124))
      have l2 := F2.out.size; have h0 := F2.out.h0; have h1 := Has.new w1 (FCells ⟨fa, fb, fc, fo, fi, fl, fm⟩) 124
      have a1 := h0.cell 1 _ rfl; have a2 := h0.cell 2 _ rfl; have a3 := h0.cell 3 _ rfl; have a4 := h0.cell 4 _ rfl; have a5 := h0.cell 5 _ rfl
      have f0 := h1.cell 0 _ rfl; have f1 := h1.cell 1 _ rfl; have f2 := h1.cell 2 _ rfl; have f3 := h1.cell 3 _ rfl; have f5 := h1.cell 5 _ rfl; have f6 := h1.cell 6 _ rfl
      clear h0 h1
      go_quiet (first
        | (go_at_call 83; first | with_reducible exact Calls.quiet_of_same (RA _) | with_reducible exact Calls.quiet_of_same (RB _) | with_reducible exact Calls.quiet_of_same (RC _))
        | (go_at_call 84; exact Calls.quiet_of_same (RO _)))
      have F3 := Lib.hid (F2.out.drewN nq)
      clear a1 a2 a3 a4 a5 f0 f1 f2 f3 f5 f6
      go_wp2
      go_ret
      exact ⟨by rw [HG.out]; simp <;> omega, F3.out.below⟩
    | true =>
      cases rb with
      | false =>
        go_enter Try.func48, Try.ntmps48
        go_wp2_with fail
        refine (NM.out _).mono ?_
        rintro e w1 ⟨rfl, hw⟩
        have F1 := Lib.hid (Fm.call hw F0.out)
        clear hw
        go_wp2
        have F2 := Lib.hid (F1.out.more (.cells (FCells ⟨fa, fb, fc, fo, fi, fl, fm⟩).toArray 124))
        have l2 := F2.out.size; have h0 := F2.out.h0; have h1 := Has.new w1 (FCells ⟨fa, fb, fc, fo, fi, fl, fm⟩) 124
        have a1 := h0.cell 1 _ rfl; have a2 := h0.cell 2 _ rfl; have a3 := h0.cell 3 _ rfl; have a4 := h0.cell 4 _ rfl; have a5 := h0.cell 5 _ rfl
        have f0 := h1.cell 0 _ rfl; have f1 := h1.cell 1 _ rfl; have f2 := h1.cell 2 _ rfl; have f3 := h1.cell 3 _ rfl; have f5 := h1.cell 5 _ rfl; have f6 := h1.cell 6 _ rfl
        clear h0 h1
        go_quiet (first
          | (go_at_call 83; first | with_reducible exact Calls.quiet_of_same (RA _) | with_reducible exact Calls.quiet_of_same (RB _) | with_reducible exact Calls.quiet_of_same (RC _))
          | (go_at_call 84; exact Calls.quiet_of_same (RO _)))
        have F3 := Lib.hid (F2.out.drewN nq)
        clear a1 a2 a3 a4 a5 f0 f1 f2 f3 f5 f6
        go_wp2
        go_ret
        exact ⟨by rw [HG.out]; simp <;> omega, F3.out.below⟩
      | true =>
        cases rc with
        | false =>
          go_enter Try.func48, Try.ntmps48
          go_wp2_with fail
          refine (NM.out _).mono ?_
          rintro e w1 ⟨rfl, hw⟩
          have F1 := Lib.hid (Fm.call hw F0.out)
          clear hw
          go_wp2
          have F2 := Lib.hid (F1.out.more (.cells (FCells ⟨fa, fb, fc, fo, fi, fl, fm⟩).toArray 124))
          have l2 := F2.out.size; have h0 := F2.out.h0; have h1 := Has.new w1 (FCells ⟨fa, fb, fc, fo, fi, fl, fm⟩) 124
          have a1 := h0.cell 1 _ rfl; have a2 := h0.cell 2 _ rfl; have a3 := h0.cell 3 _ rfl; have a4 := h0.cell 4 _ rfl; have a5 := h0.cell 5 _ rfl
          have f0 := h1.cell 0 _ rfl; have f1 := h1.cell 1 _ rfl; have f2 := h1.cell 2 _ rfl; have f3 := h1.cell 3 _ rfl; have f5 := h1.cell 5 _ rfl; have f6 := h1.cell 6 _ rfl
          clear h0 h1
          go_quiet (first
            | (go_at_call 83; first | with_reducible exact Calls.quiet_of_same (RA _) | with_reducible exact Calls.quiet_of_same (RB _) | with_reducible exact Calls.quiet_of_same (RC _))
            | (go_at_call 84; exact Calls.quiet_of_same (RO _)))
          have F3 := Lib.hid (F2.out.drewN nq)
          clear a1 a2 a3 a4 a5 f0 f1 f2 f3 f5 f6
          go_wp2
          go_ret
          exact ⟨by rw [HG.out]; simp <;> omega, F3.out.below⟩
        | true =>
          cases fo with
          | true =>
            cases ok with
            | false =>
              go_enter Try.func48, Try.ntmps48
              go_wp2_with fail
              refine (NM.out _).mono ?_
              rintro e w1 ⟨rfl, hw⟩
              have F1 := Lib.hid (Fm.call hw F0.out)
              clear hw
              go_wp2
              have F2 := Lib.hid (F1.out.more (.cells (FCells ⟨fa, fb, fc, true, fi, fl, fm⟩).toArray 124))
              have l2 := F2.out.size; have h0 := F2.out.h0; have h1 := Has.new w1 (FCells ⟨fa, fb, fc, true, fi, fl, fm⟩) 124
              have a1 := h0.cell 1 _ rfl; have a2 := h0.cell 2 _ rfl; have a3 := h0.cell 3 _ rfl; have a4 := h0.cell 4 _ rfl; have a5 := h0.cell 5 _ rfl
              have f0 := h1.cell 0 _ rfl; have f1 := h1.cell 1 _ rfl; have f2 := h1.cell 2 _ rfl; have f3 := h1.cell 3 _ rfl; have f5 := h1.cell 5 _ rfl; have f6 := h1.cell 6 _ rfl
              clear h0 h1
              go_quiet (first
                | (go_at_call 83; first | with_reducible exact Calls.quiet_of_same (RA _) | with_reducible exact Calls.quiet_of_same (RB _) | with_reducible exact Calls.quiet_of_same (RC _))
                | (go_at_call 84; exact Calls.quiet_of_same (RO _)))
              have F3 := Lib.hid (F2.out.drewN nq)
              clear a1 a2 a3 a4 a5 f0 f1 f2 f3 f5 f6
              go_wp2
              go_ret
              exact ⟨by rw [HG.out]; simp <;> omega, F3.out.below⟩
            | true =>
              by_cases l0 : imm < fl
              · have l0' : ¬ fl ≤ imm := by omega
                go_enter Try.func48, Try.ntmps48
                go_wp2_with fail
                refine (NM.out _).mono ?_
                rintro e w1 ⟨rfl, hw⟩
                have F1 := Lib.hid (Fm.call hw F0.out)
                clear hw
                go_wp2
                have F2 := Lib.hid (F1.out.more (.cells (FCells ⟨fa, fb, fc, true, fi, fl, fm⟩).toArray 124))
                have l2 := F2.out.size; have h0 := F2.out.h0; have h1 := Has.new w1 (FCells ⟨fa, fb, fc, true, fi, fl, fm⟩) 124
                have a1 := h0.cell 1 _ rfl; have a2 := h0.cell 2 _ rfl; have a3 := h0.cell 3 _ rfl; have a4 := h0.cell 4 _ rfl; have a5 := h0.cell 5 _ rfl
                have f0 := h1.cell 0 _ rfl; have f1 := h1.cell 1 _ rfl; have f2 := h1.cell 2 _ rfl; have f3 := h1.cell 3 _ rfl; have f5 := h1.cell 5 _ rfl; have f6 := h1.cell 6 _ rfl
                clear h0 h1
                go_quiet (first
                  | (go_at_call 83; first | with_reducible exact Calls.quiet_of_same (RA _) | with_reducible exact Calls.quiet_of_same (RB _) | with_reducible exact Calls.quiet_of_same (RC _))
                  | (go_at_call 84; exact Calls.quiet_of_same (RO _)))
                have F3 := Lib.hid (F2.out.drewN nq)
                clear a1 a2 a3 a4 a5 f0 f1 f2 f3 f5 f6
                go_wp2
                go_ret
                exact ⟨by rw [HG.out]; simp [] <;> omega, F3.out.below⟩
              · have l0' : fl ≤ imm := by omega
                by_cases l1 : imm > fm
                · have l1' : ¬ imm ≤ fm := by omega
                  go_enter Try.func48, Try.ntmps48
                  go_wp2_with fail
                  refine (NM.out _).mono ?_
                  rintro e w1 ⟨rfl, hw⟩
                  have F1 := Lib.hid (Fm.call hw F0.out)
                  clear hw
                  go_wp2
                  have F2 := Lib.hid (F1.out.more (.cells (FCells ⟨fa, fb, fc, true, fi, fl, fm⟩).toArray 124))
                  have l2 := F2.out.size; have h0 := F2.out.h0; have h1 := Has.new w1 (FCells ⟨fa, fb, fc, true, fi, fl, fm⟩) 124
                  have a1 := h0.cell 1 _ rfl; have a2 := h0.cell 2 _ rfl; have a3 := h0.cell 3 _ rfl; have a4 := h0.cell 4 _ rfl; have a5 := h0.cell 5 _ rfl
                  have f0 := h1.cell 0 _ rfl; have f1 := h1.cell 1 _ rfl; have f2 := h1.cell 2 _ rfl; have f3 := h1.cell 3 _ rfl; have f5 := h1.cell 5 _ rfl; have f6 := h1.cell 6 _ rfl
                  clear h0 h1
                  go_quiet (first
                    | (go_at_call 83; first | with_reducible exact Calls.quiet_of_same (RA _) | with_reducible exact Calls.quiet_of_same (RB _) | with_reducible exact Calls.quiet_of_same (RC _))
                    | (go_at_call 84; exact Calls.quiet_of_same (RO _)))
                  have F3 := Lib.hid (F2.out.drewN nq)
                  clear a1 a2 a3 a4 a5 f0 f1 f2 f3 f5 f6
                  go_wp2
                  go_ret
                  exact ⟨by rw [HG.out]; simp [l0', l1'] <;> omega, F3.out.below⟩
                · have l1' : imm ≤ fm := by omega
                  go_enter Try.func48, Try.ntmps48
                  go_wp2_with fail
                  refine (NM.out _).mono ?_
                  rintro e w1 ⟨rfl, hw⟩
                  have F1 := Lib.hid (Fm.call hw F0.out)
                  clear hw
                  go_wp2
                  have F2 := Lib.hid (F1.out.more (.cells (FCells ⟨fa, fb, fc, true, fi, fl, fm⟩).toArray 124))
                  have l2 := F2.out.size; have h0 := F2.out.h0; have h1 := Has.new w1 (FCells ⟨fa, fb, fc, true, fi, fl, fm⟩) 124
                  have a1 := h0.cell 1 _ rfl; have a2 := h0.cell 2 _ rfl; have a3 := h0.cell 3 _ rfl; have a4 := h0.cell 4 _ rfl; have a5 := h0.cell 5 _ rfl
                  have f0 := h1.cell 0 _ rfl; have f1 := h1.cell 1 _ rfl; have f2 := h1.cell 2 _ rfl; have f3 := h1.cell 3 _ rfl; have f5 := h1.cell 5 _ rfl; have f6 := h1.cell 6 _ rfl
                  clear h0 h1
                  go_quiet (first
                    | (go_at_call 83; first | with_reducible exact Calls.quiet_of_same (RA _) | with_reducible exact Calls.quiet_of_same (RB _) | with_reducible exact Calls.quiet_of_same (RC _))
                    | (go_at_call 84; exact Calls.quiet_of_same (RO _)))
                  have F3 := Lib.hid (F2.out.drewN nq)
                  clear a1 a2 a3 a4 a5 f0 f1 f2 f3 f5 f6
                  go_wp2
                  go_ret
                  exact ⟨by rw [HG.out]; simp [l0', l1'] <;> omega, F3.out.below⟩
          | false =>
            cases ok with
            | true =>
              go_enter Try.func48, Try.ntmps48
              go_wp2_with fail
              refine (NM.out _).mono ?_
              rintro e w1 ⟨rfl, hw⟩
              have F1 := Lib.hid (Fm.call hw F0.out)
              clear hw
              go_wp2
              have F2 := Lib.hid (F1.out.more (.cells (FCells ⟨fa, fb, fc, false, fi, fl, fm⟩).toArray 124))
              have l2 := F2.out.size; have h0 := F2.out.h0; have h1 := Has.new w1 (FCells ⟨fa, fb, fc, false, fi, fl, fm⟩) 124
              have a1 := h0.cell 1 _ rfl; have a2 := h0.cell 2 _ rfl; have a3 := h0.cell 3 _ rfl; have a4 := h0.cell 4 _ rfl; have a5 := h0.cell 5 _ rfl
              have f0 := h1.cell 0 _ rfl; have f1 := h1.cell 1 _ rfl; have f2 := h1.cell 2 _ rfl; have f3 := h1.cell 3 _ rfl; have f5 := h1.cell 5 _ rfl; have f6 := h1.cell 6 _ rfl
              clear h0 h1
              go_quiet (first
                | (go_at_call 83; first | with_reducible exact Calls.quiet_of_same (RA _) | with_reducible exact Calls.quiet_of_same (RB _) | with_reducible exact Calls.quiet_of_same (RC _))
                | (go_at_call 84; exact Calls.quiet_of_same (RO _)))
              have F3 := Lib.hid (F2.out.drewN nq)
              clear a1 a2 a3 a4 a5 f0 f1 f2 f3 f5 f6
              go_wp2
              go_ret
              exact ⟨by rw [HG.out]; simp <;> omega, F3.out.below⟩
            | false =>
              by_cases lo : op = 0
              · subst lo
                by_cases l0 : imm < fl
                · have l0' : ¬ fl ≤ imm := by omega
                  go_enter Try.func48, Try.ntmps48
                  go_wp2_with fail
                  refine (NM.out _).mono ?_
                  rintro e w1 ⟨rfl, hw⟩
                  have F1 := Lib.hid (Fm.call hw F0.out)
                  clear hw
                  go_wp2
                  have F2 := Lib.hid (F1.out.more (.cells (FCells ⟨fa, fb, fc, false, fi, fl, fm⟩).toArray 124))
                  have l2 := F2.out.size; have h0 := F2.out.h0; have h1 := Has.new w1 (FCells ⟨fa, fb, fc, false, fi, fl, fm⟩) 124
                  have a1 := h0.cell 1 _ rfl; have a2 := h0.cell 2 _ rfl; have a3 := h0.cell 3 _ rfl; have a4 := h0.cell 4 _ rfl; have a5 := h0.cell 5 _ rfl
                  have f0 := h1.cell 0 _ rfl; have f1 := h1.cell 1 _ rfl; have f2 := h1.cell 2 _ rfl; have f3 := h1.cell 3 _ rfl; have f5 := h1.cell 5 _ rfl; have f6 := h1.cell 6 _ rfl
                  clear h0 h1
                  go_quiet (first
                    | (go_at_call 83; first | with_reducible exact Calls.quiet_of_same (RA _) | with_reducible exact Calls.quiet_of_same (RB _) | with_reducible exact Calls.quiet_of_same (RC _))
                    | (go_at_call 84; exact Calls.quiet_of_same (RO _)))
                  have F3 := Lib.hid (F2.out.drewN nq)
                  clear a1 a2 a3 a4 a5 f0 f1 f2 f3 f5 f6
                  go_wp2
                  go_ret
                  exact ⟨by rw [HG.out]; simp [] <;> omega, F3.out.below⟩
                · have l0' : fl ≤ imm := by omega
                  by_cases l1 : imm > fm
                  · have l1' : ¬ imm ≤ fm := by omega
                    go_enter Try.func48, Try.ntmps48
                    go_wp2_with fail
                    refine (NM.out _).mono ?_
                    rintro e w1 ⟨rfl, hw⟩
                    have F1 := Lib.hid (Fm.call hw F0.out)
                    clear hw
                    go_wp2
                    have F2 := Lib.hid (F1.out.more (.cells (FCells ⟨fa, fb, fc, false, fi, fl, fm⟩).toArray 124))
                    have l2 := F2.out.size; have h0 := F2.out.h0; have h1 := Has.new w1 (FCells ⟨fa, fb, fc, false, fi, fl, fm⟩) 124
                    have a1 := h0.cell 1 _ rfl; have a2 := h0.cell 2 _ rfl; have a3 := h0.cell 3 _ rfl; have a4 := h0.cell 4 _ rfl; have a5 := h0.cell 5 _ rfl
                    have f0 := h1.cell 0 _ rfl; have f1 := h1.cell 1 _ rfl; have f2 := h1.cell 2 _ rfl; have f3 := h1.cell 3 _ rfl; have f5 := h1.cell 5 _ rfl; have f6 := h1.cell 6 _ rfl
                    clear h0 h1
                    go_quiet (first
                      | (go_at_call 83; first | with_reducible exact Calls.quiet_of_same (RA _) | with_reducible exact Calls.quiet_of_same (RB _) | with_reducible exact Calls.quiet_of_same (RC _))
                      | (go_at_call 84; exact Calls.quiet_of_same (RO _)))
                    have F3 := Lib.hid (F2.out.drewN nq)
                    clear a1 a2 a3 a4 a5 f0 f1 f2 f3 f5 f6
                    go_wp2
                    go_ret
                    exact ⟨by rw [HG.out]; simp [l0', l1'] <;> omega, F3.out.below⟩
                  · have l1' : imm ≤ fm := by omega
                    go_enter Try.func48, Try.ntmps48
                    go_wp2_with fail
                    refine (NM.out _).mono ?_
                    rintro e w1 ⟨rfl, hw⟩
                    have F1 := Lib.hid (Fm.call hw F0.out)
                    clear hw
                    go_wp2
                    have F2 := Lib.hid (F1.out.more (.cells (FCells ⟨fa, fb, fc, false, fi, fl, fm⟩).toArray 124))
                    have l2 := F2.out.size; have h0 := F2.out.h0; have h1 := Has.new w1 (FCells ⟨fa, fb, fc, false, fi, fl, fm⟩) 124
                    have a1 := h0.cell 1 _ rfl; have a2 := h0.cell 2 _ rfl; have a3 := h0.cell 3 _ rfl; have a4 := h0.cell 4 _ rfl; have a5 := h0.cell 5 _ rfl
                    have f0 := h1.cell 0 _ rfl; have f1 := h1.cell 1 _ rfl; have f2 := h1.cell 2 _ rfl; have f3 := h1.cell 3 _ rfl; have f5 := h1.cell 5 _ rfl; have f6 := h1.cell 6 _ rfl
                    clear h0 h1
                    go_quiet (first
                      | (go_at_call 83; first | with_reducible exact Calls.quiet_of_same (RA _) | with_reducible exact Calls.quiet_of_same (RB _) | with_reducible exact Calls.quiet_of_same (RC _))
                      | (go_at_call 84; exact Calls.quiet_of_same (RO _)))
                    have F3 := Lib.hid (F2.out.drewN nq)
                    clear a1 a2 a3 a4 a5 f0 f1 f2 f3 f5 f6
                    go_wp2
                    go_ret
                    exact ⟨by rw [HG.out]; simp [l0', l1'] <;> omega, F3.out.below⟩
              · have lo' : (op != 0) = true := by simpa using lo
                go_enter Try.func48, Try.ntmps48
                go_wp2_with fail
                refine (NM.out _).mono ?_
                rintro e w1 ⟨rfl, hw⟩
                have F1 := Lib.hid (Fm.call hw F0.out)
                clear hw
                go_wp2
                have F2 := Lib.hid (F1.out.more (.cells (FCells ⟨fa, fb, fc, false, fi, fl, fm⟩).toArray 124))
                have l2 := F2.out.size; have h0 := F2.out.h0; have h1 := Has.new w1 (FCells ⟨fa, fb, fc, false, fi, fl, fm⟩) 124
                have a1 := h0.cell 1 _ rfl; have a2 := h0.cell 2 _ rfl; have a3 := h0.cell 3 _ rfl; have a4 := h0.cell 4 _ rfl; have a5 := h0.cell 5 _ rfl
                have f0 := h1.cell 0 _ rfl; have f1 := h1.cell 1 _ rfl; have f2 := h1.cell 2 _ rfl; have f3 := h1.cell 3 _ rfl; have f5 := h1.cell 5 _ rfl; have f6 := h1.cell 6 _ rfl
                clear h0 h1
                go_quiet (first
                  | (go_at_call 83; first | with_reducible exact Calls.quiet_of_same (RA _) | with_reducible exact Calls.quiet_of_same (RB _) | with_reducible exact Calls.quiet_of_same (RC _))
                  | (go_at_call 84; exact Calls.quiet_of_same (RO _)))
                have F3 := Lib.hid (F2.out.drewN nq)
                clear a1 a2 a3 a4 a5 f0 f1 f2 f3 f5 f6
                go_wp2
                go_ret
                exact ⟨by rw [HG.out]; simp [lo] <;> omega, F3.out.below⟩
end Go.Proofs.Ytonbmijhbbodnaa
namespace Go.Proofs.Ytonbmijhbbodnaa
open Go.RowKit

theorem cell_set {w : World} {b o g k : Nat} {u v : Value} (hne : g ≠ b) (h : w.cell? ⟨b, o, none⟩ = some v) : (w.setCell ⟨g, k, none⟩ u).cell? ⟨b, o, none⟩ = some v :=
  (World.cell?_setCell_other w ⟨g, k, none⟩ ⟨b, o, none⟩ u (fun e => hne (by cases e; rfl))).trans h
theorem cell_alloc {w : World} {b o : Nat} {v : Value} {ob : Obj} (hb : b < w.heap.size) (h : w.cell? ⟨b, o, none⟩ = some v) : (w.alloc ob).cell? ⟨b, o, none⟩ = some v := (World.cell?_alloc_lt w ob ⟨b, o, none⟩ hb).trans h
theorem cell_drew {w : World} {p : Addr} {v : Value} (h : w.cell? p = some v) : w.drew.cell? p = some v := h
end Go.Proofs.Ytonbmijhbbodnaa
