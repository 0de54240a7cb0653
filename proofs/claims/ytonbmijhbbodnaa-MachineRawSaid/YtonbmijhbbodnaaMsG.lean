/-
  machine.Valid; word.Is; slices.ContainsFunc with it.
-/
import Derived.Laws.EntriesVeiled
import Derived.Test.YtonbmijhbbodnaaZMake
import Derived.Test.YtonbmijhbbodnaaZImG
import Derived.Test.YtonbmijhbbodnaaHeadr
namespace Go.Proofs.Ytonbmijhbbodnaa
open Go.RowKit

theorem wis_any (z : Int) (w : World) : Calls Try.prog 42 #[.int .i64 z] w fun e w' => e = .returned (.bool (wordB z)) ∧ w' = w := by
  by_cases h : -2147483648 ≤ z
  · go_enter Try.func42, Try.ntmps42
    go_wp2
    go_ret
    exact ⟨ret_b (by simp [wordB, h] <;> omega), rfl⟩
  · go_enter Try.func42, Try.ntmps42
    go_wp2
    go_ret
    exact ⟨ret_b (by simp [wordB] <;> omega), rfl⟩
theorem odd_any (z : Int) (w : World) : Calls Try.prog 41 #[.int .i64 z] w fun e w' => e = .returned (.bool (!wordB z)) ∧ w' = w := by
  go_enter Try.func41, Try.ntmps41
  go_wp2_with fail
  refine (wis_any z _).mono ?_
  rintro e w1 ⟨rfl, hw⟩
  subst hw
  go_wp2
  go_ret
  exact ⟨rfl, rfl⟩
abbrev ODD : Value := .func (.func 41) #[] #[]
set_option maxHeartbeats 4000000 in
theorem wfind_any (K : Nat → Prop) (a : Option Addr) (n c : Nat) (l : List Int) (w : World) (r : Ints K w a n c l) :
    Calls Try.prog 77 #[.slice a n c, ODD] w fun e w' => (∃ i : Int, e = .returned (.int .i64 i) ∧ (decide (0 ≤ i) = !wds l)) ∧ w' = w := by
  have R := Lib.hid r
  have hsz := r.hsz
  have hll := r.hlen
  clear r
  go_enter Try.func77, Try.ntmps77
  go_wp2
  go_loopw [8] (fun i wr => ∃ k : Nat, k ≤ n ∧ i = .int .i64 k ∧ wds (l.take k) = true ∧ w = wr) (fun i _ => n - (intOf i).toNat)
  case atStart => exact ⟨0, Nat.zero_le _, rfl, rfl, rfl⟩
  case round =>
    obtain ⟨k, hk, rfl, ha, hw⟩ := hrel
    subst hw
    have HA := Lib.hid ha
    clear ha
    by_cases hlt : k < n
    · obtain ⟨b, o, z, rfl, hz, hc, _, _, _, _⟩ := Ints.get R.out hlt
      have HZ := Lib.hid hz
      clear hz
      go_wp2_with fail
      refine (odd_any z _).mono ?_
      rintro e w' ⟨rfl, hw'⟩
      subst hw'
      cases hin : wordB z with
      | true =>
        have HI := Lib.hid (wds_take HZ.out HA.out hin)
        go_wp2
        go_roundw
        case rel => exact ⟨k + 1, by omega, by go_num, HI.out, trivial⟩
        case measure => simp [intOf]; omega
      | false =>
        have HI := Lib.hid (wds_no HZ.out hin)
        go_wp2
        go_ret
        exact ⟨⟨k, rfl, by rw [HI.out]; simp⟩, rfl⟩
    · have hkk : l.take k = l := List.take_of_length_le (by omega)
      rw [hkk] at HA
      go_wp2
      go_ret
      exact ⟨⟨-1, rfl, by rw [HA.out]; rfl⟩, rfl⟩
theorem wcont_any (K : Nat → Prop) (a : Option Addr) (n c : Nat) (l : List Int) (w : World) (r : Ints K w a n c l) :
    Calls Try.prog 43 #[.slice a n c, ODD] w fun e w' => e = .returned (.bool (!wds l)) ∧ w' = w := by
  have R := Lib.hid r
  clear r
  go_enter Try.func43, Try.ntmps43
  go_wp2_with fail
  refine (wfind_any K a n c l w R.out).mono ?_
  rintro e w1 ⟨⟨i, rfl, hi⟩, hw⟩
  subst hw
  go_wp2
  go_ret
  exact ⟨rfl, rfl⟩
set_option maxRecDepth 100000 in
set_option maxHeartbeats 8000000 in
theorem mvalid_any (K K2 : Nat → Prop) (ca : Option Addr) (cn cc : Nat) (D : Int) (ua : Option Addr) (un uc : Nat) (m : Img) (ra : Option Addr) (rn rc : Nat) (da : Option Addr) (dn dc : Nat) (ha : Option Addr) (hn hc : Nat) (c : Co) (w : World)
    (h : IsImg K w ca cn cc D ua un uc m) (g : IsCo K2 w ra rn rc da dn dc ha hn hc c) :
    Calls Try.prog 17 #[MV ca cn cc D ua un uc, CoV ra rn rc da dn dc ha hn hc c.pc c.ended] w (ORet (CoOk m c) w) := by
  obtain ⟨regs, data, held, pc, en⟩ := c
  have hcl := h.code.hlen; have hcs := h.code.hsz
  have hD := h.data
  have hrl := g.regs.hlen; have hrs := g.regs.hsz
  have hdl := g.data.hlen; have hds := g.data.hsz
  have hhl := g.held.hlen; have hhs := g.held.hsz
  have hpc := g.pc
  have hDI := h.dI
  rw [← hD] at hDI
  have hDI0 := hDI.1; have hDI1 := hDI.2
  have hpc0 := hpc.1; have hpc1 := hpc.2
  have HD := Lib.hid hD
  simp only [] at hrl hdl hhl hpc0 hpc1
  have F0 := Lib.hid (Fm.new (Fm.new (Fm.start Non w) rfl (MCells ca cn cc D ua un uc) 31) (by simp) (CoCells ra rn rc da dn dc ha hn hc pc en) 36)
  have G := Lib.hid (g.below F0.out.below)
  clear h g hD hpc hDI
  go_enter Try.func17, Try.ntmps17
  obtain ⟨w1, hw1⟩ : ∃ w1, w1 = (w.alloc (.cells (MCells ca cn cc D ua un uc).toArray 31)).alloc (.cells (CoCells ra rn rc da dn dc ha hn hc pc en).toArray 36) := ⟨_, rfl⟩
  have F1 := Lib.hid (show Fm Non w w1 [MCells ca cn cc D ua un uc, CoCells ra rn rc da dn dc ha hn hc pc en] by rw [hw1]; exact F0.out)
  have G1 := Lib.hid (show IsCo K2 w1 ra rn rc da dn dc ha hn hc ⟨regs, data, held, pc, en⟩ by rw [hw1]; exact G.out)
  go_upto_region 1 with fail
  have hw2 : (w.alloc (.cells #[.slice ca cn cc, .int .i64 D, NIL, .slice ua un uc] 31)).alloc (.cells #[.slice ra rn rc, .slice da dn dc, .slice ha hn hc, .int .i64 pc, .bool en] 36) = w1 := hw1.symm
  rw [hw2]
  clear hw1 hw2 F0 G
  have t0 := F1.out.h0; have t1 := F1.out.h1
  have m0 := t0.cell 0 _ rfl; have m1 := t0.cell 1 _ rfl
  have x0 := t1.cell 0 _ rfl; have x1 := t1.cell 1 _ rfl; have x2 := t1.cell 2 _ rfl; have x3 := t1.cell 3 _ rfl
  clear t0 t1
  obtain ⟨br, hbr⟩ : ∃ b, b = wds regs := ⟨_, rfl⟩
  obtain ⟨bd, hbd⟩ : ∃ b, b = wds data := ⟨_, rfl⟩
  have RW := Lib.hid (show Calls Try.prog 43 #[.slice ra rn rc, ODD] w1 fun e w' => e = .returned (.bool (!br)) ∧ w' = w1 by rw [hbr]; exact wcont_any K2 ra rn rc regs w1 G1.out.regs)
  have DW := Lib.hid (show Calls Try.prog 43 #[.slice da dn dc, ODD] w1 fun e w' => e = .returned (.bool (!bd)) ∧ w' = w1 by rw [hbd]; exact wcont_any K2 da dn dc data w1 G1.out.data)
  have HBR := Lib.hid hbr; have HBD := Lib.hid hbd
  clear hbr hbd
  by_cases d1 : rn = 8
  · subst d1
    obtain ⟨rb, ro, z, hra, hz, c0, _, _, _, _⟩ := Ints.get G1.out.regs (show 0 < 8 by omega)
    subst hra
    rw [Nat.add_zero] at c0
    have HZ := Lib.hid hz
    clear hz
    cases br with
    | true =>
      by_cases d2 : z = 0
      · subst d2
        by_cases d3 : (dn : Int) = D
        · have e3 : ((dn : Int) == D) = true := by simpa using d3
          have D3 := Lib.hid d3
          clear d3
          cases bd with
          | true =>
            by_cases d4 : hn = 4
            · subst d4
              by_cases d5 : 0 ≤ pc
              · by_cases d6 : pc < cn
                · have HY := Lib.hid (show CoOk m ⟨regs, data, held, pc, en⟩ from ⟨hrl, HBR.out.symm, HZ.out, by rw [← HD.out, ← D3.out, hdl], HBD.out.symm, hhl, d5, by rw [hcl]; exact d6⟩)
                  go_wp2_with (first | (go_at_call 43; first | (with_reducible refine RW.out.mono ?_; rintro e w' ⟨rfl, hw'⟩; subst hw') | (with_reducible refine DW.out.mono ?_; rintro e w' ⟨rfl, hw'⟩; subst hw')))
                  go_ret
                  exact ⟨true, rfl, ⟨(fun _ => HY.out), (fun _ => rfl)⟩, F1.out.below⟩
                · have HNO := Lib.hid (show ¬ CoOk m ⟨regs, data, held, pc, en⟩ from fun h => d6 (by have := h.pc1; rw [hcl] at this; exact this))
                  go_wp2_with (first | (go_at_call 43; first | (with_reducible refine RW.out.mono ?_; rintro e w' ⟨rfl, hw'⟩; subst hw') | (with_reducible refine DW.out.mono ?_; rintro e w' ⟨rfl, hw'⟩; subst hw')))
                  go_ret
                  exact ⟨decide (pc < (cn : Int)), rfl, ⟨(fun h => absurd (of_decide_eq_true h) (by omega)), (fun h => absurd h HNO.out)⟩, F1.out.below⟩
              · have HNO := Lib.hid (show ¬ CoOk m ⟨regs, data, held, pc, en⟩ from fun h => d5 h.pc0)
                go_wp2_with (first | (go_at_call 43; first | (with_reducible refine RW.out.mono ?_; rintro e w' ⟨rfl, hw'⟩; subst hw') | (with_reducible refine DW.out.mono ?_; rintro e w' ⟨rfl, hw'⟩; subst hw')))
                go_ret
                exact ⟨false, rfl, ⟨(fun h => by cases h), (fun h => absurd h HNO.out)⟩, F1.out.below⟩
            · have e4 : ((hn : Int) == 4) = false := by simp; omega
              have HNO := Lib.hid (show ¬ CoOk m ⟨regs, data, held, pc, en⟩ from fun h => d4 (by rw [← hhl]; exact h.held))
              go_wp2_with (first | (go_at_call 43; first | (with_reducible refine RW.out.mono ?_; rintro e w' ⟨rfl, hw'⟩; subst hw') | (with_reducible refine DW.out.mono ?_; rintro e w' ⟨rfl, hw'⟩; subst hw')))
              go_ret
              exact ⟨false, rfl, ⟨(fun h => by cases h), (fun h => absurd h HNO.out)⟩, F1.out.below⟩
          | false =>
            have HNO := Lib.hid (show ¬ CoOk m ⟨regs, data, held, pc, en⟩ from fun h => by have := HBD.out; rw [h.dwords] at this; cases this)
            go_wp2_with (first | (go_at_call 43; first | (with_reducible refine RW.out.mono ?_; rintro e w' ⟨rfl, hw'⟩; subst hw') | (with_reducible refine DW.out.mono ?_; rintro e w' ⟨rfl, hw'⟩; subst hw')))
            go_ret
            exact ⟨false, rfl, ⟨(fun h => by cases h), (fun h => absurd h HNO.out)⟩, F1.out.below⟩
        · have e3 : ((dn : Int) == D) = false := by simpa using d3
          have HNO := Lib.hid (show ¬ CoOk m ⟨regs, data, held, pc, en⟩ from fun h => d3 (by have := h.data; rw [← HD.out] at this; rw [← this, ← hdl]))
          go_wp2_with (first | (go_at_call 43; first | (with_reducible refine RW.out.mono ?_; rintro e w' ⟨rfl, hw'⟩; subst hw') | (with_reducible refine DW.out.mono ?_; rintro e w' ⟨rfl, hw'⟩; subst hw')))
          go_ret
          exact ⟨false, rfl, ⟨(fun h => by cases h), (fun h => absurd h HNO.out)⟩, F1.out.below⟩
      · have e2 : (z == 0) = false := by simpa using d2
        have HNO := Lib.hid (show ¬ CoOk m ⟨regs, data, held, pc, en⟩ from fun h => d2 (by have := h.zero; rw [HZ.out] at this; exact Option.some.inj this))
        go_wp2_with (first | (go_at_call 43; first | (with_reducible refine RW.out.mono ?_; rintro e w' ⟨rfl, hw'⟩; subst hw') | (with_reducible refine DW.out.mono ?_; rintro e w' ⟨rfl, hw'⟩; subst hw')))
        go_ret
        exact ⟨false, rfl, ⟨(fun h => by cases h), (fun h => absurd h HNO.out)⟩, F1.out.below⟩
    | false =>
      have HNO := Lib.hid (show ¬ CoOk m ⟨regs, data, held, pc, en⟩ from fun h => by have := HBR.out; rw [h.words] at this; cases this)
      by_cases d2 : z = 0
      · subst d2
        go_wp2_with (first | (go_at_call 43; first | (with_reducible refine RW.out.mono ?_; rintro e w' ⟨rfl, hw'⟩; subst hw') | (with_reducible refine DW.out.mono ?_; rintro e w' ⟨rfl, hw'⟩; subst hw')))
        go_ret
        exact ⟨false, rfl, ⟨(fun h => by cases h), (fun h => absurd h HNO.out)⟩, F1.out.below⟩
      · have e2 : (z == 0) = false := by simpa using d2
        go_wp2_with (first | (go_at_call 43; first | (with_reducible refine RW.out.mono ?_; rintro e w' ⟨rfl, hw'⟩; subst hw') | (with_reducible refine DW.out.mono ?_; rintro e w' ⟨rfl, hw'⟩; subst hw')))
        go_ret
        exact ⟨false, rfl, ⟨(fun h => by cases h), (fun h => absurd h HNO.out)⟩, F1.out.below⟩
  · have e1 : ((rn : Int) == 8) = false := by simp; omega
    have HNO := Lib.hid (show ¬ CoOk m ⟨regs, data, held, pc, en⟩ from fun h => d1 (by rw [← hrl]; exact h.regs))
    go_wp2_with (first | (go_at_call 43; first | (with_reducible refine RW.out.mono ?_; rintro e w' ⟨rfl, hw'⟩; subst hw') | (with_reducible refine DW.out.mono ?_; rintro e w' ⟨rfl, hw'⟩; subst hw')))
    go_ret
    exact ⟨false, rfl, ⟨(fun h => by cases h), (fun h => absurd h HNO.out)⟩, F1.out.below⟩
end Go.Proofs.Ytonbmijhbbodnaa
