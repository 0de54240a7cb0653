/-
  Instructions: what a right one is (plain), and the small functions of the packages instr, word and of the document: named, register, Known, in, Word, Wrap.
  instr.Check: the first error of an instruction.
  Two instructions compared.
  A cell that is kept by a store elsewhere, or by a new block: small laws.
-/
import Derived.Deep.QuietTactic
import Derived.BigQuiet
import Derived.Lib.Hide
import Derived.Test.YtonbmijhbbodnaaMem
import Derived.Test.YtonbmijhbbodnaaRows
namespace Go.Proofs.Ytonbmijhbbodnaa
open Go.RowKit

theorem ret_b {a b : Bool} (h : a = b) : Ending.returned (.bool a) = .returned (.bool b) := by rw [h]
/-- An instruction. -/
structure Ins where
  k : Int
  a : Int
  b : Int
  c : Int
  op : Int
  imm : Int
deriving DecidableEq
def I64 (z : Int) : Prop := -9223372036854775808 ≤ z ∧ z ≤ 9223372036854775807
structure Ins.In (x : Ins) : Prop where
  k : I64 x.k
  a : I64 x.a
  b : I64 x.b
  c : I64 x.c
  op : I64 x.op
  imm : I64 x.imm
abbrev IV (x : Ins) : Value := .agg #[.int .i64 x.k, .int .i64 x.a, .int .i64 x.b, .int .i64 x.c, .int .i64 x.op, .int .i64 x.imm]
abbrev ICells (x : Ins) : List Value := [.int .i64 x.k, .int .i64 x.a, .int .i64 x.b, .int .i64 x.c, .int .i64 x.op, .int .i64 x.imm]

/-- The fields that a kind names, and what Imm is between. -/
structure Fld where
  a : Bool
  b : Bool
  c : Bool
  op : Bool
  imm : Bool
  least : Int
  most : Int
def kn (k : Int) : Bool := decide (0 ≤ k) && decide (k ≤ 10)
def fldOf (k : Int) : Fld :=
  if k = 1 then ⟨true, false, false, false, true, -2147483648, 2147483647⟩ else
  if k = 2 then ⟨true, true, false, false, false, 0, 0⟩ else
  if k = 3 then ⟨true, true, true, true, false, 0, 0⟩ else
  if k = 4 ∨ k = 5 then ⟨true, true, false, false, true, 0, 1023⟩ else
  if k = 6 then ⟨false, false, false, false, true, 0, 1023⟩ else
  if k = 7 then ⟨true, false, false, false, true, 0, 1023⟩ else
  if k = 8 ∨ k = 9 then ⟨false, false, false, false, true, 0, 3⟩ else
  ⟨false, false, false, false, false, 0, 0⟩
abbrev FV (f : Fld) : Value := .agg #[.bool f.a, .bool f.b, .bool f.c, .bool f.op, .bool f.imm, .int .i64 f.least, .int .i64 f.most]
abbrev FCells (f : Fld) : List Value := [.bool f.a, .bool f.b, .bool f.c, .bool f.op, .bool f.imm, .int .i64 f.least, .int .i64 f.most]
def regB (n : Bool) (z : Int) : Bool := z == 0 || (n && decide (0 < z) && decide (z < 8))
def opB (z : Int) : Bool := decide (1 ≤ z) && decide (z ≤ 14)
def goodI (f : Fld) (x : Ins) : Bool := regB f.a x.a && regB f.b x.b && regB f.c x.c && (f.op == opB x.op) && (f.op || x.op == 0) && decide (f.least ≤ x.imm) && decide (x.imm ≤ f.most)
def chkI (x : Ins) : Int := if kn x.k then (if goodI (fldOf x.k) x then 0 else 10) else 6

theorem kn_cases {k : Int} (h : kn k = true) : k = 0 ∨ k = 1 ∨ k = 2 ∨ k = 3 ∨ k = 4 ∨ k = 5 ∨ k = 6 ∨ k = 7 ∨ k = 8 ∨ k = 9 ∨ k = 10 := by
  simp [kn] at h
  omega

def NamedRet (k : Int) (w : World) (e : Ending) (w' : World) : Prop := e = .returned (.tuple #[FV (fldOf k), .bool (kn k)]) ∧ Below w.heap.size w w'
set_option maxHeartbeats 4000000 in
theorem named_any (k : Int) (w : World) : Calls Try.prog 82 #[.int .i64 k] w (NamedRet k w) := by
  by_cases h : kn k = true
  · rcases kn_cases h with rfl | rfl | rfl | rfl | rfl | rfl | rfl | rfl | rfl | rfl | rfl
    all_goals
      clear h
      go_enter Try.func82, Try.ntmps82
      go_wp2
      exact bodyPost_ret (by simp [results, Try.results82, go_sem, fldOf, kn]) rfl ⟨rfl, (Below.refl _ _).alloc (Nat.le_refl _) _⟩
  · have hk : fldOf k = ⟨false, false, false, false, false, 0, 0⟩ := by
      simp [kn] at h
      unfold fldOf
      repeat (rw [if_neg (by omega)])
    have h' : kn k = false := by simpa using h
    simp [kn] at h
    have n0 : (k == 0) = false := by simp; omega
    have n1 : (k == 1) = false := by simp; omega
    have n2 : (k == 2) = false := by simp; omega
    have n3 : (k == 3) = false := by simp; omega
    have n4 : (k == 4) = false := by simp; omega
    have n5 : (k == 5) = false := by simp; omega
    have n6 : (k == 6) = false := by simp; omega
    have n7 : (k == 7) = false := by simp; omega
    have n8 : (k == 8) = false := by simp; omega
    have n9 : (k == 9) = false := by simp; omega
    have n10 : (k == 10) = false := by simp; omega
    clear h
    unfold NamedRet
    rw [hk, h']
    clear hk h'
    go_enter Try.func82, Try.ntmps82
    go_wp2
    exact bodyPost_ret (by simp [results, Try.results82, go_sem]) rfl ⟨rfl, (Below.refl _ _).alloc (Nat.le_refl _) _⟩

theorem register_any (n : Bool) (z : Int) (w : World) : Calls Try.prog 83 #[.bool n, .int .i64 z] w fun e w' => e = .returned (.bool (regB n z)) ∧ w' = w := by
  by_cases h : z = 0
  · subst h
    go_enter Try.func83, Try.ntmps83
    go_wp2
    go_ret
    exact ⟨ret_b (by simp [regB]), rfl⟩
  · have h0 : (z == 0) = false := by simpa using h
    cases n with
    | false =>
      go_enter Try.func83, Try.ntmps83
      go_wp2
      go_ret
      exact ⟨ret_b (by simp [regB, h]), rfl⟩
    | true =>
      by_cases h1 : 0 < z
      · go_enter Try.func83, Try.ntmps83
        go_wp2
        go_ret
        exact ⟨ret_b (by simp [regB, h, h1] <;> omega), rfl⟩
      · go_enter Try.func83, Try.ntmps83
        go_wp2
        go_ret
        exact ⟨ret_b (by simp [regB, h] <;> omega), rfl⟩
theorem known_any (z : Int) (w : World) : Calls Try.prog 84 #[.int .i64 z] w fun e w' => e = .returned (.bool (opB z)) ∧ w' = w := by
  by_cases h : 1 ≤ z
  · go_enter Try.func84, Try.ntmps84
    go_wp2
    go_ret
    exact ⟨ret_b (by simp [opB, h] <;> omega), rfl⟩
  · go_enter Try.func84, Try.ntmps84
    go_wp2
    go_ret
    exact ⟨ret_b (by simp [opB] <;> omega), rfl⟩
theorem rknown_any (z : Int) (w : World) : Calls Try.prog 80 #[.int .i64 z] w fun e w' => e = .returned (.bool (opB z)) ∧ w' = w := by
  by_cases h : 1 ≤ z
  · go_enter Try.func80, Try.ntmps80
    go_wp2
    go_ret
    exact ⟨ret_b (by simp [opB, h] <;> omega), rfl⟩
  · go_enter Try.func80, Try.ntmps80
    go_wp2
    go_ret
    exact ⟨ret_b (by simp [opB] <;> omega), rfl⟩
def inB (z n : Int) : Bool := decide (0 ≤ z) && decide (z < n)
def wordB (z : Int) : Bool := decide (-2147483648 ≤ z) && decide (z < 2147483648)
theorem in_any (z n : Int) (w : World) : Calls Try.prog 79 #[.int .i64 z, .int .i64 n] w fun e w' => e = .returned (.bool (inB z n)) ∧ w' = w := by
  by_cases h : 0 ≤ z
  · go_enter Try.func79, Try.ntmps79
    go_wp2
    go_ret
    exact ⟨ret_b (by simp [inB, h] <;> omega), rfl⟩
  · go_enter Try.func79, Try.ntmps79
    go_wp2
    go_ret
    exact ⟨ret_b (by simp [inB] <;> omega), rfl⟩
theorem word_any (z : Int) (w : World) : Calls Try.prog 78 #[.int .i64 z] w fun e w' => e = .returned (.bool (wordB z)) ∧ w' = w := by
  by_cases h : -2147483648 ≤ z
  · go_enter Try.func78, Try.ntmps78
    go_wp2
    go_ret
    exact ⟨ret_b (by simp [wordB, h] <;> omega), rfl⟩
  · go_enter Try.func78, Try.ntmps78
    go_wp2
    go_ret
    exact ⟨ret_b (by simp [wordB] <;> omega), rfl⟩

def ChkRet (x : Ins) (w : World) (e : Ending) (w' : World) : Prop := e = .returned (.int .i64 (chkI x)) ∧ Below w.heap.size w w'
abbrev CallB (P : Program) (f : FuncId) (l : Array Value) (b : Bool) : Prop := ∀ w : World, Calls P f l w fun e w' => e = .returned (.bool b) ∧ w' = w
set_option maxRecDepth 100000 in
set_option maxHeartbeats 8000000 in
theorem check_any (x : Ins) (w : World) : Calls Try.prog 48 #[IV x] w (ChkRet x w) := by
  obtain ⟨k, a, b, c, op, imm⟩ := x
  have F0 := Lib.hid (Fm.new (Fm.start Non w) rfl (ICells ⟨k, a, b, c, op, imm⟩) 50)
  have NM := Lib.hid (named_any k)
  unfold NamedRet at NM
  obtain ⟨f, hf⟩ : ∃ f, f = fldOf k := ⟨_, rfl⟩
  obtain ⟨r, hr⟩ : ∃ r, r = kn k := ⟨_, rfl⟩
  have HC := Lib.hid (show chkI ⟨k, a, b, c, op, imm⟩ = if r then (if goodI f ⟨k, a, b, c, op, imm⟩ then 0 else 10) else 6 by rw [hf, hr]; rfl)
  rw [← hf, ← hr] at NM
  clear hf hr
  obtain ⟨fa, fb, fc, fo, fi, fl, fm⟩ := f
  cases r with
  | false =>
    go_enter Try.func48, Try.ntmps48
    go_wp2_with fail
    refine (NM.out _).mono ?_
    rintro e w1 ⟨rfl, hw⟩
    have F1 := Lib.hid (Fm.call hw F0.out)
    clear hw
    go_wp2
    go_ret
    exact ⟨by rw [HC.out]; rfl, (F1.out.more _).below⟩
  | true =>
    obtain ⟨ra, hra⟩ : ∃ r, r = regB fa a := ⟨_, rfl⟩
    obtain ⟨rb, hrb⟩ : ∃ r, r = regB fb b := ⟨_, rfl⟩
    obtain ⟨rc, hrc⟩ : ∃ r, r = regB fc c := ⟨_, rfl⟩
    obtain ⟨ok, hok⟩ : ∃ r, r = opB op := ⟨_, rfl⟩
    have RA : CallB Try.prog 83 #[.bool fa, .int .i64 a] ra := fun w => by rw [hra]; exact register_any fa a w
    have RB : CallB Try.prog 83 #[.bool fb, .int .i64 b] rb := fun w => by rw [hrb]; exact register_any fb b w
    have RC : CallB Try.prog 83 #[.bool fc, .int .i64 c] rc := fun w => by rw [hrc]; exact register_any fc c w
    have RO : CallB Try.prog 84 #[.int .i64 op] ok := fun w => by rw [hok]; exact known_any op w
    have HG := Lib.hid (show chkI ⟨k, a, b, c, op, imm⟩ = if (ra && rb && rc && (fo == ok) && (fo || op == 0) && decide (fl ≤ imm) && decide (imm ≤ fm)) then 0 else 10 by
      rw [HC.out, hra, hrb, hrc, hok]; rfl)
    clear HC hra hrb hrc hok
    cases ra with
    | false =>
      go_enter Try.func48, Try.ntmps48
      go_wp2_with fail
      refine (NM.out _).mono ?_
      rintro e w1 ⟨rfl, hw⟩
      have F1 := Lib.hid (Fm.call hw F0.out)
      clear hw
      go_wp2
      have F2 := Lib.hid (F1.out.more (.cells (FCells ⟨fa, fb, fc, fo, fi, fl, fm⟩).toArray 124))
      have l2 := F2.out.size; have h0 := F2.out.h0; have h1 := Has.new w1 (FCells ⟨fa, fb, fc, fo, fi, fl, fm⟩) 124
      have a1 := h0.cell 1 _ rfl; have a2 := h0.cell 2 _ rfl; have a3 := h0.cell 3 _ rfl; have a4 := h0.cell 4 _ rfl; have a5 := h0.cell 5 _ rfl
      have f0 := h1.cell 0 _ rfl; have f1 := h1.cell 1 _ rfl; have f2 := h1.cell 2 _ rfl; have f3 := h1.cell 3 _ rfl; have f5 := h1.cell 5 _ rfl; have f6 := h1.cell 6 _ rfl
      clear h0 h1
      go_quiet (first
        | (go_at_call 83; first | with_reducible exact Calls.quiet_of_same (RA _) | with_reducible exact Calls.quiet_of_same (RB _) | with_reducible exact Calls.quiet_of_same (RC _))
        | (go_at_call 84; exact Calls.quiet_of_same (RO _)))
      have F3 := Lib.hid (F2.out.drewN nq)
      clear a1 a2 a3 a4 a5 f0 f1 f2 f3 f5 f6
      go_wp2
      go_ret
      exact ⟨by rw [HG.out]; simp <;> omega, F3.out.below⟩
    | true =>
      cases rb with
      | false =>
        go_enter Try.func48, Try.ntmps48
        go_wp2_with fail
        refine (NM.out _).mono ?_
        rintro e w1 ⟨rfl, hw⟩
        have F1 := Lib.hid (Fm.call hw F0.out)
        clear hw
        go_wp2
        have F2 := Lib.hid (F1.out.more (.cells (FCells ⟨fa, fb, fc, fo, fi, fl, fm⟩).toArray 124))
        have l2 := F2.out.size; have h0 := F2.out.h0; have h1 := Has.new w1 (FCells ⟨fa, fb, fc, fo, fi, fl, fm⟩) 124
        have a1 := h0.cell 1 _ rfl; have a2 := h0.cell 2 _ rfl; have a3 := h0.cell 3 _ rfl; have a4 := h0.cell 4 _ rfl; have a5 := h0.cell 5 _ rfl
        have f0 := h1.cell 0 _ rfl; have f1 := h1.cell 1 _ rfl; have f2 := h1.cell 2 _ rfl; have f3 := h1.cell 3 _ rfl; have f5 := h1.cell 5 _ rfl; have f6 := h1.cell 6 _ rfl
        clear h0 h1
        go_quiet (first
          | (go_at_call 83; first | with_reducible exact Calls.quiet_of_same (RA _) | with_reducible exact Calls.quiet_of_same (RB _) | with_reducible exact Calls.quiet_of_same (RC _))
          | (go_at_call 84; exact Calls.quiet_of_same (RO _)))
        have F3 := Lib.hid (F2.out.drewN nq)
        clear a1 a2 a3 a4 a5 f0 f1 f2 f3 f5 f6
        go_wp2
        go_ret
        exact ⟨by rw [HG.out]; simp <;> omega, F3.out.below⟩
      | true =>
        cases rc with
        | false =>
          go_enter Try.func48, Try.ntmps48
          go_wp2_with fail
          refine (NM.out _).mono ?_
          rintro e w1 ⟨rfl, hw⟩
          have F1 := Lib.hid (Fm.call hw F0.out)
          clear hw
          go_wp2
          have F2 := Lib.hid (F1.out.more (.cells (FCells ⟨fa, fb, fc, fo, fi, fl, fm⟩).toArray 124))
          have l2 := F2.out.size; have h0 := F2.out.h0; have h1 := Has.new w1 (FCells ⟨fa, fb, fc, fo, fi, fl, fm⟩) 124
          have a1 := h0.cell 1 _ rfl; have a2 := h0.cell 2 _ rfl; have a3 := h0.cell 3 _ rfl; have a4 := h0.cell 4 _ rfl; have a5 := h0.cell 5 _ rfl
          have f0 := h1.cell 0 _ rfl; have f1 := h1.cell 1 _ rfl; have f2 := h1.cell 2 _ rfl; have f3 := h1.cell 3 _ rfl; have f5 := h1.cell 5 _ rfl; have f6 := h1.cell 6 _ rfl
          clear h0 h1
          go_quiet (first
            | (go_at_call 83; first | with_reducible exact Calls.quiet_of_same (RA _) | with_reducible exact Calls.quiet_of_same (RB _) | with_reducible exact Calls.quiet_of_same (RC _))
            | (go_at_call 84; exact Calls.quiet_of_same (RO _)))
          have F3 := Lib.hid (F2.out.drewN nq)
          clear a1 a2 a3 a4 a5 f0 f1 f2 f3 f5 f6
          go_wp2
          go_ret
          exact ⟨by rw [HG.out]; simp <;> omega, F3.out.below⟩
        | true =>
          cases fo with
          | true =>
            cases ok with
            | false =>
              go_enter Try.func48, Try.ntmps48
              go_wp2_with fail
              refine (NM.out _).mono ?_
              rintro e w1 ⟨rfl, hw⟩
              have F1 := Lib.hid (Fm.call hw F0.out)
              clear hw
              go_wp2
              have F2 := Lib.hid (F1.out.more (.cells (FCells ⟨fa, fb, fc, true, fi, fl, fm⟩).toArray 124))
              have l2 := F2.out.size; have h0 := F2.out.h0; have h1 := Has.new w1 (FCells ⟨fa, fb, fc, true, fi, fl, fm⟩) 124
              have a1 := h0.cell 1 _ rfl; have a2 := h0.cell 2 _ rfl; have a3 := h0.cell 3 _ rfl; have a4 := h0.cell 4 _ rfl; have a5 := h0.cell 5 _ rfl
              have f0 := h1.cell 0 _ rfl; have f1 := h1.cell 1 _ rfl; have f2 := h1.cell 2 _ rfl; have f3 := h1.cell 3 _ rfl; have f5 := h1.cell 5 _ rfl; have f6 := h1.cell 6 _ rfl
              clear h0 h1
              go_quiet (first
                | (go_at_call 83; first | with_reducible exact Calls.quiet_of_same (RA _) | with_reducible exact Calls.quiet_of_same (RB _) | with_reducible exact Calls.quiet_of_same (RC _))
                | (go_at_call 84; exact Calls.quiet_of_same (RO _)))
              have F3 := Lib.hid (F2.out.drewN nq)
              clear a1 a2 a3 a4 a5 f0 f1 f2 f3 f5 f6
              go_wp2
              go_ret
              exact ⟨by rw [HG.out]; simp <;> omega, F3.out.below⟩
            | true =>
              by_cases l0 : imm < fl
              · have l0' : ¬ fl ≤ imm := by omega
                go_enter Try.func48, Try.ntmps48
                go_wp2_with fail
                refine (NM.out _).mono ?_
                rintro e w1 ⟨rfl, hw⟩
                have F1 := Lib.hid (Fm.call hw F0.out)
                clear hw
                go_wp2
                have F2 := Lib.hid (F1.out.more (.cells (FCells ⟨fa, fb, fc, true, fi, fl, fm⟩).toArray 124))
                have l2 := F2.out.size; have h0 := F2.out.h0; have h1 := Has.new w1 (FCells ⟨fa, fb, fc, true, fi, fl, fm⟩) 124
                have a1 := h0.cell 1 _ rfl; have a2 := h0.cell 2 _ rfl; have a3 := h0.cell 3 _ rfl; have a4 := h0.cell 4 _ rfl; have a5 := h0.cell 5 _ rfl
                have f0 := h1.cell 0 _ rfl; have f1 := h1.cell 1 _ rfl; have f2 := h1.cell 2 _ rfl; have f3 := h1.cell 3 _ rfl; have f5 := h1.cell 5 _ rfl; have f6 := h1.cell 6 _ rfl
                clear h0 h1
                go_quiet (first
                  | (go_at_call 83; first | with_reducible exact Calls.quiet_of_same (RA _) | with_reducible exact Calls.quiet_of_same (RB _) | with_reducible exact Calls.quiet_of_same (RC _))
                  | (go_at_call 84; exact Calls.quiet_of_same (RO _)))
                have F3 := Lib.hid (F2.out.drewN nq)
                clear a1 a2 a3 a4 a5 f0 f1 f2 f3 f5 f6
                go_wp2
                go_ret
                exact ⟨by rw [HG.out]; simp [] <;> omega, F3.out.below⟩
              · have l0' : fl ≤ imm := by omega
                by_cases l1 : imm > fm
                · have l1' : ¬ imm ≤ fm := by omega
                  go_enter Try.func48, Try.ntmps48
                  go_wp2_with fail
                  refine (NM.out _).mono ?_
                  rintro e w1 ⟨rfl, hw⟩
                  have F1 := Lib.hid (Fm.call hw F0.out)
                  clear hw
                  go_wp2
                  have F2 := Lib.hid (F1.out.more (.cells (FCells ⟨fa, fb, fc, true, fi, fl, fm⟩).toArray 124))
                  have l2 := F2.out.size; have h0 := F2.out.h0; have h1 := Has.new w1 (FCells ⟨fa, fb, fc, true, fi, fl, fm⟩) 124
                  have a1 := h0.cell 1 _ rfl; have a2 := h0.cell 2 _ rfl; have a3 := h0.cell 3 _ rfl; have a4 := h0.cell 4 _ rfl; have a5 := h0.cell 5 _ rfl
                  have f0 := h1.cell 0 _ rfl; have f1 := h1.cell 1 _ rfl; have f2 := h1.cell 2 _ rfl; have f3 := h1.cell 3 _ rfl; have f5 := h1.cell 5 _ rfl; have f6 := h1.cell 6 _ rfl
                  clear h0 h1
                  go_quiet (first
                    | (go_at_call 83; first | with_reducible exact Calls.quiet_of_same (RA _) | with_reducible exact Calls.quiet_of_same (RB _) | with_reducible exact Calls.quiet_of_same (RC _))
                    | (go_at_call 84; exact Calls.quiet_of_same (RO _)))
                  have F3 := Lib.hid (F2.out.drewN nq)
                  clear a1 a2 a3 a4 a5 f0 f1 f2 f3 f5 f6
                  go_wp2
                  go_ret
                  exact ⟨by rw [HG.out]; simp [l0', l1'] <;> omega, F3.out.below⟩
                · have l1' : imm ≤ fm := by omega
                  go_enter Try.func48, Try.ntmps48
                  go_wp2_with fail
                  refine (NM.out _).mono ?_
                  rintro e w1 ⟨rfl, hw⟩
                  have F1 := Lib.hid (Fm.call hw F0.out)
                  clear hw
                  go_wp2
                  have F2 := Lib.hid (F1.out.more (.cells (FCells ⟨fa, fb, fc, true, fi, fl, fm⟩).toArray 124))
                  have l2 := F2.out.size; have h0 := F2.out.h0; have h1 := Has.new w1 (FCells ⟨fa, fb, fc, true, fi, fl, fm⟩) 124
                  have a1 := h0.cell 1 _ rfl; have a2 := h0.cell 2 _ rfl; have a3 := h0.cell 3 _ rfl; have a4 := h0.cell 4 _ rfl; have a5 := h0.cell 5 _ rfl
                  have f0 := h1.cell 0 _ rfl; have f1 := h1.cell 1 _ rfl; have f2 := h1.cell 2 _ rfl; have f3 := h1.cell 3 _ rfl; have f5 := h1.cell 5 _ rfl; have f6 := h1.cell 6 _ rfl
                  clear h0 h1
                  go_quiet (first
                    | (go_at_call 83; first | with_reducible exact Calls.quiet_of_same (RA _) | with_reducible exact Calls.quiet_of_same (RB _) | with_reducible exact Calls.quiet_of_same (RC _))
                    | (go_at_call 84; exact Calls.quiet_of_same (RO _)))
                  have F3 := Lib.hid (F2.out.drewN nq)
                  clear a1 a2 a3 a4 a5 f0 f1 f2 f3 f5 f6
                  go_wp2
                  go_ret
                  exact ⟨by rw [HG.out]; simp [l0', l1'] <;> omega, F3.out.below⟩
          | false =>
            cases ok with
            | true =>
              go_enter Try.func48, Try.ntmps48
              go_wp2_with fail
              refine (NM.out _).mono ?_
              rintro e w1 ⟨rfl, hw⟩
              have F1 := Lib.hid (Fm.call hw F0.out)
              clear hw
              go_wp2
              have F2 := Lib.hid (F1.out.more (.cells (FCells ⟨fa, fb, fc, false, fi, fl, fm⟩).toArray 124))
              have l2 := F2.out.size; have h0 := F2.out.h0; have h1 := Has.new w1 (FCells ⟨fa, fb, fc, false, fi, fl, fm⟩) 124
              have a1 := h0.cell 1 _ rfl; have a2 := h0.cell 2 _ rfl; have a3 := h0.cell 3 _ rfl; have a4 := h0.cell 4 _ rfl; have a5 := h0.cell 5 _ rfl
              have f0 := h1.cell 0 _ rfl; have f1 := h1.cell 1 _ rfl; have f2 := h1.cell 2 _ rfl; have f3 := h1.cell 3 _ rfl; have f5 := h1.cell 5 _ rfl; have f6 := h1.cell 6 _ rfl
              clear h0 h1
              go_quiet (first
                | (go_at_call 83; first | with_reducible exact Calls.quiet_of_same (RA _) | with_reducible exact Calls.quiet_of_same (RB _) | with_reducible exact Calls.quiet_of_same (RC _))
                | (go_at_call 84; exact Calls.quiet_of_same (RO _)))
              have F3 := Lib.hid (F2.out.drewN nq)
              clear a1 a2 a3 a4 a5 f0 f1 f2 f3 f5 f6
              go_wp2
              go_ret
              exact ⟨by rw [HG.out]; simp <;> omega, F3.out.below⟩
            | false =>
              by_cases lo : op = 0
              · subst lo
                by_cases l0 : imm < fl
                · have l0' : ¬ fl ≤ imm := by omega
                  go_enter Try.func48, Try.ntmps48
                  go_wp2_with fail
                  refine (NM.out _).mono ?_
                  rintro e w1 ⟨rfl, hw⟩
                  have F1 := Lib.hid (Fm.call hw F0.out)
                  clear hw
                  go_wp2
                  have F2 := Lib.hid (F1.out.more (.cells (FCells ⟨fa, fb, fc, false, fi, fl, fm⟩).toArray 124))
                  have l2 := F2.out.size; have h0 := F2.out.h0; have h1 := Has.new w1 (FCells ⟨fa, fb, fc, false, fi, fl, fm⟩) 124
                  have a1 := h0.cell 1 _ rfl; have a2 := h0.cell 2 _ rfl; have a3 := h0.cell 3 _ rfl; have a4 := h0.cell 4 _ rfl; have a5 := h0.cell 5 _ rfl
                  have f0 := h1.cell 0 _ rfl; have f1 := h1.cell 1 _ rfl; have f2 := h1.cell 2 _ rfl; have f3 := h1.cell 3 _ rfl; have f5 := h1.cell 5 _ rfl; have f6 := h1.cell 6 _ rfl
                  clear h0 h1
                  go_quiet (first
                    | (go_at_call 83; first | with_reducible exact Calls.quiet_of_same (RA _) | with_reducible exact Calls.quiet_of_same (RB _) | with_reducible exact Calls.quiet_of_same (RC _))
                    | (go_at_call 84; exact Calls.quiet_of_same (RO _)))
                  have F3 := Lib.hid (F2.out.drewN nq)
                  clear a1 a2 a3 a4 a5 f0 f1 f2 f3 f5 f6
                  go_wp2
                  go_ret
                  exact ⟨by rw [HG.out]; simp [] <;> omega, F3.out.below⟩
                · have l0' : fl ≤ imm := by omega
                  by_cases l1 : imm > fm
                  · have l1' : ¬ imm ≤ fm := by omega
                    go_enter Try.func48, Try.ntmps48
                    go_wp2_with fail
                    refine (NM.out _).mono ?_
                    rintro e w1 ⟨rfl, hw⟩
                    have F1 := Lib.hid (Fm.call hw F0.out)
                    clear hw
                    go_wp2
                    have F2 := Lib.hid (F1.out.more (.cells (FCells ⟨fa, fb, fc, false, fi, fl, fm⟩).toArray 124))
                    have l2 := F2.out.size; have h0 := F2.out.h0; have h1 := Has.new w1 (FCells ⟨fa, fb, fc, false, fi, fl, fm⟩) 124
                    have a1 := h0.cell 1 _ rfl; have a2 := h0.cell 2 _ rfl; have a3 := h0.cell 3 _ rfl; have a4 := h0.cell 4 _ rfl; have a5 := h0.cell 5 _ rfl
                    have f0 := h1.cell 0 _ rfl; have f1 := h1.cell 1 _ rfl; have f2 := h1.cell 2 _ rfl; have f3 := h1.cell 3 _ rfl; have f5 := h1.cell 5 _ rfl; have f6 := h1.cell 6 _ rfl
                    clear h0 h1
                    go_quiet (first
                      | (go_at_call 83; first | with_reducible exact Calls.quiet_of_same (RA _) | with_reducible exact Calls.quiet_of_same (RB _) | with_reducible exact Calls.quiet_of_same (RC _))
                      | (go_at_call 84; exact Calls.quiet_of_same (RO _)))
                    have F3 := Lib.hid (F2.out.drewN nq)
                    clear a1 a2 a3 a4 a5 f0 f1 f2 f3 f5 f6
                    go_wp2
                    go_ret
                    exact ⟨by rw [HG.out]; simp [l0', l1'] <;> omega, F3.out.below⟩
                  · have l1' : imm ≤ fm := by omega
                    go_enter Try.func48, Try.ntmps48
                    go_wp2_with fail
                    refine (NM.out _).mono ?_
                    rintro e w1 ⟨rfl, hw⟩
                    have F1 := Lib.hid (Fm.call hw F0.out)
                    clear hw
                    go_wp2
                    have F2 := Lib.hid (F1.out.more (.cells (FCells ⟨fa, fb, fc, false, fi, fl, fm⟩).toArray 124))
                    have l2 := F2.out.size; have h0 := F2.out.h0; have h1 := Has.new w1 (FCells ⟨fa, fb, fc, false, fi, fl, fm⟩) 124
                    have a1 := h0.cell 1 _ rfl; have a2 := h0.cell 2 _ rfl; have a3 := h0.cell 3 _ rfl; have a4 := h0.cell 4 _ rfl; have a5 := h0.cell 5 _ rfl
                    have f0 := h1.cell 0 _ rfl; have f1 := h1.cell 1 _ rfl; have f2 := h1.cell 2 _ rfl; have f3 := h1.cell 3 _ rfl; have f5 := h1.cell 5 _ rfl; have f6 := h1.cell 6 _ rfl
                    clear h0 h1
                    go_quiet (first
                      | (go_at_call 83; first | with_reducible exact Calls.quiet_of_same (RA _) | with_reducible exact Calls.quiet_of_same (RB _) | with_reducible exact Calls.quiet_of_same (RC _))
                      | (go_at_call 84; exact Calls.quiet_of_same (RO _)))
                    have F3 := Lib.hid (F2.out.drewN nq)
                    clear a1 a2 a3 a4 a5 f0 f1 f2 f3 f5 f6
                    go_wp2
                    go_ret
                    exact ⟨by rw [HG.out]; simp [l0', l1'] <;> omega, F3.out.below⟩
              · have lo' : (op != 0) = true := by simpa using lo
                go_enter Try.func48, Try.ntmps48
                go_wp2_with fail
                refine (NM.out _).mono ?_
                rintro e w1 ⟨rfl, hw⟩
                have F1 := Lib.hid (Fm.call hw F0.out)
                clear hw
                go_wp2
                have F2 := Lib.hid (F1.out.more (.cells (FCells ⟨fa, fb, fc, false, fi, fl, fm⟩).toArray 124))
                have l2 := F2.out.size; have h0 := F2.out.h0; have h1 := Has.new w1 (FCells ⟨fa, fb, fc, false, fi, fl, fm⟩) 124
                have a1 := h0.cell 1 _ rfl; have a2 := h0.cell 2 _ rfl; have a3 := h0.cell 3 _ rfl; have a4 := h0.cell 4 _ rfl; have a5 := h0.cell 5 _ rfl
                have f0 := h1.cell 0 _ rfl; have f1 := h1.cell 1 _ rfl; have f2 := h1.cell 2 _ rfl; have f3 := h1.cell 3 _ rfl; have f5 := h1.cell 5 _ rfl; have f6 := h1.cell 6 _ rfl
                clear h0 h1
                go_quiet (first
                  | (go_at_call 83; first | with_reducible exact Calls.quiet_of_same (RA _) | with_reducible exact Calls.quiet_of_same (RB _) | with_reducible exact Calls.quiet_of_same (RC _))
                  | (go_at_call 84; exact Calls.quiet_of_same (RO _)))
                have F3 := Lib.hid (F2.out.drewN nq)
                clear a1 a2 a3 a4 a5 f0 f1 f2 f3 f5 f6
                go_wp2
                go_ret
                exact ⟨by rw [HG.out]; simp [lo] <;> omega, F3.out.below⟩

def eqI (x y : Ins) : Bool := x.k == y.k && x.a == y.a && x.b == y.b && x.c == y.c && x.op == y.op && x.imm == y.imm
theorem eqI_iff (x y : Ins) : eqI x y = decide (x = y) := by
  obtain ⟨k, a, b, c, o, i⟩ := x; obtain ⟨k', a', b', c', o', i'⟩ := y
  simp only [eqI, Ins.mk.injEq, Bool.decide_and, Bool.and_assoc]
  rfl
@[go_sem high] theorem ins_eq (k a b c o i k' a' b' c' o' i' : Int) (w : World) : (Op.equalIn 10000 50 (.agg #[.int .i64 k, .int .i64 a, .int .i64 b, .int .i64 c, .int .i64 o, .int .i64 i]) (.agg #[.int .i64 k', .int .i64 a', .int .i64 b', .int .i64 c', .int .i64 o', .int .i64 i'])).run Try.prog w = .ok (eqI ⟨k, a, b, c, o, i⟩ ⟨k', a', b', c', o', i'⟩) w := by
  have u3 := Try.underlying3
  have a3 := Try.isAgg3
  have z3 := Try.sizeOf3
  have hS : Try.prog.underlying 50 = some (.struct (Try.prog.fieldsOf 50)) := by kernel_rfl
  rw [show (10000 : Nat) = 9999 + 1 from rfl, run_equalIn_agg w 9999 50 _ _ hS (by kernel_rfl)]
  simp only [Program.fieldsOf, Try.underlying50]
  go_simp
  unfold eqI
  by_cases h0 : k = k'
  · by_cases h1 : a = a'
    · by_cases h2 : b = b'
      · by_cases h3 : c = c'
        · by_cases h4 : o = o'
          · by_cases h5 : i = i'
            · simp [h0, h1, h2, h3, h4, h5]
            · simp [h0, h1, h2, h3, h4, h5]
          · simp [h0, h1, h2, h3, h4]
        · simp [h0, h1, h2, h3]
      · simp [h0, h1, h2]
    · simp [h0, h1]
  · simp [h0]

theorem cell_set {w : World} {b o g k : Nat} {u v : Value} (hne : g ≠ b) (h : w.cell? ⟨b, o, none⟩ = some v) : (w.setCell ⟨g, k, none⟩ u).cell? ⟨b, o, none⟩ = some v :=
  (World.cell?_setCell_other w ⟨g, k, none⟩ ⟨b, o, none⟩ u (fun e => hne (by cases e; rfl))).trans h
theorem cell_alloc {w : World} {b o : Nat} {v : Value} {ob : Obj} (hb : b < w.heap.size) (h : w.cell? ⟨b, o, none⟩ = some v) : (w.alloc ob).cell? ⟨b, o, none⟩ = some v := (World.cell?_alloc_lt w ob ⟨b, o, none⟩ hb).trans h
theorem cell_drew {w : World} {p : Addr} {v : Value} (h : w.cell? p = some v) : w.drew.cell? p = some v := h
end Go.Proofs.Ytonbmijhbbodnaa
