/-
  Instructions: what a right one is (plain), and the small functions of the packages instr, word and of the document: named, register, Known, in, Word, Wrap.
-/
import Derived.Test.YtonbmijhbbodnaaMem
import Derived.Test.YtonbmijhbbodnaaRows
import Derived.Deep.QuietTactic
import Derived.BigQuiet
import Derived.Lib.Hide
namespace Go.Proofs.Ytonbmijhbbodnaa
open Go.RowKit

theorem ret_b {a b : Bool} (h : a = b) : Ending.returned (.bool a) = .returned (.bool b) := by rw [h]
/-- An instruction. -/
structure Ins where
  k : Int
  a : Int
  b : Int
  c : Int
  op : Int
  imm : Int
deriving DecidableEq
def I64 (z : Int) : Prop := -9223372036854775808 ≤ z ∧ z ≤ 9223372036854775807
structure Ins.In (x : Ins) : Prop where
  k : I64 x.k
  a : I64 x.a
  b : I64 x.b
  c : I64 x.c
  op : I64 x.op
  imm : I64 x.imm
abbrev IV (x : Ins) : Value := .agg #[.int .i64 x.k, .int .i64 x.a, .int .i64 x.b, .int .i64 x.c, .int .i64 x.op, .int .i64 x.imm]
abbrev ICells (x : Ins) : List Value := [.int .i64 x.k, .int .i64 x.a, .int .i64 x.b, .int .i64 x.c, .int .i64 x.op, .int .i64 x.imm]

/-- The fields that a kind names, and what Imm is between. -/
structure Fld where
  a : Bool
  b : Bool
  c : Bool
  op : Bool
  imm : Bool
  least : Int
  most : Int
def kn (k : Int) : Bool := decide (0 ≤ k) && decide (k ≤ 10)
def fldOf (k : Int) : Fld :=
  if k = 1 then ⟨true, false, false, false, true, -2147483648, 2147483647⟩ else
  if k = 2 then ⟨true, true, false, false, false, 0, 0⟩ else
  if k = 3 then ⟨true, true, true, true, false, 0, 0⟩ else
  if k = 4 ∨ k = 5 then ⟨true, true, false, false, true, 0, 1023⟩ else
  if k = 6 then ⟨false, false, false, false, true, 0, 1023⟩ else
  if k = 7 then ⟨true, false, false, false, true, 0, 1023⟩ else
  if k = 8 ∨ k = 9 then ⟨false, false, false, false, true, 0, 3⟩ else
  ⟨false, false, false, false, false, 0, 0⟩
abbrev FV (f : Fld) : Value := .agg #[.bool f.a, .bool f.b, .bool f.c, .bool f.op, .bool f.imm, .int .i64 f.least, .int .i64 f.most]
abbrev FCells (f : Fld) : List Value := [.bool f.a, .bool f.b, .bool f.c, .bool f.op, .bool f.imm, .int .i64 f.least, .int .i64 f.most]
def regB (n : Bool) (z : Int) : Bool := z == 0 || (n && decide (0 < z) && decide (z < 8))
def opB (z : Int) : Bool := decide (1 ≤ z) && decide (z ≤ 14)
def goodI (f : Fld) (x : Ins) : Bool := regB f.a x.a && regB f.b x.b && regB f.c x.c && (f.op == opB x.op) && (f.op || x.op == 0) && decide (f.least ≤ x.imm) && decide (x.imm ≤ f.most)
def chkI (x : Ins) : Int := if kn x.k then (if goodI (fldOf x.k) x then 0 else 10) else 6

theorem kn_cases {k : Int} (h : kn k = true) : k = 0 ∨ k = 1 ∨ k = 2 ∨ k = 3 ∨ k = 4 ∨ k = 5 ∨ k = 6 ∨ k = 7 ∨ k = 8 ∨ k = 9 ∨ k = 10 := by
  simp [kn] at h
  omega

def NamedRet (k : Int) (w : World) (e : Ending) (w' : World) : Prop := e = .returned (.tuple #[FV (fldOf k), .bool (kn k)]) ∧ Below w.heap.size w w'
set_option maxHeartbeats 4000000 in
theorem named_any (k : Int) (w : World) : Calls Try.prog 82 #[.int .i64 k] w (NamedRet k w) := by
  by_cases h : kn k = true
  · rcases kn_cases h with rfl | rfl | rfl | rfl | rfl | rfl | rfl | rfl | rfl | rfl | rfl
    all_goals
      clear h
      go_enter Try.func82, Try.ntmps82
      go_wp2
      exact bodyPost_ret (by simp [results, Try.results82, go_sem, fldOf, kn]) rfl ⟨rfl, (Below.refl _ _).alloc (Nat.le_refl _) _⟩
  · have hk : fldOf k = ⟨false, false, false, false, false, 0, 0⟩ := by
      simp [kn] at h
      unfold fldOf
      repeat (rw [if_neg (by omega)])
    have h' : kn k = false := by simpa using h
    simp [kn] at h
    have n0 : (k == 0) = false := by simp; omega
    have n1 : (k == 1) = false := by simp; omega
    have n2 : (k == 2) = false := by simp; omega
    have n3 : (k == 3) = false := by simp; omega
    have n4 : (k == 4) = false := by simp; omega
    have n5 : (k == 5) = false := by simp; omega
    have n6 : (k == 6) = false := by simp; omega
    have n7 : (k == 7) = false := by simp; omega
    have n8 : (k == 8) = false := by simp; omega
    have n9 : (k == 9) = false := by simp; omega
    have n10 : (k == 10) = false := by simp; omega
    clear h
    unfold NamedRet
    rw [hk, h']
    clear hk h'
    go_enter Try.func82, Try.ntmps82
    go_wp2
    exact bodyPost_ret (by simp [results, Try.results82, go_sem]) rfl ⟨rfl, (Below.refl _ _).alloc (Nat.le_refl _) _⟩

theorem register_any (n : Bool) (z : Int) (w : World) : Calls Try.prog 83 #[.bool n, .int .i64 z] w fun e w' => e = .returned (.bool (regB n z)) ∧ w' = w := by
  by_cases h : z = 0
  · subst h
    go_enter Try.func83, Try.ntmps83
    go_wp2
    go_ret
    exact ⟨ret_b (by simp [regB]), rfl⟩
  · have h0 : (z == 0) = false := by simpa using h
    cases n with
    | false =>
      go_enter Try.func83, Try.ntmps83
      go_wp2
      go_ret
      exact ⟨ret_b (by simp [regB, h]), rfl⟩
    | true =>
      by_cases h1 : 0 < z
      · go_enter Try.func83, Try.ntmps83
        go_wp2
        go_ret
        exact ⟨ret_b (by simp [regB, h, h1] <;> omega), rfl⟩
      · go_enter Try.func83, Try.ntmps83
        go_wp2
        go_ret
        exact ⟨ret_b (by simp [regB, h] <;> omega), rfl⟩
theorem known_any (z : Int) (w : World) : Calls Try.prog 84 #[.int .i64 z] w fun e w' => e = .returned (.bool (opB z)) ∧ w' = w := by
  by_cases h : 1 ≤ z
  · go_enter Try.func84, Try.ntmps84
    go_wp2
    go_ret
    exact ⟨ret_b (by simp [opB, h] <;> omega), rfl⟩
  · go_enter Try.func84, Try.ntmps84
    go_wp2
    go_ret
    exact ⟨ret_b (by simp [opB] <;> omega), rfl⟩
theorem rknown_any (z : Int) (w : World) : Calls Try.prog 80 #[.int .i64 z] w fun e w' => e = .returned (.bool (opB z)) ∧ w' = w := by
  by_cases h : 1 ≤ z
  · go_enter Try.func80, Try.ntmps80
    go_wp2
    go_ret
    exact ⟨ret_b (by simp [opB, h] <;> omega), rfl⟩
  · go_enter Try.func80, Try.ntmps80
    go_wp2
    go_ret
    exact ⟨ret_b (by simp [opB] <;> omega), rfl⟩
def inB (z n : Int) : Bool := decide (0 ≤ z) && decide (z < n)
def wordB (z : Int) : Bool := decide (-2147483648 ≤ z) && decide (z < 2147483648)
theorem in_any (z n : Int) (w : World) : Calls Try.prog 79 #[.int .i64 z, .int .i64 n] w fun e w' => e = .returned (.bool (inB z n)) ∧ w' = w := by
  by_cases h : 0 ≤ z
  · go_enter Try.func79, Try.ntmps79
    go_wp2
    go_ret
    exact ⟨ret_b (by simp [inB, h] <;> omega), rfl⟩
  · go_enter Try.func79, Try.ntmps79
    go_wp2
    go_ret
    exact ⟨ret_b (by simp [inB] <;> omega), rfl⟩
theorem word_any (z : Int) (w : World) : Calls Try.prog 78 #[.int .i64 z] w fun e w' => e = .returned (.bool (wordB z)) ∧ w' = w := by
  by_cases h : -2147483648 ≤ z
  · go_enter Try.func78, Try.ntmps78
    go_wp2
    go_ret
    exact ⟨ret_b (by simp [wordB, h] <;> omega), rfl⟩
  · go_enter Try.func78, Try.ntmps78
    go_wp2
    go_ret
    exact ⟨ret_b (by simp [wordB] <;> omega), rfl⟩
end Go.Proofs.Ytonbmijhbbodnaa
