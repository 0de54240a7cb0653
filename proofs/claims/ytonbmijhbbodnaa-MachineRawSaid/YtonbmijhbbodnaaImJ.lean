/-
  A step of a core (plain).
-/
import Derived.Test.YtonbmijhbbodnaaZMake
namespace Go.Proofs.Ytonbmijhbbodnaa
open Go.RowKit

structure Ev where
  at_ : Int
  addr : Int
  jumped : Bool
abbrev EvV (v : Ev) : Value := .agg #[.int .i64 v.at_, .int .i64 v.addr, .bool v.jumped]
abbrev EvCells (v : Ev) : List Value := [.int .i64 v.at_, .int .i64 v.addr, .bool v.jumped]
abbrev ev0 : Ev := ⟨0, 0, false⟩
def rAt (l : List Int) (i : Int) : Int := l.getD i.toNat 0
def hAt (l : List Bool) (i : Int) : Bool := l.getD i.toNat false
/-- The event of an instruction and what comes next, or the error. -/
def evP (x : Ins) (D : Int) (c : Co) : Int ⊕ (Ev × Int) :=
  if x.k = 8 ∨ x.k = 9 then (if hAt c.held x.imm != (x.k == 9) then .inl 14 else .inr (⟨c.pc, -1, false⟩, c.pc + 1)) else
  if x.k = 4 ∨ x.k = 5 then (if rAt c.regs x.b + x.imm < 0 ∨ D ≤ rAt c.regs x.b + x.imm then .inl 12 else .inr (⟨c.pc, rAt c.regs x.b + x.imm, false⟩, c.pc + 1)) else
  if x.k = 6 then .inr (⟨c.pc, -1, true⟩, x.imm) else
  if x.k = 7 then (if rAt c.regs x.a = 0 then .inr (⟨c.pc, -1, true⟩, x.imm) else .inr (⟨c.pc, -1, false⟩, c.pc + 1)) else
  if x.k = 10 then .inr (⟨c.pc, -1, false⟩, c.pc) else .inr (⟨c.pc, -1, false⟩, c.pc + 1)
/-- What an instruction does to registers, data and resources. -/
def effR (x : Ins) (v : Ev) (c : Co) : List Int :=
  (if x.k = 1 then c.regs.set x.a.toNat x.imm else
   if x.k = 2 then c.regs.set x.a.toNat (rAt c.regs x.b) else
   if x.k = 3 then c.regs.set x.a.toNat (doI x.op (rAt c.regs x.b) (rAt c.regs x.c)) else
   if x.k = 4 then c.regs.set x.a.toNat (rAt c.data v.addr) else c.regs).set 0 0
def effD (x : Ins) (v : Ev) (c : Co) : List Int := if x.k = 5 then c.data.set v.addr.toNat (rAt c.regs x.a) else c.data
def effH (x : Ins) (c : Co) : List Bool := if x.k = 8 then c.held.set x.imm.toNat true else if x.k = 9 then c.held.set x.imm.toNat false else c.held
def stepP (x : Ins) (cn : Nat) (D : Int) (c : Co) : Int ⊕ (Ev × Co) :=
  match evP x D c with
  | .inl e => .inl e
  | .inr (v, n) => if (cn : Int) ≤ n then .inl 12 else .inr (v, ⟨effR x v c, effD x v c, effH x c, n, c.ended || x.k == 10⟩)
/-- Registers that an instruction does not read do not matter for its event. -/
theorem rAt_set {l : List Int} {w : Nat} {t i : Int} (hi : 0 ≤ i) (h : i ≠ w) : rAt (l.set w t) i = rAt l i := by
  unfold rAt
  rw [List.getD_eq_getElem?_getD, List.getD_eq_getElem?_getD, List.getElem?_set_ne (by omega)]
end Go.Proofs.Ytonbmijhbbodnaa
