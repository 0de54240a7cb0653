/-
  SameInts, SameAll of lists that are one.
-/
import Derived.Test.YtonbmijhbbodnaaZGrow
namespace Go.Proofs.Ytonbmijhbbodnaa
open Go.RowKit

set_option maxHeartbeats 4000000 in
theorem sameints_eq (K K' : Nat → Prop) (a a' : Option Addr) (n n' c c' : Nat) (xs : List Int) (w : World) (r : Ints K w a n c xs) (r' : Ints K' w a' n' c' xs) :
    Calls Try.prog 31 #[.slice a n c, .slice a' n' c'] w fun e w' => e = .returned (.bool true) ∧ Below w.heap.size w w' := by
  have hn : n' = n := by rw [← r.hlen, ← r'.hlen]
  subst hn
  have R := Lib.hid r; have R' := Lib.hid r'
  have hsz := r.hsz
  clear r r'
  go_enter Try.func31, Try.ntmps31
  go_wp2
  go_loopw [5] (fun i wr => ∃ k : Nat, k ≤ n' ∧ i = .int .i64 k ∧ Below w.heap.size w wr) (fun i _ => n' - (intOf i).toNat)
  case atStart => exact ⟨0, Nat.zero_le _, rfl, Below.refl _ _⟩
  case round =>
    obtain ⟨k, hk, rfl, hb⟩ := hrel
    have B := Lib.hid hb
    clear hb
    by_cases hlt : k < n'
    · obtain ⟨b1, o1, z, rfl, hz, c1, _, _, _, l1⟩ := Ints.get R.out hlt
      obtain ⟨b2, o2, z', rfl, hz', c2, _, _, _, l2⟩ := Ints.get R'.out hlt
      rw [hz] at hz'
      cases hz'
      have d1 := (B.out.cell (p := ⟨b1, o1 + k, none⟩) l1).trans c1
      have d2 := (B.out.cell (p := ⟨b2, o2 + k, none⟩) l2).trans c2
      clear c1 c2
      go_wp2
      go_quiet (fail)
      go_wp2
      go_roundw
      case rel => exact ⟨k + 1, by omega, by go_num, below_drewN B.out nq⟩
      case measure => simp [intOf]; omega
    · go_wp2
      go_ret
      exact ⟨rfl, B.out⟩
set_option maxHeartbeats 4000000 in
theorem sameall_eq (K K' : Nat → Prop) (a a' : Option Addr) (n n' c c' : Nat) (xs : List Ins) (w : World) (r : InsL K w a n c xs) (r' : InsL K' w a' n' c' xs) :
    Calls Try.prog 47 #[.slice a n c, .slice a' n' c'] w fun e w' => e = .returned (.bool true) ∧ Below w.heap.size w w' := by
  have hn : n' = n := by rw [← r.hlen, ← r'.hlen]
  subst hn
  have R := Lib.hid r; have R' := Lib.hid r'
  have hsz := r.hsz
  clear r r'
  go_enter Try.func47, Try.ntmps47
  go_wp2
  go_loopw [5] (fun i wr => ∃ k : Nat, k ≤ n' ∧ i = .int .i64 k ∧ Below w.heap.size w wr) (fun i _ => n' - (intOf i).toNat)
  case atStart => exact ⟨0, Nat.zero_le _, rfl, Below.refl _ _⟩
  case round =>
    obtain ⟨k, hk, rfl, hb⟩ := hrel
    have B := Lib.hid hb
    clear hb
    by_cases hlt : k < n'
    · obtain ⟨b1, o1, x, rfl, hx, _, _, l1, c0, c1, c2, c3, c4, c5⟩ := InsL.get R.out hlt
      obtain ⟨b2, o2, y, rfl, hy, _, _, l2, e0, e1, e2, e3, e4, e5⟩ := InsL.get R'.out hlt
      rw [hx] at hy
      cases hy
      have d0 := (B.out.cell (p := ⟨b1, o1 + k * 6, none⟩) l1).trans c0
      have d1 := (B.out.cell (p := ⟨b1, o1 + k * 6 + 1, none⟩) l1).trans c1
      have d2 := (B.out.cell (p := ⟨b1, o1 + k * 6 + 2, none⟩) l1).trans c2
      have d3 := (B.out.cell (p := ⟨b1, o1 + k * 6 + 3, none⟩) l1).trans c3
      have d4 := (B.out.cell (p := ⟨b1, o1 + k * 6 + 4, none⟩) l1).trans c4
      have d5 := (B.out.cell (p := ⟨b1, o1 + k * 6 + 5, none⟩) l1).trans c5
      have f0 := (B.out.cell (p := ⟨b2, o2 + k * 6, none⟩) l2).trans e0
      have f1 := (B.out.cell (p := ⟨b2, o2 + k * 6 + 1, none⟩) l2).trans e1
      have f2 := (B.out.cell (p := ⟨b2, o2 + k * 6 + 2, none⟩) l2).trans e2
      have f3 := (B.out.cell (p := ⟨b2, o2 + k * 6 + 3, none⟩) l2).trans e3
      have f4 := (B.out.cell (p := ⟨b2, o2 + k * 6 + 4, none⟩) l2).trans e4
      have f5 := (B.out.cell (p := ⟨b2, o2 + k * 6 + 5, none⟩) l2).trans e5
      have hE : eqI ⟨x.k, x.a, x.b, x.c, x.op, x.imm⟩ ⟨x.k, x.a, x.b, x.c, x.op, x.imm⟩ = true := by rw [eqI_iff]; simp
      clear c0 c1 c2 c3 c4 c5 e0 e1 e2 e3 e4 e5
      go_wp2
      go_quiet (fail)
      go_wp2
      go_roundw
      case rel => exact ⟨k + 1, by omega, by go_num, below_drewN B.out nq⟩
      case measure => simp [intOf]; omega
    · go_wp2
      go_ret
      exact ⟨rfl, B.out⟩
end Go.Proofs.Ytonbmijhbbodnaa
