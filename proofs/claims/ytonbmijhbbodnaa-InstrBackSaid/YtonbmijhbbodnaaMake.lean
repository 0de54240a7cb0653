/-
  timeboundmake: Few, and what a deck needs to stay.
-/
import Derived.Test.YtonbmijhbbodnaaMem
import Derived.Test.YtonbmijhbbodnaaDeck
namespace Go.Proofs.Ytonbmijhbbodnaa
open Go.RowKit

theorem ret_b' {a b : Bool} (h : a = b) : Ending.returned (.bool a) = .returned (.bool b) := by rw [h]
theorem But.chg {d : Nat} {w w' : World} (h : But d w w') : Chg (fun k => k = d) w w' := ⟨h.os, h.tape, h.output, h.size, fun k hk hm => h.block k hk hm⟩
theorem Chg.but {d : Nat} {w w' : World} (h : Chg (fun k => k = d) w w') : But d w w' := ⟨h.os, h.tape, h.output, h.size, fun k hk hm => h.block k hk hm⟩
theorem Deck.chg {M : Nat → Prop} {w w' : World} {d : Nat} (h : Deck w d) (k : Chg M w w') (hM : ∀ j, j < w.heap.size → j ≤ d → ¬ M j) : Deck w' d := by
  have hd := h.lt
  obtain ⟨a, len, cap, zs, i, h1, h2, h3, h4⟩ := h
  refine ⟨a, len, cap, zs, i, ?_, h2, k.has h3 hd (hM d hd (Nat.le_refl _)), h4⟩
  rcases h1 with h1 | ⟨x, rfl, k1, k2, k3, k4, k5⟩
  · exact .inl h1
  · refine .inr ⟨x, rfl, k1, k2, k3, fun j hj => ?_, k5⟩
    have hx := h2 x rfl (by omega)
    exact (World.cell?_of_block (w := w) (a := x.add j) (by rw [add_block]; exact k.block _ (by omega) (hM _ (by omega) (by omega)))).trans (k4 j hj)

set_option maxHeartbeats 1000000 in
theorem few_any (a : Option Addr) (len cap : Nat) (w : World) (h : len ≤ 9223372036854775807) :
    (len ≤ 400 → Calls Try.prog 8 #[.slice a len cap] w fun e w' => e = .returned (.bool true) ∧ w' = w) ∧
    (¬ len ≤ 400 → Calls Try.prog 8 #[.slice a len cap] w fun e w' => e = .returned (.bool false) ∧ w' = w) := by
  constructor
  all_goals
    intro hl
    go_enter Try.func8, Try.ntmps8
    go_wp2
    go_ret
    exact ⟨ret_b' (by simp; omega), rfl⟩
end Go.Proofs.Ytonbmijhbbodnaa
