/-
  slices.Clone of numbers and of bools; machine.Copy.
-/
import Derived.Laws.AppendOwn
import Derived.Test.YtonbmijhbbodnaaImI
import Derived.Test.YtonbmijhbbodnaaHeadr
namespace Go.Proofs.Ytonbmijhbbodnaa
open Go.RowKit

theorem ints_src0 {K : Nat → Prop} {w : World} {ad : Addr} {n c : Nat} {l : List Int} (r : Ints K w (some ad) n c l) : ∀ j v, (ivs l)[j]? = some v → w.cell? (ad.add j) = some v := fun j v h => by
  have hj := (List.getElem?_eq_some_iff.1 h).1
  rw [ivs_length] at hj
  obtain ⟨b, o, e, _, _, s⟩ := Ints.src r (by have := r.hlen; omega)
  cases e
  exact s j v h
theorem bools_src0 {K : Nat → Prop} {w : World} {ad : Addr} {n c : Nat} {l : List Bool} (r : Bools K w (some ad) n c l) : ∀ j v, (bvs l)[j]? = some v → w.cell? (ad.add j) = some v := fun j v h => by
  have hj := (List.getElem?_eq_some_iff.1 h).1
  rw [bvs_length] at hj
  obtain ⟨b, o, e, _, _, s⟩ := Bools.src r (by have := r.hlen; omega)
  cases e
  exact s j v h
def CloneRet (t : TypeId) (n : Nat) (xs : List Value) (w : World) (e : Ending) (w' : World) : Prop := ∃ a c, e = .returned (.slice a n c) ∧ w'.ownsRow w.heap.size t 1 (.slice a n c) n xs ∧ Below w.heap.size w w'
set_option maxRecDepth 100000 in
set_option maxHeartbeats 4000000 in
theorem clone_ints (K : Nat → Prop) (a : Option Addr) (n c : Nat) (l : List Int) (w : World) (r : Ints K w a n c l) (hn : n ≤ 1000000) : Calls Try.prog 62 #[.slice a n c] w (CloneRet 3 n (ivs l) w) := by
  have q0 : ∀ (w : World) (a : Option Addr) (n c n' c' : Nat), (binOp .eql 22 (.slice a n c) (.slice none n' c')).run Try.prog w = .ok (.bool a.isNone) w := fun w a n c n' c' => Lib.run_eql_slice_nil w _ _ a n c n' c' Try.underlying22
  have R := Lib.hid r
  have HL := Lib.hid r.hlen
  cases a with
  | none =>
    have hn0 : n = 0 := by
      rcases Nat.eq_zero_or_pos n with h | h
      · exact h
      · obtain ⟨b, o, z, e, _⟩ := Ints.get r h; cases e
    subst hn0
    have HE := Lib.hid (List.length_eq_zero_iff.1 r.hlen)
    clear r
    go_enter Try.func62, Try.ntmps62
    go_wp2
    go_ret
    refine ⟨none, 0, rfl, ?_, Below.refl _ _⟩
    rw [HE.out]
    exact ⟨rfl, .inl ⟨rfl, rfl⟩⟩
  | some ad =>
    clear r
    obtain ⟨i0, hi, hz0, hz1, hz2⟩ := info_parts info_int
    have SRC := Lib.hid (ints_src0 R.out)
    go_enter Try.func62, Try.ntmps62
    go_wp2_with (at_builtin; refine wpList_append_own _ rfl _ _ 22 rfl w.heap.size 3 i0 (.int .i64 0) 1 8 Try.underlying22 hi hz0 hz1 hz2 rfl (by decide) _ _ _ rfl (World.ownsRow_made w #[] 0 (Nat.le_refl _) (Nat.zero_le _) rfl) ad n c (ivs l) rfl (by rw [ivs_length, HL.out, Nat.mul_one]) (fun j u hj => cell_later ((Below.refl _ _).alloc (Nat.le_refl _) _) (SRC.out j u hj)) ivs_one (by unfold maxLen; omega) (by omega) (by simp) ?_)
    intro v' w1 hown hgrow hnil
    have HO := Lib.hid (show w1.ownsRow w.heap.size 3 1 v' n (ivs l) by simpa using hown)
    have HB := Lib.hid (((Below.refl _ w).alloc (Nat.le_refl _) _).grown hgrow (by simp) (by intro k hk; simp [Value.ownBlock] at hk; omega))
    obtain ⟨a', c', rfl⟩ := flat_form HO.out
    clear hown hgrow hnil
    go_wp2
    go_ret
    exact ⟨a', c', rfl, HO.out, HB.out⟩
set_option maxRecDepth 100000 in
set_option maxHeartbeats 4000000 in
theorem clone_bools (K : Nat → Prop) (a : Option Addr) (n c : Nat) (l : List Bool) (w : World) (r : Bools K w a n c l) (hn : n ≤ 1000000) : Calls Try.prog 63 #[.slice a n c] w (CloneRet 4 n (bvs l) w) := by
  have q0 : ∀ (w : World) (a : Option Addr) (n c n' c' : Nat), (binOp .eql 33 (.slice a n c) (.slice none n' c')).run Try.prog w = .ok (.bool a.isNone) w := fun w a n c n' c' => Lib.run_eql_slice_nil w _ _ a n c n' c' Try.underlying33
  have R := Lib.hid r
  have HL := Lib.hid r.hlen
  cases a with
  | none =>
    have hn0 : n = 0 := by
      rcases Nat.eq_zero_or_pos n with h | h
      · exact h
      · obtain ⟨b, o, e, _⟩ := Bools.src r h; cases e
    subst hn0
    have HE := Lib.hid (List.length_eq_zero_iff.1 r.hlen)
    clear r
    go_enter Try.func63, Try.ntmps63
    go_wp2
    go_ret
    refine ⟨none, 0, rfl, ?_, Below.refl _ _⟩
    rw [HE.out]
    exact ⟨rfl, .inl ⟨rfl, rfl⟩⟩
  | some ad =>
    clear r
    obtain ⟨i0, hi, hz0, hz1, hz2⟩ := info_parts info_bool
    have SRC := Lib.hid (bools_src0 R.out)
    go_enter Try.func63, Try.ntmps63
    go_wp2_with (at_builtin; refine wpList_append_own _ rfl _ _ 33 rfl w.heap.size 4 i0 (.bool false) 1 1 Try.underlying33 hi hz0 hz1 hz2 rfl (by decide) _ _ _ rfl (World.ownsRow_made w #[] 0 (Nat.le_refl _) (Nat.zero_le _) rfl) ad n c (bvs l) rfl (by rw [bvs_length, HL.out, Nat.mul_one]) (fun j u hj => cell_later ((Below.refl _ _).alloc (Nat.le_refl _) _) (SRC.out j u hj)) bvs_one (by unfold maxLen; omega) (by omega) (by simp) ?_)
    intro v' w1 hown hgrow hnil
    have HO := Lib.hid (show w1.ownsRow w.heap.size 4 1 v' n (bvs l) by simpa using hown)
    have HB := Lib.hid (((Below.refl _ w).alloc (Nat.le_refl _) _).grown hgrow (by simp) (by intro k hk; simp [Value.ownBlock] at hk; omega))
    obtain ⟨a', c', rfl⟩ := flat_form HO.out
    clear hown hgrow hnil
    go_wp2
    go_ret
    exact ⟨a', c', rfl, HO.out, HB.out⟩
end Go.Proofs.Ytonbmijhbbodnaa
