/-
  Decks (timeboundmake.New, Next): a list of numbers that are taken one after the other: what a number from Next is between, and that nothing but the deck changes. Conditions: as each theorem lists them.
-/
import Derived.Deep.QuietTactic
import Derived.BigQuiet
import Derived.Lib.Hide
import Derived.ProofKit
import Derived.OpenShut
import Derived.Test.YtonbmijhbbodnaaRows
import Derived.Test.YtonbmijhbbodnaaMem
namespace Go.Proofs.Ytonbmijhbbodnaa
open Go.RowKit

/-- What the walk is told of a slice of integers that came in: it is nil; or it leads to a row of 'cap' cells, the numbers 'zs' (the first 'len' are its elements), each fitting its kind. -/
def IsRow (k : IntKind) (w : World) (a : Option Addr) (len cap : Nat) (zs : List Int) : Prop :=
  (a = none ∧ len = 0 ∧ cap = 0 ∧ zs = []) ∨
  ∃ x, a = some x ∧ len ≤ cap ∧ cap ≤ maxLen ∧ zs.length = cap ∧ (∀ i, i < zs.length → w.cell? (x.add i) = some (.int k (zs.getD i 0))) ∧ ∀ n ∈ zs, (Lit.int k n).wf = true

/-- All blocks that were there are as they were, but for block d. -/
structure But (d : Nat) (w w' : World) : Prop where
  os : w'.os = w.os
  tape : w'.tape = w.tape
  output : w'.output = w.output
  size : w.heap.size ≤ w'.heap.size
  block : ∀ k, k < w.heap.size → k ≠ d → w'.heap[k]? = w.heap[k]?
theorem But.below {d : Nat} {w w' : World} (h : But d w w') (hd : d ≤ w.heap.size) : Below d w w' := ⟨h.os, h.tape, h.output, h.size, fun k hk => h.block k (by omega) (by omega)⟩
theorem But.of_below {d : Nat} {w w' : World} (h : Below w.heap.size w w') : But d w w' := ⟨h.os, h.tape, h.output, h.size, fun k hk _ => h.block k hk⟩
theorem But.trans {d : Nat} {a b c : World} (h : But d a b) (k : But d b c) : But d a c :=
  ⟨k.os.trans h.os, k.tape.trans h.tape, k.output.trans h.output, Nat.le_trans h.size k.size, fun i hi hd => (k.block i (Nat.lt_of_lt_of_le hi h.size) hd).trans (h.block i hi hd)⟩
theorem But.setCell {d k : Nat} {a w : World} (h : But d a w) (u : Value) : But d a (w.setCell ⟨d, k, none⟩ u) :=
  ⟨h.os, h.tape, h.output, by rw [World.size_setCell]; exact h.size, fun i hi hd => (Below.heap_setCell w ⟨d, k, none⟩ u i hd).trans (h.block i hi hd)⟩
theorem But.drewN {d : Nat} {a w : World} (h : But d a w) (n : Nat) : But d a (w.drewN n) := ⟨h.os, h.tape, h.output, h.size, h.block⟩
theorem But.has {d b : Nat} {w w' : World} {vs : List Value} (h : But d w w') (hs : Has w b vs) (hb : b < w.heap.size) (hd : b ≠ d) : Has w' b vs :=
  ⟨fun i v e => (World.cell?_of_block (w := w) (a := ⟨b, i, none⟩) (h.block b hb hd)).trans (hs.cell i v e), fun o => (World.frozen?_of_block (w := w) (a := ⟨b, o, none⟩) (h.block b hb hd)).trans (hs.free o)⟩

/-- A store into a block that is newer than the world where it began. -/
theorem But.other {d : Nat} {a w : World} (h : But d a w) {p : Addr} (hp : a.heap.size ≤ p.block) (u : Value) : But d a (w.setCell p u) :=
  ⟨h.os, h.tape, h.output, by rw [World.size_setCell]; exact h.size, fun i hi hd => (Below.heap_setCell w p u i (by omega)).trans (h.block i hi hd)⟩
/-- The deck lies in block d: a slice of integers elsewhere, and how many of them are taken. -/
def Deck (w : World) (d : Nat) : Prop := ∃ (a : Option Addr) (len cap : Nat) (zs : List Int) (i : Nat), IsRow .i64 w a len cap zs ∧ (∀ x, a = some x → 0 < zs.length → x.block < d) ∧ Has w d [.slice a len cap, .int .i64 i] ∧ i ≤ len
theorem add_block (x : Addr) (i : Nat) : (x.add i).block = x.block := by unfold Addr.add; split <;> rfl
theorem IsRow.block {w w' : World} {k : IntKind} {a : Option Addr} {len cap : Nat} {zs : List Int} (h : IsRow k w a len cap zs) (hb : ∀ x, a = some x → x.block < w.heap.size → w'.heap[x.block]? = w.heap[x.block]?) : IsRow k w' a len cap zs := by
  rcases h with h | ⟨x, rfl, h1, h2, h3, h4, h5⟩
  · exact .inl h
  · refine .inr ⟨x, rfl, h1, h2, h3, fun i hi => ?_, h5⟩
    have hc := h4 i hi
    have hlt : x.block < w.heap.size := by rw [← add_block x i]; exact World.block_lt_of_cell? w _ hc
    exact (World.cell?_of_block (w := w) (a := x.add i) (by rw [add_block]; exact hb x rfl hlt)).trans hc
theorem Deck.below {w w' : World} {d B : Nat} (h : Deck w d) (hb : Below B w w') (hB : w.heap.size ≤ B) : Deck w' d := by
  obtain ⟨a, len, cap, zs, i, h1, h2, h3, h4⟩ := h
  exact ⟨a, len, cap, zs, i, h1.block (fun x _ hx => hb.block _ (by omega)), h2, h3.below hb (by have := h3.lt (by simp); omega), h4⟩
/-- A store into a block that is newer than the deck. -/
theorem Deck.other {w : World} {d : Nat} (h : Deck w d) {p : Addr} (hp : d < p.block) (u : Value) : Deck (w.setCell p u) d := by
  obtain ⟨a, len, cap, zs, i, h1, h2, h3, h4⟩ := h
  refine ⟨a, len, cap, zs, i, ?_, h2, h3.other (by omega), h4⟩
  rcases h1 with h1 | ⟨x, rfl, k1, k2, k3, k4, k5⟩
  · exact .inl h1
  · refine .inr ⟨x, rfl, k1, k2, k3, fun j hj => ?_, k5⟩
    have hx := h2 x rfl (by omega)
    exact (World.cell?_of_block (w := w) (a := x.add j) (by rw [add_block]; exact Below.heap_setCell w p u _ (by omega))).trans (k4 j hj)
theorem Deck.drewN {w : World} {d : Nat} (h : Deck w d) (n : Nat) : Deck (w.drewN n) d := h.below (below_drewN (Below.refl w.heap.size w) n) (Nat.le_refl _)
theorem Deck.lt {w : World} {d : Nat} (h : Deck w d) : d < w.heap.size := by
  obtain ⟨a, len, cap, zs, i, h1, h2, h3, h4⟩ := h
  exact h3.lt (by simp)

theorem ret_int_eq {k : IntKind} {a b : Int} (h : a = b) : Ending.returned (.int k a) = .returned (.int k b) := by rw [h]
theorem mod_law' (n m : Int) (h0 : 0 < m) (h1 : m ≤ 4611686018427387904) : (wrap64 (n.tmod m + m)).tmod m = n % m := by
  have hb1 := Int.lt_tmod_of_pos n h0
  have hb2 := Int.tmod_lt_of_pos n h0
  have e : wrap64 (n.tmod m + m) = n.tmod m + m := by simp only [wrap64]; omega
  rw [e, Int.tmod_eq_emod_of_nonneg (by omega), Int.add_emod_right]
  have e2 : n.tmod m = n + m * (-(n.tdiv m)) := by rw [Int.tmod_def, Int.mul_neg]; omega
  rw [e2, Int.add_mul_emod_self_left]
theorem dmod_any (n m : Int) (h0 : 0 < m) (h1 : m ≤ 4611686018427387904) (_h2 : -9223372036854775808 ≤ n) (_h3 : n ≤ 9223372036854775807) (w : World) :
    Calls Try.prog 21 #[.int .i64 n, .int .i64 m] w fun e w' => e = .returned (.int .i64 (n % m)) ∧ w' = w := by
  go_enter Try.func21, Try.ntmps21
  go_wp2
  go_ret
  exact ⟨ret_int_eq (mod_law' n m h0 h1), rfl⟩

/-- What a call of Next leaves: a number below n, the deck, all else as it was. -/
def Taken (d : Nat) (n : Int) (w : World) (e : Ending) (w' : World) : Prop := ∃ r : Int, e = .returned (.int .i64 r) ∧ 0 ≤ r ∧ r < n ∧ Deck w' d ∧ But d w w'

set_option maxHeartbeats 1000000 in
theorem next_any (d : Nat) (n : Int) (h0 : 1 ≤ n) (h1 : n ≤ 4611686018427387904) (w : World) (hd : Deck w d) :
    Calls Try.prog 12 #[.pointer (some ⟨d, 0, none⟩), .int .i64 n] w (Taken d n w) := by
  have hd' := Lib.hid hd
  obtain ⟨a, len, cap, zs, i, hr, hne, hb, hi⟩ := hd
  have c0 := hb.cell 0 _ rfl; have c1 := hb.cell 1 _ rfl; have cf := hb.free
  have hl0 : (0 : Int) ≤ (i : Int) := Int.natCast_nonneg _
  have hlen : len ≤ maxLen := by
    rcases hr with ⟨_, rfl, _⟩ | ⟨x, _, h1, h2, _⟩
    · simp [maxLen]
    · omega
  unfold maxLen at hlen
  by_cases hil : len ≤ i
  · have HR := Lib.hid hr; clear hr
    have hil' : (len : Int) ≤ (i : Int) := by omega
    go_enter Try.func12, Try.ntmps12
    go_wp2
    go_quiet (fail)
    go_wp2
    go_ret
    exact ⟨0, rfl, by omega, by omega, hd'.out.below (below_drewN (Below.refl w.heap.size w) _) (Nat.le_refl _), But.of_below (below_drewN (Below.refl w.heap.size w) _)⟩
  · have hil' : decide (len ≤ i) = false := by simpa using hil
    by_cases hn : n ≤ 1
    · have HR := Lib.hid hr; clear hr
      go_enter Try.func12, Try.ntmps12
      go_wp2
      go_quiet (fail)
      go_wp2
      go_ret
      exact ⟨0, rfl, by omega, by omega, hd'.out.below (below_drewN (Below.refl w.heap.size w) _) (Nat.le_refl _), But.of_below (below_drewN (Below.refl w.heap.size w) _)⟩
    · have hn' : decide (n ≤ 1) = false := by simpa using hn
      rcases hr with ⟨_, rfl, _⟩ | ⟨x, rfl, k1, k2, k3, k4, k5⟩
      · omega
      · have hlt : i < zs.length := by omega
        obtain ⟨xb, xo, rfl, kc⟩ := ints_at k4 (by omega)
        have hx := kc i hlt
        have hxd' : xb < d := hne _ rfl (by omega)
        have hxd : xb ≠ d := by omega
        have KC := Lib.hid kc
        clear kc
        have hw : (Lit.int .i64 (zs.getD i 0)).wf = true := k5 _ (by rw [List.getD_eq_getElem?_getD, List.getElem?_eq_getElem hlt]; exact List.getElem_mem hlt)
        have hv : -9223372036854775808 ≤ zs.getD i 0 ∧ zs.getD i 0 ≤ 9223372036854775807 := by simpa [Lit.wf, IntKind.min, IntKind.max, IntKind.signed, IntKind.bits] using hw
        generalize zs.getD i 0 = v at *
        have K4 := Lib.hid k4; have K5 := Lib.hid k5
        clear k4 k5 hw
        go_enter Try.func12, Try.ntmps12
        go_wp2
        go_quiet (fail)
        go_wp2
        have hi0 : (0 : Int) ≤ (i : Int) := Int.natCast_nonneg _
        have hi1 : (i : Int) < (len : Int) := by omega
        have hd1 : d ≠ xb := Ne.symm hxd
        go_quiet ((go_at_call 21; exact Calls.quiet_of_same (dmod_any v n (by omega) h1 hv.1 hv.2 _)))
        go_wp2
        go_ret
        have hmem : Deck (w.setCell ⟨d, 1, none⟩ (.int .i64 ((i : Int) + 1))) d :=
          ⟨some ⟨xb, xo, none⟩, len, cap, zs, i + 1, (IsRow.block (w := w) (.inr ⟨_, rfl, k1, k2, k3, K4.out, K5.out⟩) (fun x hx _ => by cases hx; exact Below.heap_setCell w _ _ _ hxd)), hne, (hb.set1 _).at (by simp), by omega⟩
        have hbut : But d w (w.setCell ⟨d, 1, none⟩ (.int .i64 ((i : Int) + 1))) := (But.of_below (Below.refl _ _)).setCell _
        exact ⟨v % n, rfl, Int.emod_nonneg _ (by omega), Int.emod_lt_of_pos _ (by omega), (hmem.drewN _).drewN _, (hbut.drewN _).drewN _⟩

theorem new_any (a : Option Addr) (len cap : Nat) (zs : List Int) (w : World) (hr : IsRow .i64 w a len cap zs) :
    Calls Try.prog 10 #[.slice a len cap] w fun e w' => e = .returned (.pointer (some ⟨w.heap.size, 0, none⟩)) ∧ Deck w' w.heap.size ∧ Below w.heap.size w w' := by
  have HR := Lib.hid hr
  clear hr
  go_enter Try.func10, Try.ntmps10
  go_wp2
  go_ret
  have hbel : Below w.heap.size w (w.alloc (.cells #[.slice a len cap, .int .i64 0] 87)) := (Below.refl _ _).alloc (Nat.le_refl _) _
  refine ⟨rfl, ⟨a, len, cap, zs, 0, HR.out.block (fun x _ hx => hbel.block _ hx), ?_, Has.new w [.slice a len cap, .int .i64 0] 87, Nat.zero_le _⟩, hbel⟩
  intro x hx hz
  rcases HR.out with h | ⟨y, h0, _, _, h3, h4, _⟩
  · rw [h.1] at hx; cases hx
  · rw [h0] at hx; cases hx
    have := World.block_lt_of_cell? w _ (h4 0 hz)
    rw [add_block] at this
    exact this
theorem IsRow.lens {k : IntKind} {w : World} {a : Option Addr} {len cap : Nat} {zs : List Int} (h : IsRow k w a len cap zs) : len ≤ 9223372036854775807 := by
  rcases h with ⟨_, rfl, _⟩ | ⟨x, _, h1, h2, _⟩
  · omega
  · unfold maxLen at h2; omega
theorem add_at (x : Addr) (i : Nat) (w : World) (v : Value) (h : w.cell? (x.add i) = some v) (b o : Nat) (e : x = ⟨b, o, none⟩) : w.cell? ⟨b, o + i, none⟩ = some v := by
  subst e
  have hadd : (⟨b, o, none⟩ : Addr).add i = ⟨b, o + i, none⟩ := by unfold Addr.add; split <;> simp_all
  rwa [hadd] at h
theorem IsRow.place {k : IntKind} {w : World} {x : Addr} {cap len : Nat} {zs : List Int} (h : IsRow k w (some x) len cap zs) (hl : 0 < len) : ∃ b o, x = ⟨b, o, none⟩ := by
  rcases h with ⟨h, _⟩ | ⟨y, e, h1, h2, h3, h4, _⟩
  · cases h
  · cases e
    obtain ⟨b, o, e, _⟩ := ints_at h4 (by omega)
    exact ⟨b, o, e⟩
theorem IsRow.bytes {w : World} {a : Option Addr} {len cap : Nat} {zs : List Int} (h : IsRow .u8 w a len cap zs) (hl : len ≤ 17592186044416) : Bytes (fun _ => True) w a len cap (zs.take len) := by
  have hh := h
  rcases h with ⟨rfl, rfl, rfl, rfl⟩ | ⟨x, rfl, h1, h2, h3, h4, h5⟩
  · exact Row.nil RU8 1 _ w none (by decide)
  · refine ⟨by rw [List.length_take]; omega, h1, by unfold maxLen at h2; omega, hl, fun i z e => ?_⟩
    rw [List.getElem?_take] at e
    split at e
    · rename_i hi
      obtain ⟨b, o, rfl⟩ := hh.place (by omega)
      have hc := h4 i (by omega)
      have hz : zs.getD i 0 = z := by rw [List.getD_eq_getElem?_getD, e]; rfl
      have hw := h5 z (List.mem_of_getElem? e)
      rw [hz] at hc
      have hb := add_at _ _ _ _ hc b o rfl
      refine ⟨b, o, rfl, trivial, World.block_lt_of_cell? w _ hb, by rw [Nat.mul_one]; exact hb, ?_⟩
      simpa [Lit.wf, IntKind.min, IntKind.max, IntKind.signed, IntKind.bits] using hw
    · cases e
end Go.Proofs.Ytonbmijhbbodnaa
