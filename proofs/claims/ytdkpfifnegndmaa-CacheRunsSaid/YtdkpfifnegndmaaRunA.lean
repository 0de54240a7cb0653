/-
  Deck.Left; the document's Line and Set.
-/
import Derived.Test.YtdkpfifnegndmaaCacheI
import Derived.Test.YtdkpfifnegndmaaCacheL
namespace Go.Proofs.Ytdkpfifnegndmaa
open Go.RowKit

/-- A Bool, the deck, all old blocks as they were. -/
def LeftRet (d : Nat) (w : World) (e : Ending) (w' : World) : Prop := ∃ b : Bool, e = .returned (.bool b) ∧ Deck w' d ∧ Below w.heap.size w w'
set_option maxHeartbeats 1000000 in
theorem left_any (d : Nat) (w : World) (hd : Deck w d) :
    Calls Try.prog 22 #[.pointer (some ⟨d, 0, none⟩)] w (LeftRet d w) := by
  have hd' := Lib.hid hd
  obtain ⟨a, len, cap, zs, i, hr, hne, hb, hi⟩ := hd
  have c0 := hb.cell 0 _ rfl; have c1 := hb.cell 1 _ rfl; have cf := hb.free
  clear hr hne
  go_enter Try.func22, Try.ntmps22
  go_wp2
  go_quiet (fail)
  go_wp2
  go_ret
  exact ⟨_, rfl, hd'.out.below (below_drewN (Below.refl w.heap.size w) _) (Nat.le_refl _), below_drewN (Below.refl w.heap.size w) _⟩

set_option maxHeartbeats 1000000 in
theorem rline_any (S W L : Int) (hc : COk S W L) (n : Int) (hn : 0 ≤ n) (hn' : n ≤ 9223372036854775807) (w : World) :
    Calls Try.prog 40 #[CV S W L, .int .i64 n] w (IntRet (n / L) w) := by
  have hC := Lib.hid hc
  obtain ⟨h1, h2, h3, h4, h5, h6⟩ := hc
  have f0 := Fm.new (Fm.start Non w) rfl [.int .i64 S, .int .i64 W, .int .i64 L] 29
  have F0 := Lib.hid f0; clear f0
  go_enter Try.func40, Try.ntmps40
  go_wp2_with fail
  refine (rcheck_ok _ _ _ hC.out _).mono ?_
  rintro e w1 ⟨rfl, hb1⟩
  have f1 := Fm.call hb1 F0.out
  have t0 := f1.h0
  have c0 := t0.cell 0 _ rfl; have c1 := t0.cell 1 _ rfl; have c2 := t0.cell 2 _ rfl; have lt0 := t0.lt (by simp)
  go_wp2
  go_ret
  exact ⟨rfl, f1.below⟩
set_option maxHeartbeats 1000000 in
theorem rset_any (S W L : Int) (hc : COk S W L) (hS : 1 ≤ S) (n : Int) (hn : 0 ≤ n) (hn' : n ≤ 9223372036854775807) (w : World) :
    Calls Try.prog 41 #[CV S W L, .int .i64 n] w (IntRet (n % S) w) := by
  have hC := Lib.hid hc
  obtain ⟨h1, h2, h3, h4, h5, h6⟩ := hc
  have hz : (S == 0) = false := by simp; omega
  have f0 := Fm.new (Fm.start Non w) rfl [.int .i64 S, .int .i64 W, .int .i64 L] 29
  have F0 := Lib.hid f0; clear f0
  go_enter Try.func41, Try.ntmps41
  go_wp2_with fail
  refine (rcheck_ok _ _ _ hC.out _).mono ?_
  rintro e w1 ⟨rfl, hb1⟩
  have f1 := Fm.call hb1 F0.out
  have t0 := f1.h0
  have c0 := t0.cell 0 _ rfl; have c1 := t0.cell 1 _ rfl; have c2 := t0.cell 2 _ rfl; have lt0 := t0.lt (by simp)
  go_wp2
  go_ret
  exact ⟨rfl, f1.below⟩
set_option maxHeartbeats 1000000 in
theorem rset_none (W L : Int) (hc : COk 0 W L) (n : Int) (w : World) :
    Calls Try.prog 41 #[CV 0 W L, .int .i64 n] w (IntRet (-1) w) := by
  have hC := Lib.hid hc
  obtain ⟨h1, h2, h3, h4, h5, h6⟩ := hc
  have f0 := Fm.new (Fm.start Non w) rfl [.int .i64 0, .int .i64 W, .int .i64 L] 29
  have F0 := Lib.hid f0; clear f0
  by_cases hn : n < 0
  all_goals
    go_enter Try.func41, Try.ntmps41
    go_wp2_with fail
    refine (rcheck_ok _ _ _ hC.out _).mono ?_
    rintro e w1 ⟨rfl, hb1⟩
    have f1 := Fm.call hb1 F0.out
    have t0 := f1.h0
    have c0 := t0.cell 0 _ rfl; have c1 := t0.cell 1 _ rfl; have c2 := t0.cell 2 _ rfl; have lt0 := t0.lt (by simp)
    go_wp2
    go_ret
    exact ⟨rfl, f1.below⟩
end Go.Proofs.Ytdkpfifnegndmaa
