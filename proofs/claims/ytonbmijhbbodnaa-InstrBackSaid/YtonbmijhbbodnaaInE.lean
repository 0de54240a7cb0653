/-
  Numbers as bytes: instr.join.
-/
import Derived.Test.YtonbmijhbbodnaaInP
import Derived.Deep.DeepCutAuto
import Derived.Deep.RegionHeld3
import Derived.Test.YtonbmijhbbodnaaKeep
namespace Go.Proofs.Ytonbmijhbbodnaa
open Go.RowKit

def b8 (z : Int) : Int := z % 256
theorem take_map_b8 {xs : List Int} {k : Nat} {z : Int} (h : xs[k]? = some z) : (xs.take (k + 1)).map b8 = (xs.take k).map b8 ++ [z % 256] := by
  rw [List.take_add_one, h]; simp [b8]
def JoinRet (xs : List Int) (w : World) (e : Ending) (w' : World) : Prop := ∃ v, e = .returned v ∧ w'.ownsRow w.heap.size 5 1 v xs.length (bcs (xs.map b8)) ∧ Below w.heap.size w w'
set_option maxHeartbeats 4000000 in
theorem join_any (K : Nat → Prop) (a : Option Addr) (len cap : Nat) (xs : List Int) (w : World) (r : Ints K w a len cap xs) (hl : len ≤ 1000) : Calls Try.prog 51 #[.slice a len cap] w (JoinRet xs w) := by
  have R := Lib.hid r
  clear r
  go_enter Try.func51, Try.ntmps51
  go_wp2
  go_loopw [3, 8] (fun v i wr => ∃ k : Nat, k ≤ len ∧ i = .int .i64 k ∧ wr.ownsRow w.heap.size 5 1 v k (bcs ((xs.take k).map b8)) ∧ Below w.heap.size w wr) (fun _ i _ => len - (intOf i).toNat)
  case atStart => exact ⟨0, Nat.zero_le _, rfl, World.ownsRow_nil _ _ _ _, Below.refl _ _⟩
  case round =>
    obtain ⟨k, hk, rfl, h1, h2⟩ := hrel
    obtain ⟨va, vc, rfl⟩ := flat_form h1
    have H1 := Lib.hid h1; have H2 := Lib.hid h2; clear h1 h2
    by_cases hlt : k < len
    · obtain ⟨b, o, z, rfl, hz, hcz0, hz0, hz1, _, hbw⟩ := Ints.get R.out hlt
      have hcz := (H2.out.cell (p := ⟨b, o + k, none⟩) hbw).trans hcz0
      have HZ := Lib.hid hz; clear hz hcz0
      have O1 := Lib.hid (flat_below H1.out ((Below.refl _ _).alloc (Nat.le_refl _) (.cells #[.int .u8 (z % 256)] 5)))
      have B1 := Lib.hid (Blk.new wr [.int .u8 (z % 256)] 5)
      go_wp2_with (at_builtin; refine wpList_append_flat rfl _ _ 47 rfl 5 Try.underlying47 info_u8 rfl (by decide) O1.out rfl (by have := H2.out.size; simp; omega) ⟨wr.heap.size, 0, none⟩ 1 1 [.int .u8 (z % 256)] rfl rfl (news_one B1.out) (by simp [Value.oneCell']) (by decide) (by omega) (by decide) ?_; intro g cap w6 hap)
      have C6 := Lib.hid (hap.out.non O1.out (M := Non) ((Chg.of_below H2.out).alloc _) (Nat.le_refl _)).below0
      have Q6 := Lib.hid hap.out.owns
      clear hap
      go_roundw
      case rel => exact ⟨k + 1, by omega, by go_num, by rw [take_map_b8 HZ.out, bcs_append]; exact Q6.out, C6.out⟩
      case measure => simp [intOf]; omega
    · go_wp2
      have e : k = xs.length := by have := R.out.hlen; omega
      subst e
      rw [List.take_length] at H1
      go_ret
      exact ⟨_, rfl, H1.out, H2.out⟩
/-- A literal of integers reads as its list. -/
theorem ints_new (w : World) (l : List Int) (n : Nat) (t : TypeId) (hn : l.length = n) (hm : n ≤ 1000) (hz : ∀ z ∈ l, -9223372036854775808 ≤ z ∧ z ≤ 9223372036854775807) : Ints (Ge w.heap.size) (w.alloc (.cells (ivs l).toArray t)) (some ⟨w.heap.size, 0, none⟩) n n l :=
  ⟨hn, Nat.le_refl _, by omega, by omega, fun i x hx => ⟨w.heap.size, 0, rfl, Nat.le_refl _, by simp, by
    refine ⟨?_, hz x (List.mem_of_getElem? hx)⟩
    rw [Nat.zero_add, Nat.mul_one]
    exact (Blk.new w (ivs l) t).cell (ivs_get hx)⟩⟩
end Go.Proofs.Ytonbmijhbbodnaa
