/-
  timeboundlaw22.awake: the example of the chapter is as it says.
-/
import Derived.Test.YtdkpfifnegndmaaCacheM
import Derived.Test.YtdkpfifnegndmaaCacheG
import Derived.Test.YtdkpfifnegndmaaCacheK
namespace Go.Proofs.Ytdkpfifnegndmaa
open Go.RowKit

theorem Ints.blk {w : World} {b : Nat} {t : TypeId} {zs : List Int} {sp : List Value} {K : Nat → Prop} {n cap : Nat} (h : Blk w b t (ivs zs ++ sp)) (hn : n = zs.length) (hc : n ≤ cap) (hm : cap ≤ 9223372036854775807) (hs : n ≤ 17592186044416) (hK : K b) (hz : ∀ z ∈ zs, -9223372036854775808 ≤ z ∧ z ≤ 9223372036854775807) : Ints K w (some ⟨b, 0, none⟩) n cap zs :=
  ⟨hn.symm, hc, hm, hs, fun i x e => ⟨b, 0, rfl, hK, h.lt, h.cell (by rw [Nat.zero_add, Nat.mul_one, List.getElem?_append_left (by rw [ivs_length]; exact (List.getElem?_eq_some_iff.1 e).1)]; exact ivs_get e), hz x (List.mem_of_getElem? e)⟩⟩
theorem awake_mm : mm 1 (List.replicate 1 (List.replicate 2 (-1))) ([1, 2, 1, 3, 2].map (· / ((1 : Nat) : Int))) = 4 := by decide
theorem awake_in : ∀ z ∈ [(1 : Int), 2, 1, 3, 2], 0 ≤ z ∧ z ≤ 1048576 := by decide
theorem awake_in' : ∀ z ∈ [(1 : Int), 2, 1, 3, 2], -9223372036854775808 ≤ z ∧ z ≤ 9223372036854775807 := by decide

theorem awake_misses (w : World) (a : Option Addr) (n cap b : Nat) (ho : OMat w (Ge 0) (.slice a n cap) (List.replicate 1 (List.replicate 2 (-1)))) (hb : Blk w b 3 (ivs [1, 2, 1, 3, 2])) :
    Calls Try.prog 14 #[.agg #[.int .i64 1, .int .i64 2, .int .i64 1], .agg #[.slice a n cap], .slice (some ⟨b, 0, none⟩) 5 5] w (Int2Ret 4 0 w) := by
  have h := misses_any 1 2 1 ⟨by decide, by decide, by decide, by decide, by decide, by decide⟩ (fun _ => True) (fun _ => True) a n cap _ w (ho.read (fun _ _ => trivial)) (by have := (ho.read (K := fun _ => True) (fun _ _ => trivial)).hlen; simp at this; omega) (some ⟨b, 0, none⟩) 5 5 [1, 2, 1, 3, 2] (Ints.blk (sp := []) (by rw [List.append_nil]; exact hb) rfl (by decide) (by decide) (by decide) trivial awake_in') (valid_empty 1 2) (by decide) awake_in
  rw [awake_mm] at h
  exact h

set_option maxHeartbeats 4000000 in
theorem awake_any (w : World) : Calls Try.prog 10 #[] w fun e w' => e = .returned (.bool true) ∧ Below w.heap.size w w' := by
  have C1 := Lib.hid (show COk (1 : Nat) (2 : Nat) (1 : Nat) from ⟨by decide, by decide, by decide, by decide, by decide, by decide⟩)
  have C2 := Lib.hid (show COk 2 1 4 from ⟨by decide, by decide, by decide, by decide, by decide, by decide⟩)
  have C3 := Lib.hid (show COk 1 2 1 from ⟨by decide, by decide, by decide, by decide, by decide, by decide⟩)
  have emp := Lib.hid (fun w => empty_any 1 2 1 C1.out w)
  have F0 := Lib.hid (Fm.new (Fm.start Non w) rfl [.int .i64 1, .int .i64 2, .int .i64 1] 29)
  go_enter Try.func10, Try.ntmps10
  go_wp2
  have B0 := Lib.hid ((Blk.new (w.alloc (.cells #[.int .i64 1, .int .i64 2, .int .i64 1] 29)).drew (ivs [1, 2, 1, 3, 2]) 3).at' (show _ = w.heap.size + 1 by simp))
  go_region_held3 (fun w' => w'.cell? ⟨w.heap.size, 0, none⟩ = some (.int .i64 1) ∧ w'.cell? ⟨w.heap.size, 1, none⟩ = some (.int .i64 2) ∧ w'.cell? ⟨w.heap.size, 2, none⟩ = some (.int .i64 1)) (((try dsimp only); (try go_split_ands); (repeat' apply And.intro); all_goals (first | assumption | (refine cell_later hb5 ?_; first | assumption | go_keep) | (refine cell_later hb4 ?_; first | assumption | go_keep) | go_keep)))
    (first
      | (go_at_call 19; refine (emp.out _).mono ?_; rintro e w4 ⟨oa, on, oc, rfl, ho4, hb4⟩; have l4 : w.heap.size < w4.heap.size := by have := hb4.size; simp at this; omega)
      | (go_at_call 14; refine (awake_misses _ _ _ _ _ (by first | exact (OMat.loc.below ho4 ((Below.refl _ _).alloc (Nat.le_refl _) _)).ge (Nat.zero_le _) | exact ho4.ge (Nat.zero_le _)) (by first | exact Blk.new w4 (ivs [1, 2, 1, 3, 2]) 3 | exact B0.out.below hb4 (by simp))).mono ?_; rintro e w5 ⟨rfl, hb5⟩))
  all_goals
    have F5 := Lib.hid (show Fm Non w w5 [[.int .i64 1, .int .i64 2, .int .i64 1]] from by first | exact Fm.call hb5 ((Fm.call hb4 F0.out.drew).more _) | exact Fm.call hb5 (Fm.call hb4 (F0.out.drew.more _)))
    have t0 := F5.out.h0
    have c0 := t0.cell 0 _ rfl; have c1 := t0.cell 1 _ rfl; have c2 := t0.cell 2 _ rfl; have lt0 := t0.lt (by simp)
    clear hb4 hb5 ho4 l4
    go_wp2_with fail
    refine (line_any 2 1 4 C2.out 9 (by decide) (by decide) _).mono ?_
    rintro e w6 ⟨rfl, hb6⟩
    have F6 := Lib.hid (Fm.call hb6 F5.out)
    clear t0 c0 c1 c2 lt0
    have t0 := F6.out.h0
    have c0 := t0.cell 0 _ rfl; have c1 := t0.cell 1 _ rfl; have c2 := t0.cell 2 _ rfl; have lt0 := t0.lt (by simp)
    go_wp2_with fail
    refine (setof_any 1 2 1 C3.out (by decide) 7 (by decide) (by decide) _).mono ?_
    rintro e w7 ⟨rfl, hb7⟩
    go_wp2
    go_ret
    exact ⟨ret_b (by decide), (Fm.call hb7 F6.out).below⟩
end Go.Proofs.Ytdkpfifnegndmaa
