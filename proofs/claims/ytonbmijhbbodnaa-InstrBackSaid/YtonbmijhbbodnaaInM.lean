/-
  Registers read: sorted, each once, none of them 0: what the library's three functions make of at most two registers.
-/
import Derived.Test.YtonbmijhbbodnaaInS
import Derived.Test.YtonbmijhbbodnaaInP
import Derived.Lib.OwnBridge
namespace Go.Proofs.Ytonbmijhbbodnaa
open Go.RowKit Go.Sort

/-- The registers of a list, in order, each once, without 0. -/
def rdl (rs : List Int) : List Int := [1, 2, 3, 4, 5, 6, 7].filter (fun r => rs.contains r)
def Rg (z : Int) : Prop := 0 ≤ z ∧ z < 8
theorem rdl_range (rs : List Int) : ∀ z ∈ rdl rs, -9223372036854775808 ≤ z ∧ z ≤ 9223372036854775807 := by
  intro z hz
  have := (List.mem_filter.1 hz).1
  simp at this
  omega
theorem rdl_length (rs : List Int) : (rdl rs).length ≤ 7 := List.length_filter_le _ _
/-- What is sorted, made once each and freed of 0. -/
def tidy (zs : List Int) : List Int := (Lib.compact (zs.mergeSort fun x y => decide (x ≤ y))).filter fun x => !decide (x = 0)
theorem compact_one (a : Int) : Lib.compact [a] = [a] := by
  simp [Lib.compact, Lib.compactUpTo, Lib.keeps, List.range, List.range.loop]
theorem compact_same (a : Int) : Lib.compact [a, a] = [a] := by
  simp [Lib.compact, Lib.compactUpTo, Lib.keeps, List.range, List.range.loop]
theorem compact_two {a b : Int} (h : a ≠ b) : Lib.compact [a, b] = [a, b] := by
  have h' : ¬ b = a := fun e => h e.symm
  simp [Lib.compact, Lib.compactUpTo, Lib.keeps, List.range, List.range.loop, h']
theorem sort_two (a b : Int) : [a, b].mergeSort (fun x y => decide (x ≤ y)) = if a ≤ b then [a, b] else [b, a] := by
  rw [List.mergeSort]
  simp [List.MergeSort.Internal.splitInTwo, List.splitAt, List.splitAt.go, List.merge]
theorem tidy_one {a : Int} (ha : Rg a) : tidy [a] = rdl [a] := by
  unfold tidy
  rw [List.mergeSort_singleton, compact_one]
  obtain ⟨h0, h1⟩ := ha
  have : a = 0 ∨ a = 1 ∨ a = 2 ∨ a = 3 ∨ a = 4 ∨ a = 5 ∨ a = 6 ∨ a = 7 := by omega
  rcases this with rfl | rfl | rfl | rfl | rfl | rfl | rfl | rfl <;> decide
theorem rdl_fin : ∀ a b : Fin 8, (a.val < b.val → ([(a.val : Int), b.val].filter fun x => !decide (x = 0)) = rdl [(a.val : Int), b.val]) ∧ (a.val < b.val → ([(a.val : Int), b.val].filter fun x => !decide (x = 0)) = rdl [(b.val : Int), a.val]) ∧ (([(a.val : Int)].filter fun x => !decide (x = 0)) = rdl [(a.val : Int), a.val]) := by decide
theorem tidy_two {a b : Int} (ha : Rg a) (hb : Rg b) : tidy [a, b] = rdl [a, b] := by
  obtain ⟨A, rfl⟩ := Int.eq_ofNat_of_zero_le ha.1
  obtain ⟨B, rfl⟩ := Int.eq_ofNat_of_zero_le hb.1
  have hA : A < 8 := by have := ha.2; omega
  have hB : B < 8 := by have := hb.2; omega
  unfold tidy
  rw [sort_two]
  by_cases h : A = B
  · subst h
    rw [if_pos (Int.le_refl _), compact_same]
    exact (rdl_fin ⟨A, hA⟩ ⟨A, hA⟩).2.2
  · by_cases hl : A < B
    · rw [if_pos (by omega), compact_two (by omega)]
      exact (rdl_fin ⟨A, hA⟩ ⟨B, hB⟩).1 hl
    · rw [if_neg (by omega), compact_two (by omega)]
      exact (rdl_fin ⟨B, hB⟩ ⟨A, hA⟩).2.1 (by simp; omega)
theorem tidy_nil : tidy [] = rdl [] := by unfold tidy; rw [List.mergeSort_nil]; decide

theorem below_grow {w : World} {os : Array Obj} : Below w.heap.size w (grow w os) :=
  ⟨rfl, rfl, rfl, by simp [grow], fun _ h => heap_grow_old w os h⟩
theorem holds_pre {w : World} {b o : Nat} {xs ys : List Int} (h : Holds (Value.int .i64) w b o (xs ++ ys).toArray) : Holds (Value.int .i64) w b o xs.toArray := fun j hj => by
  have hj' : j < xs.length := by simpa using hj
  have := h j (by simp; omega)
  refine ⟨?_, this.2⟩
  rw [this.1]
  simp [hj', List.getElem?_append_left]
theorem holds_blk {w : World} {b : Nat} {t : TypeId} {zs : List Int} (h : Blk w b t (ivs zs)) : Holds (Value.int .i64) w b 0 zs.toArray := fun j hj => by
  have hj' : j < zs.length := by simpa using hj
  refine ⟨?_, h.free _⟩
  rw [h.cell (i := 0 + j) (v := .int .i64 zs[j]) (by rw [Nat.zero_add]; exact ivs_get (List.getElem?_eq_getElem hj'))]
  simp [hj']
theorem ints_holds {w : World} {b : Nat} {K : Nat → Prop} {zs : List Int} {n cap : Nat} (h : Holds (Value.int .i64) w b 0 zs.toArray) (hn : n = zs.length) (hc : n ≤ cap) (hm : cap ≤ 1000) (hK : K b) (hb : b < w.heap.size) (hz : ∀ z ∈ zs, -9223372036854775808 ≤ z ∧ z ≤ 9223372036854775807) : Ints K w (some ⟨b, 0, none⟩) n cap zs :=
  ⟨hn.symm, hc, by omega, by omega, fun i x hx => ⟨b, 0, rfl, hK, hb, by
    have hi := (List.getElem?_eq_some_iff.1 hx).1
    have := (h i (by simpa using hi)).1
    rw [Nat.mul_one]
    refine ⟨?_, hz x (List.mem_of_getElem? hx)⟩
    rw [this]
    simp [hx]⟩⟩
theorem compact_le (zs : List Int) : (Lib.compact zs).length ≤ zs.length := by
  unfold Lib.compact Lib.compactUpTo
  rw [List.length_map]
  exact Nat.le_trans (List.length_filter_le _ _) (by simp)
theorem zero_eg : ∀ args w, (callFunc 57 args).run Try.prog w = .ok (.enter 57 args) w := enters_of Try.func57 (by kernel_rfl) rfl
theorem zero_any (x : Int) (w : World) : Calls Try.prog 57 #[.int .i64 x] w fun e w' => e = .returned (.bool (decide (x = 0))) ∧ ∃ q, w' = w.drewN q := by
  by_cases h : x = 0
  · subst h
    go_enter Try.func57, Try.ntmps57
    go_wp2
    go_ret
    exact ⟨rfl, 0, rfl⟩
  · go_enter Try.func57, Try.ntmps57
    go_wp2
    go_ret
    exact ⟨by simp [h], 0, rfl⟩
/-- The three calls, one after the other. Each keeps what lies below the block. -/
theorem sort_call (b cap : Nat) (zs : List Int) (w : World) (h : Holds (Value.int .i64) w b 0 zs.toArray) (hb : b < w.heap.size) (hn : zs.length ≤ 1000) : Calls Try.prog 54 #[.slice (some ⟨b, 0, none⟩) zs.length cap] w fun e w' =>
    e = .returned (.tuple #[]) ∧ Holds (Value.int .i64) w' b 0 (zs.mergeSort fun x y => decide (x ≤ y)).toArray ∧ Below b w w' := by
  refine (sh_slices_Sort_int b 0 cap zs w h hb (by omega)).mono ?_
  rintro e w' ⟨rfl, n, os, rfl⟩
  refine ⟨rfl, holds_grow _ _ _ _ _ _ (by simpa using hb) (holds_putRow _ _ _ _ zs.toArray _ h (by simp)), ?_⟩
  exact (Lib.below_putRow (Below.refl b w |>.mono (Nat.le_refl _)) (Nat.le_refl _)).trans (below_grow.mono (by simp; omega))
theorem compact_call (b cap : Nat) (zs : List Int) (w : World) (h : Holds (Value.int .i64) w b 0 zs.toArray) (_hb : b < w.heap.size) (hn : zs.length ≤ 1000) (hc : zs.length ≤ cap) : Calls Try.prog 56 #[.slice (some ⟨b, 0, none⟩) zs.length cap] w fun e w' =>
    e = .returned (.slice (some ⟨b, 0, none⟩) (Lib.compact zs).length cap) ∧ Holds (Value.int .i64) w' b 0 (Lib.compact zs).toArray ∧ Below b w w' := by
  refine (sh_slices_Compact_int b 0 cap zs w h (by omega) hc).mono ?_
  rintro e w' ⟨rfl, q, rfl⟩
  refine ⟨rfl, holds_pre (holds_putRow _ _ _ _ zs.toArray _ h (by have := compact_le zs; simp; omega)), ?_⟩
  exact Lib.below_putRow (Below.refl b w) (Nat.le_refl _)
theorem delete_call (b cap : Nat) (zs : List Int) (w : World) (h : Holds (Value.int .i64) w b 0 zs.toArray) (_hb : b < w.heap.size) (hn : zs.length ≤ 1000) (hc : zs.length ≤ cap) : Calls Try.prog 55 #[.slice (some ⟨b, 0, none⟩) zs.length cap, .func (.func 57) #[] #[]] w fun e w' =>
    e = .returned (.slice (some ⟨b, 0, none⟩) (zs.filter fun x => !decide (x = 0)).length cap) ∧ Holds (Value.int .i64) w' b 0 (zs.filter fun x => !decide (x = 0)).toArray ∧ Below b w w' := by
  have hl := List.length_filter_le (fun x : Int => !decide (x = 0)) zs
  have hc' := sh_slices_DeleteFunc (Value.int .i64) (fun _ => rfl) (fun x => decide (x = 0)) 57 #[] zero_eg 0 (fun w => Try.zeroValue3 w) b 0 cap zs.toArray w (fun W x _ => zero_any x W) (fun n os dk x _ => zero_any x _) h (by simp; omega) (by simp; omega)
  refine hc'.mono ?_
  rintro e w' ⟨rfl, q, rfl⟩
  refine ⟨rfl, holds_pre (holds_putRow _ _ _ _ zs.toArray _ h (by simp; omega)), ?_⟩
  exact Lib.below_putRow (Below.refl b w) (Nat.le_refl _)
end Go.Proofs.Ytonbmijhbbodnaa
