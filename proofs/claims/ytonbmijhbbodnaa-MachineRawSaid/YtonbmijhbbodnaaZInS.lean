/-
  Contracts of the library's functions, laid by the kit's tool over this program (plain mode): bytes_Equal, slices_Compact_int, slices_Compact_int_empty, slices_DeleteFunc, slices_IndexFunc_empty, slices_Sort_int, slices_Sort_int_none.
  Registers read: sorted, each once, none of them 0: what the library's three functions make of at most two registers.
-/
import Derived.Shelf.Small.Bits
import Derived.Shelf.Strconv.Itoa0
import Derived.Shelf.Sort.Plain
import Derived.Shelf.Slices.Equal
import Derived.Ground.Names2Prog
import Derived.Shelf.Slices.Clone
import Derived.Shelf.Slices.CompactI
import Derived.Shelf.Slices.Cells
import Derived.Shelf.Slices.In.SortNone
import Derived.Shelf.Slices.Empties2
import Derived.Ground.SlgnProg
import Derived.Shelf.SlicesE.Equal
import Derived.Shelf.SlicesE.Compact
import Derived.Ground.SlgfProg
import Derived.Shelf.SlicesE.IndexFunc
import Derived.Shelf.SlicesE.DeleteFunc
import Derived.Shelf.Bytes.Small
import Derived.Lib.OwnBridge
import Derived.Test.YtonbmijhbbodnaaRows
import Derived.Test.YtonbmijhbbodnaaZGrow
namespace Go.Proofs.Ytonbmijhbbodnaa
open Go.Shelf
def sh_lays189_ren : Go.Shelf.Ren := ⟨fun | 189 => 54 | 125 => 86 | 257 => 85 | 128 => 108 | 129 => 109 | 294 => 99 | 295 => 100 | 296 => 101 | 297 => 102 | 298 => 103 | 299 => 104 | 216 => 105 | 300 => 106 | 301 => 107 | 328 => 135 | 329 => 136 | 330 => 137 | 331 => 138 | 332 => 139 | 215 => 140 | 343 => 145 | n => n, fun | 28 => 22 | 3 => 3 | 46 => 90 | 0 => 0 | 51 => 97 | 53 => 152 | 4 => 4 | 183 => 155 | 182 => 154 | 131 => 113 | 5 => 5 | 9 => 9 | 218 => 168 | 222 => 172 | 228 => 177 | 229 => 178 | n => n, fun | n => n⟩
theorem sh_lays189 : Go.Proofs.Lays.n189 Try.prog sh_lays189_ren := {
  mixed := by kernel_rfl
  f125 := Try.func86.trans (congrArg some (by kernel_rfl))
  f128 := Try.func108.trans (congrArg some (by kernel_rfl))
  f129 := Try.func109.trans (congrArg some (by kernel_rfl))
  f189 := Try.func54.trans (congrArg some (by kernel_rfl))
  f215 := Try.func140.trans (congrArg some (by kernel_rfl))
  f216 := Try.func105.trans (congrArg some (by kernel_rfl))
  f257 := Try.func85.trans (congrArg some (by kernel_rfl))
  f294 := Try.func99.trans (congrArg some (by kernel_rfl))
  f295 := Try.func100.trans (congrArg some (by kernel_rfl))
  f296 := Try.func101.trans (congrArg some (by kernel_rfl))
  f297 := Try.func102.trans (congrArg some (by kernel_rfl))
  f298 := Try.func103.trans (congrArg some (by kernel_rfl))
  f299 := Try.func104.trans (congrArg some (by kernel_rfl))
  f300 := Try.func106.trans (congrArg some (by kernel_rfl))
  f301 := Try.func107.trans (congrArg some (by kernel_rfl))
  f328 := Try.func135.trans (congrArg some (by kernel_rfl))
  f329 := Try.func136.trans (congrArg some (by kernel_rfl))
  f330 := Try.func137.trans (congrArg some (by kernel_rfl))
  f331 := Try.func138.trans (congrArg some (by kernel_rfl))
  f332 := Try.func139.trans (congrArg some (by kernel_rfl))
  f343 := Try.func145.trans (congrArg some (by kernel_rfl))
  t0 := Try.underlying0
  a0 := Try.isAgg0
  z0 := Try.sizeOf0
  v0 := Try.zeroValue0
  t3 := Try.underlying3
  a3 := Try.isAgg3
  z3 := Try.sizeOf3
  v3 := Try.zeroValue3
  t4 := Try.underlying4
  a4 := Try.isAgg4
  z4 := Try.sizeOf4
  v4 := Try.zeroValue4
  t5 := Try.underlying5
  a5 := Try.isAgg5
  z5 := Try.sizeOf5
  v5 := Try.zeroValue5
  t9 := Try.underlying9
  a9 := Try.isAgg9
  z9 := Try.sizeOf9
  v9 := Try.zeroValue9
  t28 := Try.underlying22
  a28 := Try.isAgg22
  z28 := Try.sizeOf22
  v28 := Try.zeroValue22
  t46 := Try.underlying90
  a46 := Try.isAgg90
  z46 := Try.sizeOf90
  v46 := Try.zeroValue90
  t51 := Try.underlying97
  a51 := Try.isAgg97
  z51 := Try.sizeOf97
  v51 := Try.zeroValue97
  t53 := Try.underlying152
  a53 := Try.isAgg152
  z53 := Try.sizeOf152
  v53 := Try.zeroValue152
  t131 := Try.underlying113
  a131 := Try.isAgg113
  z131 := Try.sizeOf113
  v131 := Try.zeroValue113
  t182 := Try.underlying154
  a182 := Try.isAgg154
  z182 := Try.sizeOf154
  v182 := Try.zeroValue154
  t183 := Try.underlying155
  a183 := Try.isAgg155
  z183 := Try.sizeOf155
  v183 := Try.zeroValue155
  t218 := Try.underlying168
  a218 := Try.isAgg168
  z218 := Try.sizeOf168
  v218 := Try.zeroValue168
  t222 := Try.underlying172
  a222 := Try.isAgg172
  z222 := Try.sizeOf172
  v222 := Try.zeroValue172
  t228 := Try.underlying177
  a228 := Try.isAgg177
  z228 := Try.sizeOf177
  v228 := Try.zeroValue177
  t229 := Try.underlying178
  a229 := Try.isAgg178
  z229 := Try.sizeOf178
  v229 := Try.zeroValue178 }
open Go.Sort Go.RowKit in
theorem sh_slices_Sort_int (blk off cap : Nat) (zs : List Int) (w : World) (hH : Holds (Value.int .i64) w blk off zs.toArray) (hblk : blk < w.heap.size) (hsz : zs.length < 4611686018427387904) :
    Calls Try.prog 54 #[.slice (some ⟨blk, off, none⟩) zs.length cap] w fun e w' =>
      e = .returned (.tuple #[]) ∧ ∃ n os, w' = grow (putRow (Value.int .i64) (Sort.ahead w n) blk off (zs.mergeSort fun x y => decide (x ≤ y)).toArray) os := Any.slices_Sort_int sh_lays189 blk off cap zs w hH hblk hsz
def sh_laysNm220_ren : Go.Shelf.Ren := ⟨fun | 20 => 56 | n => n, fun | 22 => 22 | 3 => 3 | 4 => 4 | 0 => 0 | n => n, fun | n => n⟩
theorem sh_laysNm220 : Go.Proofs.Lays2.n20 Try.prog sh_laysNm220_ren := {
  mixed := by kernel_rfl
  f20 := Try.func56.trans (congrArg some (by kernel_rfl))
  t0 := Try.underlying0
  a0 := Try.isAgg0
  z0 := Try.sizeOf0
  v0 := Try.zeroValue0
  t3 := Try.underlying3
  a3 := Try.isAgg3
  z3 := Try.sizeOf3
  v3 := Try.zeroValue3
  t4 := Try.underlying4
  a4 := Try.isAgg4
  z4 := Try.sizeOf4
  v4 := Try.zeroValue4
  t22 := Try.underlying22
  a22 := Try.isAgg22
  z22 := Try.sizeOf22
  v22 := Try.zeroValue22
  i3 := by kernel_rfl }
open Go.RowKit Go.Lib Go.Sort in
theorem sh_slices_Compact_int (blk off cap : Nat) (zs : List Int) (w : World) (hH : Holds (Value.int .i64) w blk off zs.toArray) (hsz : zs.length ≤ 9223372036854775807) (hcap : zs.length ≤ cap) :
    Calls Try.prog 56 #[.slice (some ⟨blk, off, none⟩) zs.length cap] w fun e w' => e = .returned (.slice (some ⟨blk, off, none⟩) (Lib.compact zs).length cap) ∧ ∃ q, w' = putRow (Value.int .i64) (Sort.ahead w q) blk off (Lib.compact zs ++ List.replicate (zs.length - (Lib.compact zs).length) 0).toArray := Any.slices_Compact_int sh_laysNm220 blk off cap zs w hH hsz hcap
open Go.RowKit Go.Lib Go.Sort in
theorem sh_slices_Compact_int_empty (a : Option Addr) (cap : Nat) (w : World) :
    Calls Try.prog 56 #[.slice a 0 cap] w fun e w' => e = .returned (.slice a 0 cap) ∧ w' = w := Any.slices_Compact_int_empty sh_laysNm220 a cap w
open Go.RowKit Go.Sort in
theorem sh_slices_Sort_int_none (p : Option Addr) (cap : Nat) (w : World) :
    Calls Try.prog 54 #[.slice p 0 cap] w fun e w' => e = .returned (.tuple #[]) ∧ w' = w := Any.slices_Sort_int_none sh_lays189 p cap w
def sh_laysSlH6_f77_ren : Go.Shelf.Ren := ⟨fun | 6 => 77 | n => n, fun | 22 => 22 | 23 => 3 | 25 => 95 | 3 => 3 | 0 => 0 | 4 => 4 | n => n, fun | n => n⟩
theorem sh_laysSlH6_f77 : Go.Proofs.SlLaysH.n6 Try.prog sh_laysSlH6_f77_ren := {
  mixed := by kernel_rfl
  f6 := ⟨Try.f77.name, by decide, Try.func77.trans (congrArg some (by kernel_rfl))⟩
  t0 := Try.underlying0
  a0 := Try.isAgg0
  z0 := Try.sizeOf0
  v0 := Try.zeroValue0
  t3 := Try.underlying3
  a3 := Try.isAgg3
  z3 := Try.sizeOf3
  v3 := Try.zeroValue3
  t4 := Try.underlying4
  a4 := Try.isAgg4
  z4 := Try.sizeOf4
  v4 := Try.zeroValue4
  t22 := Try.underlying22
  a22 := Try.isAgg22
  z22 := Try.sizeOf22
  v22 := Try.zeroValue22
  a23 := Try.isAgg3
  z23 := Try.sizeOf3
  t25 := Try.underlying95
  a25 := Try.isAgg95
  z25 := Try.sizeOf95
  v25 := Try.zeroValue95 }
open Go.RowKit Go.Lib in
theorem sh_slices_IndexFunc_empty {α : Type} [Inhabited α] (a : Option Addr) (c : Nat) (fv : Value) (w : World) :
    Calls Try.prog 77 #[.slice a 0 c, fv] w fun e w' => e = .returned (.int .i64 (-1)) ∧ w' = w := AnyE.slices_IndexFunc_empty sh_laysSlH6_f77 a c fv w
def sh_laysSlH10_f55_ren : Go.Shelf.Ren := ⟨fun | 10 => 55 | 6 => 77 | n => n, fun | 22 => 22 | 23 => 3 | 25 => 95 | 3 => 3 | 4 => 4 | 0 => 0 | n => n, fun | n => n⟩
theorem sh_laysSlH10_f55 : Go.Proofs.SlLaysH.n10 Try.prog sh_laysSlH10_f55_ren := {
  mixed := by kernel_rfl
  f6 := ⟨Try.f77.name, by decide, Try.func77.trans (congrArg some (by kernel_rfl))⟩
  f10 := ⟨Try.f55.name, by decide, Try.func55.trans (congrArg some (by kernel_rfl))⟩
  t0 := Try.underlying0
  a0 := Try.isAgg0
  z0 := Try.sizeOf0
  v0 := Try.zeroValue0
  t3 := Try.underlying3
  a3 := Try.isAgg3
  z3 := Try.sizeOf3
  v3 := Try.zeroValue3
  t4 := Try.underlying4
  a4 := Try.isAgg4
  z4 := Try.sizeOf4
  v4 := Try.zeroValue4
  t22 := Try.underlying22
  a22 := Try.isAgg22
  z22 := Try.sizeOf22
  v22 := Try.zeroValue22
  a23 := Try.isAgg3
  z23 := Try.sizeOf3
  t25 := Try.underlying95
  a25 := Try.isAgg95
  z25 := Try.sizeOf95
  v25 := Try.zeroValue95 }
open Go.RowKit Go.Lib Go.Sort in
theorem sh_slices_DeleteFunc {α : Type} [Inhabited α] (enc : α → Value) (hO : OneCell enc) (p : α → Bool) (g : Nat) (lb : Array Value) (eg : ∀ args w, (callFunc g args).run Try.prog w = .ok (.enter g args) w) (zr : α) (v23 : ∀ w, (zeroValue 3).run Try.prog w = .ok (enc zr) w) (blk off cap : Nat) (d : Array α) (w : World) (hp : PredAt Try.prog g lb enc p w) (hpo : PredOver Try.prog g lb enc p blk off d.size w) (hH : Holds enc w blk off d) (hsz : d.size ≤ 9223372036854775807) (hcap : d.size ≤ cap) :
    Calls Try.prog 55 #[.slice (some ⟨blk, off, none⟩) d.size cap, .func (.func g) #[] lb] w fun e w' => e = .returned (.slice (some ⟨blk, off, none⟩) (d.toList.filter fun x => !p x).length cap) ∧ ∃ q, w' = putRow enc (Sort.ahead w q) blk off ((d.toList.filter fun x => !p x) ++ List.replicate (d.size - (d.toList.filter fun x => !p x).length) zr).toArray := AnyE.slices_DeleteFunc sh_laysSlH10_f55 enc hO p g lb eg zr v23 blk off cap d w hp hpo hH hsz hcap
def sh_lays115_ren : Go.Shelf.Ren := ⟨fun | 115 => 53 | n => n, fun | 37 => 47 | 4 => 4 | 9 => 9 | 5 => 5 | n => n, fun | n => n⟩
theorem sh_lays115 : Go.Proofs.Lays.n115 Try.prog sh_lays115_ren := {
  mixed := by kernel_rfl
  f115 := Try.func53.trans (congrArg some (by kernel_rfl))
  t4 := Try.underlying4
  a4 := Try.isAgg4
  z4 := Try.sizeOf4
  v4 := Try.zeroValue4
  t9 := Try.underlying9
  a9 := Try.isAgg9
  z9 := Try.sizeOf9
  v9 := Try.zeroValue9
  t37 := Try.underlying47
  a37 := Try.isAgg47
  z37 := Try.sizeOf47
  v37 := Try.zeroValue47 }
theorem sh_bytes_Equal (v1 v2 : Value) (xs ys : List Int) (w : World) (h1 : (convert 47 9 v1).run Try.prog w = .ok (.string (strOfNums xs)) w) (h2 : (convert 47 9 v2).run Try.prog w = .ok (.string (strOfNums ys)) w) :
    Calls Try.prog 53 #[v1, v2] w fun e w' => e = .returned (.bool (Lib.bytesOf xs == Lib.bytesOf ys)) ∧ w' = w := Any.bytes_Equal sh_lays115 v1 v2 xs ys w h1 h2
end Go.Proofs.Ytonbmijhbbodnaa
namespace Go.Proofs.Ytonbmijhbbodnaa
open Go.RowKit Go.Sort

/-- The registers of a list, in order, each once, without 0. -/
def rdl (rs : List Int) : List Int := [1, 2, 3, 4, 5, 6, 7].filter (fun r => rs.contains r)
def Rg (z : Int) : Prop := 0 ≤ z ∧ z < 8
theorem rdl_range (rs : List Int) : ∀ z ∈ rdl rs, -9223372036854775808 ≤ z ∧ z ≤ 9223372036854775807 := by
  intro z hz
  have := (List.mem_filter.1 hz).1
  simp at this
  omega
theorem rdl_length (rs : List Int) : (rdl rs).length ≤ 7 := List.length_filter_le _ _
/-- What is sorted, made once each and freed of 0. -/
def tidy (zs : List Int) : List Int := (Lib.compact (zs.mergeSort fun x y => decide (x ≤ y))).filter fun x => !decide (x = 0)
theorem compact_one (a : Int) : Lib.compact [a] = [a] := by
  simp [Lib.compact, Lib.compactUpTo, Lib.keeps, List.range, List.range.loop]
theorem compact_same (a : Int) : Lib.compact [a, a] = [a] := by
  simp [Lib.compact, Lib.compactUpTo, Lib.keeps, List.range, List.range.loop]
theorem compact_two {a b : Int} (h : a ≠ b) : Lib.compact [a, b] = [a, b] := by
  have h' : ¬ b = a := fun e => h e.symm
  simp [Lib.compact, Lib.compactUpTo, Lib.keeps, List.range, List.range.loop, h']
theorem sort_two (a b : Int) : [a, b].mergeSort (fun x y => decide (x ≤ y)) = if a ≤ b then [a, b] else [b, a] := by
  rw [List.mergeSort]
  simp [List.MergeSort.Internal.splitInTwo, List.splitAt, List.splitAt.go, List.merge]
theorem tidy_one {a : Int} (ha : Rg a) : tidy [a] = rdl [a] := by
  unfold tidy
  rw [List.mergeSort_singleton, compact_one]
  obtain ⟨h0, h1⟩ := ha
  have : a = 0 ∨ a = 1 ∨ a = 2 ∨ a = 3 ∨ a = 4 ∨ a = 5 ∨ a = 6 ∨ a = 7 := by omega
  rcases this with rfl | rfl | rfl | rfl | rfl | rfl | rfl | rfl <;> decide
theorem rdl_fin : ∀ a b : Fin 8, (a.val < b.val → ([(a.val : Int), b.val].filter fun x => !decide (x = 0)) = rdl [(a.val : Int), b.val]) ∧ (a.val < b.val → ([(a.val : Int), b.val].filter fun x => !decide (x = 0)) = rdl [(b.val : Int), a.val]) ∧ (([(a.val : Int)].filter fun x => !decide (x = 0)) = rdl [(a.val : Int), a.val]) := by decide
theorem tidy_two {a b : Int} (ha : Rg a) (hb : Rg b) : tidy [a, b] = rdl [a, b] := by
  obtain ⟨A, rfl⟩ := Int.eq_ofNat_of_zero_le ha.1
  obtain ⟨B, rfl⟩ := Int.eq_ofNat_of_zero_le hb.1
  have hA : A < 8 := by have := ha.2; omega
  have hB : B < 8 := by have := hb.2; omega
  unfold tidy
  rw [sort_two]
  by_cases h : A = B
  · subst h
    rw [if_pos (Int.le_refl _), compact_same]
    exact (rdl_fin ⟨A, hA⟩ ⟨A, hA⟩).2.2
  · by_cases hl : A < B
    · rw [if_pos (by omega), compact_two (by omega)]
      exact (rdl_fin ⟨A, hA⟩ ⟨B, hB⟩).1 hl
    · rw [if_neg (by omega), compact_two (by omega)]
      exact (rdl_fin ⟨B, hB⟩ ⟨A, hA⟩).2.1 (by simp; omega)
theorem tidy_nil : tidy [] = rdl [] := by unfold tidy; rw [List.mergeSort_nil]; decide

theorem below_grow {w : World} {os : Array Obj} : Below w.heap.size w (grow w os) :=
  ⟨rfl, rfl, rfl, by simp [grow], fun _ h => heap_grow_old w os h⟩
theorem holds_pre {w : World} {b o : Nat} {xs ys : List Int} (h : Holds (Value.int .i64) w b o (xs ++ ys).toArray) : Holds (Value.int .i64) w b o xs.toArray := fun j hj => by
  have hj' : j < xs.length := by simpa using hj
  have := h j (by simp; omega)
  refine ⟨?_, this.2⟩
  rw [this.1]
  simp [hj', List.getElem?_append_left]
theorem holds_blk {w : World} {b : Nat} {t : TypeId} {zs : List Int} (h : Blk w b t (ivs zs)) : Holds (Value.int .i64) w b 0 zs.toArray := fun j hj => by
  have hj' : j < zs.length := by simpa using hj
  refine ⟨?_, h.free _⟩
  rw [h.cell (i := 0 + j) (v := .int .i64 zs[j]) (by rw [Nat.zero_add]; exact ivs_get (List.getElem?_eq_getElem hj'))]
  simp [hj']
theorem ints_holds {w : World} {b : Nat} {K : Nat → Prop} {zs : List Int} {n cap : Nat} (h : Holds (Value.int .i64) w b 0 zs.toArray) (hn : n = zs.length) (hc : n ≤ cap) (hm : cap ≤ 1000) (hK : K b) (hb : b < w.heap.size) (hz : ∀ z ∈ zs, -9223372036854775808 ≤ z ∧ z ≤ 9223372036854775807) : Ints K w (some ⟨b, 0, none⟩) n cap zs :=
  ⟨hn.symm, hc, by omega, by omega, fun i x hx => ⟨b, 0, rfl, hK, hb, by
    have hi := (List.getElem?_eq_some_iff.1 hx).1
    have := (h i (by simpa using hi)).1
    rw [Nat.mul_one]
    refine ⟨?_, hz x (List.mem_of_getElem? hx)⟩
    rw [this]
    simp [hx]⟩⟩
theorem compact_le (zs : List Int) : (Lib.compact zs).length ≤ zs.length := by
  unfold Lib.compact Lib.compactUpTo
  rw [List.length_map]
  exact Nat.le_trans (List.length_filter_le _ _) (by simp)
theorem zero_eg : ∀ args w, (callFunc 57 args).run Try.prog w = .ok (.enter 57 args) w := enters_of Try.func57 (by kernel_rfl) rfl
theorem zero_any (x : Int) (w : World) : Calls Try.prog 57 #[.int .i64 x] w fun e w' => e = .returned (.bool (decide (x = 0))) ∧ ∃ q, w' = w.drewN q := by
  by_cases h : x = 0
  · subst h
    go_enter Try.func57, Try.ntmps57
    go_wp2
    go_ret
    exact ⟨rfl, 0, rfl⟩
  · go_enter Try.func57, Try.ntmps57
    go_wp2
    go_ret
    exact ⟨by simp [h], 0, rfl⟩
/-- The three calls, one after the other. Each keeps what lies below the block. -/
theorem sort_call (b cap : Nat) (zs : List Int) (w : World) (h : Holds (Value.int .i64) w b 0 zs.toArray) (hb : b < w.heap.size) (hn : zs.length ≤ 1000) : Calls Try.prog 54 #[.slice (some ⟨b, 0, none⟩) zs.length cap] w fun e w' =>
    e = .returned (.tuple #[]) ∧ Holds (Value.int .i64) w' b 0 (zs.mergeSort fun x y => decide (x ≤ y)).toArray ∧ Below b w w' := by
  refine (sh_slices_Sort_int b 0 cap zs w h hb (by omega)).mono ?_
  rintro e w' ⟨rfl, n, os, rfl⟩
  refine ⟨rfl, holds_grow _ _ _ _ _ _ (by simpa using hb) (holds_putRow _ _ _ _ zs.toArray _ h (by simp)), ?_⟩
  exact (Lib.below_putRow (Below.refl b w |>.mono (Nat.le_refl _)) (Nat.le_refl _)).trans (below_grow.mono (by simp; omega))
theorem compact_call (b cap : Nat) (zs : List Int) (w : World) (h : Holds (Value.int .i64) w b 0 zs.toArray) (_hb : b < w.heap.size) (hn : zs.length ≤ 1000) (hc : zs.length ≤ cap) : Calls Try.prog 56 #[.slice (some ⟨b, 0, none⟩) zs.length cap] w fun e w' =>
    e = .returned (.slice (some ⟨b, 0, none⟩) (Lib.compact zs).length cap) ∧ Holds (Value.int .i64) w' b 0 (Lib.compact zs).toArray ∧ Below b w w' := by
  refine (sh_slices_Compact_int b 0 cap zs w h (by omega) hc).mono ?_
  rintro e w' ⟨rfl, q, rfl⟩
  refine ⟨rfl, holds_pre (holds_putRow _ _ _ _ zs.toArray _ h (by have := compact_le zs; simp; omega)), ?_⟩
  exact Lib.below_putRow (Below.refl b w) (Nat.le_refl _)
theorem delete_call (b cap : Nat) (zs : List Int) (w : World) (h : Holds (Value.int .i64) w b 0 zs.toArray) (_hb : b < w.heap.size) (hn : zs.length ≤ 1000) (hc : zs.length ≤ cap) : Calls Try.prog 55 #[.slice (some ⟨b, 0, none⟩) zs.length cap, .func (.func 57) #[] #[]] w fun e w' =>
    e = .returned (.slice (some ⟨b, 0, none⟩) (zs.filter fun x => !decide (x = 0)).length cap) ∧ Holds (Value.int .i64) w' b 0 (zs.filter fun x => !decide (x = 0)).toArray ∧ Below b w w' := by
  have hl := List.length_filter_le (fun x : Int => !decide (x = 0)) zs
  have hc' := sh_slices_DeleteFunc (Value.int .i64) (fun _ => rfl) (fun x => decide (x = 0)) 57 #[] zero_eg 0 (fun w => Try.zeroValue3 w) b 0 cap zs.toArray w (fun W x _ => zero_any x W) (fun n os dk x _ => zero_any x _) h (by simp; omega) (by simp; omega)
  refine hc'.mono ?_
  rintro e w' ⟨rfl, q, rfl⟩
  refine ⟨rfl, holds_pre (holds_putRow _ _ _ _ zs.toArray _ h (by simp; omega)), ?_⟩
  exact Lib.below_putRow (Below.refl b w) (Nat.le_refl _)
end Go.Proofs.Ytonbmijhbbodnaa
