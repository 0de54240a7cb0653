/-
  SimplexModels, walked: for every input the law's function returns true, and nothing that was there changes.
-/
import Derived.Deep.CutBlock
import Derived.Laws.MakeOwn
import Derived.Test.YtdegpgonphgbcaaSyG
import Derived.Test.YtdegpgonphgbcaaZSxV
import Derived.Test.YtdegpgonphgbcaaQuiet
namespace Go.Proofs.Ytdegpgonphgbcaa
open Go.RowKit

theorem rw_low {w : World} {a : Option Addr} {n c : Nat} {rows : List (List (Int × Int) × Int)} (h : Row RRw 2 All w a n c rows) : Row RRw 2 (fun k => k < w.heap.size) w a n c rows :=
  ⟨h.hlen, h.hcap, h.hmax, h.hsz, fun i x hx => by
    obtain ⟨b, o, h1, h2, h3, ⟨a', n', c', k0, hr⟩, k1⟩ := h.row i x hx
    exact ⟨b, o, h1, h3, h3, ⟨a', n', c', k0, hr.hlen, hr.hcap, hr.hmax, hr.hsz, fun j y hy => by
      obtain ⟨b', o', g1, g2, g3, g4⟩ := hr.row j y hy
      exact ⟨b', o', g1, g3, g3, g4⟩⟩, k1⟩⟩
theorem tm_low {w : World} {a : Option Addr} {n c : Nat} {l : List (Int × Int)} (h : Row RTm 2 All w a n c l) : Row RTm 2 (fun k => k < w.heap.size) w a n c l :=
  ⟨h.hlen, h.hcap, h.hmax, h.hsz, fun j y hy => by
      obtain ⟨b', o', g1, g2, g3, g4⟩ := h.row j y hy
      exact ⟨b', o', g1, g3, g3, g4⟩⟩
/-- Behind the choice: the copy, in the block X. -/
def XAt (w : World) (X : Nat) : Prop := ∃ (cols : Int) (ra : Option Addr) (rn rc : Nat) (ga : Option Addr) (gn gc : Nat) (c0 : Int) (rows : List (List (Int × Int) × Int)) (goal : List (Int × Int)),
  Blk w X 28 (MdC cols (.slice ra rn rc) ga gn gc c0) ∧ Row RRw 2 All w ra rn rc rows ∧ Row RTm 2 All w ga gn gc goal
theorem op_c1 (d : Nat) (a : Act) (w : World) (K : Act → World → Prop) (Q : Exit → Act → World → Prop) (after : Array Edge) (pos : String) (h : K (a.put (some d) (.slice (some ⟨w.heap.size, 0, none⟩) 5 5)) (w.alloc (.cells (ivs [16777216, 16777217, -10, 10, 9]).toArray 3))) :
    Oper.wp Try.prog { dst := some d, op := Op.buildSlice 22 5 #[(0, Operand.const (Value.int IntKind.i64 16777216)), (1, Operand.const (Value.int IntKind.i64 16777217)), (2, Operand.const (Value.int IntKind.i64 (-10))), (3, Operand.const (Value.int IntKind.i64 10)), (4, Operand.const (Value.int IntKind.i64 9))], type := 22, pos := pos, after := after, guard := none } a w K Q := by
  go_simp
  exact h
theorem op_c3 (d : Nat) (a : Act) (w : World) (K : Act → World → Prop) (Q : Exit → Act → World → Prop) (after : Array Edge) (pos : String) (h : K (a.put (some d) (.slice (some ⟨w.heap.size, 0, none⟩) 4 4)) (w.alloc (.cells (ivs [0, 10, 16777216, -16777217]).toArray 3))) :
    Oper.wp Try.prog { dst := some d, op := Op.buildSlice 22 4 #[(0, Operand.const (Value.int IntKind.i64 0)), (1, Operand.const (Value.int IntKind.i64 10)), (2, Operand.const (Value.int IntKind.i64 16777216)), (3, Operand.const (Value.int IntKind.i64 (-16777217)))], type := 22, pos := pos, after := after, guard := none } a w K Q := by
  go_simp
  exact h
theorem op_c4 (d : Nat) (a : Act) (w : World) (K : Act → World → Prop) (Q : Exit → Act → World → Prop) (after : Array Edge) (pos : String) (h : K (a.put (some d) (.slice (some ⟨w.heap.size, 0, none⟩) 4 4)) (w.alloc (.cells (ivs [51, 1048576, 1048577, -51]).toArray 3))) :
    Oper.wp Try.prog { dst := some d, op := Op.buildSlice 22 4 #[(0, Operand.const (Value.int IntKind.i64 51)), (1, Operand.const (Value.int IntKind.i64 1048576)), (2, Operand.const (Value.int IntKind.i64 1048577)), (3, Operand.const (Value.int IntKind.i64 (-51)))], type := 22, pos := pos, after := after, guard := none } a w K Q := by
  go_simp
  exact h
theorem op_c5 (d : Nat) (a : Act) (w : World) (K : Act → World → Prop) (Q : Exit → Act → World → Prop) (after : Array Edge) (pos : String) (h : K (a.put (some d) (.slice (some ⟨w.heap.size, 0, none⟩) 5 5)) (w.alloc (.cells (ivs [1048576, 1048577, 9, 10, 0]).toArray 3))) :
    Oper.wp Try.prog { dst := some d, op := Op.buildSlice 22 5 #[(0, Operand.const (Value.int IntKind.i64 1048576)), (1, Operand.const (Value.int IntKind.i64 1048577)), (2, Operand.const (Value.int IntKind.i64 9)), (3, Operand.const (Value.int IntKind.i64 10)), (4, Operand.const (Value.int IntKind.i64 0))], type := 22, pos := pos, after := after, guard := none } a w K Q := by
  go_simp
  exact h
theorem step_of {P : Program} {ops : Array Oper} {o : Oper} {a : Act} {w : World} {K : Act → World → Prop} {Q : Exit → Act → World → Prop} {E : Prop} (hgd : o.guard = none) (h : Oper.wp P o a w K Q) : if Region.wanted o (yielded ops a.tmps) = true then Oper.wp P o a w K Q else E := by
  rw [if_pos (by simp [Region.wanted, hgd])]; exact h
theorem xat_mk {w : World} {N : Nat} {cols k0 : Int} {vR vG : Value} {us : List Value} {rows : List (List (Int × Int) × Int)} {goal : List (Int × Int)} {K : Nat → Prop} (hb : Blk w (N + 1) 28 [.int .i64 cols, vR, vG, .int .i64 k0]) (hR : w.ownsRow (N + 2) 50 2 vR rows.length (rcs us rows)) (ht : TmsAt K w us rows) (hG : w.ownsRow (N + 2) 56 2 vG goal.length (tcs goal)) (h6 : rows.length ≤ 1000) (hg : goal.length ≤ 1000) : XAt w (N + 1) := by
  obtain ⟨aR, cR, rfl⟩ := flat_form hR
  obtain ⟨aG, cG, rfl⟩ := flat_form hG
  exact ⟨cols, aR, _, cR, aG, _, cG, k0, rows, goal, hb, rw_read hR rfl (by omega) (ht.wide (fun _ _ => trivial)) (fun _ _ => trivial), tm_wide (tm_read hG rfl (by omega)) (fun _ _ => trivial)⟩
/-- One of some numbers is picked, in whatever order: the list is made (2), its place reckoned (4, 5) and read (6). -/
structure PickJ (w0 w' : World) (zs : List Int) (r : Nat) (z : Int) (b2 b4 b5 b6 : Bool) (x2 x4 x5 x6 : Value) : Prop where
  below : Below w0.heap.size w0 w'
  size : b2 = false → w'.heap.size = w0.heap.size
  v2 : b2 = true → x2 = .slice (some ⟨w0.heap.size, 0, none⟩) zs.length zs.length
  blk : b2 = true → Blk w' w0.heap.size 3 (ivs zs)
  v4 : b4 = true → x4 = .int .i64 r
  v5 : b5 = true → b2 = true ∧ x5 = .pointer (some ⟨w0.heap.size, r, none⟩)
  v6 : b6 = true → x6 = .int .i64 z
section
variable {w0 w' : World} {zs : List Int} {r : Nat} {z : Int} {b2 b4 b5 b6 : Bool} {x2 x4 x5 x6 : Value}
theorem PickJ.start (w' : World) (h : Below w0.heap.size w0 w') (hs : w'.heap.size = w0.heap.size) : PickJ w0 w' zs r z false false false false x2 x4 x5 x6 :=
  ⟨h, fun _ => hs, (fun h => by cases h), (fun h => by cases h), (fun h => by cases h), (fun h => by cases h), (fun h => by cases h)⟩
theorem PickJ.two (h : PickJ w0 w' zs r z b2 b4 b5 b6 x2 x4 x5 x6) (hb : b2 = false) : PickJ w0 (w'.alloc (.cells (ivs zs).toArray 3)) zs r z true b4 b5 b6 (.slice (some ⟨w'.heap.size, 0, none⟩) zs.length zs.length) x4 x5 x6 := by
  have e := h.size hb
  refine ⟨h.below.alloc h.below.size _, (fun h => by cases h), fun _ => by rw [e], fun _ => ?_, h.v4, fun k => absurd ((h.v5 k).1.symm.trans hb) (by decide), h.v6⟩
  have := Blk.new w' (ivs zs) 3
  rwa [e] at this
theorem PickJ.four (h : PickJ w0 w' zs r z b2 b4 b5 b6 x2 x4 x5 x6) : PickJ w0 w' zs r z b2 true b5 b6 x2 (.int .i64 r) x5 x6 := ⟨h.below, h.size, h.v2, h.blk, fun _ => rfl, h.v5, h.v6⟩
theorem PickJ.five (h : PickJ w0 w' zs r z b2 b4 b5 b6 x2 x4 x5 x6) (hb : b2 = true) : PickJ w0 w' zs r z b2 b4 true b6 x2 x4 (.pointer (some ⟨w0.heap.size, r, none⟩)) x6 := ⟨h.below, h.size, h.v2, h.blk, h.v4, fun _ => ⟨hb, rfl⟩, h.v6⟩
theorem PickJ.six (h : PickJ w0 w' zs r z b2 b4 b5 b6 x2 x4 x5 x6) : PickJ w0 w' zs r z b2 b4 b5 true x2 x4 x5 (.int .i64 z) := ⟨h.below, h.size, h.v2, h.blk, h.v4, h.v5, fun _ => rfl⟩
theorem PickJ.more (h : PickJ w0 w' zs r z b2 b4 b5 b6 x2 x4 x5 x6) (hb : b2 = true) (o : Obj) : PickJ w0 (w'.alloc o) zs r z b2 b4 b5 b6 x2 x4 x5 x6 :=
  ⟨h.below.alloc h.below.size _, fun k => absurd (k.symm.trans hb) (by decide), h.v2, fun k => (h.blk k).old _, h.v4, h.v5, h.v6⟩
end
theorem far_own {w : World} {N : Nat} {t : TypeId} {sz n : Nat} {v : Value} {xs : List Value} (h : w.ownsRow (N + 2) t sz v n xs) : ¬ v.ownBlock = some (N + 1) := fun e => by have := (h.lt _ e).1; omega
theorem own_far {w w' : World} {N : Nat} {t : TypeId} {sz n : Nat} {v : Value} {xs : List Value} (h : w.ownsRow (N + 2) t sz v n xs) (c : Chg (fun x => x = N + 1) w w') : w'.ownsRow (N + 2) t sz v n xs := ownsRow_of h (fun k hk => c.block k (h.lt k hk).2 (fun e => by have := (h.lt k hk).1; omega))
theorem bool_of (p : Prop) : ∃ b : Bool, b = true ↔ p := by
  by_cases h : p
  · exact ⟨true, fun _ => h, fun _ => rfl⟩
  · exact ⟨false, (fun e => by cases e), fun e => absurd e h⟩
theorem yes_fix {p : Prop} {b : Bool} (hb : b = true ↔ p) {f : FuncId} {args : Array Value} {w : World} (h : Calls Try.prog f args w (YesNo p w)) : Calls Try.prog f args w fun e w' => e = .returned (.bool b) ∧ Below w.heap.size w w' :=
  h.mono fun e w' ⟨r, he, hr, hw⟩ => ⟨by
    have : r = b := by
      cases r <;> cases b <;> simp_all
    rw [he, this], hw⟩
theorem made_rows (m : Nat) : madeCells #[.slice none 0 0, .int .i64 0] (m * 2) = (rcs (List.replicate m (.slice none 0 0)) (List.replicate m ([], 0))).toArray := by
  apply Array.ext_getElem?
  intro i
  have hl : (rcs (List.replicate m (.slice none 0 0)) (List.replicate m (([] : List (Int × Int)), (0 : Int)))).length = m * 2 := by rw [rcs_length (by simp), List.length_replicate]
  by_cases hi : i < m * 2
  · have h0 : (List.replicate m (Value.slice none 0 0))[i / 2]? = some (.slice none 0 0) := by rw [List.getElem?_replicate, if_pos (by omega)]
    have h1 : (List.replicate m (([] : List (Int × Int)), (0 : Int)))[i / 2]? = some ([], 0) := by rw [List.getElem?_replicate, if_pos (by omega)]
    obtain ⟨g0, g1⟩ := rcs_get h0 h1
    have hm : (madeCells #[Value.slice none 0 0, .int .i64 0] (m * 2))[i]? = some (#[Value.slice none 0 0, .int .i64 0][i % 2]!) := by
      unfold madeCells
      rw [Array.getElem?_map, Array.getElem?_range, if_pos hi]
      rfl
    rw [hm, List.getElem?_toArray]
    rcases Nat.mod_two_eq_zero_or_one i with e | e
    · rw [show i / 2 * 2 = i by omega] at g0
      rw [g0, e]; rfl
    · rw [show i / 2 * 2 + 1 = i by omega] at g1
      rw [g1, e]; rfl
  · rw [Array.getElem?_eq_none (by rw [size_madeCells]; omega), List.getElem?_toArray, List.getElem?_eq_none (by omega)]
theorem make_rows (m : Nat) (hm : m ≤ 1000) (w : World) : (Instr.makeSlice 25 (.int .i64 (m : Int)) (.int .i64 (m : Int))).run Try.prog w = .ok (.slice (some ⟨w.heap.size, 0, none⟩) m m) (w.alloc (.cells (rcs (List.replicate m (.slice none 0 0)) (List.replicate m ([], 0))).toArray 50)) := by
  obtain ⟨i0, hi0, hz0, hz1, hz2⟩ := info_parts info_rw
  have h := run_make (P := Try.prog) w 25 50 i0 _ Try.underlying25 hi0 hz0 .i64 .i64 (m : Int) (m : Int) (by omega) (Int.le_refl _) (by rw [hz2]; omega) (by omega)
  rw [h, Int.toNat_natCast, hz1]
  have e : (Value.agg #[.slice none 0 0, .int .i64 0]).cells = #[.slice none 0 0, .int .i64 0] := rfl
  rw [e, made_rows]
theorem tm_read1 {w : World} {q : Nat} {a b : Int} (h : Blk w q 56 (tcs [(a, b)])) : Row RTm 2 (fun k => k = q) w (some ⟨q, 0, none⟩) 1 1 [(a, b)] :=
  ⟨rfl, Nat.le_refl _, by decide, by decide, fun i p hi => by
    match i, hi with
    | 0, hi => cases hi; exact ⟨q, 0, rfl, rfl, h.lt, h.cell (i := 0) rfl, h.cell (i := 1) rfl⟩
    | i + 1, hi => simp at hi⟩
/-- Behind the append of a row to the copy, and its store. -/
theorem row_added {w4 w6 wm w9 : World} {N nR cR g cap : Nat} {n k0 : Int} {aR : Option Addr} {vG : Value} {us : List Value} {rows2 : List (List (Int × Int) × Int)} {goal2 : List (Int × Int)} (hbm : Below w6.heap.size w6 wm) (hn : nR = rows2.length)
    (hX : Blk w9 (N + 1) 28 [.int .i64 n, .slice aR rows2.length cR, vG, .int .i64 k0]) {a : Option Addr} {m c : Nat} {x : List (Int × Int) × Int} (hR : wm.ownsRow (N + 2) 50 2 (.slice aR nR cR) nR (rcs us rows2)) (hap : FApp 50 2 (N + 2) (.slice aR nR cR) nR 1 (rcs us rows2) [.slice a m c, .int .i64 x.2] wm w9 (.slice (some ⟨g, 0, none⟩) (nR + 1) cap))
    (hT : TmsAt (fun k => k < N) wm us rows2) {K : Nat → Prop} (hx : Row RTm 2 K wm a m c x.1) (hG : wm.ownsRow (N + 2) 56 2 vG goal2.length (tcs goal2)) (h6 : rows2.length ≤ 6) (hg : goal2.length ≤ 6) (hB6 : Below (N + 1) w4 w6) (hN6 : N + 2 ≤ w6.heap.size) (hK : ∀ k, K k → k ≠ N + 1 ∧ ¬ (Value.slice aR nR cR).ownBlock = some k) :
    XAt (w9.setCell ⟨N + 1, 1, none⟩ (.slice (some ⟨g, 0, none⟩) (nR + 1) cap)) (N + 1) ∧ Below (N + 1) w4 (w9.setCell ⟨N + 1, 1, none⟩ (.slice (some ⟨g, 0, none⟩) (nR + 1) cap)) := by
  have c1 : Chg (fun x => x = N + 1) w9 (w9.setCell ⟨N + 1, 1, none⟩ (.slice (some ⟨g, 0, none⟩) (nR + 1) cap)) := Chg.setCell (M := fun x => x = N + 1) (p := ⟨N + 1, 1, none⟩) (Chg.refl w9) (fun _ => rfl) _
  have lowc : ∀ k, k < N + 2 → ¬ (Value.slice aR nR cR).ownBlock = some k := fun k hk e => by have := (hR.lt k e).1; omega
  have hT9 := hT.chg hap.chg (fun k hk => lowc k (by omega))
  have hx9 : Row RTm 2 K w9 a m c x.1 := hx.keeps RTm.stays (fun y hy hl => hap.chg.block y hl (hK y hy).2) hap.chg.size
  have hT10 : TmsAt (fun k => k < N ∨ K k) w9 (us ++ [.slice a m c]) (rows2 ++ [x]) := (hT9.wide (fun _ h => .inl h)).snoc (tm_wide hx9 (fun _ h => .inr h))
  have hG9 : w9.ownsRow (N + 2) 56 2 vG goal2.length (tcs goal2) := ownsRow_of hG (fun k hk => hap.chg.block k (hG.lt k hk).2 (fun e => by
    obtain ⟨cs, h1, _⟩ := owns_tag hG hk
    obtain ⟨ds, h2, _⟩ := owns_tag hR e
    exact blk_tag h1 h2 (by decide) rfl))
  have ho := hap.owns
  rw [← rcs_snoc hT.1] at ho
  have hl : (rows2 ++ [x]).length = nR + 1 := by rw [List.length_append, hn]; rfl
  refine ⟨xat_mk (us := us ++ [.slice a m c]) (rows := rows2 ++ [x]) ((hX.set 1 _).at rfl) (own_far (by rw [hl]; exact ho) c1) (hT10.chg c1 (fun k hk e => ?_)) (own_far hG9 c1) (by omega) (by omega), ?_⟩
  · rcases hk with h | h
    · omega
    · exact (hK k h).1 e
  · have hs := hbm.size
    exact (hB6.trans (hbm.mono (by omega))).trans ((hap.chg.below (fun x hx => lowc x (by omega)) (by omega)).trans (c1.below (fun x hx e => by omega) (by have := hX.lt; omega)))
set_option maxRecDepth 100000 in
set_option maxHeartbeats 16000000 in
theorem sxModels_walk (a0 : Int) (ra : Option Addr) (rn rc : Nat) (rows : List (List (Int × Int) × Int)) (ga : Option Addr) (gn gc : Nat) (goal : List (Int × Int)) (c0 : Int) (la : Option Addr) (ln lc : Nat) (zs : List Int) (what by_ : Int)
    (hw1 : -9223372036854775808 ≤ what ∧ what ≤ 9223372036854775807) (hw2 : -9223372036854775808 ≤ by_ ∧ by_ ≤ 9223372036854775807) (w : World) (R : Row RRw 2 All w ra rn rc rows) (G : Row RTm 2 All w ga gn gc goal) (L : IsRow .i64 w la ln lc zs) :
    Calls Try.prog 6 #[MdV a0 (.slice ra rn rc) ga gn gc c0, .slice la ln lc, .int .i64 what, .int .i64 by_] w (AwRet w) := by
  obtain ⟨w1, hwa⟩ : ∃ w1, w1 = w.alloc (.cells (MdC a0 (.slice ra rn rc) ga gn gc c0).toArray 28) := ⟨_, rfl⟩
  have B1 := Lib.hid (show Below w.heap.size w w1 by rw [hwa]; exact (Below.refl _ _).alloc (Nat.le_refl _) _)
  have M1 := Lib.hid (show Blk w1 w.heap.size 28 (MdC a0 (.slice ra rn rc) ga gn gc c0) by rw [hwa]; exact Blk.new w _ _)
  have HW1 := Lib.hid hwa; have HR := Lib.hid (rw_low R); have HG := Lib.hid (tm_low G); have HL := Lib.hid (L.block (fun x _ hx => B1.out.block _ hx)); have W1 := Lib.hid hw1; have W2 := Lib.hid hw2
  have m1 := M1.out.cell (i := 1) rfl; have m2 := M1.out.cell (i := 2) rfl
  have AW1 := Lib.hid (awake_any w1)
  clear hwa R G L hw1 hw2
  go_enter Try.func6, Try.ntmps6
  go_upto_region 1 with fail
  rw [← HW1.out]
  by_cases q1 : 500 < rn
  · have q1' : (500 : Int) < (rn : Int) := by omega
    go_wp2_with fail
    refine AW1.out.mono ?_
    rintro e w2 ⟨rfl, hb⟩
    have BB := Lib.hid (B1.out.trans (hb.mono B1.out.size))
    go_wp2
    go_ret
    exact ⟨rfl, BB.out⟩
  have q1' : ¬ (500 : Int) < (rn : Int) := by omega
  by_cases q2 : 400 < gn
  · have q2' : (400 : Int) < (gn : Int) := by omega
    go_wp2_with fail
    refine AW1.out.mono ?_
    rintro e w2 ⟨rfl, hb⟩
    have BB := Lib.hid (B1.out.trans (hb.mono B1.out.size))
    go_wp2
    go_ret
    exact ⟨rfl, BB.out⟩
  have q2' : ¬ (400 : Int) < (gn : Int) := by omega
  go_wp2_with fail
  refine (new_any la ln lc zs w1 HL.out).mono ?_
  rintro e w2 ⟨rfl, hdk, hb⟩
  have B2 := Lib.hid (B1.out.trans (hb.mono B1.out.size))
  have M2 := Lib.hid (M1.out.below hb M1.out.lt)
  have DK := Lib.hid hdk
  have S12 := Lib.hid (show w1.heap.size < w2.heap.size from hdk.lt)
  obtain ⟨D, hD⟩ : ∃ D, D = w1.heap.size := ⟨_, rfl⟩
  rw [← hD] at DK S12 ⊢
  have LD := Lib.hid (show w.heap.size < D from by rw [hD]; exact M1.out.lt)
  clear hdk hb hD q1 q2 q1' q2' m1 m2
  go_wp2_with fail
  refine (mmodel_any D 6 (by omega) w2 DK.out).mono ?_
  rintro e w3 ⟨n, ra2, rn2, rc2, ga2, gn2, gc2, k0, rows2, goal2, rfl, hR2, hG2, hs2, hn2, hd3, hb3⟩
  have B3 := Lib.hid (show Below w.heap.size w w3 from B2.out.trans (hb3.chg.below (B := w.heap.size) (fun x hx e => by have := LD.out; omega) B2.out.size))
  have M3 := Lib.hid (M2.out.chg hb3.chg (fun e => by have := LD.out; omega))
  obtain ⟨N, hN⟩ : ∃ N, N = w3.heap.size := ⟨_, rfl⟩
  have RR2 := Lib.hid (show Row RRw 2 (fun k => k < N) w3 ra2 rn2 rc2 rows2 from rw_wide hR2 (fun k h => by rw [hN]; exact h.2))
  have GG2 := Lib.hid (show Row RTm 2 (fun k => k < N) w3 ga2 gn2 gc2 goal2 from tm_wide hG2 (fun k h => by rw [hN]; exact h.2))
  have RR1 := Lib.hid (show Row RRw 2 (fun k => k < N) w3 ra rn rc rows from rw_wide (HR.out.keeps RRw.stays (fun x hx hl => B3.out.block x hl) B3.out.size) (fun k h => by have := B3.out.size; omega))
  have GG1 := Lib.hid (show Row RTm 2 (fun k => k < N) w3 ga gn gc goal from tm_wide (HG.out.keeps RTm.stays (fun x hx hl => B3.out.block x hl) B3.out.size) (fun k h => by have := B3.out.size; omega))
  have HS2 := Lib.hid hs2
  have LN := Lib.hid (show w.heap.size < N from by rw [hN]; exact M3.out.lt)
  clear hR2 hG2 hs2 hd3 hb3 DK M1 M2 HR HG HL AW1
  -- the copy
  obtain ⟨w4, hw4⟩ : ∃ w4, w4 = (w3.alloc (.cells (MdC n (.slice ra2 rn2 rc2) ga2 gn2 gc2 k0).toArray 28)).alloc (.cells (MdC n (.slice ra2 rn2 rc2) ga2 gn2 gc2 k0).toArray 28) := ⟨_, rfl⟩
  have B4 := Lib.hid (show Below N w3 w4 by rw [hw4, hN]; exact ((Below.refl _ _).alloc (Nat.le_refl _) _).alloc (by simp) _)
  have P4 := Lib.hid (show Blk w4 N 28 (MdC n (.slice ra2 rn2 rc2) ga2 gn2 gc2 k0) by rw [hw4, hN]; exact (Blk.new w3 _ _).old _)
  have X4 := Lib.hid (show Blk w4 (N + 1) 28 (MdC n (.slice ra2 rn2 rc2) ga2 gn2 gc2 k0) by rw [hw4, hN]; exact (Blk.new (w3.alloc _) (MdC n (.slice ra2 rn2 rc2) ga2 gn2 gc2 k0) _).at' (by simp))
  have HW4 := Lib.hid hw4; have HN := Lib.hid hN
  clear hw4 hN
  go_upto_region 6 with fail
  rw [← HW4.out, ← HN.out]
  have LX := Lib.hid (show N + 2 ≤ w4.heap.size ∧ N = w3.heap.size from ⟨X4.out.lt, HN.out⟩)
  have p1 := P4.out.cell (i := 1) rfl
  have x1 := X4.out.cell (i := 1) rfl
  have xf := X4.out.free
  have RR4 := Lib.hid (show Row RRw 2 (fun k => k < N) w4 ra2 rn2 rc2 rows2 from RR2.out.keeps RRw.stays (fun x hx hl => B4.out.block x hx) B4.out.size)
  have hr6 : rn2 ≤ 6 := by have h1 := HS2.out.2.2.1; have h2 := RR2.out.hlen; omega
  go_cut [] (fun wx => ∃ vR us, Blk wx (N + 1) 28 [.int .i64 n, vR, .slice ga2 gn2 gc2, .int .i64 k0] ∧ wx.ownsRow (N + 2) 50 2 vR rows2.length (rcs us rows2) ∧ TmsAt (fun k => k < N) wx us rows2 ∧ Below (N + 1) w4 wx)
  case first => -- C1
    as_aux_lemma =>
      rcases Nat.eq_zero_or_pos rn2 with h0 | h0
      · have hnil : rows2 = [] := List.eq_nil_of_length_eq_zero (RR4.out.hlen.trans h0)
        have R := Lib.hid (show ∃ vR us, Blk (w4.setCell ⟨N + 1, 1, none⟩ (.slice none 0 0)) (N + 1) 28 [.int .i64 n, vR, .slice ga2 gn2 gc2, .int .i64 k0] ∧ (w4.setCell ⟨N + 1, 1, none⟩ (.slice none 0 0)).ownsRow (N + 2) 50 2 vR rows2.length (rcs us rows2) ∧ TmsAt (fun k => k < N) (w4.setCell ⟨N + 1, 1, none⟩ (.slice none 0 0)) us rows2 ∧ Below (N + 1) w4 (w4.setCell ⟨N + 1, 1, none⟩ (.slice none 0 0)) from
          ⟨.slice none 0 0, [], (X4.out.set 1 _).at rfl, by rw [hnil]; exact World.ownsRow_nil _ _ _ _, by rw [hnil]; exact TmsAt.nil _ _, (Chg.setCell (M := fun x => x = N + 1) (p := ⟨N + 1, 1, none⟩) (Chg.refl w4) (fun _ => rfl) _).below (fun x hx e => by omega) (by have := LX.out.1; omega)⟩)
        subst h0
        clear hnil
        clear RR4 RR2 HW4 P4
        rcases ra2 with _ | ad
        · go_wp2
          go_meet
          exact R.out
        · go_wp2
          go_meet
          exact R.out
      · obtain ⟨ad, us, had, hts, hcells⟩ := rw_cells RR4.out h0
        have HT := Lib.hid hts; have HCE := Lib.hid hcells
        subst had
        have HLR := Lib.hid RR4.out.hlen
        clear hts hcells
        go_wp2_with (at_builtin; refine wpList_append_flat rfl (.const (.slice none 0 0)) (.tmp 31) 25 rfl 50 Try.underlying25 info_rw rfl (by decide) (World.ownsRow_nil w4 (N + 2) 50 2) rfl LX.out.1 ad rn2 rc2 (rcs us rows2) rfl (by rw [rcs_length HT.out.1, HLR.out]) HCE.out (rcs_one HT.out) h0 (by omega) (by decide) ?_; intro g cap w5 hap0; rw [Nat.zero_add] at hap0 ⊢; have hap := hap0; have X5 := Lib.hid (X4.out.chg hap.out.chg (fun e => by cases e)); have x1 := X5.out.cell (i := 1) rfl; have xf := X5.out.free)
        have R := Lib.hid (show ∃ vR us, Blk (w5.setCell ⟨N + 1, 1, none⟩ (.slice (some ⟨g, 0, none⟩) rn2 cap)) (N + 1) 28 [.int .i64 n, vR, .slice ga2 gn2 gc2, .int .i64 k0] ∧ (w5.setCell ⟨N + 1, 1, none⟩ (.slice (some ⟨g, 0, none⟩) rn2 cap)).ownsRow (N + 2) 50 2 vR rows2.length (rcs us rows2) ∧ TmsAt (fun k => k < N) (w5.setCell ⟨N + 1, 1, none⟩ (.slice (some ⟨g, 0, none⟩) rn2 cap)) us rows2 ∧ Below (N + 1) w4 (w5.setCell ⟨N + 1, 1, none⟩ (.slice (some ⟨g, 0, none⟩) rn2 cap)) from by
          have ho := hap.out.owns
          rw [List.nil_append, Nat.zero_add] at ho
          have c5 : Chg (fun x => x = N + 1) w5 (w5.setCell ⟨N + 1, 1, none⟩ (.slice (some ⟨g, 0, none⟩) rn2 cap)) := Chg.setCell (M := fun x => x = N + 1) (p := ⟨N + 1, 1, none⟩) (Chg.refl w5) (fun _ => rfl) _
          have c4 : Chg Non w4 w5 := hap.out.chg.mono (fun k _ e => by cases e)
          refine ⟨_, us, (X5.out.set 1 _).at rfl, ?_, (HT.out.chg c4 (fun _ _ h => h)).chg c5 (fun k hk e => by omega), ((c4.mono (N := fun x => x = N + 1) (fun _ _ h => h.elim)).trans c5 (fun _ _ h => h)).below (fun x hx e => by omega) (by have := LX.out.1; omega)⟩
          rw [HLR.out]
          exact ownsRow_of ho (fun k hk => c5.block k (ho.lt k hk).2 (fun e => by have := (ho.lt k hk).1; omega)))
        clear hap hap0 x1 xf
        go_meet
        exact R.out
  case rest =>
    obtain ⟨vR, us, hx5, hr5, ht5, hb5⟩ := hcut
    obtain ⟨w5, hw5⟩ : ∃ w5 : World, w5 = wc := ⟨_, rfl⟩
    rw [← hw5] at hx5 hr5 ht5 hb5 ⊢
    clear hw5 p1 x1 xf
    have X5 := Lib.hid hx5; have R5 := Lib.hid hr5; have T5 := Lib.hid ht5; have B5 := Lib.hid hb5
    have P5 := Lib.hid (P4.out.below hb5 (Nat.lt_succ_self N))
    have GG5 := Lib.hid (show Row RTm 2 (fun k => k < N) w5 ga2 gn2 gc2 goal2 from GG2.out.keeps RTm.stays (fun x hx hl => (B5.out.block x (by omega)).trans (B4.out.block x hx)) (Nat.le_trans B4.out.size B5.out.size))
    have p2 := P5.out.cell (i := 2) rfl
    have x2 := X5.out.cell (i := 2) rfl
    have xf := X5.out.free
    have hg6 : gn2 ≤ 1000000 := by
      have h1 := GG5.out.hlen
      have h2 := tm_count HS2.out.2.2.2.1
      omega
    have LX5 := Lib.hid (show N + 2 ≤ w5.heap.size from X5.out.lt)
    clear hx5 hr5 ht5 hb5
    go_upto_region 7 with fail
    go_cut [] (fun wx => ∃ vR us vG, Blk wx (N + 1) 28 [.int .i64 n, vR, vG, .int .i64 k0] ∧ wx.ownsRow (N + 2) 50 2 vR rows2.length (rcs us rows2) ∧ TmsAt (fun k => k < N) wx us rows2 ∧ wx.ownsRow (N + 2) 56 2 vG goal2.length (tcs goal2) ∧ Below (N + 1) w4 wx)
    case first => -- C2
      as_aux_lemma =>
        have kR : ∀ {wz : World}, Chg (fun x => x = N + 1) w5 wz → wz.ownsRow (N + 2) 50 2 vR rows2.length (rcs us rows2) := fun hc => ownsRow_of R5.out (fun k hk => hc.block k (R5.out.lt k hk).2 (fun e => by have := (R5.out.lt k hk).1; omega))
        have kB : ∀ {wz : World}, Chg (fun x => x = N + 1) w5 wz → Below (N + 1) w4 wz := fun hc => B5.out.trans (hc.below (fun x hx e => by omega) (by have := LX5.out; omega))
        rcases Nat.eq_zero_or_pos gn2 with h0 | h0
        · have hnil : goal2 = [] := List.eq_nil_of_length_eq_zero (GG5.out.hlen.trans h0)
          have c5 : Chg (fun x => x = N + 1) w5 (w5.setCell ⟨N + 1, 2, none⟩ (.slice none 0 0)) := Chg.setCell (M := fun x => x = N + 1) (p := ⟨N + 1, 2, none⟩) (Chg.refl w5) (fun _ => rfl) _
          have R := Lib.hid (show ∃ vR us vG, Blk (w5.setCell ⟨N + 1, 2, none⟩ (.slice none 0 0)) (N + 1) 28 [.int .i64 n, vR, vG, .int .i64 k0] ∧ (w5.setCell ⟨N + 1, 2, none⟩ (.slice none 0 0)).ownsRow (N + 2) 50 2 vR rows2.length (rcs us rows2) ∧ TmsAt (fun k => k < N) (w5.setCell ⟨N + 1, 2, none⟩ (.slice none 0 0)) us rows2 ∧ (w5.setCell ⟨N + 1, 2, none⟩ (.slice none 0 0)).ownsRow (N + 2) 56 2 vG goal2.length (tcs goal2) ∧ Below (N + 1) w4 (w5.setCell ⟨N + 1, 2, none⟩ (.slice none 0 0)) from
            ⟨vR, us, .slice none 0 0, (X5.out.set 2 _).at rfl, kR c5, T5.out.chg c5 (fun k hk e => by omega), by rw [hnil]; exact World.ownsRow_nil _ _ _ _, kB c5⟩)
          subst h0
          clear hnil GG5 GG2 P5 P4 RR4 RR2 HW4 c5 kR kB
          rcases ga2 with _ | ad
          · go_wp2
            go_meet
            exact R.out
          · go_wp2
            go_meet
            exact R.out
        · obtain ⟨ad, had, hcells⟩ := tm_cells GG5.out h0
          have HCE := Lib.hid hcells
          have HLG := Lib.hid GG5.out.hlen
          subst had
          clear hcells
          go_wp2_with (at_builtin; refine wpList_append_flat rfl (.const (.slice none 0 0)) (.tmp 35) 26 rfl 56 Try.underlying26 info_tm rfl (by decide) (World.ownsRow_nil w5 (N + 2) 56 2) rfl LX5.out ad gn2 gc2 (tcs goal2) rfl (by rw [tcs_length, HLG.out]) HCE.out (tcs_one goal2) h0 (by omega) (by decide) ?_; intro g cap w6 hap0; rw [Nat.zero_add] at hap0 ⊢; have hap := hap0; have X6 := Lib.hid (X5.out.chg hap.out.chg (fun e => by cases e)); have x2 := X6.out.cell (i := 2) rfl; have xf := X6.out.free)
          have R := Lib.hid (show ∃ vR us vG, Blk (w6.setCell ⟨N + 1, 2, none⟩ (.slice (some ⟨g, 0, none⟩) gn2 cap)) (N + 1) 28 [.int .i64 n, vR, vG, .int .i64 k0] ∧ (w6.setCell ⟨N + 1, 2, none⟩ (.slice (some ⟨g, 0, none⟩) gn2 cap)).ownsRow (N + 2) 50 2 vR rows2.length (rcs us rows2) ∧ TmsAt (fun k => k < N) (w6.setCell ⟨N + 1, 2, none⟩ (.slice (some ⟨g, 0, none⟩) gn2 cap)) us rows2 ∧ (w6.setCell ⟨N + 1, 2, none⟩ (.slice (some ⟨g, 0, none⟩) gn2 cap)).ownsRow (N + 2) 56 2 vG goal2.length (tcs goal2) ∧ Below (N + 1) w4 (w6.setCell ⟨N + 1, 2, none⟩ (.slice (some ⟨g, 0, none⟩) gn2 cap)) from by
            have ho := hap.out.owns
            rw [List.nil_append, Nat.zero_add] at ho
            have c6 : Chg (fun x => x = N + 1) w6 (w6.setCell ⟨N + 1, 2, none⟩ (.slice (some ⟨g, 0, none⟩) gn2 cap)) := Chg.setCell (M := fun x => x = N + 1) (p := ⟨N + 1, 2, none⟩) (Chg.refl w6) (fun _ => rfl) _
            have c5 : Chg (fun x => x = N + 1) w5 w6 := hap.out.chg.mono (fun k _ e => by cases e)
            have c := c5.trans c6 (fun _ _ h => h)
            refine ⟨vR, us, _, (X6.out.set 2 _).at rfl, kR c, T5.out.chg c (fun k hk e => by omega), ?_, kB c⟩
            rw [HLG.out]
            exact ownsRow_of ho (fun k hk => c6.block k (ho.lt k hk).2 (fun e => by have := (ho.lt k hk).1; omega)))
          clear hap hap0 x2 xf
          go_meet
          exact R.out
    case rest =>
      obtain ⟨vR, us, vG, hx6, hr6', ht6, hg6', hb6⟩ := hcut
      obtain ⟨w6, hw6⟩ : ∃ w6 : World, w6 = wc := ⟨_, rfl⟩
      rw [← hw6] at hx6 hr6' ht6 hg6' hb6 ⊢
      clear hw6 p2 x2 xf
      have X6 := Lib.hid hx6; have R6 := Lib.hid hr6'; have T6 := Lib.hid ht6; have G6 := Lib.hid hg6'; have B6 := Lib.hid hb6
      clear hx6 hr6' ht6 hg6' hb6 X5 R5 T5 B5 P5 GG5
      have MW := Lib.hid (fun wq => dmod_any what 7 (by omega) (by omega) W1.out.1 W1.out.2 wq)
      obtain ⟨m7, hm7⟩ : ∃ m7, m7 = what % 7 := ⟨_, rfl⟩
      have hm0 : 0 ≤ m7 := by omega
      have hm6 : m7 < 7 := by omega
      rw [← hm7] at MW
      clear hm7
      have LX6 := Lib.hid (show N + 2 ≤ w6.heap.size from X6.out.lt)
      have hr6' : rows2.length ≤ 6 := by have := RR2.out.hlen; omega
      have hg6' : goal2.length ≤ 6 := by have := tm_count HS2.out.2.2.2.1; omega
      have x0 := X6.out.cell (i := 0) rfl; have x1 := X6.out.cell (i := 1) rfl; have x2 := X6.out.cell (i := 2) rfl; have x3 := X6.out.cell (i := 3) rfl
      have xf := X6.out.free
      go_upto_block 0 with ((first | (refine (MW.out _).mono ?_; rintro e w' ⟨rfl, hw⟩; rw [hw]; clear hw) | fail))
      go_cut [] (fun wx => XAt wx (N + 1) ∧ Below (N + 1) w4 wx)
      case first => -- C3
        have h7 : m7 = 0 ∨ m7 = 1 ∨ m7 = 2 ∨ m7 = 3 ∨ m7 = 4 ∨ m7 = 5 ∨ m7 = 6 := by omega
        clear hm0 hm6
        rcases h7 with rfl | rfl | rfl | rfl | rfl | rfl | rfl
        · -- the columns
          as_aux_lemma =>
            have M0 := Lib.hid (fun wq => dmod_any by_ 310 (by omega) (by omega) W2.out.1 W2.out.2 wq)
            obtain ⟨r, hr⟩ : ∃ r, r = by_ % 310 := ⟨_, rfl⟩
            have hr0 : 0 ≤ r ∧ r < 310 := by omega
            rw [← hr] at M0
            clear hr
            have R := Lib.hid (show ∀ z, XAt (w6.setCell ⟨N + 1, 0, none⟩ (.int .i64 z)) (N + 1) ∧ Below (N + 1) w4 (w6.setCell ⟨N + 1, 0, none⟩ (.int .i64 z)) from fun z => by
              have c : Chg (fun x => x = N + 1) w6 (w6.setCell ⟨N + 1, 0, none⟩ (.int .i64 z)) := Chg.setCell (M := fun x => x = N + 1) (p := ⟨N + 1, 0, none⟩) (Chg.refl w6) (fun _ => rfl) _
              exact ⟨xat_mk ((X6.out.set 0 _).at rfl) (own_far R6.out c) (T6.out.chg c (fun k hk e => by omega)) (own_far G6.out c) (by omega) (by omega), B6.out.trans (c.below (fun x hx e => by omega) (by have := LX6.out; omega))⟩)
            go_wp2_with fail
            refine (M0.out _).mono ?_
            rintro e w' ⟨rfl, hw⟩
            rw [hw]
            clear hw
            go_wp2
            go_meet
            exact R.out _
        · -- the constant
          as_aux_lemma =>
            have M0 := Lib.hid (fun wq => dmod_any by_ 5 (by omega) (by omega) W2.out.1 W2.out.2 wq)
            obtain ⟨r, hr⟩ : ∃ r : Nat, (r : Int) = by_ % 5 := ⟨(by_ % 5).toNat, by omega⟩
            have hr5 : r < 5 := by omega
            rw [← hr] at M0
            obtain ⟨z, hz⟩ : ∃ z : Int, (ivs [16777216, 16777217, -10, 10, 9])[r]? = some (.int .i64 z) := by
              have h5 : r = 0 ∨ r = 1 ∨ r = 2 ∨ r = 3 ∨ r = 4 := by omega
              rcases h5 with rfl | rfl | rfl | rfl | rfl <;> exact ⟨_, rfl⟩
            obtain ⟨w8, hw8⟩ : ∃ w8, w8 = w6.alloc (.cells (ivs [16777216, 16777217, -10, 10, 9]).toArray 3) := ⟨_, rfl⟩
            have A8 := Lib.hid (show Below w6.heap.size w6 w8 by rw [hw8]; exact (Below.refl _ _).alloc (Nat.le_refl _) _)
            have N8 := Lib.hid (show Blk w8 w6.heap.size 3 (ivs [16777216, 16777217, -10, 10, 9]) by rw [hw8]; exact Blk.new w6 _ _)
            have HW8 := Lib.hid hw8
            have cz := N8.out.cell hz
            have hr1 : (r : Int) < 5 := by omega
            have X8 := Lib.hid (X6.out.below A8.out X6.out.lt)
            have y3 := X8.out.cell (i := 3) rfl
            have yf := X8.out.free
            clear hr hz hw8
            have R := Lib.hid (show XAt (w8.setCell ⟨N + 1, 3, none⟩ (.int .i64 z)) (N + 1) ∧ Below (N + 1) w4 (w8.setCell ⟨N + 1, 3, none⟩ (.int .i64 z)) from by
              have c : Chg (fun x => x = N + 1) w8 (w8.setCell ⟨N + 1, 3, none⟩ (.int .i64 z)) := Chg.setCell (M := fun x => x = N + 1) (p := ⟨N + 1, 3, none⟩) (Chg.refl w8) (fun _ => rfl) _
              have c0 : Chg (fun x => x = N + 1) w6 w8 := Chg.of_below A8.out
              have c1 := c0.trans c (fun _ _ h => h)
              exact ⟨xat_mk ((X8.out.set 3 _).at rfl) (own_far R6.out c1) (T6.out.chg c1 (fun k hk e => by omega)) (own_far G6.out c1) (by omega) (by omega), B6.out.trans (c1.below (fun x hx e => by omega) (by have := LX6.out; omega))⟩)
            go_upto_region 12 with fail
            go_step
            refine wpList_plain rfl (fun K hK => op_c1 _ _ _ _ _ _ _ (hK _ _ ?_))
            rw [← HW8.out]
            clear hK K
            go_frame
            go_wp2_with fail
            refine (M0.out _).mono ?_
            rintro e w' ⟨rfl, hw⟩
            rw [hw]
            clear hw
            go_wp2
            go_meet
            exact R.out
        · -- one more term of the goal
          as_aux_lemma =>
            have M0 := Lib.hid (fun wq => dmod_any by_ 8 (by omega) (by omega) W2.out.1 W2.out.2 wq)
            obtain ⟨r, hr⟩ : ∃ r, r = by_ % 8 := ⟨_, rfl⟩
            have hr0 : 0 ≤ r := by omega
            have hr8 : r < 8 := by omega
            rw [← hr] at M0
            obtain ⟨z, hz⟩ : ∃ z, z = r - 1 := ⟨_, rfl⟩
            have wz : IntKind.i64.wrap (r - 1) = z := by rw [Go.IntWalk.i64_in _ ⟨by omega, by omega⟩]; omega
            obtain ⟨aG, cG, hvG⟩ := flat_form G6.out
            subst hvG
            obtain ⟨nG, hnG⟩ : ∃ nG, nG = goal2.length := ⟨_, rfl⟩
            rw [← hnG] at x2
            have HNG := Lib.hid hnG
            obtain ⟨w8, hw8⟩ : ∃ w8, w8 = (w6.alloc (.cells #[.int .i64 z, .int .i64 1] 56)).drew := ⟨_, rfl⟩
            have A8 := Lib.hid (show Below w6.heap.size w6 w8 by rw [hw8]; exact ((Below.refl _ _).alloc (Nat.le_refl _) _).drew)
            have N8 := Lib.hid (show Blk w8 w6.heap.size 56 (tcs [(z, 1)]) by rw [hw8]; exact (Blk.new w6 _ _).drew)
            have HW8 := Lib.hid hw8
            have X8 := Lib.hid (X6.out.below A8.out X6.out.lt)
            have G8 := Lib.hid (show w8.ownsRow (N + 2) 56 2 (.slice aG nG cG) nG (tcs goal2) by rw [HNG.out]; exact flat_below G6.out A8.out)
            have y2 := (X8.out.cell (i := 2) rfl)
            rw [← hnG] at y2
            have y2' := Lib.hid y2
            have hnG6 : nG ≤ 6 := by omega
            have LX8 := Lib.hid (show N + 2 ≤ w8.heap.size from X8.out.lt)
            clear hr hz hw8 hnG y2
            go_upto_region 14 with fail
            refine hd_start 8 (fun w' => w'.cell? ⟨N + 1, 2, none⟩ = some (.slice aG nG cG)) (by kernel_rfl) ⟨by kernel_rfl, by kernel_rfl, by kernel_rfl, by decide⟩ x2 (fun ok => ?_)
            refine hd_take_l (i := 0) (v := ?_) ok rfl (by decide) (by kernel_rfl) (by kernel_rfl) (fun _ _ _ h => h) (Or.inl ⟨by kernel_rfl, ?_⟩) ?_
            rotate_left
            · (intro w hSw; (try dsimp only at hSw); (try go_split_ands); go_simp; (try (with_reducible rfl)))
            go_frame
            refine hd_take_l (i := 1) (v := ?_) ok rfl (by decide) (by kernel_rfl) (by kernel_rfl) (fun _ _ _ h => h) (Or.inl ⟨by kernel_rfl, ?_⟩) ?_
            rotate_left
            · (intro w hSw; (try dsimp only at hSw); (try go_split_ands); go_simp; (try (with_reducible rfl)))
            go_frame
            refine hd_take_l (i := 2) (v := ?_) ok rfl (by decide) (by kernel_rfl) (by kernel_rfl) (fun _ _ _ h => h) (Or.inl ⟨by kernel_rfl, ?_⟩) ?_
            rotate_left
            · (intro w hSw; (try dsimp only at hSw); (try go_split_ands); go_simp; (try (with_reducible rfl)))
            go_frame
            refine hd_only_l (c := 3) rfl (by decide) (by kernel_rfl) (fun K hK => ?_)
            go_simp
            refine (M0.out _).mono ?_
            rintro e w' ⟨rfl, hw⟩
            rw [hw]
            clear hw
            (try simp only [])
            refine hK _ _ (by first | exact x2) ?_
            clear hK K
            (try go_frame)
            refine hd_take_l (i := 4) (v := ?_) ok rfl (by decide) (by kernel_rfl) (by kernel_rfl) (fun _ _ _ h => h) (Or.inl ⟨by kernel_rfl, ?_⟩) ?_
            rotate_left
            · (intro w hSw; (try dsimp only at hSw); (try go_split_ands); go_simp; (try (with_reducible rfl)))
            go_frame
            refine hd_take_l (i := 5) (v := ?_) ok rfl (by decide) (by kernel_rfl) (by kernel_rfl) (fun _ _ _ h => h) (Or.inl ⟨by kernel_rfl, ?_⟩) ?_
            rotate_left
            · (intro w hSw; (try dsimp only at hSw); (try go_split_ands); go_simp; (try (with_reducible rfl)))
            go_frame
            refine hd_only_l (c := 6) rfl (by decide) (by kernel_rfl) (fun K hK => ?_)
            go_simp
            rw [← HW8.out]
            (try simp only [])
            refine hK _ _ (by first | exact y2'.out) ?_
            clear hK K
            (try go_frame)
            refine hd_only_l (c := 7) rfl (by decide) (by kernel_rfl) (fun K hK => ?_)
            refine step_append_flat rfl (.tmp 57) (.tmp 62) 26 rfl 56 Try.underlying26 info_tm rfl (by decide) G8.out rfl LX8.out ⟨w6.heap.size, 0, none⟩ 1 1 (tcs [(z, 1)]) rfl rfl (fun j u hu => by rw [Addr.add_lit, Nat.zero_add]; exact N8.out.cell hu) (tcs_one _) (by decide) (by omega) (by decide) ?_
            intro g cap w9 hap
            have X9 := Lib.hid (X8.out.chg hap.out.chg (far_own G8.out))
            have z2 := X9.out.cell (i := 2) rfl
            rw [← HNG.out] at z2
            have zf := X9.out.free
            have R := Lib.hid (show XAt (w9.setCell ⟨N + 1, 2, none⟩ (.slice (some ⟨g, 0, none⟩) (nG + 1) cap)) (N + 1) ∧ Below (N + 1) w4 (w9.setCell ⟨N + 1, 2, none⟩ (.slice (some ⟨g, 0, none⟩) (nG + 1) cap)) from by
              have c : Chg (fun x => x = N + 1) w9 (w9.setCell ⟨N + 1, 2, none⟩ (.slice (some ⟨g, 0, none⟩) (nG + 1) cap)) := Chg.setCell (M := fun x => x = N + 1) (p := ⟨N + 1, 2, none⟩) (Chg.refl w9) (fun _ => rfl) _
              have ho := hap.out.owns
              rw [← tcs_append] at ho
              have hR8 := flat_below R6.out A8.out
              have hR9 : w9.ownsRow (N + 2) 50 2 vR rows2.length (rcs us rows2) := ownsRow_of hR8 (fun k hk => hap.out.chg.block k (hR8.lt k hk).2 (fun e => by
                obtain ⟨cs, h1, _⟩ := owns_tag hR8 hk
                obtain ⟨ds, h2, _⟩ := owns_tag G8.out e
                exact blk_tag h1 h2 (by decide) rfl))
              have lowc : ∀ k, k < N + 2 → ¬ (Value.slice aG nG cG).ownBlock = some k := fun k hk e => by have := (G8.out.lt k e).1; omega
              refine ⟨xat_mk (goal := goal2 ++ [(z, 1)]) ((X9.out.set 2 _).at rfl) (own_far hR9 c) (((T6.out.chg (Chg.of_below A8.out) (fun k _ h => h)).chg hap.out.chg (fun k hk => lowc k (by omega))).chg c (fun k hk e => by omega)) (own_far (by rw [List.length_append, ← HNG.out]; exact ho) c) (by omega) (by rw [List.length_append]; show goal2.length + 1 ≤ 1000; omega), ?_⟩
              exact (B6.out.trans (A8.out.mono (by have := LX6.out; omega))).trans ((hap.out.chg.below (fun x hx => lowc x (by omega)) (by have := LX8.out; omega)).trans (c.below (fun x hx e => by omega) (by have := X9.out.lt; omega)))
              )
            clear hap
            (try simp only [])
            refine hK _ _ (by first | exact z2) ?_
            clear hK K
            (try go_frame)
            refine hd_done (by kernel_rfl) ?_
            simp only [List.drop_succ_cons, List.drop_zero]
            go_wp2
            go_meet
            exact R.out
        · -- another first coefficient of the goal
          as_aux_lemma =>
            have M0 := Lib.hid (fun wq => dmod_any by_ 4 (by omega) (by omega) W2.out.1 W2.out.2 wq)
            obtain ⟨r, hr⟩ : ∃ r : Nat, (r : Int) = by_ % 4 := ⟨(by_ % 4).toNat, by omega⟩
            have hr4 : r < 4 := by omega
            rw [← hr] at M0
            obtain ⟨z, hz⟩ : ∃ z : Int, (ivs [0, 10, 16777216, -16777217])[r]? = some (.int .i64 z) := by
              have h5 : r = 0 ∨ r = 1 ∨ r = 2 ∨ r = 3 := by omega
              rcases h5 with rfl | rfl | rfl | rfl <;> exact ⟨_, rfl⟩
            have HZ := Lib.hid hz
            obtain ⟨aG, cG, hvG⟩ := flat_form G6.out
            subst hvG
            obtain ⟨nG, hnG⟩ : ∃ nG, nG = goal2.length := ⟨_, rfl⟩
            rw [← hnG] at x2
            have HNG := Lib.hid hnG
            have hr1 : (r : Int) < 4 := by omega
            clear hr hz hnG
            rcases Nat.eq_zero_or_pos nG with h0 | h0
            · subst h0
              have R := Lib.hid (show XAt w6 (N + 1) ∧ Below (N + 1) w4 w6 from ⟨xat_mk X6.out R6.out T6.out G6.out (by omega) (by omega), B6.out⟩)
              go_wp2
              go_meet
              exact R.out
            · have h0' : (0 : Int) < (nG : Int) := by omega
              obtain ⟨⟨tof, tco⟩, htj⟩ : ∃ t, goal2[0]? = some t := ⟨_, List.getElem?_eq_getElem (by have := HNG.out; omega)⟩
              have G6' := Lib.hid (show w6.ownsRow (N + 2) 56 2 (.slice aG nG cG) nG (tcs goal2) by rw [HNG.out]; exact G6.out)
              obtain ⟨g, hag, hgB, hgl, _, _, _, hcell⟩ := flat_cells G6'.out h0
              subst hag
              have cc := hcell _ _ (tcs_get htj).2
              have HGF := Lib.hid (show ∀ wz : World, (∃ cs, Blk wz g 56 cs) → wz.frozen? ⟨g, 1, none⟩ = false from fun wz ⟨cs, h⟩ => h.free _)
              obtain ⟨gcs, hgb, _⟩ := owns_tag G6'.out (k := g) rfl
              have HGB := Lib.hid hgb
              have HTJ := Lib.hid htj
              dsimp only at cc
              have hnG6 : nG ≤ 6 := by have := HNG.out; omega
              clear htj hcell hgb
              go_upto_region 17 with fail
              refine hd_start 7 (fun w' => w'.cell? ⟨N + 1, 2, none⟩ = some (.slice (some ⟨g, 0, none⟩) nG cG)) (by kernel_rfl) ⟨by kernel_rfl, by kernel_rfl, by kernel_rfl, by decide⟩ x2 (fun ok => ?_)
              refine hd_take_l (i := 0) (v := ?_) ok rfl (by decide) (by kernel_rfl) (by kernel_rfl) (fun _ _ _ h => h) (Or.inl ⟨by kernel_rfl, ?_⟩) ?_
              rotate_left
              · (intro w hSw; (try dsimp only at hSw); (try go_split_ands); go_simp; (try (with_reducible rfl)))
              go_frame
              refine hd_take_l (i := 1) (v := ?_) ok rfl (by decide) (by kernel_rfl) (by kernel_rfl) (fun _ _ _ h => h) (Or.inl ⟨by kernel_rfl, ?_⟩) ?_
              rotate_left
              · (intro w hSw; (try dsimp only at hSw); (try go_split_ands); go_simp; (try (with_reducible rfl)))
              go_frame
              refine hd_take_l (i := 3) (v := ?_) ok rfl (by decide) (by kernel_rfl) (by kernel_rfl) (fun _ _ _ h => h) (Or.inl ⟨by kernel_rfl, ?_⟩) ?_
              rotate_left
              · (intro w hSw; (try dsimp only at hSw); (try go_split_ands); go_simp; (try (with_reducible rfl)))
              go_frame
              refine hd_inv_p [(73, 2), (75, 4), (76, 5), (77, 6)] (fun _ => undef) (fun b v w' => PickJ w6 w' [0, 10, 16777216, -16777217] r z (b 2) (b 4) (b 5) (b 6) (v 2) (v 4) (v 5) (v 6)) (.inl ok) ⟨by decide, by decide, by kernel_rfl, rfl⟩ (by kernel_rfl) (by kernel_rfl) (by decide) (PickJ.start w6.drew (Below.refl _ _).drew rfl) ?_ ?_
              · intro j oj hj ho bb v a w' hJ hv hr hb hdep hS K hK
                have hj4 : j = 2 ∨ j = 4 ∨ j = 5 ∨ j = 6 := by simpa using hj
                try dsimp only at hS
                rcases hj4 with rfl | rfl | rfl | rfl
                · obtain rfl := Option.some.inj ho
                  have e := hJ.size hb
                  refine step_of rfl (op_c3 _ _ _ _ _ _ _ (hK _ _ (cell_later ((Below.refl _ _).alloc (Nat.le_refl _) _) hS) ?_))
                  exact hJ.two hb
                · obtain rfl := Option.some.inj ho
                  have e74 : a.tmps[74]?.getD undef = .int .i64 by_ := (get_eval a 74).trans (hr 74 (by decide))
                  go_simp
                  go_at_call 24
                  refine (M0.out _).mono ?_
                  rintro e u ⟨rfl, hu⟩
                  rw [hu]
                  exact hK _ _ hS hJ.four
                · obtain rfl := Option.some.inj ho
                  have d2 := hdep 2 (by kernel_rfl)
                  have d4 := hdep 4 (by kernel_rfl)
                  have e73 : a.tmps[73]?.getD undef = .slice (some ⟨w6.heap.size, 0, none⟩) 4 4 := (get_eval a 73).trans ((hv 73 2 (by decide) d2).trans (hJ.v2 d2))
                  have e75 : a.tmps[75]?.getD undef = .int .i64 r := (get_eval a 75).trans ((hv 75 4 (by decide) d4).trans (hJ.v4 d4))
                  go_simp
                  exact hK _ _ hS (hJ.five d2)
                · obtain rfl := Option.some.inj ho
                  have d5 := hdep 5 (by kernel_rfl)
                  have e76 : a.tmps[76]?.getD undef = .pointer (some ⟨w6.heap.size, r, none⟩) := (get_eval a 76).trans ((hv 76 5 (by decide) d5).trans (hJ.v5 d5).2)
                  have cz := (hJ.blk (hJ.v5 d5).1).cell HZ.out
                  go_simp
                  exact hK _ _ hS (hJ.six)
              · intro bb v w' hall hJ hS
                have v2 := hJ.v2 (hall 2 (by decide)); have v4 := hJ.v4 (hall 4 (by decide)); have v5 := (hJ.v5 (hall 5 (by decide))).2; have v6 := hJ.v6 (hall 6 (by decide))
                have A8 := Lib.hid hJ.below
                have cg := (A8.out.cell (p := ⟨g, 1, none⟩) hgl).trans cc
                have cf : w'.frozen? ⟨g, 1, none⟩ = false := HGF.out w' ⟨gcs, HGB.out.below A8.out hgl⟩
                have R := Lib.hid (show XAt (w'.setCell ⟨g, 1, none⟩ (.int .i64 z)) (N + 1) ∧ Below (N + 1) w4 (w'.setCell ⟨g, 1, none⟩ (.int .i64 z)) from by
                  have c : Chg (fun x => x = g) w' (w'.setCell ⟨g, 1, none⟩ (.int .i64 z)) := Chg.setCell (M := fun x => x = g) (p := ⟨g, 1, none⟩) (Chg.refl w') (fun _ => rfl) _
                  have hR8 := flat_below R6.out A8.out
                  have hR9 : (w'.setCell ⟨g, 1, none⟩ (.int .i64 z)).ownsRow (N + 2) 50 2 vR rows2.length (rcs us rows2) := ownsRow_of hR8 (fun k hk => c.block k (hR8.lt k hk).2 (fun e => by
                    obtain ⟨cs, h1, _⟩ := owns_tag hR8 hk
                    exact blk_tag h1 (HGB.out.below A8.out hgl) (by decide) e))
                  have hG8 := own_set (flat_below G6'.out A8.out) 1 (.int .i64 z)
                  rw [show (tcs goal2).set 1 (.int .i64 z) = tcs (goal2.set 0 (tof, z)) from tcs_set (i := 0) HTJ.out] at hG8
                  have hl : (goal2.set 0 (tof, z)).length = nG := by rw [List.length_set, HNG.out]
                  refine ⟨xat_mk (goal := goal2.set 0 (tof, z)) ((X6.out.below A8.out X6.out.lt).chg c (fun e => by omega)) hR9 ((T6.out.chg (Chg.of_below A8.out) (fun k _ h => h)).chg c (fun k hk e => by omega)) (by rw [hl, ← HNG.out]; exact hG8) (by omega) (by omega), ?_⟩
                  exact (B6.out.trans (A8.out.mono (by have := LX6.out; omega))).trans (c.below (fun x hx e => by omega) (by have := LX6.out; have := A8.out.size; omega)))
                simp only [putP, v2, v4, v5, v6]
                clear hJ v2 v4 v5 v6 hall hS ok
                go_frame
                refine hd_done (by kernel_rfl) ?_
                simp only [List.drop_succ_cons, List.drop_zero]
                go_wp2
                go_meet
                exact R.out
        · -- one more row without terms
          as_aux_lemma =>
            have M0 := Lib.hid (fun wq => dmod_any by_ 4 (by omega) (by omega) W2.out.1 W2.out.2 wq)
            obtain ⟨r, hr⟩ : ∃ r : Nat, (r : Int) = by_ % 4 := ⟨(by_ % 4).toNat, by omega⟩
            have hr4 : r < 4 := by omega
            rw [← hr] at M0
            obtain ⟨z, hz⟩ : ∃ z : Int, (ivs [51, 1048576, 1048577, -51])[r]? = some (.int .i64 z) := by
              have h5 : r = 0 ∨ r = 1 ∨ r = 2 ∨ r = 3 := by omega
              rcases h5 with rfl | rfl | rfl | rfl <;> exact ⟨_, rfl⟩
            have HZ := Lib.hid hz
            obtain ⟨aR, cR, hvR⟩ := flat_form R6.out
            subst hvR
            obtain ⟨nR, hnR⟩ : ∃ nR, nR = rows2.length := ⟨_, rfl⟩
            rw [← hnR] at x1
            have HNR := Lib.hid hnR
            have hr1 : (r : Int) < 4 := by omega
            have R6' := Lib.hid (show w6.ownsRow (N + 2) 50 2 (.slice aR nR cR) nR (rcs us rows2) by rw [HNR.out]; exact R6.out)
            have hnR6 : nR ≤ 6 := by omega
            have nX : ¬ (Value.slice aR nR cR).ownBlock = some (N + 1) := far_own R6'.out
            clear hr hz hnR
            go_upto_region 19 with fail
            refine hd_start 10 (fun w' => w'.cell? ⟨N + 1, 1, none⟩ = some (.slice aR nR cR)) (by kernel_rfl) ⟨by kernel_rfl, by kernel_rfl, by kernel_rfl, by decide⟩ x1 (fun ok => ?_)
            refine hd_take_l (i := 0) (v := ?_) ok rfl (by decide) (by kernel_rfl) (by kernel_rfl) (fun _ _ _ h => h) (Or.inl ⟨by kernel_rfl, ?_⟩) ?_
            rotate_left
            · (intro w hSw; (try dsimp only at hSw); (try go_split_ands); go_simp; (try (with_reducible rfl)))
            go_frame
            refine hd_take_l (i := 1) (v := ?_) ok rfl (by decide) (by kernel_rfl) (by kernel_rfl) (fun _ _ _ h => h) (Or.inl ⟨by kernel_rfl, ?_⟩) ?_
            rotate_left
            · (intro w hSw; (try dsimp only at hSw); (try go_split_ands); go_simp; (try (with_reducible rfl)))
            go_frame
            refine hd_take_l (i := 3) (v := ?_) ok rfl (by decide) (by kernel_rfl) (by kernel_rfl) (fun _ _ _ h => h) (Or.inl ⟨by kernel_rfl, ?_⟩) ?_
            rotate_left
            · (intro w hSw; (try dsimp only at hSw); (try go_split_ands); go_simp; (try (with_reducible rfl)))
            go_frame
            refine hd_inv_p [(84, 2), (86, 4), (87, 5), (88, 6), (89, 7), (90, 8), (91, 9)] (fun _ => undef) (fun b v w' => (b 9 = true → (b 2 = true ∧ b 4 = true ∧ b 5 = true ∧ b 6 = true ∧ b 7 = true ∧ b 8 = true) ∧ ∃ wm g cap, Below w6.heap.size w6 wm ∧ FApp 50 2 (N + 2) (.slice aR nR cR) nR 1 (rcs us rows2) [.slice none 0 0, .int .i64 z] wm w' (.slice (some ⟨g, 0, none⟩) (nR + 1) cap) ∧ v 9 = .slice (some ⟨g, 0, none⟩) (nR + 1) cap) ∧ (b 9 = false → PickJ w6 w' [51, 1048576, 1048577, -51] r z (b 2) (b 4) (b 5) (b 6) (v 2) (v 4) (v 5) (v 6) ∧ (b 6 = true → b 5 = true) ∧ (b 5 = true → b 4 = true) ∧ (b 7 = true → b 6 = true ∧ v 7 = .agg #[.slice none 0 0, .int .i64 z]) ∧ (b 8 = true → b 7 = true ∧ ∃ q, v 8 = .slice (some ⟨q, 0, none⟩) 1 1 ∧ Blk w' q 50 [.slice none 0 0, .int .i64 z]))) (.inl ok) ⟨by decide, by decide, by kernel_rfl, rfl⟩ (by kernel_rfl) (by kernel_rfl) (by decide) ⟨(fun h => by cases h), fun _ => ⟨PickJ.start w6.drew (Below.refl _ _).drew rfl, (fun h => by cases h), (fun h => by cases h), (fun h => by cases h), (fun h => by cases h)⟩⟩ ?_ ?_
            · intro j oj hj ho bb v a w' hJ0 hv hr hb hdep hS K hK
              have hj7 : j = 2 ∨ j = 4 ∨ j = 5 ∨ j = 6 ∨ j = 7 ∨ j = 8 ∨ j = 9 := by simpa using hj
              have b9 : bb 9 = false := by
                cases h9 : bb 9 with
                | false => rfl
                | true =>
                  obtain ⟨⟨k2, k4, k5, k6, k7, k8⟩, _⟩ := hJ0.1 h9
                  rcases hj7 with rfl | rfl | rfl | rfl | rfl | rfl | rfl
                  · exact absurd (k2.symm.trans hb) (by decide)
                  · exact absurd (k4.symm.trans hb) (by decide)
                  · exact absurd (k5.symm.trans hb) (by decide)
                  · exact absurd (k6.symm.trans hb) (by decide)
                  · exact absurd (k7.symm.trans hb) (by decide)
                  · exact absurd (k8.symm.trans hb) (by decide)
                  · exact absurd (h9.symm.trans hb) (by decide)
              obtain ⟨hJ, j6, j5, j7, j8⟩ := hJ0.2 b9
              have no9 : ∀ {p : Prop}, bb 9 = true → p := fun h => absurd (b9.symm.trans h) (by decide)
              clear hJ0
              try dsimp only at hS
              rcases hj7 with rfl | rfl | rfl | rfl | rfl | rfl | rfl
              · obtain rfl := Option.some.inj ho
                have e := hJ.size hb
                have hu : Below w'.heap.size w' (w'.alloc (.cells (ivs [51, 1048576, 1048577, -51]).toArray 3)) := (Below.refl _ _).alloc (Nat.le_refl _) _
                exact step_of rfl (op_c4 _ _ _ _ _ _ _ (hK _ _ (cell_later hu hS) ⟨no9, fun _ => ⟨hJ.two hb, j6, j5, j7, fun h => ⟨(j8 h).1, (j8 h).2.imp fun q k => ⟨k.1, k.2.below hu k.2.lt⟩⟩⟩⟩))
              · obtain rfl := Option.some.inj ho
                have e85 : a.tmps[85]?.getD undef = .int .i64 by_ := (get_eval a 85).trans (hr 85 (by decide))
                go_simp
                go_at_call 24
                refine (M0.out _).mono ?_
                rintro e u ⟨rfl, hu⟩
                rw [hu]
                exact hK _ _ hS ⟨no9, fun _ => ⟨hJ.four, j6, fun _ => rfl, j7, j8⟩⟩
              · obtain rfl := Option.some.inj ho
                have d2 := hdep 2 (by kernel_rfl)
                have d4 := hdep 4 (by kernel_rfl)
                have e73 : a.tmps[84]?.getD undef = .slice (some ⟨w6.heap.size, 0, none⟩) 4 4 := (get_eval a 84).trans ((hv 84 2 (by decide) d2).trans (hJ.v2 d2))
                have e75 : a.tmps[86]?.getD undef = .int .i64 r := (get_eval a 86).trans ((hv 86 4 (by decide) d4).trans (hJ.v4 d4))
                go_simp
                exact hK _ _ hS ⟨no9, fun _ => ⟨hJ.five d2, fun _ => rfl, fun _ => d4, j7, j8⟩⟩
              · obtain rfl := Option.some.inj ho
                have d5 := hdep 5 (by kernel_rfl)
                have e76 : a.tmps[87]?.getD undef = .pointer (some ⟨w6.heap.size, r, none⟩) := (get_eval a 87).trans ((hv 87 5 (by decide) d5).trans (hJ.v5 d5).2)
                have cz := (hJ.blk (hJ.v5 d5).1).cell HZ.out
                go_simp
                exact hK _ _ hS ⟨no9, fun _ => ⟨hJ.six, fun _ => d5, j5, fun h => ⟨rfl, (j7 h).2⟩, j8⟩⟩
              · obtain rfl := Option.some.inj ho
                have d6 := hdep 6 (by kernel_rfl)
                have e88 : a.tmps[88]?.getD undef = .int .i64 z := (get_eval a 88).trans ((hv 88 6 (by decide) d6).trans (hJ.v6 d6))
                go_simp
                exact hK _ _ hS ⟨no9, fun _ => ⟨hJ, j6, j5, fun _ => ⟨d6, rfl⟩, fun h => ⟨rfl, (j8 h).2⟩⟩⟩
              · obtain rfl := Option.some.inj ho
                have d7 := hdep 7 (by kernel_rfl)
                have e89 : a.tmps[89]?.getD undef = .agg #[.slice none 0 0, .int .i64 z] := (get_eval a 89).trans ((hv 89 7 (by decide) d7).trans (j7 d7).2)
                go_simp
                have hu : Below w'.heap.size w' (w'.alloc (.cells #[.slice none 0 0, .int .i64 z] 50)) := (Below.refl _ _).alloc (Nat.le_refl _) _
                exact hK _ _ (cell_later hu hS) ⟨no9, fun _ => ⟨hJ.more (hJ.v5 (j6 (j7 d7).1)).1 _, j6, j5, j7, fun _ => ⟨d7, _, rfl, Blk.new w' _ _⟩⟩⟩
              · obtain rfl := Option.some.inj ho
                have d8 := hdep 8 (by kernel_rfl)
                obtain ⟨d7, q, h8, bq⟩ := j8 d8
                have d6 := (j7 d7).1
                refine step_append_flat rfl (.tmp 83) (.tmp 90) 25 rfl 50 Try.underlying25 info_rw rfl (by decide) (flat_below R6'.out hJ.below) (hr 83 (by decide)) (Nat.le_trans LX6.out hJ.below.size) ⟨q, 0, none⟩ 1 1 [.slice none 0 0, .int .i64 z] ((hv 90 8 (by decide) d8).trans h8) rfl (fun j u hu => by rw [Addr.add_lit, Nat.zero_add]; exact bq.cell hu) (by simp [Value.oneCell']) (by decide) (by omega) (by decide) ?_
                intro g cap u hap
                exact hK _ _ (hap.out.chg.cell nX hS) ⟨fun _ => ⟨⟨(hJ.v5 (j6 d6)).1, j5 (j6 d6), j6 d6, d6, d7, d8⟩, w', g, cap, hJ.below, hap.out, rfl⟩, fun h => by cases h⟩
            · intro bb v w' hall hJ hS
              obtain ⟨_, wm, g, cap, hbm, hap, v9⟩ := hJ.1 (hall 9 (by decide))
              have A8 := Lib.hid hbm
              have XM := Lib.hid (X6.out.below hbm X6.out.lt)
              have X9 := Lib.hid (XM.out.chg hap.chg nX)
              have z1 := X9.out.cell (i := 1) rfl
              rw [← HNR.out] at z1
              have zf := X9.out.free
              have R := Lib.hid (row_added (x := ([], z)) A8.out HNR.out X9.out (flat_below R6'.out hbm) hap (T6.out.chg (Chg.of_below hbm) (fun k _ h => h)) (show Row RTm 2 (fun _ => False) wm none 0 0 [] from Row.nil _ _ _ _ _ (by decide)) (flat_below G6.out hbm) (by omega) (by omega) B6.out LX6.out (fun k h => h.elim))
              clear hJ hbm hap hall hS ok
              simp only [putP, v9]
              clear v9
              go_frame
              refine hd_done (by kernel_rfl) ?_
              simp only [List.drop_succ_cons, List.drop_zero]
              go_wp2
              go_meet
              exact R.out
        · -- one more row of one term
          as_aux_lemma =>
            have M0 := Lib.hid (fun wq => dmod_any by_ 5 (by omega) (by omega) W2.out.1 W2.out.2 wq)
            obtain ⟨r, hr⟩ : ∃ r : Nat, (r : Int) = by_ % 5 := ⟨(by_ % 5).toNat, by omega⟩
            have hr4 : r < 5 := by omega
            rw [← hr] at M0
            obtain ⟨z, hz⟩ : ∃ z : Int, (ivs [1048576, 1048577, 9, 10, 0])[r]? = some (.int .i64 z) := by
              have h5 : r = 0 ∨ r = 1 ∨ r = 2 ∨ r = 3 ∨ r = 4 := by omega
              rcases h5 with rfl | rfl | rfl | rfl | rfl <;> exact ⟨_, rfl⟩
            have HZ := Lib.hid hz
            obtain ⟨aR, cR, hvR⟩ := flat_form R6.out
            subst hvR
            obtain ⟨nR, hnR⟩ : ∃ nR, nR = rows2.length := ⟨_, rfl⟩
            rw [← hnR] at x1
            have HNR := Lib.hid hnR
            have hr1 : (r : Int) < 5 := by omega
            have R6' := Lib.hid (show w6.ownsRow (N + 2) 50 2 (.slice aR nR cR) nR (rcs us rows2) by rw [HNR.out]; exact R6.out)
            have hnR6 : nR ≤ 6 := by omega
            have nX : ¬ (Value.slice aR nR cR).ownBlock = some (N + 1) := far_own R6'.out
            clear hr hz hnR
            go_upto_region 21 with fail
            refine hd_start 12 (fun w' => w'.cell? ⟨N + 1, 1, none⟩ = some (.slice aR nR cR)) (by kernel_rfl) ⟨by kernel_rfl, by kernel_rfl, by kernel_rfl, by decide⟩ x1 (fun ok => ?_)
            refine hd_take_l (i := 0) (v := ?_) ok rfl (by decide) (by kernel_rfl) (by kernel_rfl) (fun _ _ _ h => h) (Or.inl ⟨by kernel_rfl, ?_⟩) ?_
            rotate_left
            · (intro w hSw; (try dsimp only at hSw); (try go_split_ands); go_simp; (try (with_reducible rfl)))
            go_frame
            refine hd_take_l (i := 1) (v := ?_) ok rfl (by decide) (by kernel_rfl) (by kernel_rfl) (fun _ _ _ h => h) (Or.inl ⟨by kernel_rfl, ?_⟩) ?_
            rotate_left
            · (intro w hSw; (try dsimp only at hSw); (try go_split_ands); go_simp; (try (with_reducible rfl)))
            go_frame
            refine hd_take_l (i := 3) (v := ?_) ok rfl (by decide) (by kernel_rfl) (by kernel_rfl) (fun _ _ _ h => h) (Or.inl ⟨by kernel_rfl, ?_⟩) ?_
            rotate_left
            · (intro w hSw; (try dsimp only at hSw); (try go_split_ands); go_simp; (try (with_reducible rfl)))
            go_frame
            refine hd_inv_p [(97, 2), (99, 4), (100, 5), (101, 6), (102, 7), (103, 8), (104, 9), (105, 10), (106, 11)] (fun _ => undef) (fun b v w' => (b 11 = true → (b 2 = true ∧ b 4 = true ∧ b 5 = true ∧ b 6 = true ∧ b 7 = true ∧ b 8 = true ∧ b 9 = true ∧ b 10 = true) ∧ ∃ wm g cap q, Below w6.heap.size w6 wm ∧ Blk wm q 56 (tcs [(0, z)]) ∧ w6.heap.size ≤ q ∧ FApp 50 2 (N + 2) (.slice aR nR cR) nR 1 (rcs us rows2) [.slice (some ⟨q, 0, none⟩) 1 1, .int .i64 0] wm w' (.slice (some ⟨g, 0, none⟩) (nR + 1) cap) ∧ v 11 = .slice (some ⟨g, 0, none⟩) (nR + 1) cap) ∧ (b 11 = false → PickJ w6 w' [1048576, 1048577, 9, 10, 0] r z (b 2) (b 4) (b 5) (b 6) (v 2) (v 4) (v 5) (v 6) ∧ (b 6 = true → b 5 = true) ∧ (b 5 = true → b 4 = true) ∧ (b 7 = true → b 6 = true ∧ v 7 = .agg #[.int .i64 0, .int .i64 z]) ∧ (b 8 = true → b 7 = true) ∧ (b 9 = true → b 8 = true) ∧ (b 10 = true → b 9 = true) ∧ ∃ q, (b 8 = true → v 8 = .slice (some ⟨q, 0, none⟩) 1 1 ∧ Blk w' q 56 (tcs [(0, z)]) ∧ w6.heap.size ≤ q) ∧ (b 9 = true → v 9 = .agg #[.slice (some ⟨q, 0, none⟩) 1 1, .int .i64 0]) ∧ (b 10 = true → ∃ p, v 10 = .slice (some ⟨p, 0, none⟩) 1 1 ∧ Blk w' p 50 [.slice (some ⟨q, 0, none⟩) 1 1, .int .i64 0]))) (.inl ok) ⟨by decide, by decide, by kernel_rfl, rfl⟩ (by kernel_rfl) (by kernel_rfl) (by decide) ⟨(fun h => by cases h), fun _ => ⟨PickJ.start w6.drew (Below.refl _ _).drew rfl, (fun h => by cases h), (fun h => by cases h), (fun h => by cases h), (fun h => by cases h), (fun h => by cases h), (fun h => by cases h), 0, (fun h => by cases h), (fun h => by cases h), (fun h => by cases h)⟩⟩ ?_ ?_
            · intro j oj hj ho bb v a w' hJ0 hv hr hb hdep hS K hK
              have hj9 : j = 2 ∨ j = 4 ∨ j = 5 ∨ j = 6 ∨ j = 7 ∨ j = 8 ∨ j = 9 ∨ j = 10 ∨ j = 11 := by simpa using hj
              have b11 : bb 11 = false := by
                cases h11 : bb 11 with
                | false => rfl
                | true =>
                  obtain ⟨⟨k2, k4, k5, k6, k7, k8, k9, k10⟩, _⟩ := hJ0.1 h11
                  rcases hj9 with rfl | rfl | rfl | rfl | rfl | rfl | rfl | rfl | rfl
                  · exact absurd (k2.symm.trans hb) (by decide)
                  · exact absurd (k4.symm.trans hb) (by decide)
                  · exact absurd (k5.symm.trans hb) (by decide)
                  · exact absurd (k6.symm.trans hb) (by decide)
                  · exact absurd (k7.symm.trans hb) (by decide)
                  · exact absurd (k8.symm.trans hb) (by decide)
                  · exact absurd (k9.symm.trans hb) (by decide)
                  · exact absurd (k10.symm.trans hb) (by decide)
                  · exact absurd (h11.symm.trans hb) (by decide)
              obtain ⟨hJ, j6, j5, j7, j8, j9, j10, q, q8, q9, q10⟩ := hJ0.2 b11
              have no : ∀ {p : Prop}, bb 11 = true → p := fun h => absurd (b11.symm.trans h) (by decide)
              have kq : ∀ {u : World}, Below w'.heap.size w' u → (bb 8 = true → v 8 = .slice (some ⟨q, 0, none⟩) 1 1 ∧ Blk u q 56 (tcs [(0, z)]) ∧ w6.heap.size ≤ q) := fun hu h => ⟨(q8 h).1, (q8 h).2.1.below hu (q8 h).2.1.lt, (q8 h).2.2⟩
              have kp : ∀ {u : World}, Below w'.heap.size w' u → (bb 10 = true → ∃ p, v 10 = .slice (some ⟨p, 0, none⟩) 1 1 ∧ Blk u p 50 [.slice (some ⟨q, 0, none⟩) 1 1, .int .i64 0]) := fun hu h => (q10 h).imp fun p k => ⟨k.1, k.2.below hu k.2.lt⟩
              clear hJ0
              try dsimp only at hS
              rcases hj9 with rfl | rfl | rfl | rfl | rfl | rfl | rfl | rfl | rfl
              · obtain rfl := Option.some.inj ho
                have e := hJ.size hb
                have hu : Below w'.heap.size w' (w'.alloc (.cells (ivs [1048576, 1048577, 9, 10, 0]).toArray 3)) := (Below.refl _ _).alloc (Nat.le_refl _) _
                exact step_of rfl (op_c5 _ _ _ _ _ _ _ (hK _ _ (cell_later hu hS) ⟨no, fun _ => ⟨hJ.two hb, j6, j5, j7, j8, j9, j10, q, kq hu, q9, kp hu⟩⟩))
              · obtain rfl := Option.some.inj ho
                have e85 : a.tmps[98]?.getD undef = .int .i64 by_ := (get_eval a 98).trans (hr 98 (by decide))
                go_simp
                go_at_call 24
                refine (M0.out _).mono ?_
                rintro e u ⟨rfl, hu⟩
                rw [hu]
                exact hK _ _ hS ⟨no, fun _ => ⟨hJ.four, j6, fun _ => rfl, j7, j8, j9, j10, q, q8, q9, q10⟩⟩
              · obtain rfl := Option.some.inj ho
                have d2 := hdep 2 (by kernel_rfl)
                have d4 := hdep 4 (by kernel_rfl)
                have e73 : a.tmps[97]?.getD undef = .slice (some ⟨w6.heap.size, 0, none⟩) 5 5 := (get_eval a 97).trans ((hv 97 2 (by decide) d2).trans (hJ.v2 d2))
                have e75 : a.tmps[99]?.getD undef = .int .i64 r := (get_eval a 99).trans ((hv 99 4 (by decide) d4).trans (hJ.v4 d4))
                go_simp
                exact hK _ _ hS ⟨no, fun _ => ⟨hJ.five d2, fun _ => rfl, fun _ => d4, j7, j8, j9, j10, q, q8, q9, q10⟩⟩
              · obtain rfl := Option.some.inj ho
                have d5 := hdep 5 (by kernel_rfl)
                have e76 : a.tmps[100]?.getD undef = .pointer (some ⟨w6.heap.size, r, none⟩) := (get_eval a 100).trans ((hv 100 5 (by decide) d5).trans (hJ.v5 d5).2)
                have cz := (hJ.blk (hJ.v5 d5).1).cell HZ.out
                go_simp
                exact hK _ _ hS ⟨no, fun _ => ⟨hJ.six, fun _ => d5, j5, fun h => ⟨rfl, (j7 h).2⟩, j8, j9, j10, q, q8, q9, q10⟩⟩
              · obtain rfl := Option.some.inj ho
                have d6 := hdep 6 (by kernel_rfl)
                have e88 : a.tmps[101]?.getD undef = .int .i64 z := (get_eval a 101).trans ((hv 101 6 (by decide) d6).trans (hJ.v6 d6))
                go_simp
                exact hK _ _ hS ⟨no, fun _ => ⟨hJ, j6, j5, fun _ => ⟨d6, rfl⟩, fun _ => rfl, j9, j10, q, q8, q9, q10⟩⟩
              · obtain rfl := Option.some.inj ho
                have d7 := hdep 7 (by kernel_rfl)
                have n9 : bb 9 = false := by
                  cases h : bb 9 with
                  | false => rfl
                  | true => exact absurd ((j9 h).symm.trans hb) (by decide)
                have e89 : a.tmps[102]?.getD undef = .agg #[.int .i64 0, .int .i64 z] := (get_eval a 102).trans ((hv 102 7 (by decide) d7).trans (j7 d7).2)
                go_simp
                have hu : Below w'.heap.size w' (w'.alloc (.cells #[.int .i64 0, .int .i64 z] 56)) := (Below.refl _ _).alloc (Nat.le_refl _) _
                exact hK _ _ (cell_later hu hS) ⟨no, fun _ => ⟨hJ.more (hJ.v5 (j6 (j7 d7).1)).1 _, j6, j5, j7, fun _ => d7, fun _ => rfl, j10, w'.heap.size, fun _ => ⟨rfl, Blk.new w' [.int .i64 0, .int .i64 z] 56, hJ.below.size⟩, fun h => absurd (n9.symm.trans h) (by decide), fun h => absurd (n9.symm.trans (j10 h)) (by decide)⟩⟩
              · obtain rfl := Option.some.inj ho
                have d8 := hdep 8 (by kernel_rfl)
                have e103 : a.tmps[103]?.getD undef = .slice (some ⟨q, 0, none⟩) 1 1 := (get_eval a 103).trans ((hv 103 8 (by decide) d8).trans (q8 d8).1)
                go_simp
                exact hK _ _ hS ⟨no, fun _ => ⟨hJ, j6, j5, j7, j8, fun _ => d8, fun _ => rfl, q, q8, fun _ => rfl, q10⟩⟩
              · obtain rfl := Option.some.inj ho
                have d9 := hdep 9 (by kernel_rfl)
                have e104 : a.tmps[104]?.getD undef = .agg #[.slice (some ⟨q, 0, none⟩) 1 1, .int .i64 0] := (get_eval a 104).trans ((hv 104 9 (by decide) d9).trans (q9 d9))
                go_simp
                have hu : Below w'.heap.size w' (w'.alloc (.cells #[.slice (some ⟨q, 0, none⟩) 1 1, .int .i64 0] 50)) := (Below.refl _ _).alloc (Nat.le_refl _) _
                exact hK _ _ (cell_later hu hS) ⟨no, fun _ => ⟨hJ.more (hJ.v5 (j6 (j7 (j8 (j9 d9))).1)).1 _, j6, j5, j7, j8, j9, fun _ => d9, q, kq hu, q9, fun _ => ⟨w'.heap.size, rfl, Blk.new w' _ _⟩⟩⟩
              · obtain rfl := Option.some.inj ho
                have d10 := hdep 10 (by kernel_rfl)
                obtain ⟨p, h10, bp⟩ := q10 d10
                have d9 := j10 d10; have d8 := j9 d9; have d7 := j8 d8; have d6 := (j7 d7).1
                refine step_append_flat rfl (.tmp 96) (.tmp 105) 25 rfl 50 Try.underlying25 info_rw rfl (by decide) (flat_below R6'.out hJ.below) (hr 96 (by decide)) (Nat.le_trans LX6.out hJ.below.size) ⟨p, 0, none⟩ 1 1 [.slice (some ⟨q, 0, none⟩) 1 1, .int .i64 0] ((hv 105 10 (by decide) d10).trans h10) rfl (fun j u hu => by rw [Addr.add_lit, Nat.zero_add]; exact bp.cell hu) (by simp [Value.oneCell']) (by decide) (by omega) (by decide) ?_
                intro g cap u hap
                exact hK _ _ (hap.out.chg.cell nX hS) ⟨fun _ => ⟨⟨(hJ.v5 (j6 d6)).1, j5 (j6 d6), j6 d6, d6, d7, d8, d9, d10⟩, w', g, cap, q, hJ.below, (q8 d8).2.1, (q8 d8).2.2, hap.out, rfl⟩, fun h => by cases h⟩
            · intro bb v w' hall hJ hS
              obtain ⟨_, wm, g, cap, q, hbm, hbq, lq, hap, v9⟩ := hJ.1 (hall 11 (by decide))
              have A8 := Lib.hid hbm
              have XM := Lib.hid (X6.out.below hbm X6.out.lt)
              have X9 := Lib.hid (XM.out.chg hap.chg nX)
              have z1 := X9.out.cell (i := 1) rfl
              rw [← HNR.out] at z1
              have zf := X9.out.free
              have R := Lib.hid (row_added (x := ([(0, z)], 0)) A8.out HNR.out X9.out (flat_below R6'.out hbm) hap (T6.out.chg (Chg.of_below hbm) (fun k _ h => h)) (tm_read1 hbq) (flat_below G6.out hbm) (by omega) (by omega) B6.out LX6.out (fun k h => by
                subst h
                refine ⟨by have := LX6.out; omega, fun e => ?_⟩
                obtain ⟨cs, h2, _⟩ := owns_tag (flat_below R6'.out hbm) e
                exact blk_tag h2 hbq (by decide) rfl))
              clear hJ hbm hbq hap hall hS ok lq
              simp only [putP, v9]
              clear v9
              go_frame
              refine hd_done (by kernel_rfl) ?_
              simp only [List.drop_succ_cons, List.drop_zero]
              go_wp2
              go_meet
              exact R.out
        · -- many rows
          as_aux_lemma =>
            have M0 := Lib.hid (fun wq => dmod_any by_ 2 (by omega) (by omega) W2.out.1 W2.out.2 wq)
            obtain ⟨r, hr⟩ : ∃ r, r = by_ % 2 := ⟨_, rfl⟩
            have hr01 : r = 0 ∨ r = 1 := by omega
            rw [← hr] at M0
            clear hr
            obtain ⟨m, hm⟩ : ∃ m : Nat, (m : Int) = 400 + r ∧ m ≤ 401 := ⟨(400 + r).toNat, by omega, by omega⟩
            have wm : IntKind.i64.wrap (400 + r) = (m : Int) := by rw [Go.IntWalk.i64_in _ ⟨by omega, by omega⟩]; omega
            have hm4 : m ≤ 401 := hm.2
            obtain ⟨f, hf⟩ : ∃ f : World → World, ∀ wq, f wq = wq.alloc (.cells (rcs (List.replicate m (.slice none 0 0)) (List.replicate m ([], 0))).toArray 50) := ⟨_, fun _ => rfl⟩
            have hmk : ∀ wq : World, (Instr.makeSlice 25 (.int .i64 (m : Int)) (.int .i64 (m : Int))).run Try.prog wq = .ok (.slice (some ⟨wq.heap.size, 0, none⟩) m m) (f wq) := fun wq => by rw [hf]; exact make_rows m (by omega) wq
            have A8 := Lib.hid (show Below w6.heap.size w6 (f w6) by rw [hf]; exact (Below.refl _ _).alloc (Nat.le_refl _) _)
            have N8 := Lib.hid (show Blk (f w6) w6.heap.size 50 (rcs (List.replicate m (.slice none 0 0)) (List.replicate m ([], 0))) by rw [hf]; exact Blk.new w6 _ _)
            have X8 := Lib.hid (X6.out.below A8.out X6.out.lt)
            have y1 := X8.out.cell (i := 1) rfl
            have yf := X8.out.free
            clear hm hr01 hf
            have R := Lib.hid (show XAt ((f w6).setCell ⟨N + 1, 1, none⟩ (.slice (some ⟨w6.heap.size, 0, none⟩) m m)) (N + 1) ∧ Below (N + 1) w4 ((f w6).setCell ⟨N + 1, 1, none⟩ (.slice (some ⟨w6.heap.size, 0, none⟩) m m)) from by
              have c : Chg (fun x => x = N + 1) (f w6) ((f w6).setCell ⟨N + 1, 1, none⟩ (.slice (some ⟨w6.heap.size, 0, none⟩) m m)) := Chg.setCell (M := fun x => x = N + 1) (p := ⟨N + 1, 1, none⟩) (Chg.refl (f w6)) (fun _ => rfl) _
              have hlen : (rcs (List.replicate m (.slice none 0 0)) (List.replicate m (([] : List (Int × Int)), (0 : Int)))).length = m * 2 := by rw [rcs_length (by simp), List.length_replicate]
              have hR : (f w6).ownsRow (N + 2) 50 2 (.slice (some ⟨w6.heap.size, 0, none⟩) m m) (List.replicate m (([] : List (Int × Int)), (0 : Int))).length (rcs (List.replicate m (.slice none 0 0)) (List.replicate m ([], 0))) := by
                rw [List.length_replicate]
                exact ⟨hlen, .inr ⟨_, m, _, rfl, LX6.out, N8.out, Nat.le_refl _, by unfold maxLen; omega, by simp [hlen], by rw [List.toList_toArray, List.take_of_length_le (by omega)]⟩⟩
              have hT : TmsAt (fun _ => False) (f w6) (List.replicate m (.slice none 0 0)) (List.replicate m (([] : List (Int × Int)), (0 : Int))) := ⟨by simp, fun i u x hu hx => by
                have e1 := (List.getElem?_replicate.symm.trans hu)
                have e2 := (List.getElem?_replicate.symm.trans hx)
                split at e1
                · cases e1
                  rw [if_pos (by assumption)] at e2
                  cases e2
                  exact ⟨none, 0, 0, rfl, Row.nil _ _ _ _ _ (by decide)⟩
                · cases e1⟩
              refine ⟨xat_mk ((X8.out.set 1 _).at rfl) (own_far hR c) (hT.chg c (fun k hk e => hk)) (own_far (flat_below G6.out A8.out) c) (by rw [List.length_replicate]; omega) (by omega), ?_⟩
              exact (B6.out.trans (A8.out.mono (by have := LX6.out; omega))).trans (c.below (fun x hx e => by omega) (by have := X8.out.lt; omega)))
            go_wp2_with fail
            refine (M0.out _).mono ?_
            rintro e w' ⟨rfl, hw⟩
            rw [hw]
            clear hw
            go_wp2
            go_meet
            exact R.out
      case rest =>
        obtain ⟨hxa, hb8⟩ := hcut
        obtain ⟨w8, hw8⟩ : ∃ w8 : World, w8 = wc := ⟨_, rfl⟩
        rw [← hw8] at hxa hb8 ⊢
        clear hw8 x0 x1 x2 x3 xf
        obtain ⟨xc, xra, xrn, xrc, xga, xgn, xgc, xk, xrows, xgoal, hX8, hXR, hXG⟩ := hxa
        have B8 := Lib.hid hb8
        have LW := Lib.hid (show w3.heap.size ≤ w8.heap.size ∧ N ≤ w8.heap.size from ⟨Nat.le_trans B4.out.size hb8.size, by have := Nat.le_trans B4.out.size hb8.size; have := LX.out.2; omega⟩)
        have low : ∀ {x : Nat}, x < N → w8.heap[x]? = w3.heap[x]? := fun {x} hx => (hb8.block x (by omega)).trans (B4.out.block x hx)
        have M8 := Lib.hid (M3.out.of (low LN.out))
        have P8 := Lib.hid (P4.out.below hb8 (Nat.lt_succ_self N))
        have r0 := M8.out.cell (i := 0) rfl; have r1 := M8.out.cell (i := 1) rfl; have r2 := M8.out.cell (i := 2) rfl; have r3 := M8.out.cell (i := 3) rfl
        have p0 := P8.out.cell (i := 0) rfl; have p1 := P8.out.cell (i := 1) rfl; have p2 := P8.out.cell (i := 2) rfl; have p3 := P8.out.cell (i := 3) rfl
        have x0 := hX8.cell (i := 0) rfl; have x1 := hX8.cell (i := 1) rfl; have x2 := hX8.cell (i := 2) rfl; have x3 := hX8.cell (i := 3) rfl
        have kR := fun {a : Option Addr} {n c : Nat} {l : List (List (Int × Int) × Int)} (h : Row RRw 2 (fun k => k < N) w3 a n c l) => rw_wide (K' := All) (h.keeps RRw.stays (fun x hx hl => low hx) LW.out.1) (fun _ _ => trivial)
        have kG := fun {a : Option Addr} {n c : Nat} {l : List (Int × Int)} (h : Row RTm 2 (fun k => k < N) w3 a n c l) => tm_wide (K' := All) (h.keeps RTm.stays (fun x hx hl => low hx) LW.out.1) (fun _ _ => trivial)
        obtain ⟨Y, hY⟩ : ∃ Y, Y = w8.heap.size := ⟨_, rfl⟩
        obtain ⟨w9, hw9⟩ : ∃ w9, w9 = w8.alloc (.cells #[.int .i64 a0, .slice ra rn rc, .slice ga gn gc, .int .i64 c0, .int .i64 n, .slice ra2 rn2 rc2, .slice ga2 gn2 gc2, .int .i64 k0, .int .i64 xc, .slice xra xrn xrc, .slice xga xgn xgc, .int .i64 xk] 28) := ⟨_, rfl⟩
        have A9 := Lib.hid (show Below w8.heap.size w8 w9 by rw [hw9]; exact (Below.refl _ _).alloc (Nat.le_refl _) _)
        have Y9 := Lib.hid (show Blk w9 Y 28 [.int .i64 a0, .slice ra rn rc, .slice ga gn gc, .int .i64 c0, .int .i64 n, .slice ra2 rn2 rc2, .slice ga2 gn2 gc2, .int .i64 k0, .int .i64 xc, .slice xra xrn xrc, .slice xga xgn xgc, .int .i64 xk] by rw [hw9, hY]; exact Blk.new w8 _ _)
        have up := fun {a : Option Addr} {n c : Nat} {l : List (List (Int × Int) × Int)} (h : Row RRw 2 All w8 a n c l) => h.keeps RRw.stays (fun x hx hl => A9.out.block x hl) A9.out.size
        have ug := fun {a : Option Addr} {n c : Nat} {l : List (Int × Int)} (h : Row RTm 2 All w8 a n c l) => h.keeps RTm.stays (fun x hx hl => A9.out.block x hl) A9.out.size
        have MD := Lib.hid (show ∀ j, j < 3 → MdAt w9 Y (j * 4) from fun j hj => by
          have hj3 : j = 0 ∨ j = 1 ∨ j = 2 := by omega
          rcases hj3 with rfl | rfl | rfl
          · exact ⟨_, _, _, _, _, _, _, _, rows, goal, Y9.out.cell rfl, Y9.out.cell rfl, Y9.out.cell rfl, Y9.out.cell rfl, up (kR RR1.out), ug (kG GG1.out)⟩
          · exact ⟨_, _, _, _, _, _, _, _, rows2, goal2, Y9.out.cell rfl, Y9.out.cell rfl, Y9.out.cell rfl, Y9.out.cell rfl, up (kR RR2.out), ug (kG GG2.out)⟩
          · exact ⟨_, _, _, _, _, _, _, _, xrows, xgoal, Y9.out.cell rfl, Y9.out.cell rfl, Y9.out.cell rfl, Y9.out.cell rfl, up hXR, ug hXG⟩)
        have LY := Lib.hid (show Y < w9.heap.size from Y9.out.lt)
        have BW9 := Lib.hid (show Below w.heap.size w w9 from B3.out.trans (((B4.out.mono (by have := LN.out; omega)).trans (B8.out.mono (by have := LN.out; omega))).trans (A9.out.mono (by have := LW.out.2; have := LN.out; omega))))
        have HW9 := Lib.hid hw9; have HY := Lib.hid hY
        clear hw9 hY hXR hXG hX8 low kR kG up ug hb8
        have AW9 := Lib.hid awake_any
        go_wp2
        clear r0 r1 r2 r3 p0 p1 p2 p3 x0 x1 x2 x3
        rw [← HY.out, ← HW9.out]
        go_loopw [120] (fun s wr => ∃ j : Nat, j ≤ 3 ∧ s = .int .i64 j ∧ Below w9.heap.size w9 wr) (fun s _ => 3 - (intOf s).toNat)
        case atStart => exact ⟨0, by decide, rfl, Below.refl _ _⟩
        case round =>
          obtain ⟨j, hj, rfl, hb⟩ := hrel
          have BR := Lib.hid hb
          clear hb
          by_cases hlt : j < 3
          · obtain ⟨yc, yra, yrn, yrc, yga, ygn, ygc, yk, yrows, ygoal, k0', k1', k2', k3', hyR, hyG⟩ := MD.out j hlt
            have cell := fun {o : Nat} {v : Value} (h : w9.cell? ⟨Y, o, none⟩ = some v) => (BR.out.cell (p := ⟨Y, o, none⟩) LY.out).trans h
            have k0 := cell k0'; have k1 := cell k1'; have k2 := cell k2'; have k3 := cell k3'
            have hj3 : (j : Int) < 3 := by omega
            obtain ⟨w10, hw10⟩ : ∃ w10, w10 = wr.alloc (.cells #[.int .i64 yc, .slice yra yrn yrc, .slice yga ygn ygc, .int .i64 yk] 28) := ⟨_, rfl⟩
            obtain ⟨Z, hZ⟩ : ∃ Z, Z = wr.heap.size := ⟨_, rfl⟩
            have A10 := Lib.hid (show Below wr.heap.size wr w10 by rw [hw10]; exact (Below.refl _ _).alloc (Nat.le_refl _) _)
            have Z10 := Lib.hid (show Blk w10 Z 28 [.int .i64 yc, .slice yra yrn yrc, .slice yga ygn ygc, .int .i64 yk] by rw [hw10, hZ]; exact Blk.new wr _ _)
            have B10 := Lib.hid (BR.out.trans (A10.out.mono BR.out.size))
            have R10 := Lib.hid (hyR.keeps RRw.stays (fun x hx hl => B10.out.block x hl) B10.out.size)
            have G10 := Lib.hid (hyG.keeps RTm.stays (fun x hx hl => B10.out.block x hl) B10.out.size)
            have HW10 := Lib.hid hw10; have HZ := Lib.hid hZ
            obtain ⟨bv, hbv⟩ := bool_of (ValidP yc yrows ygoal yk)
            obtain ⟨bs, hbs⟩ := bool_of (SmallP yc yrows ygoal yk)
            have V1 := Lib.hid (fun s : BelowW w10 => yes_fix hbv (valid_any All yc yrows ygoal yk yra yrn yrc yga ygn ygc s.world (R10.out.keeps RRw.stays (fun x hx hl => s.ok.block x hl) s.ok.size) (G10.out.keeps RTm.stays (fun x hx hl => s.ok.block x hl) s.ok.size)))
            have V2 := Lib.hid (fun s : BelowW w10 => yes_fix hbv (rvalidm_any All yc yrows ygoal yk yra yrn yrc yga ygn ygc s.world (R10.out.keeps RRw.stays (fun x hx hl => s.ok.block x hl) s.ok.size) (G10.out.keeps RTm.stays (fun x hx hl => s.ok.block x hl) s.ok.size)))
            have V3 := Lib.hid (fun s : BelowW w10 => yes_fix hbs (small_any All yc yrows ygoal yk yra yrn yrc yga ygn ygc s.world (R10.out.keeps RRw.stays (fun x hx hl => s.ok.block x hl) s.ok.size) (G10.out.keeps RTm.stays (fun x hx hl => s.ok.block x hl) s.ok.size)))
            have V4 := Lib.hid (fun s : BelowW w10 => yes_fix hbs (rsmall_any All yc yrows ygoal yk yra yrn yrc yga ygn ygc s.world (R10.out.keeps RRw.stays (fun x hx hl => s.ok.block x hl) s.ok.size) (G10.out.keeps RTm.stays (fun x hx hl => s.ok.block x hl) s.ok.size)))
            have ZH := Lib.hid Z10.out.has
            have z0 := fun s : BelowW w10 => (ZH.out.every Z10.out.lt s).cell 0 _ rfl
            have z1 := fun s : BelowW w10 => (ZH.out.every Z10.out.lt s).cell 1 _ rfl
            have z2 := fun s : BelowW w10 => (ZH.out.every Z10.out.lt s).cell 2 _ rfl
            have z3 := fun s : BelowW w10 => (ZH.out.every Z10.out.lt s).cell 3 _ rfl
            clear hw10 hZ k0' k1' k2' k3' cell hyR hyG hbv hbs
            go_upto_region 27 with fail
            rw [← HW10.out, ← HZ.out]
            clear k0 k1 k2 k3
            refine wp_region_below (by kernel_rfl) (by kernel_rfl) ?_
            repeat (go_big_quiet_step ((first | (go_at_call 25; (with_reducible exact calls_below _ (V1.out _))) | (go_at_call 26; (with_reducible exact calls_below _ (V2.out _))) | (go_at_call 27; (with_reducible exact calls_below _ (V3.out _))) | (go_at_call 28; (with_reducible exact calls_below _ (V4.out _))))))
            refine wpQuiet_nil ?_
            rintro w' ⟨s, rfl⟩
            obtain ⟨w20, ok20⟩ := s
            have B20 := Lib.hid (B10.out.trans (ok20.mono B10.out.size))
            clear z0 z1 z2 z3
            go_wp2
            go_roundw
            case rel => exact ⟨j + 1, by omega, by go_num, B20.out⟩
            case measure => simp [intOf]; omega
          · obtain rfl : j = 3 := by omega
            go_wp2_with fail
            refine (AW9.out _).mono ?_
            rintro e w20 ⟨rfl, hb⟩
            have BB := Lib.hid (BW9.out.trans ((BR.out.trans (hb.mono BR.out.size)).mono BW9.out.size))
            go_wp2
            go_ret
            exact ⟨rfl, BB.out⟩
end Go.Proofs.Ytdegpgonphgbcaa
