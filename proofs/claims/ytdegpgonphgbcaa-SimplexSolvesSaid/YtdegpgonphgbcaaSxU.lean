/-
  simplex.
-/
import Derived.Test.YtdegpgonphgbcaaSxT
namespace Go.Proofs.Ytdegpgonphgbcaa
open Go.RowKit
def colStep (d : Dc) (n : Nat) (l : List Rat) (i : Nat) : List Rat := if 1 ≤ iAt d.ins i ∧ iAt d.ins i ≤ n then l.set (iAt d.ins i - 1).toNat (gR (d.rows.getD i []) 0) else l
def colsAt (d : Dc) (n : Nat) (j : Nat) : List Rat := (List.range j).foldl (colStep d n) (List.replicate n 0)
def rowStep (d : Dc) (n : Nat) (l : List Rat) (k : Nat) : List Rat := if (n : Int) < iAt d.outs k then l.set (iAt d.outs k - n - 1).toNat (-(gR (lastR d.rows) (k + 1))) else l
def rowsAt (d : Dc) (n m : Nat) (j : Nat) : List Rat := (List.range j).foldl (rowStep d n) (List.replicate m 0)
theorem colsAt_succ (d : Dc) (n j : Nat) : colsAt d n (j + 1) = colStep d n (colsAt d n j) j := by unfold colsAt; rw [List.range_succ, List.foldl_append]; rfl
theorem rowsAt_succ (d : Dc) (n m j : Nat) : rowsAt d n m (j + 1) = rowStep d n (rowsAt d n m j) j := by unfold rowsAt; rw [List.range_succ, List.foldl_append]; rfl
theorem colsAt_length (d : Dc) (n j : Nat) : (colsAt d n j).length = n := by
  induction j with
  | zero => simp [colsAt]
  | succ j ih => rw [colsAt_succ]; unfold colStep; split <;> simp [ih]
theorem rowsAt_length (d : Dc) (n m j : Nat) : (rowsAt d n m j).length = m := by
  induction j with
  | zero => simp [rowsAt]
  | succ j ih => rw [rowsAt_succ]; unfold rowStep; split <;> simp [ih]
inductive SolveP (cols : Int) (rows : List (List (Int × Int) × Int)) (c0 : Int) (tm : List (Int × Int)) : Int → Option Dc → Prop
  | small (h : ¬ SmallP cols rows tm c0) : SolveP cols rows c0 tm 33 none
  | empty (n : Nat) (hn : cols = (n : Int)) (hs : SmallP cols rows tm c0) (d1 : Dc) (h : Feas (begD n rows) false d1) : SolveP cols rows c0 tm 34 none
  | opn (n : Nat) (hn : cols = (n : Int)) (hs : SmallP cols rows tm c0) (d1 d2 : Dc) (m : Nat) (h : Feas (begD n rows) true d1) (ok1 : DcOk d1) (o1 : (dropD d1).outs.length ≤ 7) (ha : AimFit (dropD d1) c0 tm) (hc : Climb m (aimD d1 c0 tm) false d2) : SolveP cols rows c0 tm 35 none
  | ok (n : Nat) (hn : cols = (n : Int)) (hs : SmallP cols rows tm c0) (d1 d2 : Dc) (m : Nat) (h : Feas (begD n rows) true d1) (ok1 : DcOk d1) (o1 : (dropD d1).outs.length ≤ 7) (ha : AimFit (dropD d1) c0 tm) (hc : Climb m (aimD d1 c0 tm) true d2) (ok2 : DcFit d2) (hf : ∀ r ∈ d2.rows, FitL r) (hv : ∀ v ∈ d2.outs, v ≤ (n + rows.length : Nat)) : SolveP cols rows c0 tm 0 (some d2)
def optNone : Value := .agg #[.int .i64 0, .int .i64 0, .slice none 0 0, .slice none 0 0]
def OptAt (B : Nat) (w : World) (val : Rat) (cl rl : List Rat) (v : Value) : Prop := ∃ g5 g9, v = .agg #[.int .i64 val.num, .int .i64 (val.den : Int), .slice (some ⟨g5, 0, none⟩) cl.length cl.length, .slice (some ⟨g9, 0, none⟩) rl.length rl.length] ∧ FBlk w g5 cl [] ∧ FBlk w g9 rl [] ∧ B ≤ g5 ∧ B ≤ g9
def SolRet (cols : Int) (rows : List (List (Int × Int) × Int)) (code : Int) (od : Option Dc) (w : World) (e : Ending) (w' : World) : Prop :=
  Below w.heap.size w w' ∧ ∃ v, e = .returned (.tuple #[v, .int .i64 code]) ∧ (od = none → v = optNone) ∧ ∀ d, od = some d → OptAt w.heap.size w' (gR (lastR d.rows) 0) (colsAt d cols.toNat d.ins.length) (rowsAt d cols.toNat rows.length d.outs.length) v
def OptZ : List Value := [.int .i64 0, .int .i64 0, .slice none 0 0, .slice none 0 0]
def OptJ (wd w' : World) (n m : Nat) (x : Rat) (b5 b9 b10 b11 : Bool) (v5 v9 v10 v11 : Value) : Prop :=
  ∃ g5 g9 q, (b5 = true → v5 = .slice (some ⟨g5, 0, none⟩) n n ∧ FBlk w' g5 (List.replicate n 0) [] ∧ wd.heap.size ≤ g5) ∧
    (b9 = true → b5 = true ∧ v9 = .slice (some ⟨g9, 0, none⟩) m m ∧ FBlk w' g9 (List.replicate m 0) [] ∧ wd.heap.size ≤ g9 ∧ g5 ≠ g9) ∧
    (b10 = true → (b5 = true ∧ b9 = true) ∧ v10 = .agg #[.int .i64 x.num, .int .i64 (x.den : Int), .slice (some ⟨g5, 0, none⟩) n n, .slice (some ⟨g9, 0, none⟩) m m]) ∧
    (b11 = true → v11 = .pointer (some ⟨q, 0, none⟩) ∧ Blk w' q 34 OptZ ∧ wd.heap.size ≤ q)
theorem OptJ.call {wd w' u : World} {n m : Nat} {x : Rat} {b5 b9 b10 b11 : Bool} {v5 v9 v10 v11 : Value} (h : OptJ wd w' n m x b5 b9 b10 b11 v5 v9 v10 v11) (hu : Below w'.heap.size w' u) : OptJ wd u n m x b5 b9 b10 b11 v5 v9 v10 v11 := by
  obtain ⟨g5, g9, q, h5, h9, h10, h11⟩ := h
  exact ⟨g5, g9, q, fun e => ⟨(h5 e).1, (h5 e).2.1.below hu (h5 e).2.1.lt, (h5 e).2.2⟩, fun e => ⟨(h9 e).1, (h9 e).2.1, (h9 e).2.2.1.below hu (h9 e).2.2.1.lt, (h9 e).2.2.2⟩, h10, fun e => ⟨(h11 e).1, (h11 e).2.1.below hu (h11 e).2.1.lt, (h11 e).2.2⟩⟩
theorem OptJ.five {wd w' u : World} {n m : Nat} {x : Rat} {b5 b9 b10 b11 : Bool} {v5 v9 v10 v11 : Value} (h : OptJ wd w' n m x b5 b9 b10 b11 v5 v9 v10 v11) (hb : b5 = false) (hu : Below w'.heap.size w' u) {g : Nat} (hg : FBlk u g (List.replicate n 0) []) (hgB : wd.heap.size ≤ g) : OptJ wd u n m x true b9 b10 b11 (.slice (some ⟨g, 0, none⟩) n n) v9 v10 v11 := by
  obtain ⟨g5, g9, q, h5, h9, h10, h11⟩ := h.call hu
  exact ⟨g, g9, q, fun e => ⟨rfl, hg, hgB⟩, fun e => absurd ((h9 e).1.symm.trans hb) (by decide), fun e => absurd ((h10 e).1.1.symm.trans hb) (by decide), h11⟩
theorem OptJ.nine {wd w' u : World} {n m : Nat} {x : Rat} {b5 b9 b10 b11 : Bool} {v5 v9 v10 v11 : Value} (h : OptJ wd w' n m x b5 b9 b10 b11 v5 v9 v10 v11) (hb : b9 = false) (h5' : b5 = true) (hu : Below w'.heap.size w' u) {g : Nat} (hg : FBlk u g (List.replicate m 0) []) (hgB : w'.heap.size ≤ g) (hB : wd.heap.size ≤ w'.heap.size) : OptJ wd u n m x b5 true b10 b11 v5 (.slice (some ⟨g, 0, none⟩) m m) v10 v11 := by
  have hlt : ∀ k t ys, Blk w' k t ys → k ≠ g := fun k t ys hk e => by have := hk.lt; omega
  obtain ⟨a5, a9, aq, k5, _⟩ := h
  have l5 := hlt _ _ _ (k5 h5').2.1
  obtain ⟨e5, f5, B5⟩ := k5 h5'
  obtain ⟨_, _, _, h10, h11⟩ : ∃ g5 g9, ∃ q, (b10 = true → (b5 = true ∧ b9 = true) ∧ v10 = .agg #[.int .i64 x.num, .int .i64 (x.den : Int), .slice (some ⟨g5, 0, none⟩) n n, .slice (some ⟨g9, 0, none⟩) m m]) ∧ (b11 = true → v11 = .pointer (some ⟨q, 0, none⟩) ∧ Blk u q 34 OptZ ∧ wd.heap.size ≤ q) := by
    rename_i hh
    exact ⟨a5, a9, aq, hh.2.1, fun e => ⟨(hh.2.2 e).1, (hh.2.2 e).2.1.below hu (hh.2.2 e).2.1.lt, (hh.2.2 e).2.2⟩⟩
  exact ⟨a5, g, _, fun _ => ⟨e5, f5.below hu f5.lt, B5⟩, fun _ => ⟨h5', rfl, hg, by omega, l5⟩, fun e => absurd ((h10 e).1.2.symm.trans hb) (by decide), h11⟩
theorem OptJ.ten {wd w' : World} {n m : Nat} {x : Rat} {b5 b9 b10 b11 : Bool} {v5 v9 v10 v11 : Value} (h : OptJ wd w' n m x b5 b9 b10 b11 v5 v9 v10 v11) (h5 : b5 = true) (h9 : b9 = true) {v : Value} (hv : ∀ g5 g9, v5 = .slice (some ⟨g5, 0, none⟩) n n → v9 = .slice (some ⟨g9, 0, none⟩) m m → v = .agg #[.int .i64 x.num, .int .i64 (x.den : Int), .slice (some ⟨g5, 0, none⟩) n n, .slice (some ⟨g9, 0, none⟩) m m]) : OptJ wd w' n m x b5 b9 true b11 v5 v9 v v11 := by
  obtain ⟨g5, g9, q, k5, k9, k10, k11⟩ := h
  exact ⟨g5, g9, q, k5, k9, fun _ => ⟨⟨h5, h9⟩, hv g5 g9 (k5 h5).1 (k9 h9).2.1⟩, k11⟩
theorem OptJ.eleven {wd w' : World} {n m : Nat} {x : Rat} {b5 b9 b10 b11 : Bool} {v5 v9 v10 v11 : Value} (h : OptJ wd w' n m x b5 b9 b10 b11 v5 v9 v10 v11) (hB : wd.heap.size ≤ w'.heap.size) : OptJ wd (w'.alloc (.cells OptZ.toArray 34)) n m x b5 b9 b10 true v5 v9 v10 (.pointer (some ⟨w'.heap.size, 0, none⟩)) := by
  obtain ⟨g5, g9, q, k5, k9, k10, k11⟩ := h.call ((Below.refl _ _).alloc (Nat.le_refl _) (.cells OptZ.toArray 34))
  exact ⟨g5, g9, _, k5, k9, k10, fun _ => ⟨rfl, Blk.new w' OptZ 34, hB⟩⟩
theorem solveP_cases {cols : Int} {rows : List (List (Int × Int) × Int)} {c0 code : Int} {tm : List (Int × Int)} {od : Option Dc} (h : SolveP cols rows c0 tm code od) (hs : SmallP cols rows tm c0) :
    ∃ (n : Nat) (b : Bool) (d1 : Dc), cols = (n : Int) ∧ Feas (begD n rows) b d1 ∧ ((b = false ∧ code = 34 ∧ od = none) ∨ (b = true ∧ DcOk d1 ∧ (dropD d1).outs.length ≤ 7 ∧ AimFit (dropD d1) c0 tm ∧ ∃ m b2 d2, Climb m (aimD d1 c0 tm) b2 d2 ∧
      ((b2 = false ∧ code = 35 ∧ od = none) ∨ (b2 = true ∧ code = 0 ∧ od = some d2 ∧ DcFit d2 ∧ (∀ r ∈ d2.rows, FitL r) ∧ ∀ v ∈ d2.outs, v ≤ (n + rows.length : Nat))))) := by
  cases h with
  | small h => exact absurd hs h
  | empty n hn _ d1 h => exact ⟨n, false, d1, hn, h, .inl ⟨rfl, rfl, rfl⟩⟩
  | opn n hn _ d1 d2 m h ok1 o1 ha hc => exact ⟨n, true, d1, hn, h, .inr ⟨rfl, ok1, o1, ha, m, false, d2, hc, .inl ⟨rfl, rfl, rfl⟩⟩⟩
  | ok n hn _ d1 d2 m h ok1 o1 ha hc ok2 hf hv => exact ⟨n, true, d1, hn, h, .inr ⟨rfl, ok1, o1, ha, m, true, d2, hc, .inr ⟨rfl, rfl, rfl, ok2, hf, hv⟩⟩⟩
theorem small_terms {n : Nat} {rows : List (List (Int × Int) × Int)} {goal : List (Int × Int)} {c0 : Int} (h : SmallP n rows goal c0) : ∀ x ∈ rows, ∀ t ∈ x.1, 0 ≤ t.1 ∧ t.1 < n ∧ -1000000 ≤ t.2 ∧ t.2 ≤ 1000000 := fun x hx t ht => by
  have hr := (h.2.2.2.2.2.2 x hx).1
  obtain ⟨i, hi⟩ := List.getElem?_of_mem ht
  have := hr i t (List.getElem?_eq_some_iff.1 hi).1 hi
  exact ⟨this.1, this.2.1, by omega, by omega⟩
theorem small_fits {n : Nat} {rows : List (List (Int × Int) × Int)} {goal : List (Int × Int)} {c0 : Int} (h : SmallP n rows goal c0) : ∀ x ∈ rows, (-1000000 ≤ x.2 ∧ x.2 ≤ 1000000) ∧ ∀ t ∈ x.1, -1000000 ≤ t.2 ∧ t.2 ≤ 1000000 := fun x hx =>
  ⟨by have := (h.2.2.2.2.2.2 x hx).2; omega, fun t ht => (small_terms h x hx t ht).2.2⟩
theorem below_set {w w' : World} {p : Addr} (h : Below w.heap.size w w') (hp : w.heap.size ≤ p.block) (v : Value) : Below w.heap.size w (w'.setCell p v) :=
  (Chg.setCell (M := Non) (Chg.of_below h) (fun k => by omega) v).below0
theorem sol_none {w w' : World} {xs : List Value} (_h : Blk w' (w.heap.size + 1) 34 xs) (hb : Below w.heap.size w w') : Below w.heap.size w ((((w'.setCell ⟨w.heap.size + 1, 0, none⟩ (.int .i64 0)).setCell ⟨w.heap.size + 1, 1, none⟩ (.int .i64 0)).setCell ⟨w.heap.size + 1, 2, none⟩ (.slice none 0 0)).setCell ⟨w.heap.size + 1, 3, none⟩ (.slice none 0 0)) :=
  below_set (below_set (below_set (below_set hb (Nat.le_succ _) _) (Nat.le_succ _) _) (Nat.le_succ _) _) (Nat.le_succ _) _
set_option maxRecDepth 100000 in
set_option maxHeartbeats 16000000 in
theorem solve_any (K : Nat → Prop) (cols : Int) (rows : List (List (Int × Int) × Int)) (goal : List (Int × Int)) (c0 code : Int) (od : Option Dc) (hs : SolveP cols rows c0 goal code od) (ra : Option Addr) (rn rc : Nat) (ga : Option Addr) (gn gc : Nat) (w : World) (R : Row RRw 2 K w ra rn rc rows) (G : Row RTm 2 K w ga gn gc goal) (hK : ∀ x, K x → x < w.heap.size) :
    Calls Try.prog 11 #[MdV cols (.slice ra rn rc) ga gn gc c0] w (SolRet cols rows code od w) := by
  obtain ⟨wa, hwa⟩ : ∃ wa, wa = (w.alloc (.cells (MdC cols (.slice ra rn rc) ga gn gc c0).toArray 28)).alloc (.cells #[.int .i64 0, .int .i64 0, .slice none 0 0, .slice none 0 0] 34) := ⟨_, rfl⟩
  have BA := Lib.hid (show Below w.heap.size w wa by rw [hwa]; exact ((Below.refl _ _).alloc (Nat.le_refl _) _).alloc (by simp) _)
  have MA := Lib.hid (show Blk wa w.heap.size 28 (MdC cols (.slice ra rn rc) ga gn gc c0) by rw [hwa]; exact (Blk.new w _ _).old _)
  have TA := Lib.hid (show Blk wa (w.heap.size + 1) 34 [.int .i64 0, .int .i64 0, .slice none 0 0, .slice none 0 0] by rw [hwa]; exact (Blk.new (w.alloc _) [.int .i64 0, .int .i64 0, .slice none 0 0, .slice none 0 0] 34).at' (by simp))
  have RA := Lib.hid (R.keeps RRw.stays (fun y _ hl => BA.out.block y hl) BA.out.size)
  have GA := Lib.hid (G.keeps RTm.stays (fun y _ hl => BA.out.block y hl) BA.out.size)
  have SM := Lib.hid (small_any K cols rows goal c0 ra rn rc ga gn gc wa RA.out GA.out)
  have HWA := Lib.hid hwa; have HK := Lib.hid hK; have HS := Lib.hid hs; have HRN := Lib.hid R.hlen
  have m0 := MA.out.cell (i := 0) rfl; have m1 := MA.out.cell (i := 1) rfl; have m2 := MA.out.cell (i := 2) rfl; have m3 := MA.out.cell (i := 3) rfl
  clear hwa R G hK hs
  go_enter Try.func11, Try.ntmps11
  go_upto_region 1 with fail
  rw [← HWA.out]
  go_wp2_with fail
  refine SM.out.mono ?_
  rintro e w1 ⟨r, rfl, hr, hb⟩
  have HR := Lib.hid hr
  have B1 := Lib.hid (BA.out.trans (hb.mono BA.out.size))
  have M1 := Lib.hid (MA.out.below hb MA.out.lt); have T1 := Lib.hid (TA.out.below hb TA.out.lt)
  have R1 := Lib.hid (RA.out.keeps RRw.stays (fun y _ hl => hb.block y hl) hb.size)
  have G1 := Lib.hid (GA.out.keeps RTm.stays (fun y _ hl => hb.block y hl) hb.size)
  clear hr hb m0 m1 m2 m3 SM RA GA
  cases r with
  | false =>
    have HC := Lib.hid (show code = 33 ∧ od = none by
      have no : ¬ SmallP cols rows goal c0 := fun h => by have := HR.out.2 h; cases this
      cases HS.out with
      | small h => exact ⟨rfl, rfl⟩
      | empty _ _ hs => exact absurd hs no
      | opn _ _ hs => exact absurd hs no
      | ok _ _ hs => exact absurd hs no)
    have t0 := T1.out.cell (i := 0) rfl; have t1 := T1.out.cell (i := 1) rfl; have t2 := T1.out.cell (i := 2) rfl; have t3 := T1.out.cell (i := 3) rfl
    have tf := T1.out.free
    have T9 := Lib.hid ((((T1.out.set 0 (.int .i64 0)).set 1 (.int .i64 0)).set 2 (.slice none 0 0)).set 3 (.slice none 0 0))
    have BF := Lib.hid (sol_none T1.out B1.out)
    go_wp2
    have e0 := T9.out.cell (i := 0) rfl; have e1 := T9.out.cell (i := 1) rfl; have e2 := T9.out.cell (i := 2) rfl; have e3 := T9.out.cell (i := 3) rfl
    obtain ⟨rfl, rfl⟩ := HC.out
    refine bodyPost_ret (v := .tuple #[optNone, .int .i64 33]) (by simp [results, Try.results11, go_sem, e0, e1, e2, e3]; rfl) rfl ⟨BF.out, _, rfl, (fun _ => rfl), (fun d h => by cases h)⟩
  | true =>
    have hsm : SmallP cols rows goal c0 := HR.out.1 rfl
    obtain ⟨n, b, d1, hn, hf, hfin⟩ := solveP_cases HS.out hsm
    subst hn
    have hn6 : n ≤ 6 := by have := hsm.2.1; omega
    have hr6 : rows.length ≤ 6 := by have := hsm.2.2.1; omega
    have hrn6 : rn ≤ 6 := by rw [← HRN.out]; exact hr6
    have SMP := Lib.hid hsm
    have HF := Lib.hid hf; have HFIN := Lib.hid hfin
    have BG := Lib.hid (begin_any w1 n hn6 ra rn rc rows (.slice ra rn rc) ga gn gc c0 K R1.out (fun x hx => by have := HK.out x hx; have := B1.out.size; omega) hrn6 (small_terms hsm))
    clear hsm hf hfin HS HR
    have m0 := M1.out.cell (i := 0) rfl; have m1 := M1.out.cell (i := 1) rfl; have m2 := M1.out.cell (i := 2) rfl; have m3 := M1.out.cell (i := 3) rfl
    go_wp2_with fail
    refine BG.out.mono ?_
    rintro e w2 ⟨q, vI, vO, vR, fp, fI, fO, fR, rfl, hd, hfp, hb⟩
    have D2 := Lib.hid hd; have FP2 := Lib.hid hfp
    have B2 := Lib.hid (B1.out.trans (hb.mono B1.out.size))
    have M2 := Lib.hid (M1.out.below hb M1.out.lt); have T2 := Lib.hid (T1.out.below hb T1.out.lt)
    have R2 := Lib.hid (R1.out.keeps RRw.stays (fun y _ hl => hb.block y hl) hb.size)
    have G2 := Lib.hid (G1.out.keeps RTm.stays (fun y _ hl => hb.block y hl) hb.size)
    have L2 := Lib.hid (show w1.heap.size ≤ w2.heap.size ∧ w.heap.size + 1 < w1.heap.size from ⟨hb.size, T1.out.lt⟩)
    have OKB := Lib.hid (begD_ok (cols := n) (rows := rows) hn6 hr6)
    have FE := Lib.hid (feasible_any w2 fp q (begD n rows) d1 b vI vO vR fI fO fR D2.out OKB.out (begD_fit (small_fits SMP.out)) HF.out (fun x hx => (FP2.out x hx).2))
    clear hd hfp hb m0 m1 m2 m3
    go_wp2_with fail
    refine FE.out.mono ?_
    rintro e w3 ⟨rfl, hd, hc⟩
    have D3 := Lib.hid hd
    have C3 := Lib.hid hc
    have NM := Lib.hid (show (¬ fp w.heap.size ∧ ¬ fp (w.heap.size + 1)) ∧ ∀ x, K x → ¬ fp x from ⟨⟨fun h => by have := (FP2.out _ h).1; have := L2.out; omega, fun h => by have := (FP2.out _ h).1; have := L2.out; omega⟩, fun x hx h => by have := (FP2.out _ h).1; have := HK.out x hx; have := L2.out; omega⟩)
    have B3 := Lib.hid (show Below w.heap.size w w3 from B2.out.trans (C3.out.below (fun x hx h => by have := (FP2.out _ h).1; have := L2.out; omega) B2.out.size))
    have M3 := Lib.hid (M2.out.chg C3.out NM.out.1.1); have T3 := Lib.hid (T2.out.chg C3.out NM.out.1.2)
    have R3 := Lib.hid (R2.out.keeps RRw.stays (fun y hy hl => C3.out.block y hl (NM.out.2 y hy)) C3.out.size)
    have G3 := Lib.hid (G2.out.keeps RTm.stays (fun y hy hl => C3.out.block y hl (NM.out.2 y hy)) C3.out.size)
    clear hd hc FE BG
    cases b with
    | false =>
      have HC := Lib.hid (show code = 34 ∧ od = none by
        rcases HFIN.out with ⟨_, h⟩ | ⟨h, _⟩
        · exact h
        · cases h)
      have t0 := T3.out.cell (i := 0) rfl; have t1 := T3.out.cell (i := 1) rfl; have t2 := T3.out.cell (i := 2) rfl; have t3 := T3.out.cell (i := 3) rfl
      have tf := T3.out.free
      have T9 := Lib.hid ((((T3.out.set 0 (.int .i64 0)).set 1 (.int .i64 0)).set 2 (.slice none 0 0)).set 3 (.slice none 0 0))
      have BF := Lib.hid (sol_none T3.out B3.out)
      go_wp2
      have e0 := T9.out.cell (i := 0) rfl; have e1 := T9.out.cell (i := 1) rfl; have e2 := T9.out.cell (i := 2) rfl; have e3 := T9.out.cell (i := 3) rfl
      obtain ⟨rfl, rfl⟩ := HC.out
      refine bodyPost_ret (v := .tuple #[optNone, .int .i64 34]) (by simp [results, Try.results11, go_sem, e0, e1, e2, e3]; rfl) rfl ⟨BF.out, _, rfl, (fun _ => rfl), (fun d h => by cases h)⟩
    | true =>
      obtain ⟨ok1, o1, ha, m, b2, d2, hc, hfin⟩ : DcOk d1 ∧ (dropD d1).outs.length ≤ 7 ∧ AimFit (dropD d1) c0 goal ∧ ∃ m b2 d2, Climb m (aimD d1 c0 goal) b2 d2 ∧ ((b2 = false ∧ code = 35 ∧ od = none) ∨ (b2 = true ∧ code = 0 ∧ od = some d2 ∧ DcFit d2 ∧ (∀ r ∈ d2.rows, FitL r) ∧ ∀ v ∈ d2.outs, v ≤ (n + rows.length : Nat))) := by
        rcases HFIN.out with ⟨h, _⟩ | ⟨_, h⟩
        · cases h
        · exact h
      have OK1 := Lib.hid ok1; have HC := Lib.hid hc; have HF2 := Lib.hid hfin
      have AI := Lib.hid (aim_any w3 fp q d1 vI vO vR fI fO fR D3.out OK1.out (fun x hx => Nat.lt_of_lt_of_le (FP2.out x hx).2 C3.out.size) n ra rn rc ga gn gc c0 goal K G3.out (fun x hx => NM.out.2 x hx) (fun x hx => by have := HK.out x hx; have := B3.out.size; omega) o1 ha)
      clear ok1 o1 ha hc hfin HFIN HF
      have m0 := M3.out.cell (i := 0) rfl; have m1 := M3.out.cell (i := 1) rfl; have m2 := M3.out.cell (i := 2) rfl; have m3 := M3.out.cell (i := 3) rfl
      go_wp2_with fail
      refine AI.out.mono ?_
      rintro e w4 ⟨rfl, vO', vR', g4, hd, hc4, hg4, hg4'⟩
      have D4 := Lib.hid hd
      have C4 := Lib.hid hc4
      have G4B := Lib.hid (show w.heap.size + 1 < g4 ∧ g4 < w4.heap.size from ⟨by have := B3.out.size; have := T3.out.lt; omega, hg4'⟩)
      obtain ⟨fp2, hfp2⟩ : ∃ f : Nat → Prop, f = fun x => fp x ∨ x = g4 := ⟨_, rfl⟩
      obtain ⟨fR2, hfR2⟩ : ∃ f : Nat → Prop, f = fun x => fR x ∨ x = g4 := ⟨_, rfl⟩
      have FP4 := Lib.hid (show ∀ x, fp2 x → w.heap.size + 1 < x ∧ x < w4.heap.size from by
        rw [hfp2]
        rintro x (h | rfl)
        · have := FP2.out x h; have := L2.out; have := C3.out.size; have := C4.out.size; exact ⟨by omega, by omega⟩
        · exact G4B.out)
      rw [← hfp2, ← hfR2] at D4
      have B4 := Lib.hid (show Below w.heap.size w w4 from B3.out.trans (C4.out.below (fun x hx h => by have := (FP2.out _ h).1; have := L2.out; omega) B3.out.size))
      have M4 := Lib.hid (M3.out.chg C4.out NM.out.1.1); have T4 := Lib.hid (T3.out.chg C4.out NM.out.1.2)
      clear hd hc4 hg4 hg4' hfp2 hfR2 AI m0 m1 m2 m3 D3 D2 C3 C4 R1 R2 R3 G1 G2 G3 M1 M2 M3 T1 T2 T3 MA TA B1 B2 B3 BA FP2 L2
      have CB := Lib.hid (climb_all w4 fp2 q (aimD d1 c0 goal) d2 m b2 vI vO' vR' fI fO fR2 D4.out (aimD_fit OK1.out c0 goal) HC.out (fun x hx => (FP4.out x hx).2))
      go_wp2_with fail
      refine CB.out.mono ?_
      rintro e w5 ⟨rfl, hd, hc⟩
      have D5 := Lib.hid hd
      have NM5 := Lib.hid (show ¬ fp2 w.heap.size ∧ ¬ fp2 (w.heap.size + 1) from ⟨fun h => by have := (FP4.out _ h).1; omega, fun h => by have := (FP4.out _ h).1; omega⟩)
      have M5 := Lib.hid (M4.out.chg hc NM5.out.1); have T5 := Lib.hid (T4.out.chg hc NM5.out.2)
      have B5 := Lib.hid (show Below w.heap.size w w5 from B4.out.trans (hc.below (fun x hx h => by have := (FP4.out _ h).1; omega) B4.out.size))
      have FP5 := Lib.hid (show ∀ x, fp2 x → w.heap.size + 1 < x ∧ x < w5.heap.size from fun x hx => ⟨(FP4.out x hx).1, by have := (FP4.out x hx).2; have := hc.size; omega⟩)
      clear hd hc CB D4 M4 T4 B4 FP4 HC OK1
      cases b2 with
      | false =>
        have HC := Lib.hid (show code = 35 ∧ od = none by
          rcases HF2.out with ⟨_, h⟩ | ⟨h, _⟩
          · exact h
          · cases h)
        have t0 := T5.out.cell (i := 0) rfl; have t1 := T5.out.cell (i := 1) rfl; have t2 := T5.out.cell (i := 2) rfl; have t3 := T5.out.cell (i := 3) rfl
        have tf := T5.out.free
        have T9 := Lib.hid ((((T5.out.set 0 (.int .i64 0)).set 1 (.int .i64 0)).set 2 (.slice none 0 0)).set 3 (.slice none 0 0))
        have BF := Lib.hid (sol_none T5.out B5.out)
        go_wp2
        have e0 := T9.out.cell (i := 0) rfl; have e1 := T9.out.cell (i := 1) rfl; have e2 := T9.out.cell (i := 2) rfl; have e3 := T9.out.cell (i := 3) rfl
        obtain ⟨rfl, rfl⟩ := HC.out
        refine bodyPost_ret (v := .tuple #[optNone, .int .i64 35]) (by simp [results, Try.results11, go_sem, e0, e1, e2, e3]; rfl) rfl ⟨BF.out, _, rfl, (fun _ => rfl), (fun d h => by cases h)⟩
      | true =>
        obtain ⟨hcode, hod, ok2, hft, hv⟩ : code = 0 ∧ od = some d2 ∧ DcFit d2 ∧ (∀ r ∈ d2.rows, FitL r) ∧ ∀ v ∈ d2.outs, v ≤ (n + rows.length : Nat) := by
          rcases HF2.out with ⟨h, _⟩ | ⟨_, h⟩
          · cases h
          · exact h
        subst hcode hod
        obtain ⟨nI, hnI⟩ : ∃ k, k = d2.ins.length := ⟨_, rfl⟩
        obtain ⟨nO, hnO⟩ : ∃ k, k = d2.outs.length := ⟨_, rfl⟩
        have hI8 : nI ≤ 8 := by rw [hnI]; exact ok2.i8
        have hO8 : nO ≤ 8 := by rw [hnO]; exact ok2.o8
        obtain ⟨bR, cR, hvR, lbR, hbR, hrow⟩ := D5.out.row (by intro e; have := ok2.rows; rw [e] at this; simp at this)
        have q2 := D5.out.has.cell 2 _ rfl
        rw [hvR, ok2.rows, ← hnI] at q2
        obtain ⟨gl, hgl⟩ : ∃ g, d2.rows[nI]? = some g := ⟨_, List.getElem?_eq_getElem (by rw [ok2.rows]; omega)⟩
        have hgll : gl.length = nO + 1 := by rw [ok2.cols gl (List.mem_of_getElem? hgl), hnO]
        obtain ⟨bg, cg, sg, kg, fg, hbg⟩ := hrow nI gl hgl (by intro e; rw [e] at hgll; simp at hgll)
        rw [hgll] at kg
        have wm : IntKind.i64.wrap (((nI + 1 : Nat) : Int) - 1) = (nI : Int) := by rw [Go.IntWalk.i64_in _ ⟨by omega, by omega⟩]; omega
        have hmm : (nI : Int) < ((nI + 1 : Nat) : Int) := by omega
        have hm0 : 0 ≤ (nI : Int) := by omega
        have OK2 := Lib.hid ok2; have HFT := Lib.hid hft; have HV := Lib.hid hv; have HROW := Lib.hid hrow; have HGL := Lib.hid hgl; have HGLL := Lib.hid hgll; have FG := Lib.hid fg; have HNI := Lib.hid hnI; have HNO := Lib.hid hnO; have HBG := Lib.hid hbg; have HBR := Lib.hid hbR; have HVR := Lib.hid hvR
        clear ok2 hft hv hrow hgl hgll fg hnI hnO hvR hbg hbR HF2
        go_wp2
        go_quiet (fail)
        obtain ⟨w6, hw6⟩ : ∃ w6, w6 = w5.drewN nq := ⟨_, rfl⟩
        have B6 := Lib.hid (show Below w.heap.size w w6 by rw [hw6]; exact below_drewN B5.out nq)
        have C6 := Lib.hid (show Chg Non w5 w6 by rw [hw6]; exact (Chg.refl w5).drewN nq)
        rw [← hw6]
        clear hw6
        have D6 := Lib.hid (D5.out.chg C6.out (fun _ _ _ h => h))
        have M6 := Lib.hid (M5.out.chg C6.out (fun h => h)); have T6 := Lib.hid (T5.out.chg C6.out (fun h => h))
        have FG6 := Lib.hid (FG.out.chg C6.out (fun h => h))
        have FP6 := Lib.hid (show ∀ x, fp2 x → w.heap.size + 1 < x ∧ x < w6.heap.size from fun x hx => ⟨(FP5.out x hx).1, Nat.lt_of_lt_of_le (FP5.out x hx).2 C6.out.size⟩)
        obtain ⟨v0, hv0⟩ : ∃ v, gl[0]? = some v := ⟨_, List.getElem?_eq_getElem (by rw [HGLL.out]; omega)⟩
        obtain ⟨k0, k1⟩ := FBlk.get FG6.out hv0
        have HV0 := Lib.hid hv0
        have m0 := M6.out.cell (i := 0) rfl; have m1 := M6.out.cell (i := 1) rfl
        have hO0 : (0 : Int) < ((nO + 1 : Nat) : Int) := by omega
        clear hv0 q2 kg wm hmm hm0
        simp only [Nat.zero_mul] at k0 k1
        go_upto_region 10 with fail
        go_cut [6] (fun s wx => ∃ g5 g9 qo, s = .pointer (some ⟨qo, 0, none⟩) ∧ Below w6.heap.size w6 wx ∧ Blk wx qo 34 [.int .i64 v0.num, .int .i64 (v0.den : Int), .slice (some ⟨g5, 0, none⟩) n n, .slice (some ⟨g9, 0, none⟩) rn rn] ∧ FBlk wx g5 (List.replicate n 0) [] ∧ FBlk wx g9 (List.replicate rn 0) [] ∧ g5 ≠ g9 ∧ w6.heap.size ≤ g5 ∧ w6.heap.size ≤ g9 ∧ w6.heap.size ≤ qo)
        case first =>
          as_aux_lemma =>
            refine hd_start 12 (fun w' => w'.cell? ⟨bg, 0, none⟩ = some (.int .i64 v0.num) ∧ w'.cell? ⟨bg, 1, none⟩ = some (.int .i64 (v0.den : Int)) ∧ w'.cell? ⟨w.heap.size, 0, none⟩ = some (.int .i64 n) ∧ w'.cell? ⟨w.heap.size, 1, none⟩ = some (.slice ra rn rc)) (by kernel_rfl) ⟨by kernel_rfl, by kernel_rfl, by kernel_rfl, by decide⟩ (by refine ⟨k0, k1, m0, m1⟩) (fun ok => ?_)
            refine hd_t 0 ok rfl ?_
            go_frame
            refine hd_t 1 ok rfl ?_
            go_frame
            refine hd_t 2 ok rfl ?_
            go_frame
            refine hd_t 3 ok rfl ?_
            go_frame
            refine hd_t 4 ok rfl ?_
            go_frame
            refine hd_t 6 ok rfl ?_
            go_frame
            refine hd_t 7 ok rfl ?_
            go_frame
            refine hd_inv_p [(45, 5), (48, 8), (49, 9), (50, 10), (6, 11)] (fun _ => undef) (fun b v w' => Below w6.heap.size w6 w' ∧ (b 8 = true → v 8 = .int .i64 rn) ∧ OptJ w6 w' n rn v0 (b 5) (b 9) (b 10) (b 11) (v 5) (v 9) (v 10) (v 11)) (.inl ok) ⟨by decide, by decide, by kernel_rfl, rfl⟩ (by kernel_rfl) (by kernel_rfl) (by decide) ⟨(Below.refl _ _).drew, (fun h => by cases h), 0, 0, 0, (fun h => by cases h), (fun h => by cases h), (fun h => by cases h), (fun h => by cases h)⟩ ?_ ?_
            · intro j oj hj ho bb v a w' hJ hv hr hb hdep hS K hK
              obtain ⟨hB, j8, jg⟩ := hJ
              have hBs := hB.size
              have hj5 : j = 5 ∨ j = 8 ∨ j = 9 ∨ j = 10 ∨ j = 11 := by simpa using hj
              try dsimp only at hS
              obtain ⟨s0, s1, s2, s3⟩ := hS
              rcases hj5 with rfl | rfl | rfl | rfl | rfl
              · obtain rfl := Option.some.inj ho
                have e44 : a.tmps[44]?.getD undef = .int .i64 n := (get_eval a 44).trans (hr 44 (by decide))
                go_simp
                go_at_call 36
                refine (zeros_any n (by omega) _).mono ?_
                rintro e u ⟨g, rfl, hgB, hg, hu⟩
                exact hK _ _ ⟨cell_later hu s0, cell_later hu s1, cell_later hu s2, cell_later hu s3⟩ ⟨hB.trans (hu.mono hBs), j8, jg.five hb hu hg (Nat.le_trans hBs hgB)⟩
              · obtain rfl := Option.some.inj ho
                have e47 : a.tmps[47]?.getD undef = .slice ra rn rc := (get_eval a 47).trans (hr 47 (by decide))
                go_simp
                exact hK _ _ ⟨s0, s1, s2, s3⟩ ⟨hB, fun _ => rfl, jg⟩
              · obtain rfl := Option.some.inj ho
                have d8 := hdep 8 (by kernel_rfl)
                have d5 := hdep 5 (by kernel_rfl)
                have e48 : a.tmps[48]?.getD undef = .int .i64 rn := (get_eval a 48).trans ((hv 48 8 (by decide) d8).trans (j8 d8))
                go_simp
                go_at_call 36
                refine (zeros_any rn (by omega) _).mono ?_
                rintro e u ⟨g, rfl, hgB, hg, hu⟩
                exact hK _ _ ⟨cell_later hu s0, cell_later hu s1, cell_later hu s2, cell_later hu s3⟩ ⟨hB.trans (hu.mono hBs), j8, jg.nine hb d5 hu hg hgB hBs⟩
              · obtain rfl := Option.some.inj ho
                have d5 := hdep 5 (by kernel_rfl)
                have d9 := hdep 9 (by kernel_rfl)
                have e42 : a.tmps[42]?.getD undef = FrV v0 := (get_eval a 42).trans (hr 42 (by decide))
                obtain ⟨g5, g9, _, k5, k9, _⟩ := id jg
                have e45 : a.tmps[45]?.getD undef = .slice (some ⟨g5, 0, none⟩) n n := (get_eval a 45).trans ((hv 45 5 (by decide) d5).trans (k5 d5).1)
                have e49 : a.tmps[49]?.getD undef = .slice (some ⟨g9, 0, none⟩) rn rn := (get_eval a 49).trans ((hv 49 9 (by decide) d9).trans (k9 d9).2.1)
                have h5 := (k5 d5).1
                have h9 := (k9 d9).2.1
                clear k5 k9
                go_simp
                refine hK _ _ ⟨s0, s1, s2, s3⟩ ⟨hB, j8, jg.ten d5 d9 (fun a5 a9 x5 x9 => ?_)⟩
                rw [h5] at x5
                rw [h9] at x9
                cases x5
                cases x9
                rfl
              · obtain rfl := Option.some.inj ho
                go_simp
                have hu : Below w'.heap.size w' (w'.alloc (.cells OptZ.toArray 34)) := (Below.refl _ _).alloc (Nat.le_refl _) _
                exact hK _ _ ⟨cell_later hu s0, cell_later hu s1, cell_later hu s2, cell_later hu s3⟩ ⟨hB.trans (hu.mono hBs), j8, jg.eleven hBs⟩
            · intro bb v w' hall hJ hS
              obtain ⟨hB, j8, g5, g9, qo, k5, k9, k10, k11⟩ := hJ
              have h5 := k5 (hall 5 (by decide))
              have h9 := k9 (hall 9 (by decide))
              have h10 := (k10 (hall 10 (by decide))).2
              have h11 := k11 (hall 11 (by decide))
              have v8 := j8 (hall 8 (by decide))
              have v5 := h5.1
              have v9 := h9.2.1
              have v11 := h11.1
              have LA := laid_setRow (vs := [.int .i64 v0.num, .int .i64 (v0.den : Int), .slice (some ⟨g5, 0, none⟩) n n, .slice (some ⟨g9, 0, none⟩) rn rn]) h11.2.1
              have ne5 : g5 ≠ qo := blk_tag h5.2.1 h11.2.1 (by decide)
              have ne9 : g9 ≠ qo := blk_tag h9.2.2.1 h11.2.1 (by decide)
              have R := Lib.hid (show ∃ g5' g9' qo', Value.pointer (some ⟨qo, 0, none⟩) = .pointer (some ⟨qo', 0, none⟩) ∧ Below w6.heap.size w6 (w'.setRow qo [.int .i64 v0.num, .int .i64 (v0.den : Int), .slice (some ⟨g5, 0, none⟩) n n, .slice (some ⟨g9, 0, none⟩) rn rn].toArray) ∧ Blk (w'.setRow qo [.int .i64 v0.num, .int .i64 (v0.den : Int), .slice (some ⟨g5, 0, none⟩) n n, .slice (some ⟨g9, 0, none⟩) rn rn].toArray) qo' 34 [.int .i64 v0.num, .int .i64 (v0.den : Int), .slice (some ⟨g5', 0, none⟩) n n, .slice (some ⟨g9', 0, none⟩) rn rn] ∧ FBlk (w'.setRow qo [.int .i64 v0.num, .int .i64 (v0.den : Int), .slice (some ⟨g5, 0, none⟩) n n, .slice (some ⟨g9, 0, none⟩) rn rn].toArray) g5' (List.replicate n 0) [] ∧ FBlk (w'.setRow qo [.int .i64 v0.num, .int .i64 (v0.den : Int), .slice (some ⟨g5, 0, none⟩) n n, .slice (some ⟨g9, 0, none⟩) rn rn].toArray) g9' (List.replicate rn 0) [] ∧ g5' ≠ g9' ∧ w6.heap.size ≤ g5' ∧ w6.heap.size ≤ g9' ∧ w6.heap.size ≤ qo' from
                ⟨g5, g9, qo, rfl, hB.trans (LA.chg.below (fun j hj e => by have := h11.2.2; omega) hB.size), LA.blk, h5.2.1.chg LA.chg ne5, h9.2.2.1.chg LA.chg ne9, h9.2.2.2.2, h5.2.2, h9.2.2.2.1, h11.2.2⟩)
              have BB := Lib.hid h11.2.1
              simp only [putP, v8, v5, v9, h10, v11]
              clear hB j8 k5 k9 k10 k11 h5 h9 h10 h11 v8 v5 v9 v11 LA ne5 ne9 hS hall ok
              go_frame
              refine hd_done (by kernel_rfl) ?_
              simp only [List.drop_succ_cons, List.drop_zero]
              refine wpList_store_row rfl 34 _ _ rfl qo [.int .i64 v0.num, .int .i64 (v0.den : Int), .slice (some ⟨g5, 0, none⟩) n n, .slice (some ⟨g9, 0, none⟩) rn rn].toArray rfl rfl 34 OptZ.toArray BB.out.heap (by kernel_rfl) (by simp [OptZ]) (by simp [Value.oneCell']) ?_
              go_wp2_with fail
              go_meet
              exact R.out
        case rest =>
          obtain ⟨g5, g9, qo, rfl, hb7, hq7, f5, f9, hne, l5, l9, lq⟩ := hcut
          obtain ⟨w7, hw7⟩ : ∃ w7 : World, w7 = wc := ⟨_, rfl⟩
          rw [← hw7] at hb7 hq7 f5 f9 ⊢
          clear hw7 k0 k1 m0 m1
          have B7 := Lib.hid hb7; have Q7 := Lib.hid hq7; have F5 := Lib.hid f5; have F9 := Lib.hid f9
          have LL := Lib.hid (show g5 ≠ g9 ∧ w6.heap.size ≤ g5 ∧ w6.heap.size ≤ g9 ∧ w6.heap.size ≤ qo ∧ qo ≠ g5 ∧ qo ≠ g9 from ⟨hne, l5, l9, lq, fun e => blk_tag f5 hq7 (by decide) e.symm, fun e => blk_tag f9 hq7 (by decide) e.symm⟩)
          clear hb7 hq7 f5 f9 hne l5 l9 lq
          obtain ⟨aI, cI, hvI, hin⟩ := D6.out.inn
          obtain ⟨aO, cO, hvO⟩ := D6.out.hout.form
          have QH := D6.out.has.cell
          have p0 := QH 0 _ rfl
          rw [hvI, ← HNI.out] at p0
          have lq6 : q < w6.heap.size := D6.out.has.lt (by simp)
          have p0 := (B7.out.cell (p := ⟨q, 0, none⟩) lq6).trans p0
          have HIN := Lib.hid hin; have HVO := Lib.hid hvO; have LQ6 := Lib.hid lq6
          clear hin hvI hvO QH
          go_wp2
          clear p0
          go_loopw [56] (fun s wr => ∃ j : Nat, j ≤ nI ∧ s = .int .i64 j ∧ FBlk wr g5 (colsAt d2 n j) [] ∧ Chg (fun x => x = g5) w7 wr) (fun s _ => nI - (intOf s).toNat)
          case atStart => exact ⟨0, Nat.zero_le _, rfl, F5.out, Chg.refl _⟩
          case round =>
            obtain ⟨j, hj, rfl, hf, hc⟩ := hrel
            have FJ := Lib.hid hf; have CJ := Lib.hid hc
            clear hf hc
            have BW := Lib.hid (show Below w6.heap.size w6 wr from B7.out.trans (CJ.out.below (fun x hx e => by have := LL.out; omega) B7.out.size))
            by_cases hlt : j < nI
            · obtain ⟨z, hz⟩ : ∃ z, d2.ins[j]? = some z := ⟨_, List.getElem?_eq_getElem (by rw [← HNI.out]; exact hlt)⟩
              obtain ⟨bI, haI, lbI, cz, _, _⟩ := HIN.out j z hz
              subst haI
              have cz := (BW.out.cell (p := ⟨bI, j, none⟩) lbI).trans cz
              have hiz : iAt d2.ins (j : Int) = z := iAt_of hz
              have HIZ := Lib.hid hiz
              have cM := (BW.out.cell (p := ⟨w.heap.size, 0, none⟩) M6.out.lt).trans (M6.out.cell (i := 0) rfl)
              clear hz hiz
              by_cases h1 : 1 ≤ z
              · by_cases h2 : z ≤ n
                · obtain ⟨row, hrow⟩ : ∃ r, d2.rows[j]? = some r := ⟨_, List.getElem?_eq_getElem (by rw [OK2.out.rows]; have := HNI.out; omega)⟩
                  have hrl : row.length = nO + 1 := by rw [OK2.out.cols row (List.mem_of_getElem? hrow), HNO.out]
                  obtain ⟨b, cap, sp, cr, fb, _⟩ := HROW.out j row hrow (by intro e; rw [e] at hrl; simp at hrl)
                  rw [hrl] at cr
                  obtain ⟨x, hx⟩ : ∃ x, row[0]? = some x := ⟨_, List.getElem?_eq_getElem (by omega)⟩
                  have lR : bR < w6.heap.size := Nat.lt_of_lt_of_le lbR C6.out.size
                  have cr := (BW.out.cell (p := ⟨bR, j, none⟩) lR).trans (C6.out.cell (fun h => h) cr)
                  have fb6 := fb.chg C6.out (fun h => h)
                  have lb := fb6.lt
                  obtain ⟨x0, x1⟩ := FBlk.get (fb6.below BW.out lb) hx
                  simp only [Nat.zero_mul] at x0 x1
                  have q2 := (BW.out.cell (p := ⟨q, 2, none⟩) LQ6.out).trans (D6.out.has.cell 2 _ rfl)
                  rw [HVR.out, OK2.out.rows, ← HNI.out] at q2
                  have QW := Lib.hid (Q7.out.chg CJ.out LL.out.2.2.2.2.1)
                  have o2 := QW.out.cell (i := 2) rfl
                  obtain ⟨zi, hzi⟩ : ∃ zi : Nat, (zi : Int) = z - 1 := ⟨(z - 1).toNat, by omega⟩
                  have wz : IntKind.i64.wrap (z - 1) = (zi : Int) := by rw [Go.IntWalk.i64_in _ ⟨by omega, by omega⟩]; omega
                  have hzin : (zi : Int) < (n : Int) := by omega
                  have hzi0 : 0 ≤ (zi : Int) := by omega
                  have hO0 : (0 : Int) < (nO : Int) + 1 := by omega
                  have hj1 : (j : Int) < (nI : Int) + 1 := by omega
                  have hj0 : 0 ≤ (j : Int) := by omega
                  have HZL := Lib.hid (show zi < (colsAt d2 n j).length by rw [colsAt_length]; omega)
                  have PS := Lib.hid (show FBlk ((wr.drew.setCell ⟨g5, zi * 2, none⟩ (.int .i64 x.num)).setCell ⟨g5, zi * 2 + 1, none⟩ (.int .i64 (x.den : Int))) g5 (colsAt d2 n (j + 1)) [] by
                    rw [colsAt_succ]
                    unfold colStep
                    rw [if_pos (by rw [HIZ.out]; exact ⟨h1, h2⟩), HIZ.out, ← hzi, Int.toNat_natCast, show gR (d2.rows.getD j []) 0 = x by rw [List.getD_eq_getElem?_getD, hrow]; exact gR_of hx]
                    exact FBlk.put FJ.out.drew HZL.out x)
                  have PC := Lib.hid (chg_put (b := g5) CJ.out.drew (fun _ => rfl) zi (.int .i64 x.num) (.int .i64 (x.den : Int)))
                  obtain ⟨xo, hxo⟩ : ∃ xo, (colsAt d2 n j)[zi]? = some xo := ⟨_, List.getElem?_eq_getElem HZL.out⟩
                  obtain ⟨c0', c1'⟩ := FBlk.get FJ.out hxo
                  have cf := FJ.out.free
                  clear hrow hrl fb fb6 hx hzi hxo lb lR
                  go_upto_region 15 with fail
                  refine hd_start 14 (fun w' => w' = wr.drew) (by kernel_rfl) ⟨by kernel_rfl, by kernel_rfl, by kernel_rfl, by decide⟩ rfl (fun ok => ?_)
                  refine hd_t 0 ok rfl ?_
                  go_frame
                  refine hd_t 1 ok rfl ?_
                  go_frame
                  refine hd_t 2 ok rfl ?_
                  go_frame
                  refine hd_t 3 ok rfl ?_
                  go_frame
                  refine hd_t 4 ok rfl ?_
                  go_frame
                  refine hd_t 5 ok rfl ?_
                  go_frame
                  refine hd_t 6 ok rfl ?_
                  go_frame
                  refine hd_t 7 ok rfl ?_
                  go_frame
                  refine hd_t 8 ok rfl ?_
                  go_frame
                  refine hd_t 9 ok rfl ?_
                  go_frame
                  refine hd_t 10 ok rfl ?_
                  go_frame
                  refine hd_t 11 ok rfl ?_
                  go_frame
                  refine hd_t 12 ok rfl ?_
                  go_frame
                  refine hd_t 13 ok rfl ?_
                  go_frame
                  refine hd_done (by kernel_rfl) ?_
                  simp only [List.drop_succ_cons, List.drop_zero]
                  clear cz cM cr x0 x1 q2 o2
                  go_wp2
                  clear c0' c1' cf
                  go_roundw
                  case rel => exact ⟨j + 1, by omega, by go_num, PS.out, PC.out⟩
                  case measure => simp [intOf]; omega
                · have PS := Lib.hid (show FBlk wr g5 (colsAt d2 n (j + 1)) [] by
                    rw [colsAt_succ]
                    unfold colStep
                    rw [if_neg (by rw [HIZ.out]; exact fun h => h2 h.2)]
                    exact FJ.out)
                  go_wp2
                  clear cz cM
                  go_roundw
                  case rel => exact ⟨j + 1, by omega, by go_num, PS.out, CJ.out⟩
                  case measure => simp [intOf]; omega
              · have PS := Lib.hid (show FBlk wr g5 (colsAt d2 n (j + 1)) [] by
                  rw [colsAt_succ]
                  unfold colStep
                  rw [if_neg (by rw [HIZ.out]; exact fun h => h1 h.1)]
                  exact FJ.out)
                go_wp2
                clear cz cM
                go_roundw
                case rel => exact ⟨j + 1, by omega, by go_num, PS.out, CJ.out⟩
                case measure => simp [intOf]; omega
            · have hj2 : nI = j := by omega
              subst hj2
              obtain ⟨w8, hw8⟩ : ∃ w8 : World, w8 = wr := ⟨_, rfl⟩
              rw [← hw8] at FJ CJ BW ⊢
              clear hw8
              have Q8 := Lib.hid (Q7.out.chg CJ.out LL.out.2.2.2.2.1)
              have F98 := Lib.hid (F9.out.chg CJ.out (fun e => LL.out.1 e.symm))
              have B8 := Lib.hid (BW.out)
              have p1 := (B8.out.cell (p := ⟨q, 1, none⟩) LQ6.out).trans (D6.out.has.cell 1 _ rfl)
              rw [HVO.out, ← HNO.out] at p1
              have FC := Lib.hid FJ.out
              clear FJ CJ BW F5 F9 Q7
              go_wp2
              clear p1
              go_loopw [89] (fun s wr => ∃ k : Nat, k ≤ nO ∧ s = .int .i64 k ∧ FBlk wr g9 (rowsAt d2 n rn k) [] ∧ Chg (fun x => x = g9) w8 wr) (fun s _ => nO - (intOf s).toNat)
              case atStart => exact ⟨0, Nat.zero_le _, rfl, F98.out, Chg.refl _⟩
              case round =>
                obtain ⟨k, hk, rfl, hf, hc⟩ := hrel
                have FJ := Lib.hid hf; have CJ := Lib.hid hc
                clear hf hc
                have BW := Lib.hid (show Below w6.heap.size w6 wr from B8.out.trans (CJ.out.below (fun x hx e => by have := LL.out; omega) B8.out.size))
                by_cases hlt : k < nO
                · obtain ⟨bO, cO', hvO', lbO, hout⟩ := D6.out.out (by intro e; have := HNO.out; rw [e] at this; simp at this; omega)
                  obtain ⟨z, hz⟩ : ∃ z, d2.outs[k]? = some z := ⟨_, List.getElem?_eq_getElem (by rw [← HNO.out]; exact hlt)⟩
                  obtain ⟨cz, _, _⟩ := hout k z hz
                  have haO : aO = some ⟨bO, 0, none⟩ := by have h := HVO.out; rw [hvO'] at h; cases h; rfl
                  subst haO
                  have cz := (BW.out.cell (p := ⟨bO, k, none⟩) lbO).trans cz
                  have HIZ := Lib.hid (show iAt d2.outs (k : Int) = z from iAt_of hz)
                  have HZV := Lib.hid (HV.out z (List.mem_of_getElem? hz))
                  have cM := (BW.out.cell (p := ⟨w.heap.size, 0, none⟩) M6.out.lt).trans (M6.out.cell (i := 0) rfl)
                  clear hz hout hvO'
                  by_cases h1 : (n : Int) < z
                  · obtain ⟨x, hx⟩ : ∃ x, gl[k + 1]? = some x := ⟨_, List.getElem?_eq_getElem (by rw [HGLL.out]; omega)⟩
                    obtain ⟨x0, x1⟩ := FBlk.get (FG6.out.below BW.out FG6.out.lt) hx
                    have QW := Lib.hid (Q8.out.chg CJ.out LL.out.2.2.2.2.2)
                    have o3 := QW.out.cell (i := 3) rfl
                    have hxf : Fit x := (HFT.out gl (List.mem_of_getElem? HGL.out)).get hx
                    obtain ⟨y, hy⟩ : ∃ y, y = -x := ⟨_, rfl⟩
                    have SO := Lib.hid (show ∀ wq : World, Calls Try.prog 37 #[FrV x] wq (FrRet y wq) from fun wq => by rw [hy]; exact sopp x hxf wq)
                    have HY := Lib.hid hy
                    obtain ⟨zi, hzi⟩ : ∃ zi : Nat, (zi : Int) = z - n - 1 := ⟨(z - n - 1).toNat, by omega⟩
                    obtain ⟨z2, hz2⟩ : ∃ z2 : Int, z2 = z - n := ⟨_, rfl⟩
                    have hrl := HRN.out
                    have hzm := HZV.out
                    have wz : IntKind.i64.wrap (z - (n : Int)) = z2 := by rw [Go.IntWalk.i64_in _ ⟨by omega, by omega⟩]; omega
                    have wz2 : IntKind.i64.wrap (z2 - 1) = (zi : Int) := by rw [Go.IntWalk.i64_in _ ⟨by omega, by omega⟩]; omega
                    have hzin : (zi : Int) < (rn : Int) := by omega
                    have hzi0 : 0 ≤ (zi : Int) := by omega
                    have wk : IntKind.i64.wrap ((k : Int) + 1) = (k : Int) + 1 := Go.IntWalk.i64_in _ ⟨by omega, by omega⟩
                    have hk1 : (k : Int) + 1 < (nO : Int) + 1 := by omega
                    have hk2 : k < nO := hlt
                    have hk0 : 0 ≤ (k : Int) + 1 := by omega
                    have HZL := Lib.hid (show zi < (rowsAt d2 n rn k).length by rw [rowsAt_length]; omega)
                    have LQ := Lib.hid (show lastR d2.rows = gl by unfold lastR; rw [OK2.out.rows, Nat.add_sub_cancel, ← HNI.out, List.getD_eq_getElem?_getD, HGL.out]; rfl)
                    have RS := Lib.hid (show rowsAt d2 n rn (k + 1) = (rowsAt d2 n rn k).set zi y by
                      rw [rowsAt_succ]
                      unfold rowStep
                      rw [if_pos (by rw [HIZ.out]; exact h1), HIZ.out, ← hzi, Int.toNat_natCast, LQ.out, gR_of hx, HY.out])
                    clear hx hxf hy hzi hz2 hrl hzm
                    go_upto_region 21 with fail
                    refine hd_start 14 (fun w' => w'.cell? ⟨qo, 3, none⟩ = some (.slice (some ⟨g9, 0, none⟩) rn rn) ∧ w'.cell? ⟨w.heap.size, 0, none⟩ = some (.int .i64 n) ∧ w'.cell? ⟨bg, (k + 1) * 2, none⟩ = some (.int .i64 x.num) ∧ w'.cell? ⟨bg, (k + 1) * 2 + 1, none⟩ = some (.int .i64 (x.den : Int))) (by kernel_rfl) ⟨by kernel_rfl, by kernel_rfl, by kernel_rfl, by decide⟩ (by refine ⟨o3, cM, x0, x1⟩) (fun ok => ?_)
                    refine hd_t 0 ok rfl ?_
                    go_frame
                    refine hd_t 1 ok rfl ?_
                    go_frame
                    refine hd_t 2 ok rfl ?_
                    go_frame
                    refine hd_t 3 ok rfl ?_
                    go_frame
                    refine hd_t 4 ok rfl ?_
                    go_frame
                    refine hd_t 5 ok rfl ?_
                    go_frame
                    refine hd_t 6 ok rfl ?_
                    go_frame
                    refine hd_t 7 ok rfl ?_
                    go_frame
                    refine hd_t 8 ok rfl ?_
                    go_frame
                    refine hd_t 9 ok rfl ?_
                    go_frame
                    refine hd_t 10 ok rfl ?_
                    go_frame
                    refine hd_t 11 ok rfl ?_
                    go_frame
                    refine hd_only_l (c := 12) rfl (by decide) (by kernel_rfl) (fun K hK => ?_)
                    go_simp
                    refine (SO.out _).mono ?_
                    rintro e w' ⟨rfl, hb⟩
                    have FJ2 := Lib.hid (FJ.out.drew.below hb FJ.out.lt)
                    have CJ2 := Lib.hid (CJ.out.drew.tr hb)
                    (try simp only [])
                    refine hK _ _ (by refine ⟨?_, ?_, ?_, ?_⟩ <;> (first | exact cell_later hb o3 | exact cell_later hb cM | exact cell_later hb x0 | exact cell_later hb x1)) ?_
                    clear hK K
                    (try go_frame)
                    refine hd_t 13 ok rfl ?_
                    go_frame
                    obtain ⟨xo, hxo⟩ : ∃ xo, (rowsAt d2 n rn k)[zi]? = some xo := ⟨_, List.getElem?_eq_getElem HZL.out⟩
                    obtain ⟨c0', c1'⟩ := FBlk.get FJ2.out hxo
                    have cf := FJ2.out.free
                    have PS := Lib.hid (show FBlk ((w'.setCell ⟨g9, zi * 2, none⟩ (.int .i64 y.num)).setCell ⟨g9, zi * 2 + 1, none⟩ (.int .i64 (y.den : Int))) g9 (rowsAt d2 n rn (k + 1)) [] by
                      rw [RS.out]
                      exact FBlk.put FJ2.out HZL.out y)
                    have PC := Lib.hid (chg_put (b := g9) CJ2.out (fun _ => rfl) zi (.int .i64 y.num) (.int .i64 (y.den : Int)))
                    clear hb hxo o3 x0 x1 cz cM
                    refine hd_done (by kernel_rfl) ?_
                    simp only [List.drop_succ_cons, List.drop_zero]
                    go_wp2
                    clear c0' c1' cf
                    go_roundw
                    case rel => exact ⟨k + 1, by omega, by go_num, PS.out, PC.out⟩
                    case measure => simp [intOf]; omega
                  · have PS := Lib.hid (show FBlk wr g9 (rowsAt d2 n rn (k + 1)) [] by
                      rw [rowsAt_succ]
                      unfold rowStep
                      rw [if_neg (by rw [HIZ.out]; exact h1)]
                      exact FJ.out)
                    go_wp2
                    clear cz cM
                    go_roundw
                    case rel => exact ⟨k + 1, by omega, by go_num, PS.out, CJ.out⟩
                    case measure => simp [intOf]; omega
                · have hk2 : nO = k := by omega
                  subst hk2
                  have QW := Lib.hid (Q8.out.chg CJ.out LL.out.2.2.2.2.2)
                  have o0 := QW.out.cell (i := 0) rfl; have o1 := QW.out.cell (i := 1) rfl; have o2 := QW.out.cell (i := 2) rfl; have o3 := QW.out.cell (i := 3) rfl
                  have TW := Lib.hid (T6.out.below BW.out T6.out.lt)
                  have t0 := TW.out.cell (i := 0) rfl; have t1 := TW.out.cell (i := 1) rfl; have t2 := TW.out.cell (i := 2) rfl; have t3 := TW.out.cell (i := 3) rfl
                  have tf := TW.out.free
                  have T9 := Lib.hid ((((TW.out.set 0 (.int .i64 v0.num)).set 1 (.int .i64 (v0.den : Int))).set 2 (.slice (some ⟨g5, 0, none⟩) n n)).set 3 (.slice (some ⟨g9, 0, none⟩) rn rn))
                  have BF := Lib.hid (show Below w.heap.size w ((((wr.setCell ⟨w.heap.size + 1, 0, none⟩ (.int .i64 v0.num)).setCell ⟨w.heap.size + 1, 1, none⟩ (.int .i64 (v0.den : Int))).setCell ⟨w.heap.size + 1, 2, none⟩ (.slice (some ⟨g5, 0, none⟩) n n)).setCell ⟨w.heap.size + 1, 3, none⟩ (.slice (some ⟨g9, 0, none⟩) rn rn)) from below_set (below_set (below_set (below_set (B6.out.trans (BW.out.mono B6.out.size)) (Nat.le_succ _) _) (Nat.le_succ _) _) (Nat.le_succ _) _) (Nat.le_succ _) _)
                  go_wp2
                  have e0 := T9.out.cell (i := 0) rfl; have e1 := T9.out.cell (i := 1) rfl; have e2 := T9.out.cell (i := 2) rfl; have e3 := T9.out.cell (i := 3) rfl
                  refine bodyPost_ret (v := .tuple #[.agg #[.int .i64 v0.num, .int .i64 (v0.den : Int), .slice (some ⟨g5, 0, none⟩) n n, .slice (some ⟨g9, 0, none⟩) rn rn], .int .i64 0]) (by simp [results, Try.results11, go_sem, e0, e1, e2, e3]) rfl ⟨BF.out, _, rfl, (fun h => by cases h), (fun d h => ?_)⟩
                  cases h
                  have hw6 : w.heap.size + 1 < w6.heap.size := T6.out.lt
                  have s5 : g5 ≠ w.heap.size + 1 := by have := LL.out; omega
                  have s9 : g9 ≠ w.heap.size + 1 := by have := LL.out; omega
                  rw [← HNI.out, ← HNO.out, HRN.out, Int.toNat_natCast]
                  refine ⟨g5, g9, ?_, ?_, ?_, by have := LL.out; omega, by have := LL.out; omega⟩
                  · rw [colsAt_length, rowsAt_length, show gR (lastR d2.rows) 0 = v0 by unfold lastR; rw [OK2.out.rows, Nat.add_sub_cancel, ← HNI.out, List.getD_eq_getElem?_getD, HGL.out]; exact gR_of HV0.out]
                  · exact ((((FC.out.chg CJ.out LL.out.1).other s5 _).other s5 _).other s5 _).other s5 _
                  · exact (((FJ.out.other s9 _).other s9 _).other s9 _).other s9 _
end Go.Proofs.Ytdegpgonphgbcaa
