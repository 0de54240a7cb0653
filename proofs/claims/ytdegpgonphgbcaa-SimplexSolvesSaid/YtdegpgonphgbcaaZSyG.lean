/-
  Models that are copied and changed.
  The conditions of a walk of simplex.
  The sanity check of the statements of simplex.
  SimplexProves.
-/
import Derived.Deep.Slices
import Derived.SizedLaws
import Derived.Lib.SmallJoins
import Derived.Deep.CutBlock
import Derived.Test.YtdegpgonphgbcaaZSyB
import Derived.Test.YtdegpgonphgbcaaZSyF
import Derived.Test.YtdegpgonphgbcaaMem
import Derived.Test.YtdegpgonphgbcaaSxT
import Derived.Test.YtdegpgonphgbcaaSxU
import Derived.Test.YtdegpgonphgbcaaZSoB
namespace Go.Proofs.Ytdegpgonphgbcaa
open Go.RowKit
theorem Row.wide2 {α : Type} {R : Rd α} {sz n c : Nat} {K K' : Nat → Prop} {w : World} {a : Option Addr} {xs : List α} (h : Row R sz K w a n c xs) (hW : ∀ b o x, R K w b o x → R K' w b o x) (hK : ∀ k, K k → K' k) : Row R sz K' w a n c xs :=
  ⟨h.hlen, h.hcap, h.hmax, h.hsz, fun i x hx => by
    obtain ⟨b, o, h1, h2, h3, h4⟩ := h.row i x hx
    exact ⟨b, o, h1, hK b h2, h3, hW _ _ _ h4⟩⟩
theorem tm_wide {K K' : Nat → Prop} {w : World} {a : Option Addr} {n c : Nat} {xs : List (Int × Int)} (h : Row RTm 2 K w a n c xs) (hK : ∀ k, K k → K' k) : Row RTm 2 K' w a n c xs := Row.wide2 h (fun _ _ _ h => h) hK
theorem rw_wide {K K' : Nat → Prop} {w : World} {a : Option Addr} {n c : Nat} {xs : List (List (Int × Int) × Int)} (h : Row RRw 2 K w a n c xs) (hK : ∀ k, K k → K' k) : Row RRw 2 K' w a n c xs :=
  Row.wide2 h (fun b o x h => by
    obtain ⟨⟨a, n, c, h1, h2⟩, h3⟩ := h
    exact ⟨⟨a, n, c, h1, tm_wide h2 hK⟩, h3⟩) hK
def TmsAt (K : Nat → Prop) (w : World) (us : List Value) (rows : List (List (Int × Int) × Int)) : Prop := us.length = rows.length ∧ ∀ (i : Nat) (u : Value) (x : List (Int × Int) × Int), us[i]? = some u → rows[i]? = some x → ∃ a n c, u = .slice a n c ∧ Row RTm 2 K w a n c x.1
theorem TmsAt.nil (K : Nat → Prop) (w : World) : TmsAt K w [] [] := ⟨rfl, fun i u x h => by simp at h⟩
theorem TmsAt.chg {K M : Nat → Prop} {w w' : World} {us : List Value} {rows : List (List (Int × Int) × Int)} (h : TmsAt K w us rows) (hc : Chg M w w') (hM : ∀ k, K k → ¬ M k) : TmsAt K w' us rows :=
  ⟨h.1, fun i u x h1 h2 => by
    obtain ⟨a, n, c, rfl, hr⟩ := h.2 i u x h1 h2
    exact ⟨a, n, c, rfl, hr.keeps RTm.stays (fun y hy hl => hc.block y hl (hM y hy)) hc.size⟩⟩
theorem TmsAt.snoc {K : Nat → Prop} {w : World} {us : List Value} {rows : List (List (Int × Int) × Int)} (h : TmsAt K w us rows) {a : Option Addr} {n c : Nat} {x : List (Int × Int) × Int} (hr : Row RTm 2 K w a n c x.1) : TmsAt K w (us ++ [.slice a n c]) (rows ++ [x]) := by
  refine ⟨by simp [h.1], fun i u y e1 e2 => ?_⟩
  by_cases e : i < rows.length
  · rw [List.getElem?_append_left (by rw [h.1]; exact e)] at e1
    rw [List.getElem?_append_left e] at e2
    exact h.2 i u y e1 e2
  · have hl := (List.getElem?_eq_some_iff.1 e2).1
    rw [List.length_append, List.length_singleton] at hl
    have hi : i = rows.length := by omega
    subst hi
    rw [List.getElem?_append_right (by rw [h.1]; exact Nat.le_refl _), h.1, Nat.sub_self] at e1
    rw [List.getElem?_append_right (Nat.le_refl _), Nat.sub_self] at e2
    cases e1; cases e2
    exact ⟨a, n, c, rfl, hr⟩
def fitLB (l : List Rat) : Bool := l.all fun x => decide (Fit x)
theorem fitLB_ok {l : List Rat} (h : fitLB l = true) : FitL l := fun x hx => of_decide_eq_true (List.all_eq_true.1 h x hx)
def pivFitB (rows : List (List Rat)) (i k : Nat) : Bool :=
  rows.all fitLB && decide (gR (rows.getD i []) (k + 1) ≠ 0) && decide (Fit (1 / gR (rows.getD i []) (k + 1))) && fitLB (pivRow (rows.getD i []) k) &&
  (List.range rows.length).all fun r => r == i || ((List.range (rows.getD r []).length).all (fun j => decide (Fit (gR (rows.getD r []) (k + 1) * gR (pivRow (rows.getD i []) k) j))) && fitLB (pivOther (pivRow (rows.getD i []) k) (rows.getD r []) k))
theorem getD_of {α : Type} {l : List α} {i : Nat} {x d : α} (h : l[i]? = some x) : l.getD i d = x := by rw [List.getD_eq_getElem?_getD, h]; rfl
theorem pivFitB_ok {rows : List (List Rat)} {i k : Nat} (h : pivFitB rows i k = true) : PivFit rows i k := by
  unfold pivFitB at h
  simp only [Bool.and_eq_true, decide_eq_true_eq] at h
  obtain ⟨⟨⟨⟨h1, h2⟩, h3⟩, h4⟩, h5⟩ := h
  have h6 : ∀ r o, rows[r]? = some o → r ≠ i → (∀ j, j < o.length → Fit (gR o (k + 1) * gR (pivRow (rows.getD i []) k) j)) ∧ FitL (pivOther (pivRow (rows.getD i []) k) o k) := fun r o hr hne => by
    have := List.all_eq_true.1 h5 r (List.mem_range.2 (List.getElem?_eq_some_iff.1 hr).1)
    rw [Bool.or_eq_true, beq_iff_eq, Bool.and_eq_true, getD_of hr] at this
    rcases this with e | ⟨a, b⟩
    · exact absurd e hne
    · exact ⟨fun j hj => of_decide_eq_true (List.all_eq_true.1 a j (List.mem_range.2 hj)), fitLB_ok b⟩
  exact ⟨fun r hr => fitLB_ok (List.all_eq_true.1 h1 r hr), h2, h3, fitLB_ok h4, fun r o hr hne => (h6 r o hr hne).1, fun r o hr hne => (h6 r o hr hne).2⟩
def levFitB (_ins : List Int) (rows : List (List Rat)) (k : Nat) : Bool := rows.all fitLB && (List.range rows.length).all fun i => decide (¬ ((gR (rows.getD i []) (k + 1)).num < 0)) || decide (Fit (gR (rows.getD i []) 0 / gR (rows.getD i []) (k + 1)))
theorem levFitB_ok {ins : List Int} {rows : List (List Rat)} {k : Nat} (h : levFitB ins rows k = true) : LevFit ins rows k := by
  unfold levFitB at h
  rw [Bool.and_eq_true] at h
  refine ⟨fun r hr => fitLB_ok (List.all_eq_true.1 h.1 r hr), fun i row _ hr hn => ?_⟩
  have := List.all_eq_true.1 h.2 i (List.mem_range.2 (List.getElem?_eq_some_iff.1 hr).1)
  rw [Bool.or_eq_true, getD_of hr] at this
  rcases this with a | a
  · exact absurd hn (of_decide_eq_true a)
  · exact of_decide_eq_true a
def gFitB (e : Dc) (g : List Rat) (t : Int × Int) : Bool :=
  decide (-1000000000 ≤ t.1 ∧ t.1 ≤ 1000000000) && decide (Fit (t.2 : Rat)) && fitLB g &&
  (decide (idxP e.outs (t.1 + 1) < 0) || decide (Fit (gR g ((idxP e.outs (t.1 + 1)).toNat + 1) + (t.2 : Rat)))) &&
  (decide (0 ≤ idxP e.outs (t.1 + 1)) || (decide (0 ≤ idxP e.ins (t.1 + 1)) && fitLB (e.rows.getD (idxP e.ins (t.1 + 1)).toNat []) && (List.range g.length).all fun j => decide (Fit ((t.2 : Rat) * gR (e.rows.getD (idxP e.ins (t.1 + 1)).toNat []) j)) && decide (Fit (gR g j + (t.2 : Rat) * gR (e.rows.getD (idxP e.ins (t.1 + 1)).toNat []) j))))
theorem gFitB_ok {e : Dc} {g : List Rat} {t : Int × Int} (h : gFitB e g t = true) : GFit e g t := by
  unfold gFitB at h
  simp only [Bool.and_eq_true, Bool.or_eq_true] at h
  obtain ⟨⟨⟨⟨h1, h2⟩, h3⟩, h4⟩, h5⟩ := h
  refine ⟨of_decide_eq_true h1, of_decide_eq_true h2, fitLB_ok h3, fun k hk => ?_, fun hk => ?_⟩
  · rw [hk] at h4
    rcases h4 with a | a
    · have := of_decide_eq_true a; omega
    · have := of_decide_eq_true a; rwa [Int.toNat_natCast] at this
  · rw [hk] at h5
    rcases h5 with a | ⟨⟨a, b⟩, c⟩
    · exact absurd (of_decide_eq_true a) (by decide)
    · have a := of_decide_eq_true a
      refine ⟨(idxP e.ins (t.1 + 1)).toNat, (Int.toNat_of_nonneg a).symm, fun row hr => ?_⟩
      rw [getD_of hr] at b c
      refine ⟨fitLB_ok b, fun j x y hy hx => ?_⟩
      have := List.all_eq_true.1 c j (List.mem_range.2 (List.getElem?_eq_some_iff.1 hx).1)
      rw [Bool.and_eq_true, gR_of hy, gR_of hx] at this
      exact ⟨of_decide_eq_true this.1, of_decide_eq_true this.2⟩
def aimFitB (e : Dc) (c0 : Int) (tm : List (Int × Int)) : Bool := (List.range tm.length).all fun i => gFitB e (goalAt e (goal0 e c0) tm i) (tm.getD i (0, 0))
theorem aimFitB_ok {e : Dc} {c0 : Int} {tm : List (Int × Int)} (h : aimFitB e c0 tm = true) : AimFit e c0 tm := fun i t hi => by
  have := List.all_eq_true.1 h i (List.mem_range.2 (List.getElem?_eq_some_iff.1 hi).1)
  rw [getD_of hi] at this
  exact gFitB_ok this
/-! ### The example -/
def twoR : List (List (Int × Int) × Int) := [([(0, 2), (1, 1)], 3), ([(0, 1), (1, 2)], 3)]
def twoG : List (Int × Int) := [(0, 1), (1, 1)]
def twoA : Dc := aimD (begD 2 twoR) 0 twoG
def twoB : Dc := pivD twoA 0 0
def twoC : Dc := pivD twoB 1 1
theorem two_small : SmallP 2 twoR twoG 0 := by
  have ok : ∀ (l : List (Int × Int)) (m : Int), l = [(0, 2), (1, 1)] ∨ l = [(0, 1), (1, 2)] ∨ l = [(0, 1), (1, 1)] → TermsOk l 2 9 l.length := by
    intro l m h i t hi ht
    rcases h with rfl | rfl | rfl <;>
    · match i, ht with
      | 0, ht => cases ht; exact ⟨by decide, by decide, fun p s e => by omega, by decide, by decide, by decide⟩
      | 1, ht => cases ht; exact ⟨by decide, by decide, fun p s e hs => by obtain rfl : p = 0 := by omega
                                                                           cases hs; decide, by decide, by decide, by decide⟩
      | i + 2, ht => simp at ht
  refine ⟨by decide, by decide, by decide, ok _ 0 (.inr (.inr rfl)), by decide, by decide, fun x hx => ?_⟩
  simp only [twoR, List.mem_cons, List.not_mem_nil, or_false] at hx
  rcases hx with rfl | rfl
  · exact ⟨ok _ 0 (.inl rfl), by decide, by decide⟩
  · exact ⟨ok _ 0 (.inr (.inl rfl)), by decide, by decide⟩
theorem two_climb : Climb 2 twoA true twoC :=
  .step 0 0 (by kernel_rfl) (by decide) (levFitB_ok (by kernel_rfl)) (by kernel_rfl) (by decide) (pivFitB_ok (by kernel_rfl))
    (.step 1 1 (by kernel_rfl) (by decide) (levFitB_ok (by kernel_rfl)) (by kernel_rfl) (by decide) (pivFitB_ok (by kernel_rfl)) (.stop (by kernel_rfl)))
theorem two_feas : Feas (begD 2 twoR) true (begD 2 twoR) := .yes _ _ (.good (by kernel_rfl)) (.out (by kernel_rfl))
theorem two_values : gR (lastR twoC.rows) 0 = 2 ∧ twoC.ins = [1, 2] ∧ twoC.outs = [3, 4] := by
  refine ⟨of_decide_eq_true (by kernel_rfl), by kernel_rfl, by kernel_rfl⟩
theorem dcFit_of {d : Dc} (h : (decide (d.rows.length = d.ins.length + 1) && d.rows.all (fun r => decide (r.length = d.outs.length + 1)) && decide (d.ins.length ≤ 8) && decide (d.outs.length ≤ 8)) = true) : DcFit d := by
  simp only [Bool.and_eq_true, decide_eq_true_eq] at h
  exact ⟨h.1.1.1, fun r hr => of_decide_eq_true (List.all_eq_true.1 h.1.1.2 r hr), h.1.2, h.2⟩
theorem two_solve : SolveP 2 twoR 0 twoG 0 (some twoC) :=
  .ok 2 rfl two_small (begD 2 twoR) twoC 2 two_feas (begD_ok (by decide) (by decide)) (by decide) (aimFitB_ok (by kernel_rfl)) two_climb (dcFit_of (by kernel_rfl)) (fun r hr => fitLB_ok (List.all_eq_true.1 (show twoC.rows.all fitLB = true by kernel_rfl) r hr)) (by rw [two_values.2.2]; decide)
theorem two_cols : colsAt twoC 2 2 = [1, 1] := by kernel_rfl
theorem two_rows : rowsAt twoC 2 2 2 = [Rat.divInt 1 3, Rat.divInt 1 3] := by kernel_rfl
theorem below_alloc2 {w w' : World} (h : Below w.heap.size w w') (o : Obj) : Below w.heap.size w (w'.alloc o) := h.alloc h.size o
def TwoRet (w : World) (e : Ending) (w' : World) : Prop := ∃ ra ga, e = .returned (MdV 2 (.slice ra 2 2) ga 2 2 0) ∧ Row RRw 2 (fun x => x < w'.heap.size) w' ra 2 2 twoR ∧ Row RTm 2 (fun x => x < w'.heap.size) w' ga 2 2 twoG ∧ Below w.heap.size w w'
theorem row_tm {w : World} {b : Nat} {x y z u : Int} (h : Blk w b 56 [.int .i64 x, .int .i64 y, .int .i64 z, .int .i64 u]) : Row RTm 2 (fun k => k < w.heap.size) w (some ⟨b, 0, none⟩) 2 2 [(x, y), (z, u)] :=
  ⟨rfl, Nat.le_refl _, by decide, by decide, fun i p hi => by
    match i, hi with
    | 0, hi => cases hi; exact ⟨b, 0, rfl, h.lt, h.lt, h.cell (i := 0) rfl, h.cell (i := 1) rfl⟩
    | 1, hi => cases hi; exact ⟨b, 0, rfl, h.lt, h.lt, h.cell (i := 2) rfl, h.cell (i := 3) rfl⟩
    | i + 2, hi => simp at hi⟩
set_option maxRecDepth 100000 in
set_option maxHeartbeats 4000000 in
theorem two_any (w : World) : Calls Try.prog 44 #[] w (TwoRet w) := by
  go_enter Try.func44, Try.ntmps44
  go_wp2
  obtain ⟨s, hs⟩ : ∃ s, s = w.heap.size := ⟨_, rfl⟩
  obtain ⟨wz, hwz⟩ : ∃ wz, wz = ((((w.alloc (.cells #[.int .i64 2, .slice (some ⟨w.heap.size + 1 + 1 + 1 + 1, 0, none⟩) 2 2, .slice (some ⟨w.heap.size + 1, 0, none⟩) 2 2, .int .i64 0] 28)).alloc (.cells #[.int .i64 0, .int .i64 1, .int .i64 1, .int .i64 1] 56)).alloc (.cells #[.int .i64 0, .int .i64 2, .int .i64 1, .int .i64 1] 56)).alloc (.cells #[.int .i64 0, .int .i64 1, .int .i64 1, .int .i64 2] 56)).alloc (.cells #[.slice (some ⟨w.heap.size + 1 + 1, 0, none⟩) 2 2, .int .i64 3, .slice (some ⟨w.heap.size + 1 + 1 + 1, 0, none⟩) 2 2, .int .i64 3] 50) := ⟨_, rfl⟩
  rw [← hwz]
  have b0 : Blk wz w.heap.size 28 [.int .i64 2, .slice (some ⟨w.heap.size + 1 + 1 + 1 + 1, 0, none⟩) 2 2, .slice (some ⟨w.heap.size + 1, 0, none⟩) 2 2, .int .i64 0] := by rw [hwz]; exact ((((Blk.new w _ _).old _).old _).old _).old _
  have b1 : Blk wz (w.heap.size + 1) 56 [.int .i64 0, .int .i64 1, .int .i64 1, .int .i64 1] := by rw [hwz]; exact (((((Blk.new (w.alloc _) [.int .i64 0, .int .i64 1, .int .i64 1, .int .i64 1] _).old _).old _).old _)).at' (by simp)
  have b2 : Blk wz (w.heap.size + 1 + 1) 56 [.int .i64 0, .int .i64 2, .int .i64 1, .int .i64 1] := by rw [hwz]; exact (((Blk.new ((w.alloc _).alloc _) [.int .i64 0, .int .i64 2, .int .i64 1, .int .i64 1] _).old _).old _).at' (by simp)
  have b3 : Blk wz (w.heap.size + 1 + 1 + 1) 56 [.int .i64 0, .int .i64 1, .int .i64 1, .int .i64 2] := by rw [hwz]; exact ((Blk.new (((w.alloc _).alloc _).alloc _) [.int .i64 0, .int .i64 1, .int .i64 1, .int .i64 2] _).old _).at' (by simp)
  have b4 : Blk wz (w.heap.size + 1 + 1 + 1 + 1) 50 [.slice (some ⟨w.heap.size + 1 + 1, 0, none⟩) 2 2, .int .i64 3, .slice (some ⟨w.heap.size + 1 + 1 + 1, 0, none⟩) 2 2, .int .i64 3] := by rw [hwz]; exact (Blk.new ((((w.alloc _).alloc _).alloc _).alloc _) [.slice (some ⟨w.heap.size + 1 + 1, 0, none⟩) 2 2, .int .i64 3, .slice (some ⟨w.heap.size + 1 + 1 + 1, 0, none⟩) 2 2, .int .i64 3] _).at' (by simp)
  have hb : Below w.heap.size w wz := by rw [hwz]; exact below_alloc2 (below_alloc2 (below_alloc2 (below_alloc2 (below_alloc2 (Below.refl _ _) _) _) _) _) _
  have e0 := b0.cell (i := 0) rfl; have e1 := b0.cell (i := 1) rfl; have e2 := b0.cell (i := 2) rfl; have e3 := b0.cell (i := 3) rfl
  clear hwz
  refine bodyPost_ret (v := MdV 2 (.slice (some ⟨w.heap.size + 1 + 1 + 1 + 1, 0, none⟩) 2 2) (some ⟨w.heap.size + 1, 0, none⟩) 2 2 0) (by simp [results, Try.results44, go_sem, e0, e1, e2, e3]) rfl ⟨_, _, rfl, ?_, row_tm b1, hb⟩
  refine ⟨rfl, Nat.le_refl _, by decide, by decide, fun i p hi => ?_⟩
  match i, hi with
  | 0, hi => cases hi; exact ⟨_, 0, rfl, b4.lt, b4.lt, ⟨_, 2, 2, b4.cell (i := 0) rfl, row_tm b2⟩, b4.cell (i := 1) rfl⟩
  | 1, hi => cases hi; exact ⟨_, 0, rfl, b4.lt, b4.lt, ⟨_, 2, 2, b4.cell (i := 2) rfl, row_tm b3⟩, b4.cell (i := 3) rfl⟩
  | i + 2, hi => simp [twoR] at hi
def AwRet (w : World) (e : Ending) (w' : World) : Prop := e = .returned (.bool true) ∧ Below w.heap.size w w'
set_option maxRecDepth 100000 in
set_option maxHeartbeats 4000000 in
theorem awake_any (w : World) : Calls Try.prog 13 #[] w (AwRet w) := by
  go_enter Try.func13, Try.ntmps13
  go_wp2_with fail
  refine (two_any _).mono ?_
  rintro e w1 ⟨ra, ga, rfl, hR, hG, hb⟩
  have B1 := Lib.hid hb
  have SV := Lib.hid (solve_any (fun x => x < w1.heap.size) 2 twoR twoG 0 0 (some twoC) two_solve ra 2 2 ga 2 2 w1 hR hG (fun x h => h))
  clear hR hG hb
  go_wp2_with fail
  refine SV.out.mono ?_
  rintro e w2 ⟨hb, v, rfl, _, hv⟩
  have hO := hv _ rfl
  have q1 : colsAt twoC (2 : Int).toNat twoC.ins.length = [1, 1] := by rw [two_values.2.1]; exact two_cols
  have q2 : rowsAt twoC (2 : Int).toNat twoR.length twoC.outs.length = [Rat.divInt 1 3, Rat.divInt 1 3] := by rw [two_values.2.2]; exact two_rows
  rw [q1, q2, two_values.1] at hO
  obtain ⟨g5, g9, hvv, f5, f9, l5, l9⟩ := hO
  have hvv : v = .agg #[.int .i64 2, .int .i64 1, .slice (some ⟨g5, 0, none⟩) 2 2, .slice (some ⟨g9, 0, none⟩) 2 2] := hvv
  subst hvv
  have B2 := Lib.hid (B1.out.trans (hb.mono B1.out.size))
  have c50 : w2.cell? ⟨g5, 0, none⟩ = some (.int .i64 1) := f5.cell (i := 0) rfl
  have c51 : w2.cell? ⟨g5, 1, none⟩ = some (.int .i64 1) := f5.cell (i := 1) rfl
  have c92 : w2.cell? ⟨g9, 2, none⟩ = some (.int .i64 1) := f9.cell (i := 2) rfl
  have c93 : w2.cell? ⟨g9, 3, none⟩ = some (.int .i64 3) := f9.cell (i := 3) rfl
  obtain ⟨w3, hw3⟩ : ∃ w3, w3 = w2.alloc (.cells #[.int .i64 2, .int .i64 1, .slice (some ⟨g5, 0, none⟩) 2 2, .slice (some ⟨g9, 0, none⟩) 2 2] 34) := ⟨_, rfl⟩
  have b3 : Below w2.heap.size w2 w3 := by rw [hw3]; exact (Below.refl _ _).alloc (Nat.le_refl _) _
  have O3 := Lib.hid (show Blk w3 w2.heap.size 34 [.int .i64 2, .int .i64 1, .slice (some ⟨g5, 0, none⟩) 2 2, .slice (some ⟨g9, 0, none⟩) 2 2] by rw [hw3]; exact Blk.new w2 _ _)
  have c50 := cell_later b3 c50; have c51 := cell_later b3 c51; have c92 := cell_later b3 c92; have c93 := cell_later b3 c93
  have BF := Lib.hid (B2.out.trans (b3.mono B2.out.size))
  have HW3 := Lib.hid hw3
  clear f5 f9 hv hb l5 l9 hw3 b3 q1 q2
  go_upto_region 2 with fail
  rw [← HW3.out]
  have o0 := O3.out.cell (i := 0) rfl; have o1 := O3.out.cell (i := 1) rfl; have o2 := O3.out.cell (i := 2) rfl; have o3 := O3.out.cell (i := 3) rfl
  go_wp2
  go_ret
  exact ⟨rfl, BF.out⟩
theorem Sml.snoc {l : List (Int × Int)} (h : Sml l) {p q : Int} (h0 : -10 ≤ p) (h1 : p ≤ 10) (h2 : 1 ≤ q) (h3 : q ≤ 9) : Sml (l ++ [(p, q)]) := fun t ht => by
  rcases List.mem_append.1 ht with h' | h'
  · exact h t h'
  · simp at h'; subst h'; exact ⟨h0, h1, h2, h3⟩
theorem Sml.nil : Sml [] := fun t h => by cases h
structure FrJ (D : Nat) (w4 wr : World) (v : Value) (l : List (Int × Int)) : Prop where
  own : wr.ownsRow w4.heap.size 31 2 v l.length (tcs l)
  sml : Sml l
  deck : Deck wr D
  chg : Chg (fun x => x = D) w4 wr
theorem FrJ.but {D : Nat} {w4 wr wx : World} {v : Value} {l : List (Int × Int)} (h : FrJ D w4 wr v l) (hD : D < w4.heap.size) (hb : But D wr wx) (hd : Deck wx D) : FrJ D w4 wx v l :=
  ⟨flat_of h.own hb.chg (fun x h1 _ e => by omega), h.sml, hd, h.chg.trans hb.chg (fun _ _ e => e)⟩
theorem FrJ.call {D : Nat} {w4 wr wx : World} {v : Value} {l : List (Int × Int)} (h : FrJ D w4 wr v l) (hb : Below wr.heap.size wr wx) : FrJ D w4 wx v l :=
  ⟨flat_below h.own hb, h.sml, h.deck.below hb (Nat.le_refl _), h.chg.tr hb⟩
theorem FrJ.set {D : Nat} {w4 wr : World} {v : Value} {l : List (Int × Int)} (h : FrJ D w4 wr v l) {X k : Nat} (hX : w4.heap.size ≤ X) (hv : ¬ v.ownBlock = some X) (hD : D < w4.heap.size) (u : Value) : FrJ D w4 (wr.setCell ⟨X, k, none⟩ u) v l := by
  have c : Chg (fun x => x = X) wr (wr.setCell ⟨X, k, none⟩ u) := Chg.setCell (M := fun x => x = X) (p := ⟨X, k, none⟩) (Chg.refl wr) (fun _ => rfl) u
  exact ⟨ownsRow_of h.own (fun x hx => c.block x (h.own.lt x hx).2 (fun e => hv (e ▸ hx))), h.sml, h.deck.other (p := ⟨X, k, none⟩) (by show D < X; omega) u, h.chg.trans c (fun x hx e => by omega)⟩
theorem FrJ.push {D : Nat} {w4 wr wx : World} {v v' : Value} {l : List (Int × Int)} {n : Nat} (hn : n = l.length) (h : FrJ D w4 wr v l) (hD : D < w4.heap.size) {p q : Int} (h0 : -10 ≤ p) (h1 : p ≤ 10) (h2 : 1 ≤ q) (h3 : q ≤ 9) (hap : FApp 31 2 w4.heap.size v n 1 (tcs l) (tcs [(p, q)]) wr wx v') : FrJ D w4 wx v' (l ++ [(p, q)]) := by
  subst hn
  have ho := hap.owns
  rw [← tcs_append] at ho
  refine ⟨by rw [List.length_append]; exact ho, h.sml.snoc h0 h1 h2 h3, h.deck.chg hap.chg (fun j _ hj e => ?_), h.chg.trans hap.chg (fun x hx e => ?_)⟩
  · have := (h.own.lt j e).1; omega
  · have := (h.own.lt x e).1; omega
theorem FrJ.apart {D : Nat} {w4 wr : World} {v : Value} {l : List (Int × Int)} (h : FrJ D w4 wr v l) {X : Nat} (hX : wr.heap.size ≤ X) : ¬ v.ownBlock = some X := fun e => by have := (h.own.lt X e).2; omega
structure MdlAt (D P : Nat) (n : Nat) (ra : Option Addr) (rn rc : Nat) (ga : Option Addr) (gn gc : Nat) (c0 : Int) (rows : List MRow) (goal : List (Int × Int)) (w : World) : Prop where
  blk : Blk w P 28 (MdC n (.slice ra rn rc) ga gn gc c0)
  rows : Row RRw 2 (fun k => D < k) w ra rn rc rows
  goal : Row RTm 2 (fun k => D < k) w ga gn gc goal
theorem MdlAt.chg {D P n : Nat} {ra : Option Addr} {rn rc : Nat} {ga : Option Addr} {gn gc : Nat} {c0 : Int} {rows : List MRow} {goal : List (Int × Int)} {w w' : World} (h : MdlAt D P n ra rn rc ga gn gc c0 rows goal w) (hP : D < P) (hc : Chg (fun x => x = D) w w') : MdlAt D P n ra rn rc ga gn gc c0 rows goal w' :=
  ⟨h.blk.chg hc (fun e => by omega), h.rows.chg RRw.stays hc (fun k hk e => by omega), h.goal.chg RTm.stays hc (fun k hk e => by omega)⟩
end Go.Proofs.Ytdegpgonphgbcaa
