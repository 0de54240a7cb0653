/-
  The document's Sub.
  The document's functions on fractions, as functions on rational numbers. (printed by mkSxB.py)
  Sums of small fractions (plain): all have denominators that divide 2520.
-/
import Derived.Test.YtdegpgonphgbcaaFyDd
import Derived.Test.YtdegpgonphgbcaaZFxQ
import Derived.Test.YtdegpgonphgbcaaZFyDe
import Derived.Test.YtdegpgonphgbcaaZFxX
import Derived.Test.YtdegpgonphgbcaaZPrA
import Derived.Test.YtdegpgonphgbcaaZSxP
namespace Go.Proofs.Ytdegpgonphgbcaa
open Go.RowKit

set_option maxRecDepth 100000 in
set_option maxHeartbeats 2000000 in
theorem rsub_any (xn yn : Int) (xd yd : Nat) (hx : -1152921504606846976 ≤ xn) (hx1 : xn ≤ 1152921504606846976) (hy : -1152921504606846976 ≤ yn) (hy1 : yn ≤ 1152921504606846976) (kx : 1 ≤ xd) (kx1 : xd ≤ 1152921504606846976) (ky : 1 ≤ yd) (ky1 : yd ≤ 1152921504606846976) (w : World) :
    Calls Try.prog 40 #[.agg #[.int .i64 xn, .int .i64 (xd : Int)], .agg #[.int .i64 yn, .int .i64 (yd : Int)]] w (Red (xn * (yd : Int) - yn * (xd : Int)) ((xd : Int) * (yd : Int)) w) := by
  have AD := Lib.hid (show ∀ w, Calls Try.prog 16 #[.agg #[.int .i64 xn, .int .i64 (xd : Int)], .agg #[.int .i64 (-yn), .int .i64 (yd : Int)]] w (Red (xn * (yd : Int) - yn * (xd : Int)) ((xd : Int) * (yd : Int)) w) from fun w => by
    have := radd_any xn (-yn) xd yd hx hx1 (by omega) (by omega) kx kx1 ky ky1 w
    rwa [Int.neg_mul, ← Int.sub_eq_add_neg] at this)
  have NG := Lib.hid (fun w => rneg_any yn (yd : Int) (by omega) (by omega) w)
  have F0 := Lib.hid (Fr.new (Fr.new (Fr.new (Fr.refl w) rfl [.int .i64 xn, .int .i64 (xd : Int)] 31) (by simp) [.int .i64 yn, .int .i64 (yd : Int)] 31) (by simp) [.int .i64 0, .int .i64 0] 31)
  go_enter Try.func40, Try.ntmps40
  go_upto_region 1 with fail
  obtain ⟨w0, hw0⟩ : ∃ w0, w0 = ((w.alloc (.cells #[.int .i64 xn, .int .i64 (xd : Int)] 31)).alloc (.cells #[.int .i64 yn, .int .i64 (yd : Int)] 31)).alloc (.cells #[.int .i64 0, .int .i64 0] 31) := ⟨_, rfl⟩
  have F1 := Lib.hid (show Fr w w0 [[.int .i64 xn, .int .i64 (xd : Int)], [.int .i64 yn, .int .i64 (yd : Int)], [.int .i64 0, .int .i64 0]] from by rw [hw0]; exact F0.out)
  rw [← hw0]
  clear hw0 F0
  have FF := Lib.hid F1.out.drew
  have g0 := FF.out.h0.cell 0 _ rfl; have g1 := FF.out.h0.cell 1 _ rfl; have g2 := FF.out.h1.cell 0 _ rfl; have g3 := FF.out.h1.cell 1 _ rfl
  go_region_held3 (fun w' => w'.cell? ⟨w.heap.size, 0, none⟩ = some (.int .i64 xn) ∧ w'.cell? ⟨w.heap.size, 1, none⟩ = some (.int .i64 (xd : Int)) ∧ w'.cell? ⟨w.heap.size + 1, 0, none⟩ = some (.int .i64 yn) ∧ w'.cell? ⟨w.heap.size + 1, 1, none⟩ = some (.int .i64 (yd : Int))) (((try dsimp only); (try go_split_ands); (repeat' apply And.intro); all_goals (repeat (first | (with_reducible assumption) | (refine cell_later hb8 ?_) | (refine cell_later hb7 ?_) | (with_reducible refine cell_set (by omega) ?_)))))
    (first
      | (go_at_call 71; (with_reducible refine (NG.out _).mono ?_); rintro e w7 ⟨rfl, hb7⟩; have F7 := Lib.hid (Fr.call hb7 FF.out))
      | (go_at_call 16; (with_reducible refine (AD.out _).mono ?_); rintro e w8 ⟨rfl, hb8⟩; have F8 := Lib.hid (Fr.call hb8 F7.out); have r0 := F8.out.h2.cell 0 _ rfl; have r1 := F8.out.h2.cell 1 _ rfl; have rf := F8.out.h2.free; have lr := F8.out.h2.lt (by simp)))
  all_goals
    go_wp2
    exact bodyPost_ret (v := .tuple #[.agg #[.int .i64 (fA (xn * (yd : Int) - yn * (xd : Int)) ((xd : Int) * (yd : Int))), .int .i64 (fB (xn * (yd : Int) - yn * (xd : Int)) ((xd : Int) * (yd : Int)))], .int .i64 (fE (xn * (yd : Int) - yn * (xd : Int)) ((xd : Int) * (yd : Int)))]) (by simp [results, Try.results40, go_sem, r0, r1]) rfl ⟨rfl, F8.out.below.trans (by go_grown)⟩
end Go.Proofs.Ytdegpgonphgbcaa
namespace Go.Proofs.Ytdegpgonphgbcaa
open Go.RowKit

theorem radd (x y : Rat) (hx : Fit x) (hy : Fit y) (hz : Fit (x + y)) (w : World) : Calls Try.prog 16 #[FrV x, FrV y] w (FrTup (x + y) w) := by
  obtain ⟨h1, h2, h3⟩ := fit_named (pden x y) (add_rat x y) hz
  have h := radd_any x.num y.num x.den y.den hx.1 hx.2.1 hy.1 hy.2.1 x.den_pos hx.2.2 y.den_pos hy.2.2 w
  unfold Red at h
  rw [h1, h2, h3] at h
  exact h
theorem rsub (x y : Rat) (hx : Fit x) (hy : Fit y) (hz : Fit (x - y)) (w : World) : Calls Try.prog 40 #[FrV x, FrV y] w (FrTup (x - y) w) := by
  obtain ⟨h1, h2, h3⟩ := fit_named (pden x y) (sub_rat x y) hz
  have h := rsub_any x.num y.num x.den y.den hx.1 hx.2.1 hy.1 hy.2.1 x.den_pos hx.2.2 y.den_pos hy.2.2 w
  unfold Red at h
  rw [h1, h2, h3] at h
  exact h
theorem rmul (x y : Rat) (hx : Fit x) (hy : Fit y) (hz : Fit (x * y)) (w : World) : Calls Try.prog 23 #[FrV x, FrV y] w (FrTup (x * y) w) := by
  obtain ⟨h1, h2, h3⟩ := fit_named (pden x y) (mul_rat x y) hz
  have h := rmul_any x.num y.num x.den y.den hx.1 hx.2.1 hy.1 hy.2.1 x.den_pos hx.2.2 y.den_pos hy.2.2 w
  unfold Red at h
  rw [h1, h2, h3] at h
  exact h
theorem rdiv (x y : Rat) (hn : y ≠ 0) (hx : Fit x) (hy : Fit y) (hz : Fit (x / y)) (w : World) : Calls Try.prog 72 #[FrV x, FrV y] w (FrTup (x / y) w) := by
  obtain ⟨h1, h2, h3⟩ := fit_named (Int.mul_ne_zero (den_ne x) (num_ne hn)) (div_rat (x := x) (y := y)) hz
  have h := rdiv_any x.num y.num x.den y.den hx.1 hx.2.1 hy.1 hy.2.1 x.den_pos hx.2.2 y.den_pos hy.2.2 (num_ne hn) w
  unfold Red at h
  rw [h1, h2, h3] at h
  exact h
theorem rcmp (x y : Rat) (hx : Fit x) (hy : Fit y) (w : World) : Calls Try.prog 21 #[FrV x, FrV y] w fun e w' => e = .returned (.int .i64 (cmpR x y)) ∧ Below w.heap.size w w' := by
  have h := rcmp_any x.num y.num x.den y.den hx.1 hx.2.1 hy.1 hy.2.1 x.den_pos hx.2.2 y.den_pos hy.2.2 w
  rw [cmp_rat] at h
  exact h
end Go.Proofs.Ytdegpgonphgbcaa
namespace Go.Proofs.Ytdegpgonphgbcaa
open Go.RowKit

/-- 2520 times the number is whole, and from -B to B. -/
def Sm (B : Int) (x : Rat) : Prop := ∃ z : Int, 2520 * x = (z : Rat) ∧ -B ≤ z ∧ z ≤ B
theorem Sm.fit {B : Int} {x : Rat} (h : Sm B x) (hB : B ≤ 1152921504606846976) : Fit x := by
  obtain ⟨z, hz, h0, h1⟩ := h
  have e : Rat.divInt z 2520 = x := by rw [Rat.divInt_eq_div, ← hz]; show 2520 * x / 2520 = x; grind
  obtain ⟨e1, e2⟩ := fND_rat (a := z) (b := 2520) (by decide)
  rw [e] at e1 e2
  have l1 := fN_le (a := z) (b := 2520) (by decide)
  have l2 := fD_le (a := z) (b := 2520) (by decide)
  rw [e1] at l1
  rw [e2] at l2
  have : ((2520 : Int).natAbs : Int) = 2520 := rfl
  exact ⟨by omega, by omega, by omega⟩
theorem Sm.up {B C : Int} {x : Rat} (h : Sm B x) (hB : B ≤ C) : Sm C x := by obtain ⟨z, hz, h0, h1⟩ := h; exact ⟨z, hz, by omega, by omega⟩
theorem Sm.add {B C : Int} {x y : Rat} (h : Sm B x) (k : Sm C y) : Sm (B + C) (x + y) := by
  obtain ⟨z, hz, h0, h1⟩ := h
  obtain ⟨u, hu, k0, k1⟩ := k
  exact ⟨z + u, by rw [Rat.intCast_add, ← hz, ← hu]; grind, by omega, by omega⟩
theorem Sm.mul {B C : Int} {x : Rat} {c : Int} (h : Sm B x) (h0 : -C ≤ c) (h1 : c ≤ C) : Sm (C * B) ((c : Rat) * x) := by
  obtain ⟨z, hz, k0, k1⟩ := h
  have : (c * z).natAbs ≤ C.natAbs * B.natAbs := by rw [Int.natAbs_mul]; exact Nat.mul_le_mul (by omega) (by omega)
  have e : ((C.natAbs * B.natAbs : Nat) : Int) = C * B := by rw [Int.natCast_mul]; congr 1 <;> omega
  exact ⟨c * z, by rw [Rat.intCast_mul, ← hz]; grind, by omega, by omega⟩
theorem Sm.int {c C : Int} (h0 : -C ≤ c) (h1 : c ≤ C) : Sm (2520 * C) (c : Rat) := ⟨2520 * c, by rw [Rat.intCast_mul]; rfl, by omega, by omega⟩
def toR (t : Int × Int) : Rat := Rat.divInt t.1 t.2
def Sml (l : List (Int × Int)) : Prop := ∀ t ∈ l, -10 ≤ t.1 ∧ t.1 ≤ 10 ∧ 1 ≤ t.2 ∧ t.2 ≤ 9
theorem Sml.in63 {l : List (Int × Int)} (h : Sml l) : ∀ t ∈ l, In63 t := fun t ht => by obtain ⟨a, b, c, d⟩ := h t ht; exact ⟨by omega, by omega⟩
theorem toR_val {t : Int × Int} (h : ValB t = true) : (toR t).num = t.1 ∧ ((toR t).den : Int) = t.2 := by
  have h := of_decide_eq_true h
  obtain ⟨a, b, c, d, e⟩ := h
  obtain ⟨e1, e2⟩ := fND_rat (a := t.1) (b := t.2) (by omega)
  obtain ⟨f1, f2⟩ := fND_eq (a := t.1) (b := t.2) (n := t.1) (d := t.2) (by omega) (by omega) e rfl
  unfold toR
  rw [← e1, ← e2, f1, f2]
  exact ⟨rfl, rfl⟩
theorem toR_sm {t : Int × Int} (h0 : -10 ≤ t.1) (h1 : t.1 ≤ 10) (h2 : 1 ≤ t.2) (h3 : t.2 ≤ 9) : Sm 25200 (toR t) := by
  obtain ⟨a, b⟩ := t
  dsimp only at *
  unfold toR
  dsimp only
  rw [Rat.divInt_eq_div]
  have hb : b = 1 ∨ b = 2 ∨ b = 3 ∨ b = 4 ∨ b = 5 ∨ b = 6 ∨ b = 7 ∨ b = 8 ∨ b = 9 := by omega
  rcases hb with rfl | rfl | rfl | rfl | rfl | rfl | rfl | rfl | rfl
  · exact ⟨a * 2520, by rw [Rat.intCast_mul]; grind, by omega, by omega⟩
  · exact ⟨a * 1260, by rw [Rat.intCast_mul]; grind, by omega, by omega⟩
  · exact ⟨a * 840, by rw [Rat.intCast_mul]; grind, by omega, by omega⟩
  · exact ⟨a * 630, by rw [Rat.intCast_mul]; grind, by omega, by omega⟩
  · exact ⟨a * 504, by rw [Rat.intCast_mul]; grind, by omega, by omega⟩
  · exact ⟨a * 420, by rw [Rat.intCast_mul]; grind, by omega, by omega⟩
  · exact ⟨a * 360, by rw [Rat.intCast_mul]; grind, by omega, by omega⟩
  · exact ⟨a * 315, by rw [Rat.intCast_mul]; grind, by omega, by omega⟩
  · exact ⟨a * 280, by rw [Rat.intCast_mul]; grind, by omega, by omega⟩
/-- A list of good small fractions. -/
structure Frs (l : List (Int × Int)) : Prop where
  sml : Sml l
  good : GoodP l
theorem gR_map {l : List (Int × Int)} {i : Nat} {t : Int × Int} (h : l[i]? = some t) : gR (l.map toR) i = toR t := gR_of (by rw [List.getElem?_map, h]; rfl)
theorem Frs.sm {l : List (Int × Int)} (h : Frs l) (i : Nat) : Sm 25200 (gR (l.map toR) i) := by
  by_cases hi : i < l.length
  · have ht : l[i]? = some l[i] := List.getElem?_eq_getElem hi
    rw [gR_map ht]
    obtain ⟨a, b, c, d⟩ := h.sml _ (List.mem_of_getElem? ht)
    exact toR_sm a b c d
  · have : gR (l.map toR) i = 0 := by unfold gR; rw [List.getD_eq_getElem?_getD, List.getElem?_eq_none (by simp; omega)]; rfl
    rw [this]
    exact ⟨0, by simp, by omega, by omega⟩
theorem Frs.get {l : List (Int × Int)} (h : Frs l) {K : Nat → Prop} {w : World} {a : Option Addr} {n c i : Nat} (R : Row RTm 2 K w a n c l) (hi : i < n) : ∃ b o x, a = some ⟨b, o, none⟩ ∧ x = gR (l.map toR) i ∧ w.cell? ⟨b, o + i * 2, none⟩ = some (.int .i64 x.num) ∧ w.cell? ⟨b, o + i * 2 + 1, none⟩ = some (.int .i64 (x.den : Int)) ∧ b < w.heap.size := by
  obtain ⟨b, o, t, rfl, ht, c0, c1, kb, lb⟩ := RTm.get R hi
  obtain ⟨e1, e2⟩ := toR_val (h.good t (List.mem_of_getElem? ht)).2
  refine ⟨b, o, toR t, rfl, (gR_map ht).symm, ?_, ?_, lb⟩
  · rw [e1]; exact c0
  · rw [e2]; exact c1
/-- The sum of the first terms times fractions. -/
def dotAt (tm : List (Int × Int)) (xs : List Rat) (k : Nat) : Rat := (tm.take k).foldl (fun s t => s + (t.2 : Rat) * gR xs t.1.toNat) 0
theorem dotAt_succ {tm : List (Int × Int)} {xs : List Rat} {k : Nat} {t : Int × Int} (h : tm[k]? = some t) : dotAt tm xs (k + 1) = dotAt tm xs k + (t.2 : Rat) * gR xs t.1.toNat := by
  unfold dotAt; rw [List.take_add_one, h, List.foldl_append]; rfl
theorem dotAt_sm {tm l : List (Int × Int)} (h : Frs l) (ht : ∀ t ∈ tm, -9 ≤ t.2 ∧ t.2 ≤ 9) : ∀ k : Nat, k ≤ tm.length → Sm (226800 * k) (dotAt tm (l.map toR) k)
  | 0, _ => ⟨0, by unfold dotAt; simp, by omega, by omega⟩
  | k + 1, hk => by
    obtain ⟨t, htt⟩ : ∃ t, tm[k]? = some t := ⟨_, List.getElem?_eq_getElem (by omega)⟩
    rw [dotAt_succ htt]
    have := ht t (List.mem_of_getElem? htt)
    exact ((dotAt_sm h ht k (by omega)).add ((h.sm t.1.toNat).mul (C := 9) this.1 this.2)).up (by omega)
/-- The coefficient of a column. -/
def coefF : List (Int × Int) → Int → Int
  | [], _ => 0
  | t :: l, c => if t.1 = c then t.2 else coefF l c
theorem coefF_le {l : List (Int × Int)} {m : Int} (hm : 0 ≤ m) (h : ∀ t ∈ l, -m ≤ t.2 ∧ t.2 ≤ m) (c : Int) : -m ≤ coefF l c ∧ coefF l c ≤ m := by
  induction l with
  | nil => exact ⟨by show -m ≤ 0; omega, hm⟩
  | cons t l ih =>
    unfold coefF
    split
    · exact h t (List.mem_cons_self ..)
    · exact ih (fun s hs => h s (List.mem_cons_of_mem _ hs))
theorem coefF_drop {l : List (Int × Int)} {k : Nat} {t : Int × Int} (h : l[k]? = some t) (c : Int) : coefF (l.drop k) c = if t.1 = c then t.2 else coefF (l.drop (k + 1)) c := by
  have hk := (List.getElem?_eq_some_iff.1 h)
  obtain ⟨hk, rfl⟩ := hk
  rw [List.drop_eq_getElem_cons hk]; rfl
end Go.Proofs.Ytdegpgonphgbcaa
