/-
  cache.Touch: an access, in contents that are not changed.
-/
import Derived.Test.YtdkpfifnegndmaaCacheE
import Derived.Deep.RegionHeld3
namespace Go.Proofs.Ytdkpfifnegndmaa
open Go.RowKit

def TouchRet (ss : List (List Int)) (hit : Bool) (err : Int) (w : World) (e : Ending) (w' : World) : Prop :=
  ∃ a n cap, e = .returned (.tuple #[.agg #[.slice a n cap], .bool hit, .int .i64 err]) ∧ OMat w' (Ge w.heap.size) (.slice a n cap) ss ∧ Below w.heap.size w w'

theorem ValidP.wide {S W : Nat} {ss : List (List Int)} (h : ValidP S W ss) : Wide S W ss :=
  ⟨by have := h.1; omega, fun x hx => by
    obtain ⟨i, hi⟩ := List.getElem?_of_mem hx
    have := (h.2 i x hi).1; omega⟩

set_option maxHeartbeats 2000000 in
theorem touch_bad (S W L : Nat) (hc : COk S W L) (K : Nat → Prop) (a : Option Addr) (len cap : Nat) (ss : List (List Int)) (w : World) (r : Mat K w a len cap ss) (hn : len ≤ 1000000) (hv : ¬ ValidP S W ss) (n : Int) :
    Calls Try.prog 16 #[CV S W L, .agg #[.slice a len cap], .int .i64 n] w (TouchRet ss false 10 w) := by
  have HR := Lib.hid r; clear r
  have hC := Lib.hid hc
  have HV := Lib.hid hv; clear hv
  clear hc
  have f0 := Fm.new (Fm.new (Fm.new (Fm.start Non w) rfl [.int .i64 S, .int .i64 W, .int .i64 L] 29) (by simp) [.slice a len cap] 33) (by simp) [.slice none 0 0] 33
  have F0 := Lib.hid f0; clear f0
  go_enter Try.func16, Try.ntmps16
  go_wp2_with fail
  refine (copied_new K a len cap ss _ (HR.out.below F0.out.below) hn).mono ?_
  rintro e w1 ⟨oa, on, oc, rfl, ho1, hb1⟩
  have O1 := Lib.hid (ho1.ge (B' := w.heap.size + 3) (by simp)).bt
  have f1 := (Fm.call hb1 F0.out).more (.cells #[.slice oa on oc] 33)
  have hs1 := (Fm.call hb1 F0.out).size
  simp only [List.length_append, List.length_cons, List.length_nil, Nat.zero_add] at hs1
  have x1 := Has.new w1 [.slice oa on oc] 33
  have o1 := OMat.loc.chg (M := Non) O1.out ((Chg.refl w1).alloc (.cells #[.slice oa on oc] 33)) (fun _ _ _ h => h)
  have F1 := Lib.hid f1; have O2 := Lib.hid o1; have X1 := Lib.hid x1; clear ho1 f1 hb1 o1 x1
  have t0 := F1.out.h0; have t1 := F1.out.h1; have t2 := F1.out.h2
  have c0 := t0.cell 0 _ rfl; have c1 := t0.cell 1 _ rfl; have c2 := t0.cell 2 _ rfl; have d0 := t1.cell 0 _ rfl; have lt0 := t0.lt (by simp); have lt1 := t1.lt (by simp); have lt2 := t2.lt (by simp)
  go_wp2_with fail
  refine ((checked_any S W L hC.out K a len cap ss _ (HR.out.below F1.out.below)).2 HV.out).mono ?_
  rintro e w2 ⟨rfl, hb2⟩
  have F2 := Lib.hid (Fm.call hb2 F1.out)
  have O3 := Lib.hid (OMat.loc.below O2.out hb2)
  have X2 := Lib.hid (X1.out.below hb2 (by simp))
  clear t0 t1 t2 c0 c1 c2 d0 lt0 lt1 lt2 hb2
  have t0 := F2.out.h0; have t1 := F2.out.h1; have t2 := F2.out.h2; have x2 := X2.out
  have c0 := t0.cell 0 _ rfl; have c1 := t0.cell 1 _ rfl; have c2 := t0.cell 2 _ rfl; have d0 := t1.cell 0 _ rfl; have lt0 := t0.lt (by simp); have lt1 := t1.lt (by simp); have lt2 := t2.lt (by simp)
  have e0 := t2.cell 0 _ rfl; have ef := t2.free; have y0 := x2.cell 0 _ rfl; have ly := x2.lt (by simp)
  go_wp2
  refine bodyPost_ret (v := .tuple #[.agg #[.slice oa on oc], .bool false, .int .i64 10]) (by simp [results, Try.results16, go_sem, e0]) rfl ⟨oa, on, oc, rfl, ?_, (F2.out.set 2 0 [.slice none 0 0] rfl (by simp) _).below⟩
  refine (OMat.loc.chg (M := fun k => k = w.heap.size + 1 + 1) O3.out (Chg.setCell (M := fun k => k = w.heap.size + 1 + 1) (Chg.refl _) (fun _ => rfl) _) (fun k hk _ e => by have := hk.1; omega)).of_bt (by omega)

set_option maxHeartbeats 2000000 in
theorem touch_range (S W L : Nat) (hc : COk S W L) (K : Nat → Prop) (a : Option Addr) (len cap : Nat) (ss : List (List Int)) (w : World) (r : Mat K w a len cap ss) (hn : len ≤ 1000000) (hv : ValidP S W ss) (n : Int) (hr : n < 0 ∨ 1048576 < n) :
    Calls Try.prog 16 #[CV S W L, .agg #[.slice a len cap], .int .i64 n] w (TouchRet ss false 3 w) := by
  have HR := Lib.hid r; clear r
  have hC := Lib.hid hc
  have HV := Lib.hid hv; clear hv
  clear hc
  have f0 := Fm.new (Fm.new (Fm.new (Fm.start Non w) rfl [.int .i64 S, .int .i64 W, .int .i64 L] 29) (by simp) [.slice a len cap] 33) (by simp) [.slice none 0 0] 33
  have F0 := Lib.hid f0; clear f0
  go_enter Try.func16, Try.ntmps16
  go_wp2_with fail
  refine (copied_new K a len cap ss _ (HR.out.below F0.out.below) hn).mono ?_
  rintro e w1 ⟨oa, on, oc, rfl, ho1, hb1⟩
  have O1 := Lib.hid (ho1.ge (B' := w.heap.size + 3) (by simp)).bt
  have f1 := (Fm.call hb1 F0.out).more (.cells #[.slice oa on oc] 33)
  have hs1 := (Fm.call hb1 F0.out).size
  simp only [List.length_append, List.length_cons, List.length_nil, Nat.zero_add] at hs1
  have x1 := Has.new w1 [.slice oa on oc] 33
  have o1 := OMat.loc.chg (M := Non) O1.out ((Chg.refl w1).alloc (.cells #[.slice oa on oc] 33)) (fun _ _ _ h => h)
  have F1 := Lib.hid f1; have O2 := Lib.hid o1; have X1 := Lib.hid x1; clear ho1 f1 hb1 o1 x1
  have t0 := F1.out.h0; have t1 := F1.out.h1; have t2 := F1.out.h2
  have c0 := t0.cell 0 _ rfl; have c1 := t0.cell 1 _ rfl; have c2 := t0.cell 2 _ rfl; have d0 := t1.cell 0 _ rfl; have lt0 := t0.lt (by simp); have lt1 := t1.lt (by simp); have lt2 := t2.lt (by simp)
  go_wp2_with fail
  refine ((checked_any S W L hC.out K a len cap ss _ (HR.out.below F1.out.below)).1 HV.out).mono ?_
  rintro e w2 ⟨rfl, hb2⟩
  have F2 := Lib.hid (Fm.call hb2 F1.out)
  have O3 := Lib.hid (OMat.loc.below O2.out hb2)
  have X2 := Lib.hid (X1.out.below hb2 (by simp))
  clear t0 t1 t2 c0 c1 c2 d0 lt0 lt1 lt2 hb2
  have t0 := F2.out.h0; have t1 := F2.out.h1; have t2 := F2.out.h2; have x2 := X2.out
  have c0 := t0.cell 0 _ rfl; have c1 := t0.cell 1 _ rfl; have c2 := t0.cell 2 _ rfl; have d0 := t1.cell 0 _ rfl; have lt0 := t0.lt (by simp); have lt1 := t1.lt (by simp); have lt2 := t2.lt (by simp)
  have e0 := t2.cell 0 _ rfl; have ef := t2.free; have y0 := x2.cell 0 _ rfl; have ly := x2.lt (by simp)
  go_wp2_with fail
  refine (between_no _ _ _ hr _).mono ?_
  rintro e w' ⟨rfl, rfl⟩
  go_wp2
  refine bodyPost_ret (v := .tuple #[.agg #[.slice oa on oc], .bool false, .int .i64 3]) (by simp [results, Try.results16, go_sem, e0]) rfl ⟨oa, on, oc, rfl, ?_, (F2.out.set 2 0 [.slice none 0 0] rfl (by simp) _).below⟩
  refine (OMat.loc.chg (M := fun k => k = w.heap.size + 1 + 1) O3.out (Chg.setCell (M := fun k => k = w.heap.size + 1 + 1) (Chg.refl _) (fun _ => rfl) _) (fun k hk _ e => by have := hk.1; omega)).of_bt (by omega)

set_option maxHeartbeats 2000000 in
theorem touch_none (S W L : Nat) (hc : COk S W L) (K : Nat → Prop) (a : Option Addr) (len cap : Nat) (ss : List (List Int)) (w : World) (r : Mat K w a len cap ss) (hn : len ≤ 1000000) (hv : ValidP S W ss) (n : Int) (h0 : 0 ≤ n) (h1 : n ≤ 1048576) (hS : S = 0) :
    Calls Try.prog 16 #[CV S W L, .agg #[.slice a len cap], .int .i64 n] w (TouchRet ss false 0 w) := by
  have HR := Lib.hid r; clear r
  have hC := Lib.hid hc
  have HV := Lib.hid hv; clear hv
  clear hc
  subst hS
  have f0 := Fm.new (Fm.new (Fm.new (Fm.start Non w) rfl [.int .i64 ((0 : Nat) : Int), .int .i64 W, .int .i64 L] 29) (by simp) [.slice a len cap] 33) (by simp) [.slice none 0 0] 33
  have F0 := Lib.hid f0; clear f0
  go_enter Try.func16, Try.ntmps16
  go_wp2_with fail
  refine (copied_new K a len cap ss _ (HR.out.below F0.out.below) hn).mono ?_
  rintro e w1 ⟨oa, on, oc, rfl, ho1, hb1⟩
  have O1 := Lib.hid (ho1.ge (B' := w.heap.size + 3) (by simp)).bt
  have f1 := (Fm.call hb1 F0.out).more (.cells #[.slice oa on oc] 33)
  have hs1 := (Fm.call hb1 F0.out).size
  simp only [List.length_append, List.length_cons, List.length_nil, Nat.zero_add] at hs1
  have x1 := Has.new w1 [.slice oa on oc] 33
  have o1 := OMat.loc.chg (M := Non) O1.out ((Chg.refl w1).alloc (.cells #[.slice oa on oc] 33)) (fun _ _ _ h => h)
  have F1 := Lib.hid f1; have O2 := Lib.hid o1; have X1 := Lib.hid x1; clear ho1 f1 hb1 o1 x1
  have t0 := F1.out.h0; have t1 := F1.out.h1; have t2 := F1.out.h2
  have c0 := t0.cell 0 _ rfl; have c1 := t0.cell 1 _ rfl; have c2 := t0.cell 2 _ rfl; have d0 := t1.cell 0 _ rfl; have lt0 := t0.lt (by simp); have lt1 := t1.lt (by simp); have lt2 := t2.lt (by simp)
  go_wp2_with fail
  refine ((checked_any 0 W L hC.out K a len cap ss _ (HR.out.below F1.out.below)).1 HV.out).mono ?_
  rintro e w2 ⟨rfl, hb2⟩
  have F2 := Lib.hid (Fm.call hb2 F1.out)
  have O3 := Lib.hid (OMat.loc.below O2.out hb2)
  have X2 := Lib.hid (X1.out.below hb2 (by simp))
  clear t0 t1 t2 c0 c1 c2 d0 lt0 lt1 lt2 hb2
  have t0 := F2.out.h0; have t1 := F2.out.h1; have t2 := F2.out.h2; have x2 := X2.out
  have c0 := t0.cell 0 _ rfl; have c1 := t0.cell 1 _ rfl; have c2 := t0.cell 2 _ rfl; have d0 := t1.cell 0 _ rfl; have lt0 := t0.lt (by simp); have lt1 := t1.lt (by simp); have lt2 := t2.lt (by simp)
  have e0 := t2.cell 0 _ rfl; have ef := t2.free; have y0 := x2.cell 0 _ rfl; have ly := x2.lt (by simp)
  go_wp2_with fail
  refine (between_yes _ _ _ h0 h1 _).mono ?_
  rintro e w' ⟨rfl, rfl⟩
  go_wp2
  refine bodyPost_ret (v := .tuple #[.agg #[.slice oa on oc], .bool false, .int .i64 0]) (by simp [results, Try.results16, go_sem, e0]) rfl ⟨oa, on, oc, rfl, ?_, (F2.out.set 2 0 [.slice none 0 0] rfl (by simp) _).below⟩
  refine (OMat.loc.chg (M := fun k => k = w.heap.size + 1 + 1) O3.out (Chg.setCell (M := fun k => k = w.heap.size + 1 + 1) (Chg.refl _) (fun _ => rfl) _) (fun k hk _ e => by have := hk.1; omega)).of_bt (by omega)

set_option maxHeartbeats 2000000 in
theorem touch_any (S W L : Nat) (hc : COk S W L) (K : Nat → Prop) (a : Option Addr) (len cap : Nat) (ss : List (List Int)) (w : World) (r : Mat K w a len cap ss) (hn : len ≤ 1000000) (hv : ValidP S W ss) (n : Int) (h0 : 0 ≤ n) (h1 : n ≤ 1048576) (hS : 1 ≤ S) :
    Calls Try.prog 16 #[CV S W L, .agg #[.slice a len cap], .int .i64 n] w (TouchRet (accS S ss (n / L)) (hitS S ss (n / L)) 0 w) := by
  have HR := Lib.hid r; clear r
  have hC := Lib.hid hc
  have HV := Lib.hid hv; clear hv
  obtain ⟨g1, g2, g3, g4, g5, g6⟩ := hc
  have hz : ((S : Int) == 0) = false := by simp; omega
  have f0 := Fm.new (Fm.new (Fm.new (Fm.start Non w) rfl [.int .i64 S, .int .i64 W, .int .i64 L] 29) (by simp) [.slice a len cap] 33) (by simp) [.slice none 0 0] 33
  have F0 := Lib.hid f0; clear f0
  go_enter Try.func16, Try.ntmps16
  go_wp2_with fail
  refine (copied_new K a len cap ss _ (HR.out.below F0.out.below) hn).mono ?_
  rintro e w1 ⟨oa, on, oc, rfl, ho1, hb1⟩
  have O1 := Lib.hid (ho1.ge (B' := w.heap.size + 3) (by simp)).bt
  have f1 := (Fm.call hb1 F0.out).more (.cells #[.slice oa on oc] 33)
  have hs1 := (Fm.call hb1 F0.out).size
  simp only [List.length_append, List.length_cons, List.length_nil, Nat.zero_add] at hs1
  have x1 := Has.new w1 [.slice oa on oc] 33
  have o1 := OMat.loc.chg (M := Non) O1.out ((Chg.refl w1).alloc (.cells #[.slice oa on oc] 33)) (fun _ _ _ h => h)
  have F1 := Lib.hid f1; have O2 := Lib.hid o1; have X1 := Lib.hid x1; clear ho1 f1 hb1 o1 x1
  have t0 := F1.out.h0; have t1 := F1.out.h1; have t2 := F1.out.h2
  have c0 := t0.cell 0 _ rfl; have c1 := t0.cell 1 _ rfl; have c2 := t0.cell 2 _ rfl; have d0 := t1.cell 0 _ rfl; have lt0 := t0.lt (by simp); have lt1 := t1.lt (by simp); have lt2 := t2.lt (by simp)
  go_wp2_with fail
  refine ((checked_any S W L hC.out K a len cap ss _ (HR.out.below F1.out.below)).1 HV.out).mono ?_
  rintro e w2 ⟨rfl, hb2⟩
  have F2 := Lib.hid (Fm.call hb2 F1.out)
  have O3 := Lib.hid (OMat.loc.below O2.out hb2)
  have X2 := Lib.hid (X1.out.below hb2 (by simp))
  clear t0 t1 t2 c0 c1 c2 d0 lt0 lt1 lt2 hb2
  have t0 := F2.out.h0; have t1 := F2.out.h1; have t2 := F2.out.h2; have x2 := X2.out
  have c0 := t0.cell 0 _ rfl; have c1 := t0.cell 1 _ rfl; have c2 := t0.cell 2 _ rfl; have d0 := t1.cell 0 _ rfl; have lt0 := t0.lt (by simp); have lt1 := t1.lt (by simp); have lt2 := t2.lt (by simp)
  have e0 := t2.cell 0 _ rfl; have ef := t2.free; have y0 := x2.cell 0 _ rfl; have ly := x2.lt (by simp)
  go_wp2_with fail
  refine (between_yes _ _ _ h0 h1 _).mono ?_
  rintro e w' ⟨rfl, rfl⟩
  go_wp2_with fail
  refine (line_any S W L hC.out n h0 (by omega) _).mono ?_
  rintro e w3 ⟨rfl, hb3⟩
  have F3 := Lib.hid (Fm.call hb3 F2.out)
  have O4 := Lib.hid (OMat.loc.below O3.out hb3)
  have X3 := Lib.hid (X2.out.below hb3 ly)
  clear t0 t1 t2 x2 c0 c1 c2 d0 lt0 lt1 lt2 hb3 e0 ef y0 ly
  have t0 := F3.out.h0; have t2 := F3.out.h2; have x2 := X3.out
  have c0 := t0.cell 0 _ rfl; have c1 := t0.cell 1 _ rfl; have c2 := t0.cell 2 _ rfl; have lt0 := t0.lt (by simp); have lt2 := t2.lt (by simp)
  have e0 := t2.cell 0 _ rfl; have ef := t2.free; have y0 := x2.cell 0 _ rfl; have ly := x2.lt (by simp)
  have hline : 0 ≤ n / (L : Int) := Int.ediv_nonneg h0 (by omega)
  have hline' : n / (L : Int) ≤ 1048576 := Int.le_trans (Int.ediv_le_self _ h0) h1
  obtain ⟨m, hm⟩ : ∃ m, m = n / (L : Int) := ⟨_, rfl⟩
  rw [← hm] at hline hline'
  rw [← hm]
  have HM := Lib.hid hm; clear hm
  have hset : m % (S : Int) = ((m % (S : Int)).toNat : Nat) := by have := Int.emod_nonneg m (show (S : Int) ≠ 0 by omega); omega
  have hlt := setof_lt hS m
  have hv := HV.out
  have hx : ss[(m % (S : Int)).toNat]? = some (ss.getD (m % (S : Int)).toNat []) := by
    have := hv.1
    rw [List.getD_eq_getElem?_getD, List.getElem?_eq_getElem (by omega)]; rfl
  have hxl := (hv.2 _ _ hx).1
  have csof := fun w => setof_any S W L hC.out (by omega) m hline (by omega) w
  have hacc : accS S ss (n / (L : Int)) = ss.set (m % (S : Int)).toNat (acc (ss.getD (m % (S : Int)).toNat []) m) := by rw [← HM.out]; rfl
  have hhit : hitS S ss (n / (L : Int)) = decide (m ∈ ss.getD (m % (S : Int)).toNat []) := by rw [← HM.out]; rfl
  rw [hset] at csof
  generalize (m % (S : Int)).toNat = s at *
  generalize ss.getD s [] = x at *
  have HACC := Lib.hid hacc; have HHIT := Lib.hid hhit
  have CS := Lib.hid csof; have HX := Lib.hid hx; have HXL := Lib.hid hxl
  clear csof hx hxl hset hacc hhit hv hz
  go_wp2_with fail
  go_region_held3 (fun w' => w'.cell? ⟨w1.heap.size, 0, none⟩ = some (.slice oa on oc) ∧ w'.cell? ⟨w.heap.size, 0, none⟩ = some (.int .i64 S) ∧ w'.cell? ⟨w.heap.size, 1, none⟩ = some (.int .i64 W) ∧ w'.cell? ⟨w.heap.size, 2, none⟩ = some (.int .i64 L)) (((try dsimp only); (try go_split_ands); (repeat' apply And.intro); all_goals (first | assumption | (refine cell_later hb4 ?_; assumption) | (refine hc5.cell (fun h => by have := h.1; have := h.2; omega) ?_; assumption) | go_cell | go_keep)))
    (first
      | (go_at_call 21; refine (CS.out _).mono ?_; rintro e w4 ⟨rfl, hb4⟩; have e4 := cell_later hb4 e0; have ef4 := frz_later (o := 0) hb4 lt2 (ef 0); have l4 := Nat.lt_of_lt_of_le lt2 hb4.size)
      | (go_at_call 31; refine (front_any (Bt (w.heap.size + 3) w1.heap.size) oa on oc ss _ (by exact OMat.loc.below O4.out ((Below.refl _ _).drew.trans hb4)) s x HX.out (by have := HXL.out; omega) m (by omega) (by omega)).mono ?_; rintro e w5 ⟨rfl, ho5, hc5⟩; have e5 := hc5.cell (fun h => by have := h.1; omega) e4; have ef5 := hc5.frz (fun h => by have := h.1; omega) l4 ef4; have l5 := Nat.lt_of_lt_of_le l4 hc5.size))
  have e5 := hc5.cell (fun h => by have := h.1; omega) e4; have ef5 := hc5.frz (o := 0) (fun h => by have := h.1; omega) l4 ef4; have l5 := Nat.lt_of_lt_of_le l4 hc5.size
  go_wp2
  refine bodyPost_ret (v := .tuple #[.agg #[.slice oa on oc], .bool (decide (m ∈ x)), .int .i64 0]) (by simp [results, Try.results16, go_sem, e5]) rfl ⟨oa, on, oc, by rw [HHIT.out], ?_, ?_⟩
  · rw [HACC.out]
    exact (OMat.loc.chg (M := fun k => k = w.heap.size + 1 + 1) ho5 (Chg.setCell (M := fun k => k = w.heap.size + 1 + 1) (Chg.refl _) (fun _ => rfl) _) (fun k hk _ e => by have := hk.1; omega)).of_bt (by omega)
  · have c6 := (((F3.out.chg.trans (Chg.of_below (M := Non) ((Below.refl _ _).drew.trans hb4)) (fun _ _ h => h)).trans (hc5.mono (N := Bt (w.heap.size + 3) w1.heap.size) (fun _ _ h => h)) (fun k hk h => by have := h.1; omega)).setCell (p := ⟨w.heap.size + 1 + 1, 0, none⟩) (fun h => by simp at h; omega) (.slice oa on oc))
    exact c6.below0

end Go.Proofs.Ytdkpfifnegndmaa
