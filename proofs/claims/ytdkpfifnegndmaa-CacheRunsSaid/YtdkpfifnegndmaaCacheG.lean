/-
  cache.Misses: how often accesses miss.
-/
import Derived.Test.YtdkpfifnegndmaaCacheF
namespace Go.Proofs.Ytdkpfifnegndmaa
open Go.RowKit

def Int2Ret (n err : Int) (w : World) (e : Ending) (w' : World) : Prop := e = .returned (.tuple #[.int .i64 n, .int .i64 err]) ∧ Below w.heap.size w w'
theorem ret_ii {a b c : Int} (h : a = b) : Ending.returned (.tuple #[.int .i64 a, .int .i64 c]) = .returned (.tuple #[.int .i64 b, .int .i64 c]) := by rw [h]
theorem mm_len (S : Nat) (ss : List (List Int)) (l : List Int) (k : Nat) : mm S ss (l.take k) ≤ k := Nat.le_trans (mm_le S _ ss) (by rw [List.length_take]; omega)
theorem foldl_valid {S W : Nat} (hS : 1 ≤ S) (hW : 1 ≤ W) {ss : List (List Int)} (h : Wide S W ss) : ∀ l : List Int, Wide S W (l.foldl (accS S) ss) := fun l => by
  induction l generalizing ss with
  | nil => exact h
  | cons n l ih => exact ih (h.acc hS hW n)

set_option maxHeartbeats 2000000 in
theorem misses_bad (S W L : Nat) (hc : COk S W L) (K K2 : Nat → Prop) (a : Option Addr) (len cap : Nat) (ss : List (List Int)) (w : World) (r : Mat K w a len cap ss) (hn : len ≤ 1000000) (ab : Option Addr) (al ac : Nat) (adr : List Int) (ra : Ints K2 w ab al ac adr) (hv : ¬ ValidP S W ss) :
    Calls Try.prog 14 #[CV S W L, .agg #[.slice a len cap], .slice ab al ac] w (Int2Ret 0 10 w) := by
  have HR := Lib.hid r; clear r
  have hal := ra.hsz
  have HA := Lib.hid ra; clear ra
  have hC := Lib.hid hc
  have HV := Lib.hid hv; clear hv
  clear hc
  have f0 := Fm.new (Fm.new (Fm.start Non w) rfl [.int .i64 S, .int .i64 W, .int .i64 L] 29) (by simp) [.slice a len cap] 33
  have F0 := Lib.hid f0; clear f0
  go_enter Try.func14, Try.ntmps14
  go_wp2_with fail
  refine ((checked_any S W L hC.out K a len cap ss _ (HR.out.below F0.out.below)).2 HV.out).mono ?_
  rintro e w1 ⟨rfl, hb1⟩
  have f1 := Fm.call hb1 F0.out
  have t0 := f1.h0; have t1 := f1.h1
  have c0 := t0.cell 0 _ rfl; have c1 := t0.cell 1 _ rfl; have c2 := t0.cell 2 _ rfl; have d0 := t1.cell 0 _ rfl; have lt0 := t0.lt (by simp); have lt1 := t1.lt (by simp)
  go_wp2
  go_ret2
  exact ⟨rfl, f1.below⟩

set_option maxHeartbeats 2000000 in
theorem misses_any (S W L : Nat) (hc : COk S W L) (K K2 : Nat → Prop) (a : Option Addr) (len cap : Nat) (ss : List (List Int)) (w : World) (r : Mat K w a len cap ss) (hn : len ≤ 1000000) (ab : Option Addr) (al ac : Nat) (adr : List Int) (ra : Ints K2 w ab al ac adr) (hv : ValidP S W ss) (hS : 1 ≤ S) (hr : ∀ z ∈ adr, 0 ≤ z ∧ z ≤ 1048576) :
    Calls Try.prog 14 #[CV S W L, .agg #[.slice a len cap], .slice ab al ac] w (Int2Ret (mm S ss (adr.map (· / (L : Int)))) 0 w) := by
  have HR := Lib.hid r; clear r
  have hal := ra.hsz
  have HA := Lib.hid ra; clear ra
  have hC := Lib.hid hc
  have HV := Lib.hid hv; clear hv
  obtain ⟨g1, g2, g3, g4, g5, g6⟩ := hc
  have hz : ((S : Int) == 0) = false := by simp; omega
  have RA := Lib.hid hr; clear hr
  have f0 := Fm.new (Fm.new (Fm.start Non w) rfl [.int .i64 S, .int .i64 W, .int .i64 L] 29) (by simp) [.slice a len cap] 33
  have F0 := Lib.hid f0; clear f0
  go_enter Try.func14, Try.ntmps14
  go_wp2_with fail
  refine ((checked_any S W L hC.out K a len cap ss _ (HR.out.below F0.out.below)).1 HV.out).mono ?_
  rintro e w1 ⟨rfl, hb1⟩
  have f1 := Fm.call hb1 F0.out
  have t0 := f1.h0; have t1 := f1.h1
  have c0 := t0.cell 0 _ rfl; have c1 := t0.cell 1 _ rfl; have c2 := t0.cell 2 _ rfl; have d0 := t1.cell 0 _ rfl; have lt0 := t0.lt (by simp); have lt1 := t1.lt (by simp)
  go_wp2_with fail
  refine (copied_new K a len cap ss _ (HR.out.below f1.below) hn).mono ?_
  rintro e w2 ⟨oa, on, oc, rfl, ho2, hb2⟩
  have hs1 := f1.size
  simp only [List.length_append, List.length_cons, List.length_nil, Nat.zero_add] at hs1
  have f2 := (Fm.call hb2 f1).more (.cells #[.slice oa on oc] 33)
  have O2 := Lib.hid (ho2.ge (B' := w.heap.size + 2) (by omega)).bt
  have x2 := Has.new w2 [.slice oa on oc] 33
  have hs2 : w.heap.size + 2 ≤ w2.heap.size := by have := hb2.size; omega
  have o2 := OMat.loc.chg (M := Non) O2.out ((Chg.refl w2).alloc (.cells #[.slice oa on oc] 33)) (fun _ _ _ h => h)
  have F2 := Lib.hid f2; have O3 := Lib.hid o2; have X2 := Lib.hid x2
  clear f1 t0 t1 c0 c1 c2 d0 lt0 lt1 hb1 hb2 ho2 f2 o2 x2 O2
  go_wp2
  go_loopw [24, 10] (fun i n wr => ∃ k : Nat, k ≤ al ∧ i = .int .i64 k ∧ n = .int .i64 (mm S ss ((adr.map (· / (L : Int))).take k)) ∧ Fm Non w wr [[.int .i64 S, .int .i64 W, .int .i64 L], [.slice a len cap]] ∧ Has wr w2.heap.size [.slice oa on oc] ∧
      OMat wr (Bt (w.heap.size + 2) w2.heap.size) (.slice oa on oc) (((adr.map (· / (L : Int))).take k).foldl (accS S) ss)) (fun i _ _ => al - (intOf i).toNat)
  case atStart => exact ⟨0, Nat.zero_le _, rfl, rfl, F2.out, X2.out, O3.out⟩
  case round =>
    obtain ⟨k, hk, rfl, rfl, f3, x3, o3⟩ := hrel
    have hmk := mm_len S ss (adr.map (· / (L : Int))) k
    have F3 := Lib.hid f3; have X3 := Lib.hid x3; have O4 := Lib.hid o3
    clear f3 x3 o3
    by_cases hlt : k < al
    · obtain ⟨b, o, z, rfl, hz', hcz0, _, _, _, hbw⟩ := Ints.get HA.out hlt
      have hcz := (F3.out.below.cell (p := ⟨b, o + k, none⟩) hbw).trans hcz0
      have hbw3 := Nat.lt_of_lt_of_le hbw F3.out.below.size
      clear hcz0
      obtain ⟨z0, z1⟩ := RA.out z (List.mem_of_getElem? hz')
      have hline : 0 ≤ z / (L : Int) := Int.ediv_nonneg z0 (by omega)
      have hline' : z / (L : Int) ≤ 1048576 := Int.le_trans (Int.ediv_le_self _ z0) z1
      have hw := foldl_valid hS (by omega) HV.out.wide ((adr.map (· / (L : Int))).take k)
      have hnx : (adr.map (· / (L : Int))).take (k + 1) = (adr.map (· / (L : Int))).take k ++ [z / (L : Int)] := by
        rw [List.take_add_one, List.getElem?_map, hz']; rfl
      have hcount := mm_snoc S (z / (L : Int)) ((adr.map (· / (L : Int))).take k) ss
      have hfold : ((adr.map (· / (L : Int))).take (k + 1)).foldl (accS S) ss = accS S (((adr.map (· / (L : Int))).take k).foldl (accS S) ss) (z / (L : Int)) := by rw [hnx, List.foldl_append]; rfl
      rw [← hnx] at hcount
      generalize ((adr.map (· / (L : Int))).take k).foldl (accS S) ss = tt at *
      generalize mm S ss ((adr.map (· / (L : Int))).take k) = cnt at *
      have cline := fun w => line_any S W L hC.out z z0 (by omega) w
      obtain ⟨m, hm⟩ : ∃ m, m = z / (L : Int) := ⟨_, rfl⟩
      rw [← hm] at hline hline' hcount hfold cline
      have hset : m % (S : Int) = ((m % (S : Int)).toNat : Nat) := by have := Int.emod_nonneg m (show (S : Int) ≠ 0 by omega); omega
      have hlt' := setof_lt hS m
      have hx : tt[(m % (S : Int)).toNat]? = some (tt.getD (m % (S : Int)).toNat []) := by
        have := hw.1
        rw [List.getD_eq_getElem?_getD, List.getElem?_eq_getElem (by omega)]; rfl
      have hxl : (tt.getD (m % (S : Int)).toNat []).length = W := hw.at hlt'
      have csof := fun w => setof_any S W L hC.out (by omega) m hline (by omega) w
      have hacc : accS S tt m = tt.set (m % (S : Int)).toNat (acc (tt.getD (m % (S : Int)).toNat []) m) := rfl
      have hhit : hitS S tt m = decide (m ∈ tt.getD (m % (S : Int)).toNat []) := rfl
      rw [hset] at csof
      rw [hacc] at hfold
      rw [hhit] at hcount
      generalize (m % (S : Int)).toNat = s at *
      generalize tt.getD s [] = x at *
      have CL := Lib.hid cline; have CS := Lib.hid csof; have HX := Lib.hid hx; have HXL := Lib.hid hxl; have HC := Lib.hid hcount; have HF := Lib.hid hfold
      clear cline csof hx hxl hset hacc hhit hw hnx hcount hfold hm hz' hlt'
      have t0 := F3.out.h0; have x2 := X3.out
      have c0 := t0.cell 0 _ rfl; have c1 := t0.cell 1 _ rfl; have c2 := t0.cell 2 _ rfl; have lt0 := t0.lt (by simp)
      go_wp2_with fail
      refine (between_yes _ _ _ z0 z1 _).mono ?_
      rintro e w' ⟨rfl, rfl⟩
      go_wp2_with fail
      refine (CL.out _).mono ?_
      rintro e w4 ⟨rfl, hb4⟩
      have F4 := Lib.hid (Fm.call hb4 F3.out); have X4 := Lib.hid (X3.out.below hb4 (x2.lt (by simp))); have O5 := Lib.hid (OMat.loc.below O4.out hb4)
      clear t0 x2 c0 c1 c2 lt0 hcz hbw3
      have t0 := F4.out.h0; have x2 := X4.out
      have c0 := t0.cell 0 _ rfl; have c1 := t0.cell 1 _ rfl; have c2 := t0.cell 2 _ rfl; have lt0 := t0.lt (by simp); have y0 := x2.cell 0 _ rfl; have ly := x2.lt (by simp)
      by_cases hin : m ∈ x
      all_goals
        have hind := hin
        first | rw [decide_eq_true hin] at HC | rw [decide_eq_false hin] at HC
        have HIN := Lib.hid hin; clear hin hind
        go_wp2_with fail
        go_region_held3 (fun w' => w'.cell? ⟨w2.heap.size, 0, none⟩ = some (.slice oa on oc) ∧ w'.cell? ⟨w.heap.size, 0, none⟩ = some (.int .i64 S) ∧ w'.cell? ⟨w.heap.size, 1, none⟩ = some (.int .i64 W) ∧ w'.cell? ⟨w.heap.size, 2, none⟩ = some (.int .i64 L)) (((try dsimp only); (try go_split_ands); (repeat' apply And.intro); all_goals (first | assumption | (refine cell_later hb5 ?_; assumption) | (refine hc6.cell (fun h => by have := h.1; have := h.2; omega) ?_; assumption) | go_cell | go_keep)))
          (first
            | (go_at_call 21; refine (CS.out _).mono ?_; rintro e w5 ⟨rfl, hb5⟩)
            | (go_at_call 31; refine (front_any (Bt (w.heap.size + 2) w2.heap.size) oa on oc tt _ (by exact OMat.loc.below O5.out ((Below.refl _ _).drew.trans hb5)) s x HX.out (by have := HXL.out; omega) m (by omega) (by omega)).mono ?_; (first | rw [decide_eq_true HIN.out] | rw [decide_eq_false HIN.out]); rintro e w6 ⟨rfl, ho6, hc6⟩))
        have F6 := (Fm.call ((Below.refl _ _).drew.trans hb5) F4.out).chgd hc6 (fun j hj => .inr (by have := hj.1; simp; omega))
        have X6 := hc6.has (X4.out.below ((Below.refl _ _).drew.trans hb5) ly) (Nat.lt_of_lt_of_le ly hb5.size) (fun h => by have := h.2; omega)
        go_wp2
        go_roundw
        case rel => exact ⟨k + 1, by omega, by go_num, by rw [HC.out]; first | go_num | (simp; go_num), F6, X6, by rw [HF.out]; exact ho6⟩
        case measure => simp [intOf]; omega
    · go_wp2
      go_ret2
      exact ⟨ret_ii (by rw [List.take_of_length_le (by rw [List.length_map, HA.out.hlen]; omega)]), F3.out.below⟩

set_option maxHeartbeats 2000000 in
theorem misses_none (S W L : Nat) (hc : COk S W L) (K K2 : Nat → Prop) (a : Option Addr) (len cap : Nat) (ss : List (List Int)) (w : World) (r : Mat K w a len cap ss) (hn : len ≤ 1000000) (ab : Option Addr) (al ac : Nat) (adr : List Int) (ra : Ints K2 w ab al ac adr) (hv : ValidP S W ss) (hS : S = 0) (hr : ∀ z ∈ adr, 0 ≤ z ∧ z ≤ 1048576) :
    Calls Try.prog 14 #[CV S W L, .agg #[.slice a len cap], .slice ab al ac] w (Int2Ret adr.length 0 w) := by
  have HR := Lib.hid r; clear r
  have hal := ra.hsz
  have HA := Lib.hid ra; clear ra
  have hC := Lib.hid hc
  have HV := Lib.hid hv; clear hv
  clear hc
  subst hS
  have RA := Lib.hid hr; clear hr
  have f0 := Fm.new (Fm.new (Fm.start Non w) rfl [.int .i64 ((0 : Nat) : Int), .int .i64 W, .int .i64 L] 29) (by simp) [.slice a len cap] 33
  have F0 := Lib.hid f0; clear f0
  go_enter Try.func14, Try.ntmps14
  go_wp2_with fail
  refine ((checked_any (0 : Nat) W L hC.out K a len cap ss _ (HR.out.below F0.out.below)).1 HV.out).mono ?_
  rintro e w1 ⟨rfl, hb1⟩
  have f1 := Fm.call hb1 F0.out
  have t0 := f1.h0; have t1 := f1.h1
  have c0 := t0.cell 0 _ rfl; have c1 := t0.cell 1 _ rfl; have c2 := t0.cell 2 _ rfl; have d0 := t1.cell 0 _ rfl; have lt0 := t0.lt (by simp); have lt1 := t1.lt (by simp)
  go_wp2_with fail
  refine (copied_new K a len cap ss _ (HR.out.below f1.below) hn).mono ?_
  rintro e w2 ⟨oa, on, oc, rfl, ho2, hb2⟩
  have F2 := Lib.hid ((Fm.call hb2 f1).more (.cells #[.slice oa on oc] 33))
  clear f1 t0 t1 c0 c1 c2 d0 lt0 lt1 hb1 hb2 ho2
  go_wp2
  go_loopw [24, 10] (fun i n wr => ∃ k : Nat, k ≤ al ∧ i = .int .i64 k ∧ n = .int .i64 k ∧ Fm Non w wr [[.int .i64 ((0 : Nat) : Int), .int .i64 W, .int .i64 L], [.slice a len cap]]) (fun i _ _ => al - (intOf i).toNat)
  case atStart => exact ⟨0, Nat.zero_le _, rfl, rfl, F2.out⟩
  case round =>
    obtain ⟨k, hk, rfl, rfl, f3⟩ := hrel
    have F3 := Lib.hid f3; clear f3
    by_cases hlt : k < al
    · obtain ⟨b, o, z, rfl, hz', hcz0, _, _, _, hbw⟩ := Ints.get HA.out hlt
      have hcz := (F3.out.below.cell (p := ⟨b, o + k, none⟩) hbw).trans hcz0
      have hbw3 := Nat.lt_of_lt_of_le hbw F3.out.below.size
      clear hcz0
      obtain ⟨z0, z1⟩ := RA.out z (List.mem_of_getElem? hz')
      clear hz'
      have t0 := F3.out.h0
      have c0 := t0.cell 0 _ rfl; have c1 := t0.cell 1 _ rfl; have c2 := t0.cell 2 _ rfl; have lt0 := t0.lt (by simp)
      go_wp2_with fail
      refine (between_yes _ _ _ z0 z1 _).mono ?_
      rintro e w' ⟨rfl, rfl⟩
      go_wp2_with fail
      refine (line_any 0 W L hC.out z z0 (by omega) _).mono ?_
      rintro e w4 ⟨rfl, hb4⟩
      have F4 := Lib.hid (Fm.call hb4 F3.out)
      clear t0 c0 c1 c2 lt0 hcz hbw3
      have t0 := F4.out.h0
      have c0 := t0.cell 0 _ rfl; have c1 := t0.cell 1 _ rfl; have c2 := t0.cell 2 _ rfl; have lt0 := t0.lt (by simp)
      have hz : (((0 : Nat) : Int) == 0) = true := rfl
      go_wp2
      go_quiet (fail)
      go_wp2
      go_roundw
      case rel => exact ⟨k + 1, by omega, by go_num, by go_num, F4.out.drewN _⟩
      case measure => simp [intOf]; omega
    · go_wp2
      go_ret2
      exact ⟨ret_ii (by have := HA.out.hlen; omega), F3.out.below⟩

end Go.Proofs.Ytdkpfifnegndmaa
