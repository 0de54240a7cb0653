/-
  timeboundlaw22.agree returns true, whatever the contents are.
-/
import Derived.Test.YtdkpfifnegndmaaRunA
import Derived.Test.YtdkpfifnegndmaaRunE
import Derived.Test.YtdkpfifnegndmaaRunH
import Derived.Test.YtdkpfifnegndmaaCacheM
import Derived.Test.YtdkpfifnegndmaaCacheO
import Derived.Deep.DeepCutAuto
namespace Go.Proofs.Ytdkpfifnegndmaa
open Go.RowKit

def TM (uu : List (List Int)) (hit : Bool) (err : Int) (w : World) (e : Ending) (w' : World) : Prop :=
  ∃ a n cap, e = .returned (.tuple #[.agg #[.slice a n cap], .bool hit, .int .i64 err]) ∧ Mat (fun _ => True) w' a n cap uu ∧ Below w.heap.size w w'
def DM (uu : List (List Int)) (err : Int) (w : World) (e : Ending) (w' : World) : Prop :=
  ∃ a n cap, e = .returned (.tuple #[.agg #[.slice a n cap], .int .i64 err]) ∧ Mat (fun _ => True) w' a n cap uu ∧ Below w.heap.size w w'
theorem mat_any {K : Nat → Prop} {w : World} {a : Option Addr} {n c : Nat} {ss : List (List Int)} (h : Mat K w a n c ss) : Mat (fun _ => True) w a n c ss :=
  Row.wide (K' := fun _ => True) (RSl.wider RInt.wider) (fun _ _ _ => trivial) h
theorem touch_pair (S W L : Nat) (hc : COk S W L) (ss : List (List Int)) (n : Int) (h0 : 0 ≤ n) (h1 : n ≤ 1048576) :
    ∃ uu hit err, (∀ K a len cap w, Mat K w a len cap ss → len ≤ 1000000 → Calls Try.prog 16 #[CV S W L, .agg #[.slice a len cap], .int .i64 n] w (TM uu hit err w)) ∧
      (∀ K a len cap w, Mat K w a len cap ss → Calls Try.prog 25 #[CV S W L, .agg #[.slice a len cap], .int .i64 n] w (TM uu hit err w)) := by
  by_cases hv : ValidP S W ss
  · refine ⟨tch S L ss n, thit S L ss n, 0, fun K a len cap w r _ => ?_, fun K a len cap w r => ?_⟩
    · refine (touch_ok S W L hc K a len cap ss w r hv n h0 h1).mono ?_
      rintro e w' ⟨a', n', c', rfl, ho, hb⟩
      exact ⟨a', n', c', rfl, OMat.read (fun _ _ => trivial) ho, hb⟩
    · refine (rtouch_ok S W L hc K a len cap ss w r hv n h0 h1).mono ?_
      rintro e w' ⟨a', n', c', rfl, ho, hb⟩
      exact ⟨a', n', c', rfl, OMat.read (fun _ _ => trivial) ho, hb⟩
  · refine ⟨ss, false, 10, fun K a len cap w r hn => ?_, fun K a len cap w r => ?_⟩
    · refine (touch_bad S W L hc K a len cap ss w r hn hv n).mono ?_
      rintro e w' ⟨a', n', c', rfl, ho, hb⟩
      exact ⟨a', n', c', rfl, OMat.read (fun _ _ => trivial) ho, hb⟩
    · refine (rtouch_bad S W L hc K a len cap ss w r hv n).mono ?_
      rintro e w' ⟨rfl, hb⟩
      exact ⟨a, len, cap, rfl, mat_any (r.below hb), hb⟩
theorem drop_pair (S W L : Nat) (hc : COk S W L) (ss : List (List Int)) (s p : Int) :
    ∃ uu err, (∀ K a len cap w, Mat K w a len cap ss → len ≤ 1000000 → Calls Try.prog 35 #[CV S W L, .agg #[.slice a len cap], .int .i64 s, .int .i64 p] w (DM uu err w)) ∧
      (∀ K a len cap w, Mat K w a len cap ss → Calls Try.prog 24 #[CV S W L, .agg #[.slice a len cap], .int .i64 s, .int .i64 p] w (DM uu err w)) := by
  by_cases hv : ValidP S W ss
  · by_cases hr : 0 ≤ s ∧ s < S ∧ 0 ≤ p ∧ p < W
    · obtain ⟨sn, rfl⟩ := Int.eq_ofNat_of_zero_le hr.1
      obtain ⟨pn, rfl⟩ := Int.eq_ofNat_of_zero_le hr.2.2.1
      obtain ⟨x, hx⟩ : ∃ x, ss[sn]? = some x := ⟨_, List.getElem?_eq_getElem (by have := hv.1; have := hr.2.1; omega)⟩
      refine ⟨ss.set sn (drp x pn), 0, fun K a len cap w r hn => ?_, fun K a len cap w r => ?_⟩
      · refine (drop_ok S W L hc K a len cap ss w r hn hv sn pn x hx (by omega)).mono ?_
        rintro e w' ⟨a', n', c', rfl, ho, hb⟩
        exact ⟨a', n', c', rfl, OMat.read (fun _ _ => trivial) ho, hb⟩
      · refine (rdrop_ok S W L hc K a len cap ss w r hv sn pn x hx (by omega)).mono ?_
        rintro e w' ⟨a', n', c', rfl, ho, hb⟩
        exact ⟨a', n', c', rfl, OMat.read (fun _ _ => trivial) ho, hb⟩
    · refine ⟨ss, 3, fun K a len cap w r hn => ?_, fun K a len cap w r => ?_⟩
      · refine (drop_range S W L hc K a len cap ss w r hn hv s p hr).mono ?_
        rintro e w' ⟨a', n', c', rfl, ho, hb⟩
        exact ⟨a', n', c', rfl, OMat.read (fun _ _ => trivial) ho, hb⟩
      · refine (rdrop_range S W L hc K a len cap ss w r hv s p hr).mono ?_
        rintro e w' ⟨rfl, hb⟩
        exact ⟨a, len, cap, rfl, mat_any (r.below hb), hb⟩
  · refine ⟨ss, 10, fun K a len cap w r hn => ?_, fun K a len cap w r => ?_⟩
    · refine (drop_bad S W L hc K a len cap ss w r hn hv s p).mono ?_
      rintro e w' ⟨a', n', c', rfl, ho, hb⟩
      exact ⟨a', n', c', rfl, OMat.read (fun _ _ => trivial) ho, hb⟩
    · refine (rdrop_bad S W L hc K a len cap ss w r hv s p).mono ?_
      rintro e w' ⟨rfl, hb⟩
      exact ⟨a, len, cap, rfl, mat_any (r.below hb), hb⟩
theorem misses_pair (S W L : Nat) (hc : COk S W L) (ss : List (List Int)) (adr : List Int) (hr : ∀ z ∈ adr, 0 ≤ z ∧ z ≤ 1048576) :
    ∃ c err : Int, (∀ K K2 a len cap ab al ac w, Mat K w a len cap ss → Ints K2 w ab al ac adr → len ≤ 1000000 → Calls Try.prog 14 #[CV S W L, .agg #[.slice a len cap], .slice ab al ac] w (Int2Ret c err w)) ∧
      (∀ K K2 a len cap ab al ac w, Mat K w a len cap ss → Ints K2 w ab al ac adr → Calls Try.prog 36 #[CV S W L, .agg #[.slice a len cap], .slice ab al ac] w (Int2Ret c err w)) := by
  by_cases hv : ValidP S W ss
  · exact ⟨_, 0, fun K K2 a len cap ab al ac w r ra _ => misses_ok S W L hc K K2 a len cap ss w r ab al ac adr ra hv hr, fun K K2 a len cap ab al ac w r ra => rmisses_ok S W L hc K K2 a len cap ss w r ab al ac adr ra hv hr⟩
  · exact ⟨0, 10, fun K K2 a len cap ab al ac w r ra hn => misses_bad S W L hc K K2 a len cap ss w r hn ab al ac adr ra hv, fun K K2 a len cap ab al ac w r ra => rmisses_bad S W L hc K a len cap ss w r ab al ac hv⟩
theorem set_pair (S W L : Nat) (hc : COk S W L) (n : Int) (h0 : 0 ≤ n) (h1 : n ≤ 1048576) :
    ∃ v : Int, (∀ w, Calls Try.prog 21 #[CV S W L, .int .i64 n] w (IntRet v w)) ∧ (∀ w, Calls Try.prog 41 #[CV S W L, .int .i64 n] w (IntRet v w)) := by
  by_cases hS : S = 0
  · subst hS
    exact ⟨-1, fun w => setof_none W L hc n w, fun w => rset_none W L hc n w⟩
  · exact ⟨n % S, fun w => setof_any S W L hc (by omega) n h0 (by omega) w, fun w => rset_any S W L hc (by omega) n h0 (by omega) w⟩

set_option maxRecDepth 100000 in
set_option maxHeartbeats 8000000 in
theorem agree_any (S W L : Nat) (hc : COk S W L) (K : Nat → Prop) (a : Option Addr) (len cap : Nat) (ss : List (List Int)) (w : World) (r : Mat K w a len cap ss) (hn : len ≤ 1000000) (n : Int) (h0 : 0 ≤ n) (h1 : n ≤ 1048576) (s p : Int)
    (K2 : Nat → Prop) (ab : Option Addr) (al ac : Nat) (adr : List Int) (ra : Ints K2 w ab al ac adr) (hr : ∀ z ∈ adr, 0 ≤ z ∧ z ≤ 1048576) :
    Calls Try.prog 23 #[CV S W L, .agg #[.slice a len cap], .int .i64 n, .int .i64 s, .int .i64 p, .slice ab al ac] w fun e w' => e = .returned (.bool true) ∧ Below w.heap.size w w' := by
  have hC := Lib.hid hc
  have HR := Lib.hid (mat_any r); have HA := Lib.hid ra
  obtain ⟨uu, hit, err, tp⟩ := touch_pair S W L hc ss n h0 h1
  obtain ⟨dd, drr, dp⟩ := drop_pair S W L hc ss s p
  obtain ⟨mc, me, mp⟩ := misses_pair S W L hc ss adr hr
  obtain ⟨sv, sp⟩ := set_pair S W L hc n h0 h1
  obtain ⟨vb, hvb⟩ : ∃ vb : Bool, vb = true ↔ ValidP S W ss := by
    by_cases hv : ValidP S W ss
    · exact ⟨true, by simp [hv]⟩
    · exact ⟨false, by simp [hv]⟩
  have TP := Lib.hid tp; have DP := Lib.hid dp; have MP := Lib.hid mp; have SP := Lib.hid sp; have HVB := Lib.hid hvb
  have LN := Lib.hid (fun w => (show Calls Try.prog 20 #[CV S W L, .int .i64 n] w (IntRet (n / L) w) from line_any S W L hC.out n h0 (by omega) w))
  have RLN := Lib.hid (fun w => (show Calls Try.prog 40 #[CV S W L, .int .i64 n] w (IntRet (n / L) w) from rline_any S W L hC.out n h0 (by omega) w))
  obtain ⟨lv, hlv⟩ : ∃ lv : Int, lv = n / L := ⟨_, rfl⟩
  rw [← hlv] at LN RLN
  clear r ra hr tp dp mp sp hvb hc hlv
  have F0 := Lib.hid (Fm.new (Fm.new (Fm.start Non w) rfl [.int .i64 S, .int .i64 W, .int .i64 L] 29) (by simp) [.slice a len cap] 33)
  go_enter Try.func23, Try.ntmps23
  go_wp2_with fail
  refine (TP.out.1 (fun _ => True) a len cap _ (HR.out.below F0.out.below) hn).mono ?_
  rintro e w1 ⟨a1, n1, c1', rfl, m1, hb1⟩
  have F1 := Lib.hid ((Fm.call hb1 F0.out).more (.cells #[.slice a1 n1 c1'] 33))
  have M1 := Lib.hid (m1.below ((Below.refl _ _).alloc (Nat.le_refl _) (.cells #[.slice a1 n1 c1'] 33))); have X1 := Lib.hid (Has.new w1 [.slice a1 n1 c1'] 33)
  clear m1 hb1
  have t0 := F1.out.h0; have t1 := F1.out.h1
  have c0 := t0.cell 0 _ rfl; have c1 := t0.cell 1 _ rfl; have c2 := t0.cell 2 _ rfl; have d0 := t1.cell 0 _ rfl
  go_wp2_with fail
  refine (TP.out.2 (fun _ => True) a len cap _ (HR.out.below F1.out.below)).mono ?_
  rintro e w2 ⟨a2, n2, c2', rfl, m2, hb2⟩
  have al2 : Below w2.heap.size w2 (w2.alloc (.cells #[.slice a2 n2 c2'] 33)) := (Below.refl _ _).alloc (Nat.le_refl _) _
  have F2 := Lib.hid ((Fm.call hb2 F1.out).more (.cells #[.slice a2 n2 c2'] 33))
  have M2 := Lib.hid (m2.below al2); have X2 := Lib.hid (Has.new w2 [.slice a2 n2 c2'] 33)
  have M1b := Lib.hid ((M1.out.below hb2).below al2); have X1b := Lib.hid ((X1.out.below hb2 (X1.out.lt (by simp))).old (o := .cells #[.slice a2 n2 c2'] 33) (Nat.lt_of_lt_of_le (X1.out.lt (by simp)) hb2.size))
  clear m2 hb2 al2 t0 t1 c0 c1 c2 d0 M1 X1 F1
  have t0 := F2.out.h0; have t1 := F2.out.h1
  have c0 := t0.cell 0 _ rfl; have c1 := t0.cell 1 _ rfl; have c2 := t0.cell 2 _ rfl; have d0 := t1.cell 0 _ rfl
  go_wp2_with fail
  refine (DP.out.1 (fun _ => True) a len cap _ (HR.out.below F2.out.below) hn).mono ?_
  rintro e w3 ⟨a3, n3, c3', rfl, m3, hb3⟩
  have al3 : Below w3.heap.size w3 (w3.alloc (.cells #[.slice a3 n3 c3'] 33)) := (Below.refl _ _).alloc (Nat.le_refl _) _
  have F3 := Lib.hid ((Fm.call hb3 F2.out).more (.cells #[.slice a3 n3 c3'] 33))
  have M3 := Lib.hid (m3.below al3); have X3 := Lib.hid (Has.new w3 [.slice a3 n3 c3'] 33)
  have M1 := Lib.hid ((M1b.out.below hb3).below al3); have X1 := Lib.hid ((X1b.out.below hb3 (X1b.out.lt (by simp))).old (o := .cells #[.slice a3 n3 c3'] 33) (Nat.lt_of_lt_of_le (X1b.out.lt (by simp)) hb3.size))
  have M2b := Lib.hid ((M2.out.below hb3).below al3); have X2b := Lib.hid ((X2.out.below hb3 (X2.out.lt (by simp))).old (o := .cells #[.slice a3 n3 c3'] 33) (Nat.lt_of_lt_of_le (X2.out.lt (by simp)) hb3.size))
  clear m3 hb3 al3 t0 t1 c0 c1 c2 d0 M1b X1b M2 X2 F2
  have t0 := F3.out.h0; have t1 := F3.out.h1
  have c0 := t0.cell 0 _ rfl; have c1 := t0.cell 1 _ rfl; have c2 := t0.cell 2 _ rfl; have d0 := t1.cell 0 _ rfl
  go_wp2_with fail
  refine (DP.out.2 (fun _ => True) a len cap _ (HR.out.below F3.out.below)).mono ?_
  rintro e w4 ⟨a4, n4, c4', rfl, m4, hb4⟩
  have al4 : Below w4.heap.size w4 (w4.alloc (.cells #[.slice a4 n4 c4'] 33)) := (Below.refl _ _).alloc (Nat.le_refl _) _
  have F4 := Lib.hid ((Fm.call hb4 F3.out).more (.cells #[.slice a4 n4 c4'] 33))
  have M4 := Lib.hid (m4.below al4); have X4 := Lib.hid (Has.new w4 [.slice a4 n4 c4'] 33)
  have M1b := Lib.hid ((M1.out.below hb4).below al4); have X1b := Lib.hid ((X1.out.below hb4 (X1.out.lt (by simp))).old (o := .cells #[.slice a4 n4 c4'] 33) (Nat.lt_of_lt_of_le (X1.out.lt (by simp)) hb4.size))
  have M2 := Lib.hid ((M2b.out.below hb4).below al4); have X2 := Lib.hid ((X2b.out.below hb4 (X2b.out.lt (by simp))).old (o := .cells #[.slice a4 n4 c4'] 33) (Nat.lt_of_lt_of_le (X2b.out.lt (by simp)) hb4.size))
  have M3b := Lib.hid ((M3.out.below hb4).below al4); have X3b := Lib.hid ((X3.out.below hb4 (X3.out.lt (by simp))).old (o := .cells #[.slice a4 n4 c4'] 33) (Nat.lt_of_lt_of_le (X3.out.lt (by simp)) hb4.size))
  clear m4 hb4 al4 t0 t1 c0 c1 c2 d0 M1 X1 M2b X2b M3 X3 F3
  have t0 := F4.out.h0; have t1 := F4.out.h1
  have c0 := t0.cell 0 _ rfl; have c1 := t0.cell 1 _ rfl; have c2 := t0.cell 2 _ rfl; have d0 := t1.cell 0 _ rfl
  go_wp2_with fail
  refine (MP.out.1 (fun _ => True) _ a len cap ab al ac _ (HR.out.below F4.out.below) (Ints.below HA.out F4.out.below) hn).mono ?_
  rintro e w5 ⟨rfl, hb5⟩
  have F5 := Lib.hid (Fm.call hb5 F4.out)
  clear t0 t1 c0 c1 c2 d0
  have t0 := F5.out.h0; have t1 := F5.out.h1
  have c0 := t0.cell 0 _ rfl; have c1 := t0.cell 1 _ rfl; have c2 := t0.cell 2 _ rfl; have d0 := t1.cell 0 _ rfl
  go_wp2_with fail
  refine (MP.out.2 (fun _ => True) _ a len cap ab al ac _ (HR.out.below F5.out.below) (Ints.below HA.out F5.out.below)).mono ?_
  rintro e w6 ⟨rfl, hb6⟩
  have F6 := Lib.hid (Fm.call hb6 F5.out)
  have C6 := Lib.hid (((Chg.refl (w4.alloc (.cells #[.slice a4 n4 c4'] 33))).tr hb5).tr hb6 : Chg Non _ _)
  have MA := Lib.hid (M1b.out.chg C6.out (fun _ _ e => e)); have MB := Lib.hid (M2.out.chg C6.out (fun _ _ e => e)); have MC := Lib.hid (M3b.out.chg C6.out (fun _ _ e => e)); have MD := Lib.hid (M4.out.chg C6.out (fun _ _ e => e))
  have XA := Lib.hid (C6.out.has X1b.out (X1b.out.lt (by simp)) id); have XB := Lib.hid (C6.out.has X2.out (X2.out.lt (by simp)) id); have XC := Lib.hid (C6.out.has X3b.out (X3b.out.lt (by simp)) id); have XD := Lib.hid (C6.out.has X4.out (X4.out.lt (by simp)) id)
  clear t0 t1 c0 c1 c2 d0 hb5 hb6 F4 F5 M1b M2 M3b M4 X1b X2 X3b X4 C6
  have t0 := F6.out.h0; have t1 := F6.out.h1
  have c0 := t0.cell 0 _ rfl; have c1 := t0.cell 1 _ rfl; have c2 := t0.cell 2 _ rfl; have d0 := t1.cell 0 _ rfl
  have xa := XA.out.cell 0 _ rfl; have xb := XB.out.cell 0 _ rfl; have xc := XC.out.cell 0 _ rfl; have xd := XD.out.cell 0 _ rfl
  clear t0 t1
  go_wp2
  have e1 : (err == err) = true := by simp
  have e2 : (hit == hit) = true := by cases hit <;> rfl
  have e3 : (drr == drr) = true := by simp
  have e4 : (me == me) = true := by simp
  have e5 : (mc == mc) = true := by simp
  have e6 : (vb == vb) = true := by cases vb <;> rfl
  have e7 : (lv == lv) = true := by simp
  have e8 : (sv == sv) = true := by simp
  have CC := Lib.hid (show Chg Non w6 w6.drew from (Chg.refl w6).drew)
  simp only [List.append_eq, List.cons_append, List.nil_append]
  go_region_held3 (fun w' => w'.cell? ⟨w.heap.size, 0, none⟩ = some (.int .i64 S) ∧ w'.cell? ⟨w.heap.size, 1, none⟩ = some (.int .i64 W) ∧ w'.cell? ⟨w.heap.size, 2, none⟩ = some (.int .i64 L) ∧ w'.cell? ⟨w.heap.size + 1, 0, none⟩ = some (.slice a len cap) ∧ w'.cell? ⟨w1.heap.size, 0, none⟩ = some (.slice a1 n1 c1') ∧ w'.cell? ⟨w2.heap.size, 0, none⟩ = some (.slice a2 n2 c2') ∧ w'.cell? ⟨w3.heap.size, 0, none⟩ = some (.slice a3 n3 c3') ∧ w'.cell? ⟨w4.heap.size, 0, none⟩ = some (.slice a4 n4 c4')) (((try dsimp only); (try go_split_ands); (repeat' apply And.intro); all_goals (repeat (first | assumption | (refine cell_later hb8 ?_) | (refine cell_drew ?_)))))
    (first
      | (go_at_call 17; refine (same_yes (fun _ => True) (fun _ => True) _ _ _ _ _ _ _ _ (by first | exact Mat.chg MA.out CC.out (fun _ _ e => e) | exact Mat.chg MC.out CC.out (fun _ _ e => e) | exact ME.out) (by first | exact Mat.chg MB.out CC.out (fun _ _ e => e) | exact Mat.chg MD.out CC.out (fun _ _ e => e) | exact MF.out)).mono ?_; rintro e w8 ⟨rfl, hb8⟩; have CC := Lib.hid (CC.out.tr hb8))
      | (go_at_call 18; refine (valid_any S W L hC.out (fun _ => True) a len cap ss _ (by exact Mat.chg (HR.out.below F6.out.below) CC.out (fun _ _ e => e))).mono ?_; rintro e w8 ⟨b8, rfl, hv8, hb8⟩; obtain rfl : vb = b8 := (by rw [Bool.eq_iff_iff, hv8, HVB.out]); have CC := Lib.hid (CC.out.tr hb8))
      | (go_at_call 37; refine (rvalid_any S W L hC.out (fun _ => True) a len cap ss _ (by exact Mat.chg (HR.out.below F6.out.below) CC.out (fun _ _ e => e))).mono ?_; rintro e w8 ⟨b8, rfl, hv8, hb8⟩; obtain rfl : vb = b8 := (by rw [Bool.eq_iff_iff, hv8, HVB.out]); have CC := Lib.hid (CC.out.tr hb8))
      | (go_at_call 32; refine (check_ok _ _ _ hC.out _).mono ?_; rintro e w8 ⟨rfl, hb8⟩; have CC := Lib.hid (CC.out.tr hb8))
      | (go_at_call 38; refine (rcheck_ok _ _ _ hC.out _).mono ?_; rintro e w8 ⟨rfl, hb8⟩; have CC := Lib.hid (CC.out.tr hb8))
      | (go_at_call 19; refine (empty_any S W L hC.out _).mono ?_; rintro e w8 ⟨a8, n8, c8, rfl, o8, hb8⟩; have ME := Lib.hid (OMat.read (K := fun _ => True) (fun _ _ => trivial) o8); have CC := Lib.hid (CC.out.tr hb8))
      | (go_at_call 39; refine (rempty_any S W L hC.out _).mono ?_; rintro e w8 ⟨a9, n9, c9, rfl, o9, hb8⟩; have MF := Lib.hid (OMat.read (K := fun _ => True) (fun _ _ => trivial) o9); have ME := Lib.hid (ME.out.below hb8); have CC := Lib.hid (CC.out.tr hb8))
      | (go_at_call 20; refine (LN.out _).mono ?_; rintro e w8 ⟨rfl, hb8⟩; have CC := Lib.hid (CC.out.tr hb8))
      | (go_at_call 40; refine (RLN.out _).mono ?_; rintro e w8 ⟨rfl, hb8⟩; have CC := Lib.hid (CC.out.tr hb8))
      | (go_at_call 21; refine (SP.out.1 _).mono ?_; rintro e w8 ⟨rfl, hb8⟩; have CC := Lib.hid (CC.out.tr hb8))
      | (go_at_call 41; refine (SP.out.2 _).mono ?_; rintro e w8 ⟨rfl, hb8⟩; have CC := Lib.hid (CC.out.tr hb8)))
  all_goals
    go_wp2
    go_ret
    exact ⟨rfl, (F6.out.chg.trans CC.out (fun _ _ h => h)).below0⟩
end Go.Proofs.Ytdkpfifnegndmaa
