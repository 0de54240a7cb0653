/-
  may.set, may.Age, the document's Age: the age of a line in a state of lines that can be there.
-/
import Derived.Test.YtlpelpjcbclemaaMuL
import Derived.Test.YtlpelpjcbclemaaMaB
namespace Go.Proofs.Ytlpelpjcbclemaa
open Go.RowKit

/-- A state that came in, or is owned: the lists of its sets, the age of all other lines of each set. -/
structure YCub (K : Nat → Prop) (w : World) (a : Option Addr) (n c : Nat) (oa : Option Addr) (on oc : Nat) (m : List (List (List Int))) (o : List Int) : Prop where
  cub : Cube K w a n c m
  ints : Ints K w oa on oc o
theorem YCub.below {K : Nat → Prop} {w w' : World} {a : Option Addr} {n c : Nat} {oa : Option Addr} {on oc : Nat} {m : List (List (List Int))} {o : List Int} (h : YCub K w a n c oa on oc m o) (b : Below w.heap.size w w') : YCub K w' a n c oa on oc m o :=
  ⟨Row.below (RSl.stays (RSl.stays RInt.stays)) h.cub b, h.ints.below b⟩
/-- A valid state. -/
structure YSt (U : List Int) (S W : Nat) (m : List (List (List Int))) (o : List Int) : Prop where
  len : m.length = S
  olen : o.length = S
  set : ∀ (s : Nat) g, m[s]? = some g → ∃ k : Nat, o[s]? = some (k : Int) ∧ YSet (PS U S s) W g k
theorem YSt.at {U : List Int} {S W : Nat} {m : List (List (List Int))} {o : List Int} (h : YSt U S W m o) {s : Nat} (hs : s < S) : ∃ g k, m[s]? = some g ∧ o[s]? = some ((k : Nat) : Int) ∧ m.getD s [] = g ∧ o.getD s 0 = (k : Int) ∧ YSet (PS U S s) W g k := by
  have e := List.getElem?_eq_getElem (l := m) (show s < m.length by rw [h.len]; exact hs)
  obtain ⟨k, hk, hy⟩ := h.set s _ e
  exact ⟨_, k, e, hk, by rw [List.getD_eq_getElem?_getD, e]; rfl, by rw [List.getD_eq_getElem?_getD, hk]; rfl, hy⟩
/-- The age of a line in a state. -/
def ageY (S W : Nat) (m : List (List (List Int))) (o : List Int) (n : Int) : Nat := if S = 0 then W else ageF W (m.getD (setN S n) []) (o.getD (setN S n) 0).toNat n
theorem ageY_found {S W : Nat} {m : List (List (List Int))} {o : List Int} {n : Int} {g : List (List Int)} {k : Nat} (h0 : ¬ S = 0) (hg : m.getD (setN S n) [] = g) (hk : o.getD (setN S n) 0 = (k : Int)) : ageY S W m o n = ageF W g k n := by
  unfold ageY; rw [if_neg h0, hg, hk, Int.toNat_natCast]
abbrev YV (a : Option Addr) (n c : Nat) (oa : Option Addr) (on oc : Nat) : Value := .agg #[.slice a n c, .slice oa on oc]

set_option maxHeartbeats 1000000 in
theorem yset_any (S W L : Nat) (hc : COk S W L) (a : Option Addr) (len cap : Nat) (oa : Option Addr) (on oc : Nat) (hl : len = S) (hol : on = S) (n : Int) (hn : 0 ≤ n) (hn' : n ≤ 9223372036854775807) (w : World) :
    Calls Try.prog 40 #[CV S W L, YV a len cap oa on oc, .int .i64 n] w fun e w' => e = .returned (.int .i64 (setI S n)) ∧ Below w.heap.size w w' := by
  subst hl
  subst hol
  have hC := Lib.hid hc
  obtain ⟨g1, g2, g3, g4, g5, g6⟩ := hc
  have F0 := Lib.hid (Fm.new (Fm.new (Fm.start Non w) rfl [.int .i64 on, .int .i64 W, .int .i64 L] 26) (by simp) [.slice a on cap, .slice oa on oc] 31)
  by_cases h0 : on = 0
  · subst h0
    have e : setI 0 n = -1 := rfl
    have E := Lib.hid e; clear e
    go_enter Try.func40, Try.ntmps40
    go_wp2_with fail
    refine (setof_none _ _ hC.out n _).mono ?_
    rintro e w1 ⟨rfl, hb1⟩
    have F1 := Fm.call hb1 F0.out
    have c0 := F1.h1.cell 0 _ rfl; have c1 := F1.h1.cell 1 _ rfl; have lt0 := F1.h1.lt (by simp)
    go_wp2
    go_ret
    exact ⟨ret_i E.out.symm, F1.below⟩
  · have e : setI on n = n % (on : Int) := if_neg h0
    have h1 : 0 ≤ n % (on : Int) := Int.emod_nonneg _ (by omega)
    have h2 : n % (on : Int) < (on : Int) := Int.emod_lt_of_pos _ (by omega)
    have E := Lib.hid e; clear e
    have SO := Lib.hid (fun w => setof_any _ _ _ hC.out (by omega) n hn hn' w)
    generalize n % (on : Int) = s at *
    go_enter Try.func40, Try.ntmps40
    go_wp2_with fail
    refine (SO.out _).mono ?_
    rintro e w1 ⟨rfl, hb1⟩
    have F1 := Fm.call hb1 F0.out
    have c0 := F1.h1.cell 0 _ rfl; have c1 := F1.h1.cell 1 _ rfl; have lt0 := F1.h1.lt (by simp)
    go_wp2
    go_ret
    exact ⟨ret_i E.out.symm, F1.below⟩
theorem YCub.other {K : Nat → Prop} {w : World} {a : Option Addr} {n c : Nat} {oa : Option Addr} {on oc : Nat} {m : List (List (List Int))} {o : List Int} (h : YCub K w a n c oa on oc m o) {s : Nat} {k : Nat} (hk : o[s]? = some ((k : Nat) : Int)) :
    ∃ b p, oa = some ⟨b, p, none⟩ ∧ w.cell? ⟨b, p + s, none⟩ = some (.int .i64 k) ∧ b < w.heap.size ∧ s < on ∧ K b := by
  have hs : s < on := by have := (List.getElem?_eq_some_iff.1 hk).1; have := h.ints.hlen; omega
  obtain ⟨b, p, z, e1, e2, e3, _, _, e6, e7⟩ := h.ints.get hs
  rw [hk] at e2
  cases e2
  exact ⟨b, p, e1, e3, e7, hs, e6⟩

set_option maxHeartbeats 2000000 in
theorem yage_any (S W L : Nat) (hc : COk S W L) {U : List Int} (m : List (List (List Int))) (o : List Int) (hm : YSt U S W m o) (K : Nat → Prop) (a : Option Addr) (len cap : Nat) (oa : Option Addr) (on oc : Nat) (n : Int) (hn : 0 ≤ n) (hn' : n ≤ 9223372036854775807) (w : World) (r : YCub K w a len cap oa on oc m o) :
    Calls Try.prog 15 #[CV S W L, YV a len cap oa on oc, .int .i64 n] w (IntBelow (ageY S W m o n) w) := by
  have hl := r.cub.hlen; have h6 := r.cub.hsz; have hol := r.ints.hlen
  have hS : len = S := by rw [← hl]; exact hm.len
  have hO : on = S := by rw [← hol]; exact hm.olen
  subst hS
  subst hO
  have hC := Lib.hid hc
  obtain ⟨g1, g2, g3, g4, g5, g6⟩ := hc
  have F0 := Lib.hid (Fm.new (Fm.new (Fm.start Non w) rfl [.int .i64 on, .int .i64 W, .int .i64 L] 26) (by simp) [.slice a on cap, .slice oa on oc] 31)
  have SE := Lib.hid (fun w => yset_any on W L hC.out a on cap oa on oc rfl rfl n hn hn' w)
  have HR := Lib.hid r; have HM := Lib.hid hm; have HL := Lib.hid hl
  clear r hm hl hol
  by_cases h0 : on = 0
  · subst h0
    rw [show setI 0 n = -1 from rfl] at SE
    go_enter Try.func15, Try.ntmps15
    go_wp2_with fail
    refine (SE.out _).mono ?_
    rintro e w1 ⟨rfl, hb1⟩
    have F1 := Fm.call hb1 F0.out
    have c0 := F1.h0.cell 0 _ rfl; have c1 := F1.h0.cell 1 _ rfl; have lt0 := F1.h0.lt (by simp)
    go_wp2
    go_ret
    exact ⟨rfl, F1.below⟩
  · have hlt := setN_lt (show 0 < on by omega) n
    rw [show setI on n = ((setN on n : Nat) : Int) from by unfold setI; rw [if_neg h0, setN_int (by omega)]] at SE
    obtain ⟨g, k, hg, hk, hgd, hkd, hgs⟩ := HM.out.at hlt
    have HA := Lib.hid (ageY_found (W := W) (n := n) h0 hgd hkd)
    have HG := Lib.hid hg; have HS := Lib.hid hgs
    obtain ⟨ob, op, rfl, hco, hbo, hso, _⟩ := HR.out.other hk
    clear hg hgd hgs hk hkd
    generalize setN on n = s at *
    obtain ⟨b, p, g', ra, rl, rc, rfl, hx, hcw, hrx, _, hbw⟩ := Rows.get HR.out.cub hlt
    have hgg : g' = g := by rw [HG.out] at hx; cases hx; rfl
    subst hgg
    clear hx
    have HRX := Lib.hid hrx; clear hrx
    have HW := Lib.hid HS.out.ws.len
    have hs0 : (0 : Int) ≤ (s : Int) := by omega
    have hs1 : (s : Int) < (on : Int) := by omega
    have FI := Lib.hid (fun (w' : World) (hb : Below w.heap.size w w') => find_any K ra rl rc g' n w' (HRX.out.below (RSl.stays RInt.stays) hb) HS.out.ws.asc)
    go_enter Try.func15, Try.ntmps15
    go_wp2_with fail
    refine (SE.out _).mono ?_
    rintro e w1 ⟨rfl, hb1⟩
    have F1 := Lib.hid (Fm.call hb1 F0.out)
    have c0 := F1.out.h1.cell 0 _ rfl; have lt0 := F1.out.h1.lt (by simp)
    have cx := (F1.out.below.cell (p := ⟨b, p + s, none⟩) hbw).trans hcw
    clear hb1 hcw
    go_wp2_with fail
    refine (FI.out _ F1.out.below).mono ?_
    by_cases hf : plc g' n < g'.length
    · rw [show findI g' n = ((plc g' n : Nat) : Int) from if_pos hf]
      have HAF := Lib.hid (show ageF W g' k n = plc g' n by unfold ageF; rw [← HW.out, if_pos hf])
      rintro e w2 ⟨rfl, hb2⟩
      have F2 := Fm.call hb2 F1.out
      have c0 := F2.h0.cell 0 _ rfl; have c1 := F2.h0.cell 1 _ rfl; have lt0 := F2.h0.lt (by simp)
      go_wp2
      go_ret
      exact ⟨ret_i (by rw [HA.out, HAF.out]), F2.below⟩
    · rw [show findI g' n = -1 from if_neg hf]
      have HAF := Lib.hid (show ageF W g' k n = k by unfold ageF; rw [← HW.out, if_neg hf])
      rintro e w2 ⟨rfl, hb2⟩
      have F2 := Fm.call hb2 F1.out
      have c0 := F2.h0.cell 0 _ rfl; have c1 := F2.h0.cell 1 _ rfl; have lt0 := F2.h0.lt (by simp)
      have d1 := F2.h1.cell 1 _ rfl; have lt1 := F2.h1.lt (by simp)
      have co := (F2.below.cell (p := ⟨ob, op + s, none⟩) hbo).trans hco
      clear cx
      go_wp2
      go_ret
      exact ⟨ret_i (by rw [HA.out, HAF.out]), F2.below⟩
set_option maxHeartbeats 2000000 in
theorem yrage_any (S W L : Nat) (hc : COk S W L) {U : List Int} (m : List (List (List Int))) (o : List Int) (hm : YSt U S W m o) (K : Nat → Prop) (a : Option Addr) (len cap : Nat) (oa : Option Addr) (on oc : Nat) (n : Int) (hn : 0 ≤ n) (w : World) (r : YCub K w a len cap oa on oc m o) :
    Calls Try.prog 30 #[CV S W L, YV a len cap oa on oc, .int .i64 n] w (IntBelow (ageY S W m o n) w) := by
  have hl := r.cub.hlen; have h6 := r.cub.hsz; have hol := r.ints.hlen
  have hS : len = S := by rw [← hl]; exact hm.len
  have hO : on = S := by rw [← hol]; exact hm.olen
  subst hS
  subst hO
  obtain ⟨g1, g2, g3, g4, g5, g6⟩ := hc
  have F0 := Lib.hid (Fm.new (Fm.new (Fm.start Non w) rfl [.int .i64 on, .int .i64 W, .int .i64 L] 26) (by simp) [.slice a on cap, .slice oa on oc] 31)
  have HR := Lib.hid r; have HM := Lib.hid hm; have HL := Lib.hid hl
  clear r hm hl hol
  by_cases h0 : on = 0
  · subst h0
    go_enter Try.func30, Try.ntmps30
    go_wp2
    go_ret
    exact ⟨rfl, F0.out.below⟩
  · have hlt := setN_lt (show 0 < on by omega) n
    have hsi := setN_int (show 0 < on by omega) n
    have hz : ((on : Int) == 0) = false := by simp; omega
    have hmod : n.tmod (on : Int) = ((setN on n : Nat) : Int) := by rw [Int.tmod_eq_emod_of_nonneg hn, hsi]
    obtain ⟨g, k, hg, hk, hgd, hkd, hgs⟩ := HM.out.at hlt
    have HA := Lib.hid (ageY_found (W := W) (n := n) h0 hgd hkd)
    have HG := Lib.hid hg; have HS := Lib.hid hgs
    obtain ⟨ob, op, rfl, hco, hbo, hso, _⟩ := HR.out.other hk
    clear hg hgd hgs hk hkd hsi
    generalize setN on n = s at *
    obtain ⟨b, p, g', ra, rl, rc, rfl, hx, hcw, hrx, _, hbw⟩ := Rows.get HR.out.cub hlt
    have hgg : g' = g := by rw [HG.out] at hx; cases hx; rfl
    subst hgg
    clear hx
    have HRX := Lib.hid hrx; clear hrx
    have HW := Lib.hid HS.out.ws.len
    have PL := Lib.hid (fun (w' : World) (hb : Below w.heap.size w w') => place_any K ra rl rc g' n w' (HRX.out.below (RSl.stays RInt.stays) hb))
    have hnz : ¬ on = 0 := h0
    have hs0 : (0 : Int) ≤ (s : Int) := by omega
    have hs1 : (s : Int) < (on : Int) := by omega
    have hb1 := F0.out.below
    go_enter Try.func30, Try.ntmps30
    go_wp2_with fail
    refine (PL.out _ hb1).mono ?_
    by_cases hf : plc g' n < g'.length
    · rw [show findI g' n = ((plc g' n : Nat) : Int) from if_pos hf]
      have HAF := Lib.hid (show ageF W g' k n = plc g' n by unfold ageF; rw [← HW.out, if_pos hf])
      rintro e w2 ⟨rfl, rfl⟩
      go_wp2
      go_ret
      exact ⟨ret_i (by rw [HA.out, HAF.out]), hb1⟩
    · rw [show findI g' n = -1 from if_neg hf]
      have HAF := Lib.hid (show ageF W g' k n = k by unfold ageF; rw [← HW.out, if_neg hf])
      rintro e w2 ⟨rfl, rfl⟩
      have d1 := F0.out.h1.cell 1 _ rfl
      go_wp2
      go_ret
      exact ⟨ret_i (by rw [HA.out, HAF.out]), hb1⟩
end Go.Proofs.Ytlpelpjcbclemaa
