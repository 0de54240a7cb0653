/-
  must.set, must.Age, the document's Age: the age of a line in a state.
-/
import Derived.Test.YtikhbijobkkhgaaMuB
namespace Go.Proofs.Ytikhbijobkkhgaa
open Go.RowKit

/-- Lines of set s, of those of U. -/
def PS (U : List Int) (S s : Nat) (x : Int) : Prop := 0 ≤ x ∧ x ≤ 1048576 ∧ x % (S : Int) = s ∧ x ∈ U
/-- A valid state. -/
structure MSt (U : List Int) (S W : Nat) (m : List (List (List Int))) : Prop where
  len : m.length = S
  set : ∀ (s : Nat) g, m[s]? = some g → WSet (PS U S s) W g
def setN (S : Nat) (n : Int) : Nat := (n % (S : Int)).toNat
theorem setN_lt {S : Nat} (h : 0 < S) (n : Int) : setN S n < S := setof_lt h n
theorem setN_int {S : Nat} (h : 0 < S) (n : Int) : ((setN S n : Nat) : Int) = n % (S : Int) := by
  unfold setN; exact Int.toNat_of_nonneg (Int.emod_nonneg _ (by omega))
def ageN (S W : Nat) (m : List (List (List Int))) (n : Int) : Nat := if S = 0 then W else plc (m.getD (setN S n) []) n
theorem MSt.at {U : List Int} {S W : Nat} {m : List (List (List Int))} (h : MSt U S W m) {s : Nat} (hs : s < S) : ∃ g, m[s]? = some g ∧ m.getD s [] = g ∧ WSet (PS U S s) W g := by
  have e := List.getElem?_eq_getElem (l := m) (show s < m.length by rw [h.len]; exact hs)
  exact ⟨_, e, by rw [List.getD_eq_getElem?_getD, e]; rfl, h.set s _ e⟩
def setI (S : Nat) (n : Int) : Int := if S = 0 then -1 else n % (S : Int)

set_option maxHeartbeats 1000000 in
theorem mset_any (S W L : Nat) (hc : COk S W L) (a : Option Addr) (len cap : Nat) (hl : len = S) (n : Int) (hn : 0 ≤ n) (hn' : n ≤ 9223372036854775807) (w : World) :
    Calls Try.prog 43 #[CV S W L, .agg #[.slice a len cap], .int .i64 n] w fun e w' => e = .returned (.int .i64 (setI S n)) ∧ Below w.heap.size w w' := by
  subst hl
  have hC := Lib.hid hc
  obtain ⟨g1, g2, g3, g4, g5, g6⟩ := hc
  have F0 := Lib.hid (Fm.new (Fm.new (Fm.start Non w) rfl [.int .i64 len, .int .i64 W, .int .i64 L] 26) (by simp) [.slice a len cap] 30)
  by_cases h0 : len = 0
  · subst h0
    have e : setI 0 n = -1 := rfl
    have E := Lib.hid e; clear e
    go_enter Try.func43, Try.ntmps43
    go_wp2_with fail
    refine (setof_none _ _ hC.out n _).mono ?_
    rintro e w1 ⟨rfl, hb1⟩
    have F1 := Fm.call hb1 F0.out
    have c0 := F1.h1.cell 0 _ rfl; have lt0 := F1.h1.lt (by simp)
    go_wp2
    go_ret
    exact ⟨ret_i E.out.symm, F1.below⟩
  · have e : setI len n = n % (len : Int) := if_neg h0
    have h1 : 0 ≤ n % (len : Int) := Int.emod_nonneg _ (by omega)
    have h2 : n % (len : Int) < (len : Int) := Int.emod_lt_of_pos _ (by omega)
    have E := Lib.hid e; clear e
    have SO := Lib.hid (fun w => setof_any _ _ _ hC.out (by omega) n hn hn' w)
    generalize n % (len : Int) = s at *
    go_enter Try.func43, Try.ntmps43
    go_wp2_with fail
    refine (SO.out _).mono ?_
    rintro e w1 ⟨rfl, hb1⟩
    have F1 := Fm.call hb1 F0.out
    have c0 := F1.h1.cell 0 _ rfl; have lt0 := F1.h1.lt (by simp)
    go_wp2
    go_ret
    exact ⟨ret_i E.out.symm, F1.below⟩

theorem ageN_found {S W : Nat} {m : List (List (List Int))} {n : Int} {g : List (List Int)} (h0 : ¬ S = 0) (hg : m.getD (setN S n) [] = g) : ageN S W m n = plc g n := by unfold ageN; rw [if_neg h0, hg]
theorem ageN_zero {W : Nat} {m : List (List (List Int))} {n : Int} : ageN 0 W m n = W := rfl
theorem WSet.ascs {P : Int → Prop} {W : Nat} {g : List (List Int)} (h : WSet P W g) : ∀ (i : Nat) l, g[i]? = some l → Asc l := h.asc
def IntBelow (n : Int) (w : World) (e : Ending) (w' : World) : Prop := e = .returned (.int .i64 n) ∧ Below w.heap.size w w'
set_option maxHeartbeats 1000000 in
theorem age_any (S W L : Nat) (hc : COk S W L) {U : List Int} (m : List (List (List Int))) (hm : MSt U S W m) (K : Nat → Prop) (a : Option Addr) (len cap : Nat) (n : Int) (hn : 0 ≤ n) (hn' : n ≤ 9223372036854775807) (w : World) (r : Cube K w a len cap m) :
    Calls Try.prog 20 #[CV S W L, .agg #[.slice a len cap], .int .i64 n] w (IntBelow (ageN S W m n) w) := by
  have hl := r.hlen; have h6 := r.hsz
  have hS : len = S := by rw [← hl]; exact hm.len
  subst hS
  have hC := Lib.hid hc
  obtain ⟨g1, g2, g3, g4, g5, g6⟩ := hc
  have F0 := Lib.hid (Fm.new (Fm.new (Fm.start Non w) rfl [.int .i64 len, .int .i64 W, .int .i64 L] 26) (by simp) [.slice a len cap] 30)
  have SE := Lib.hid (fun w => mset_any len W L hC.out a len cap rfl n hn hn' w)
  have HR := Lib.hid r; have HM := Lib.hid hm; have HL := Lib.hid hl
  clear r hm hl
  by_cases h0 : len = 0
  · subst h0
    rw [show setI 0 n = -1 from rfl] at SE
    go_enter Try.func20, Try.ntmps20
    go_wp2_with fail
    refine (SE.out _).mono ?_
    rintro e w1 ⟨rfl, hb1⟩
    have F1 := Fm.call hb1 F0.out
    have c0 := F1.h0.cell 0 _ rfl; have c1 := F1.h0.cell 1 _ rfl; have lt0 := F1.h0.lt (by simp)
    go_wp2
    go_ret
    exact ⟨rfl, F1.below⟩
  · have hlt := setN_lt (show 0 < len by omega) n
    rw [show setI len n = ((setN len n : Nat) : Int) from by unfold setI; rw [if_neg h0, setN_int (by omega)]] at SE
    obtain ⟨g, hg, hgd, hgs⟩ := HM.out.at hlt
    have HA := Lib.hid (ageN_found (W := W) (n := n) h0 hgd)
    have HG := Lib.hid hg; have HS := Lib.hid hgs
    clear hg hgd hgs
    generalize setN len n = s at *
    obtain ⟨b, o, g', ra, rl, rc, rfl, hx, hcw, hrx, _, hbw⟩ := Rows.get HR.out hlt
    have hgg : g' = g := by rw [HG.out] at hx; cases hx; rfl
    subst hgg
    clear hx
    have HRX := Lib.hid hrx; clear hrx
    have HP := Lib.hid (plc_le g' n)
    have HW := Lib.hid HS.out.len
    have FI := Lib.hid (fun (w' : World) (hb : Below w.heap.size w w') => find_any K ra rl rc g' n w' (HRX.out.below (RSl.stays RInt.stays) hb) HS.out.asc)
    go_enter Try.func20, Try.ntmps20
    go_wp2_with fail
    refine (SE.out _).mono ?_
    rintro e w1 ⟨rfl, hb1⟩
    have F1 := Lib.hid (Fm.call hb1 F0.out)
    have c0 := F1.out.h1.cell 0 _ rfl; have lt0 := F1.out.h1.lt (by simp)
    have cx := (F1.out.below.cell (p := ⟨b, o + s, none⟩) hbw).trans hcw
    clear hb1 hcw
    go_wp2_with fail
    refine (FI.out _ F1.out.below).mono ?_
    by_cases hf : plc g' n < g'.length
    · rw [show findI g' n = ((plc g' n : Nat) : Int) from if_pos hf]
      rintro e w2 ⟨rfl, hb2⟩
      have F2 := Fm.call hb2 F1.out
      have c0 := F2.h0.cell 0 _ rfl; have c1 := F2.h0.cell 1 _ rfl; have lt0 := F2.h0.lt (by simp)
      go_wp2
      go_ret
      exact ⟨ret_i (by rw [HA.out]), F2.below⟩
    · rw [show findI g' n = -1 from if_neg hf]
      rintro e w2 ⟨rfl, hb2⟩
      have F2 := Fm.call hb2 F1.out
      have c0 := F2.h0.cell 0 _ rfl; have c1 := F2.h0.cell 1 _ rfl; have lt0 := F2.h0.lt (by simp)
      go_wp2
      go_ret
      exact ⟨ret_i (by rw [HA.out]; have := HP.out; have := HW.out; omega), F2.below⟩

set_option maxHeartbeats 1000000 in
theorem rage_any (S W L : Nat) (hc : COk S W L) {U : List Int} (m : List (List (List Int))) (hm : MSt U S W m) (K : Nat → Prop) (a : Option Addr) (len cap : Nat) (n : Int) (hn : 0 ≤ n) (_hn' : n ≤ 9223372036854775807) (w : World) (r : Cube K w a len cap m) :
    Calls Try.prog 33 #[CV S W L, .agg #[.slice a len cap], .int .i64 n] w (IntBelow (ageN S W m n) w) := by
  have hl := r.hlen; have h6 := r.hsz
  have hS : len = S := by rw [← hl]; exact hm.len
  subst hS
  obtain ⟨g1, g2, g3, g4, g5, g6⟩ := hc
  have F0 := Lib.hid (Fm.new (Fm.new (Fm.start Non w) rfl [.int .i64 len, .int .i64 W, .int .i64 L] 26) (by simp) [.slice a len cap] 30)
  have HR := Lib.hid r; have HM := Lib.hid hm; have HL := Lib.hid hl
  clear r hm hl
  by_cases h0 : len = 0
  · subst h0
    go_enter Try.func33, Try.ntmps33
    go_wp2
    go_ret
    exact ⟨rfl, F0.out.below⟩
  · have hlt := setN_lt (show 0 < len by omega) n
    have hsi := setN_int (show 0 < len by omega) n
    have hz : ((len : Int) == 0) = false := by simp; omega
    have hmod : n.tmod (len : Int) = ((setN len n : Nat) : Int) := by rw [Int.tmod_eq_emod_of_nonneg hn, hsi]
    obtain ⟨g, hg, hgd, hgs⟩ := HM.out.at hlt
    have HA := Lib.hid (ageN_found (W := W) (n := n) h0 hgd)
    have HG := Lib.hid hg; have HS := Lib.hid hgs
    clear hg hgd hgs hsi
    generalize setN len n = s at *
    obtain ⟨b, o, g', ra, rl, rc, rfl, hx, hcw, hrx, _, hbw⟩ := Rows.get HR.out hlt
    have hgg : g' = g := by rw [HG.out] at hx; cases hx; rfl
    subst hgg
    clear hx
    have HRX := Lib.hid hrx; clear hrx
    have HP := Lib.hid (plc_le g' n)
    have HW := Lib.hid HS.out.len
    have PL := Lib.hid (fun (w' : World) (hb : Below w.heap.size w w') => place_any K ra rl rc g' n w' (HRX.out.below (RSl.stays RInt.stays) hb))
    have hnz : ¬ len = 0 := h0
    have hs0 : (0 : Int) ≤ (s : Int) := by omega
    have hs1 : (s : Int) < (len : Int) := by omega
    have hb1 := F0.out.below
    go_enter Try.func33, Try.ntmps33
    go_wp2
    go_quiet ((go_at_call 47; exact Calls.quiet_of_same ((PL.out _ (below_drewN hb1 _)).mono fun _ _ h => ⟨h.1, h.2.symm⟩)))
    by_cases hf : plc g' n < g'.length
    · rw [show findI g' n = ((plc g' n : Nat) : Int) from if_pos hf]
      go_wp2
      go_ret
      exact ⟨ret_i (by rw [HA.out]), below_drewN hb1 _⟩
    · rw [show findI g' n = -1 from if_neg hf]
      go_wp2
      go_ret
      exact ⟨ret_i (by rw [HA.out]; have := HP.out; have := HW.out; omega), below_drewN hb1 _⟩
end Go.Proofs.Ytikhbijobkkhgaa
