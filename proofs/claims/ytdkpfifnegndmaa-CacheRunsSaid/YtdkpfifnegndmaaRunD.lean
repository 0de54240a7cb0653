/-
  The document's Touch.
-/
import Derived.Test.YtdkpfifnegndmaaRunB
import Derived.Test.YtdkpfifnegndmaaRunC
import Derived.Test.YtdkpfifnegndmaaCacheJ
import Derived.Test.YtdkpfifnegndmaaCacheP
namespace Go.Proofs.Ytdkpfifnegndmaa
open Go.RowKit

set_option maxHeartbeats 1000000 in
theorem use_none (W L : Nat) (a : Option Addr) (len cap : Nat) (n : Int) (w : World) :
    Calls Try.prog 43 #[CV ((0 : Nat) : Int) W L, .agg #[.slice a len cap], .int .i64 n] w fun e w' => e = .returned (.bool false) ∧ Below w.heap.size w w' := by
  have F0 := Lib.hid (Fm.new (Fm.new (Fm.start Non w) rfl [.int .i64 ((0 : Nat) : Int), .int .i64 W, .int .i64 L] 29) (by simp) [.slice a len cap] 33)
  have t0 := F0.out.h0
  have c0 := t0.cell 0 _ rfl
  go_enter Try.func43, Try.ntmps43
  go_wp2
  go_ret
  exact ⟨rfl, F0.out.below⟩

/-- What accesses need of the sizes. -/
theorem ValidP.small {S W L : Nat} {ss : List (List Int)} (hc : COk S W L) (hv : ValidP S W ss) : ss.length ≤ 8 ∧ ∀ x ∈ ss, 0 < x.length ∧ x.length ≤ 8 :=
  ⟨by have := hv.1; have := hc.s1; omega, fun x hx => by
    have := hv.wide.2 x hx; have := hc.w0; have := hc.w1; omega⟩

set_option maxHeartbeats 2000000 in
theorem rtouch_bad (S W L : Nat) (hc : COk S W L) (K : Nat → Prop) (a : Option Addr) (len cap : Nat) (ss : List (List Int)) (w : World) (r : Mat K w a len cap ss) (hv : ¬ ValidP S W ss) (n : Int) :
    Calls Try.prog 25 #[CV S W L, .agg #[.slice a len cap], .int .i64 n] w fun e w' => e = .returned (.tuple #[.agg #[.slice a len cap], .bool false, .int .i64 10]) ∧ Below w.heap.size w w' := by
  have HR := Lib.hid r; clear r
  have hC := Lib.hid hc
  have HV := Lib.hid hv; clear hv
  clear hc
  have f0 := Fm.new (Fm.new (Fm.new (Fm.start Non w) rfl [.int .i64 S, .int .i64 W, .int .i64 L] 29) (by simp) [.slice a len cap] 33) (by simp) [.slice none 0 0] 33
  have F0 := Lib.hid f0; clear f0
  go_enter Try.func25, Try.ntmps25
  go_wp2_with fail
  refine (rcheck_ok _ _ _ hC.out _).mono ?_
  rintro e w1 ⟨rfl, hb1⟩
  have F1 := Lib.hid (Fm.call hb1 F0.out); clear hb1
  have t0 := F1.out.h0; have t1 := F1.out.h1; have t2 := F1.out.h2
  have c0 := t0.cell 0 _ rfl; have c1 := t0.cell 1 _ rfl; have c2 := t0.cell 2 _ rfl; have d0 := t1.cell 0 _ rfl; have lt0 := t0.lt (by simp); have lt1 := t1.lt (by simp)
  go_wp2_with fail
  refine (rvalid_any S W L hC.out K a len cap ss _ (HR.out.below F1.out.below)).mono ?_
  rintro e w2 ⟨vb, rfl, hvb, hb2⟩
  obtain rfl : vb = false := by
    cases vb
    · rfl
    · exact absurd (hvb.1 rfl) HV.out
  have F2 := Lib.hid (Fm.call hb2 F1.out)
  clear t0 t1 t2 c0 c1 c2 d0 lt0 lt1 hb2 hvb
  have d0 := F2.out.h1.cell 0 _ rfl; have e0 := F2.out.h2.cell 0 _ rfl; have ef := F2.out.h2.free; have lt2 := F2.out.h2.lt (by simp)
  go_wp2
  exact bodyPost_ret (v := .tuple #[.agg #[.slice a len cap], .bool false, .int .i64 10]) (by simp [results, Try.results25, go_sem, e0]) rfl ⟨rfl, (F2.out.set 2 0 [.slice none 0 0] rfl (by simp) _).below⟩

set_option maxRecDepth 100000 in
set_option maxHeartbeats 4000000 in
theorem rtouch_ok (S W L : Nat) (hc : COk S W L) (K : Nat → Prop) (a : Option Addr) (len cap : Nat) (ss : List (List Int)) (w : World) (r : Mat K w a len cap ss) (hv : ValidP S W ss) (n : Int) (h0 : 0 ≤ n) (h1 : n ≤ 1048576) :
    Calls Try.prog 25 #[CV S W L, .agg #[.slice a len cap], .int .i64 n] w (TouchRet (tch S L ss n) (thit S L ss n) 0 w) := by
  have HR := Lib.hid r
  have hC := Lib.hid hc
  have HV := Lib.hid hv
  have hlen := r.hlen
  have hsm := hv.small hc
  have HSM := Lib.hid hsm
  have hl8 : len ≤ 8 := by omega
  obtain ⟨g1, g2, g3, g4, g5, g6⟩ := hc
  clear r hv hsm
  have f0 := Fm.new (Fm.new (Fm.new (Fm.start Non w) rfl [.int .i64 S, .int .i64 W, .int .i64 L] 29) (by simp) [.slice a len cap] 33) (by simp) [.slice none 0 0] 33
  have F0 := Lib.hid f0; clear f0
  have US := Lib.hid (show ∀ (fp : Nat → Prop) (a : Option Addr) (len cap : Nat) (w : World), OMat w fp (.slice a len cap) ss → Calls Try.prog 43 #[CV S W L, .agg #[.slice a len cap], .int .i64 n] w fun e w' => e = .returned (.bool (thit S L ss n)) ∧ OMat w' fp (.slice a len cap) (tch S L ss n) ∧ Chg fp w w' from by
    intro fp a len cap w r
    unfold tch thit
    by_cases hS : S = 0
    · simp only [if_pos hS]
      subst hS
      refine (use_none W L a len cap n w).mono ?_
      rintro e w' ⟨h1, h2⟩
      exact ⟨h1, OMat.loc.below r h2, (Chg.of_below (M := fp) h2)⟩
    · simp only [if_neg hS]
      refine use_any S W L hC.out (by omega) fp a len cap ss w r n h0 h1 HV.out.wide ?_
      exact valid_once HV.out (by omega) (Int.ediv_nonneg h0 (by omega)))
  go_enter Try.func25, Try.ntmps25
  go_wp2_with fail
  refine (rcheck_ok _ _ _ hC.out _).mono ?_
  rintro e w1 ⟨rfl, hb1⟩
  have F1 := Lib.hid (Fm.call hb1 F0.out); clear hb1
  have t0 := F1.out.h0; have t1 := F1.out.h1; have t2 := F1.out.h2
  have c0 := t0.cell 0 _ rfl; have c1 := t0.cell 1 _ rfl; have c2 := t0.cell 2 _ rfl; have d0 := t1.cell 0 _ rfl; have lt0 := t0.lt (by simp); have lt1 := t1.lt (by simp)
  go_wp2_with fail
  refine (rvalid_any S W L hC.out K a len cap ss _ (HR.out.below F1.out.below)).mono ?_
  rintro e w2 ⟨vb, rfl, hvb, hb2⟩
  obtain rfl : vb = true := hvb.2 HV.out
  have F2 := Lib.hid (Fm.call hb2 F1.out)
  clear t0 t1 t2 c0 c1 c2 d0 lt0 lt1 hb2 hvb
  have d0 := F2.out.h1.cell 0 _ rfl
  have m1 : ¬ n < 0 := by omega
  have m2 : ¬ 1048576 < n := by omega
  go_wp2_with fail
  refine (rcopy_any K a len cap ss _ (HR.out.below F2.out.below) hl8 HSM.out.2).mono ?_
  rintro e w3 ⟨oa, on, oc, rfl, ho3, hb3⟩
  have hs2 := F2.out.size
  simp only [List.length_append, List.length_cons, List.length_nil, Nat.zero_add] at hs2
  have F3 := Lib.hid ((Fm.call hb3 F2.out).more (.cells #[.slice oa on oc] 33))
  have O3 := Lib.hid (OMat.loc.below (ho3.ge (B' := w.heap.size + 3) (by omega)).bt ((Below.refl _ _).alloc (Nat.le_refl _) (.cells #[.slice oa on oc] 33)))
  have X3 := Lib.hid (Has.new w3 [.slice oa on oc] 33)
  have hs3 : w.heap.size + 3 ≤ w3.heap.size := by have := hb3.size; omega
  clear d0 hb3 ho3 hs2
  have t0 := F3.out.h0; have t2 := F3.out.h2
  have c0 := t0.cell 0 _ rfl; have c1 := t0.cell 1 _ rfl; have c2 := t0.cell 2 _ rfl; have lt0 := t0.lt (by simp); have lt2 := t2.lt (by simp); have e0 := t2.cell 0 _ rfl; have ef := t2.free; have x0 := X3.out.cell 0 _ rfl
  go_wp2
  go_region_held3 (fun w' => w'.cell? ⟨w3.heap.size, 0, none⟩ = some (.slice oa on oc) ∧ w'.cell? ⟨w.heap.size, 0, none⟩ = some (.int .i64 S) ∧ w'.cell? ⟨w.heap.size, 1, none⟩ = some (.int .i64 W) ∧ w'.cell? ⟨w.heap.size, 2, none⟩ = some (.int .i64 L)) (((try dsimp only); (try go_split_ands); (repeat' apply And.intro); all_goals (first | assumption | (refine hc5.cell (fun h => by have := h.1; have := h.2; omega) ?_; assumption) | go_cell | go_keep)))
    (first
      | (go_at_call 43; refine (US.out (Bt (w.heap.size + 3) w3.heap.size) oa on oc _ (by exact OMat.loc.below O3.out ((Below.refl _ _).drew))).mono ?_; rintro e w5 ⟨rfl, ho5, hc5⟩; have e5 := hc5.cell (fun h => by have := h.1; omega) e0; have ef5 := hc5.frz (o := 0) (fun h => by have := h.1; omega) lt2 (ef 0); have l5 := Nat.lt_of_lt_of_le lt2 hc5.size))
  all_goals
    go_wp2
    refine bodyPost_ret (v := .tuple #[.agg #[.slice oa on oc], .bool (thit S L ss n), .int .i64 0]) (by simp [results, Try.results25, go_sem, e5]) rfl ⟨oa, on, oc, rfl, ?_, ?_⟩
    · exact (OMat.loc.chg (M := fun k => k = w.heap.size + 1 + 1) ho5 (Chg.setCell (M := fun k => k = w.heap.size + 1 + 1) (Chg.refl _) (fun _ => rfl) _) (fun k hk _ e => by have := hk.1; omega)).of_bt (by omega)
    · exact (((F3.out.chg.trans (Chg.of_below (M := Non) ((Below.refl _ _).drew)) (fun _ _ h => h)).trans (hc5.mono (N := Bt (w.heap.size + 3) w3.heap.size) (fun _ _ h => h)) (fun k hk h => by have := h.1; omega)).setCell (p := ⟨w.heap.size + 1 + 1, 0, none⟩) (fun h => by simp at h; omega) (.slice oa on oc)).below0
end Go.Proofs.Ytdkpfifnegndmaa
