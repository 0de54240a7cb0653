/-
  must.Touch: the state behind the use of a line.
-/
import Derived.Test.YtikhbijobkkhgaaMuK
namespace Go.Proofs.Ytikhbijobkkhgaa
open Go.RowKit

def touchM (S W : Nat) (m : List (List (List Int))) (n : Int) : List (List (List Int)) := if S = 0 then m else m.set (setN S n) (useS W n (m.getD (setN S n) []))
theorem PS.lns {U : List Int} {S s : Nat} (hU : U.length ≤ 1000) : Lns U (PS U S s) := ⟨fun _x h => ⟨h.2.2.2, h.1, h.2.1⟩, hU⟩
theorem MSt.fews {U : List Int} {S W : Nat} {m : List (List (List Int))} (h : MSt U S W m) (hU : U.length ≤ 1000) (hS : S ≤ 8) (hW : W ≤ 4) : Fews m :=
  ⟨by rw [h.len]; omega, fun g hg => by
    obtain ⟨s, hs⟩ := List.getElem?_of_mem hg
    have hw := h.set s g hs
    refine ⟨by rw [hw.len]; omega, fun l hl => ?_⟩
    obtain ⟨i, hi⟩ := List.getElem?_of_mem hl
    exact ((PS.lns hU).short hw i l hi).2⟩
theorem PS.self {U : List Int} {S : Nat} (hS : 0 < S) {n : Int} (h0 : 0 ≤ n) (h1 : n ≤ 1048576) (hU : n ∈ U) : PS U S (setN S n) n := ⟨h0, h1, (setN_int hS n).symm, hU⟩
theorem touch_st {U : List Int} {S W : Nat} {m : List (List (List Int))} (h : MSt U S W m) (hW : 0 < W) {n : Int} (h0 : 0 ≤ n) (h1 : n ≤ 1048576) (hU : n ∈ U) : MSt U S W (touchM S W m n) := by
  unfold touchM
  split
  · exact h
  · rename_i hS
    have hS : 0 < S := by omega
    obtain ⟨g, hg, hgd, hw⟩ := h.at (setN_lt hS n)
    refine ⟨by rw [List.length_set]; exact h.len, fun s g' hs => ?_⟩
    rw [List.getElem?_set] at hs
    split at hs
    · rename_i e
      split at hs
      · cases hs
        rw [← e, hgd]
        exact (useS_spec hw hW (PS.self hS h0 h1 hU)).1
      · cases hs
    · exact h.set s g' hs
theorem OwnRow.narrow {α : Type} {R : Ow α} {t : TypeId} {w : World} {B A : Nat} {v : Value} {xs : List α} (h : OwnRow R t w (Ge B) v xs) (hA : A ≤ B) : OwnRow R t w (Bt A w.heap.size) v xs := OwnRow.wid t w _ _ v xs (fun _k hk => ⟨Nat.le_trans hA hk.1, hk.2⟩) h.lt
theorem OwnRow.ge {α : Type} {R : Ow α} {t : TypeId} {w : World} {B A C : Nat} {v : Value} {xs : List α} (h : OwnRow R t w (Bt B C) v xs) (hA : A ≤ B) : OwnRow R t w (Ge A) v xs := OwnRow.wid t w _ _ v xs (fun _k hk => Nat.le_trans hA hk.1) h

set_option maxHeartbeats 4000000 in
theorem touch_any (U : List Int) (hU : U.length ≤ 1000) (S W L : Nat) (hc : COk S W L) (m : List (List (List Int))) (hm : MSt U S W m) (K : Nat → Prop) (a : Option Addr) (len cap : Nat) (n : Int) (hn : 0 ≤ n) (hn1 : n ≤ 1048576) (hnU : n ∈ U) (w : World) (r : Cube K w a len cap m) :
    Calls Try.prog 19 #[CV S W L, .agg #[.slice a len cap], .int .i64 n] w (StRet (touchM S W m n) w) := by
  have hl := r.hlen; have h6 := r.hsz
  have hS : len = S := by rw [← hl]; exact hm.len
  subst hS
  have hC := Lib.hid hc
  obtain ⟨g1, g2, g3, g4, g5, g6⟩ := hc
  have F0 := Lib.hid (Fm.new (Fm.new (Fm.new (Fm.start Non w) rfl [.int .i64 len, .int .i64 W, .int .i64 L] 26) (by simp) [.slice a len cap] 30) (by simp) [.slice none 0 0] 30)
  have CP := Lib.hid (fun (w' : World) (hb : Below w.heap.size w w') => acopy_any K a len cap m w' (r.below (RSl.stays (RSl.stays RInt.stays)) hb) (hm.fews hU (by omega) (by omega)))
  have SE := Lib.hid (fun w => mset_any len W L hC.out a len cap rfl n hn (by omega) w)
  have HR := Lib.hid r; have HM := Lib.hid hm; have HL := Lib.hid hl
  clear r hm
  by_cases h0 : len = 0
  · subst h0
    rw [show setI 0 n = -1 from rfl] at SE
    have HT := Lib.hid (show touchM 0 W m n = m from rfl)
    go_enter Try.func19, Try.ntmps19
    go_wp2_with fail
    refine (CP.out _ F0.out.below).mono ?_
    rintro e w1 ⟨oa, on, oc, rfl, ho1, hb1⟩
    have F1 := Lib.hid ((Fm.call hb1 F0.out).more (.cells #[.slice oa on oc] 30))
    have X1 := Lib.hid (Has.new w1 [.slice oa on oc] 30)
    have O1 := Lib.hid (OCub.loc.below (ho1.narrow (A := w.heap.size + 3) (by simp)) ((Below.refl _ _).alloc (Nat.le_refl _) (.cells #[.slice oa on oc] 30)))
    have s1 := (Fm.call hb1 F0.out).size
    simp only [List.length_append, List.length_cons, List.length_nil, Nat.zero_add] at s1
    have t1 := Fm.call hb1 F0.out
    have c0 := t1.h0.cell 0 _ rfl; have c1 := t1.h0.cell 1 _ rfl; have c2 := t1.h0.cell 2 _ rfl; have lt0 := t1.h0.lt (by simp); have e0 := t1.h1.cell 0 _ rfl; have lt1 := t1.h1.lt (by simp)
    clear ho1 hb1 t1
    go_wp2_with fail
    refine (SE.out _).mono ?_
    rintro e w2 ⟨rfl, hb2⟩
    clear c0 c1 c2 lt0 e0 lt1
    have F2 := Lib.hid (Fm.call hb2 F1.out)
    have X2 := Lib.hid (X1.out.below hb2 (by simp))
    have O2 := Lib.hid (OCub.loc.below O1.out hb2)
    have c0 := X2.out.cell 0 _ rfl; have lt0 := X2.out.lt (by simp)
    have e0 := F2.out.h2.cell 0 _ rfl; have ef := F2.out.h2.free; have lt1 := F2.out.h2.lt (by simp)
    clear hb2
    go_wp2
    refine bodyPost_ret (v := .agg #[.slice oa on oc]) (by simp [results, Try.results19, go_sem, e0]) rfl ⟨oa, on, oc, rfl, ?_, (F2.out.set 2 0 [.slice none 0 0] rfl (by simp) _).below⟩
    rw [HT.out]
    exact (OCub.loc.chg (M := fun j => j = w.heap.size + 2) O2.out (Chg.setCell (M := fun j => j = w.heap.size + 2) (Chg.refl _) (fun _ => rfl) _) (fun j hj _ e => by have := hj.1; omega)).ge (by omega)
  · have hlt := setN_lt (show 0 < len by omega) n
    have hPn := PS.self (show 0 < len by omega) hn hn1 hnU
    rw [show setI len n = ((setN len n : Nat) : Int) from by unfold setI; rw [if_neg h0, setN_int (by omega)]] at SE
    obtain ⟨g, hg, hgd, hgs⟩ := HM.out.at hlt
    have HT := Lib.hid (show touchM len W m n = m.set (setN len n) (useS W n g) from by unfold touchM; rw [if_neg h0, hgd])
    have AG := Lib.hid (fun (w' : World) (hb : Below w.heap.size w w') => age_any len W L hC.out m HM.out K a len cap n hn (by omega) w' (HR.out.below (RSl.stays (RSl.stays RInt.stays)) hb))
    rw [show ageN len W m n = plc g n from ageN_found h0 hgd] at AG
    have HG := Lib.hid hg; have HS := Lib.hid hgs; have HP := Lib.hid hPn
    clear hg hgd hgs hPn
    generalize setN len n = s at *
    obtain ⟨b, o, g', ra, rl, rc, rfl, hx, hcw, hrx, _, hbw⟩ := Rows.get HR.out hlt
    have hgg : g' = g := by rw [HG.out] at hx; cases hx; rfl
    subst hgg
    clear hx
    have HRX := Lib.hid hrx; clear hrx
    have US := Lib.hid (fun (w' : World) (hb : Below w.heap.size w w') (hbk : Nat) (hcc : w'.cell? ⟨hbk, 0, none⟩ = some (.int .i64 (plc g' n : Nat))) => ause_any U (PS U len s) (PS.lns hU) W (by omega) (by omega) g' HS.out n HP.out K ra rl rc hbk w' (HRX.out.below (RSl.stays RInt.stays) hb) hcc)
    have hs0 : (0 : Int) ≤ (s : Int) := by omega
    have hs1 : (s : Int) < (len : Int) := by omega
    generalize plc g' n = hh at *
    go_enter Try.func19, Try.ntmps19
    go_wp2_with fail
    refine (CP.out _ F0.out.below).mono ?_
    rintro e w1 ⟨oa, on, oc, rfl, ho1, hb1⟩
    have F1 := Lib.hid ((Fm.call hb1 F0.out).more (.cells #[.slice oa on oc] 30))
    have X1 := Lib.hid (Has.new w1 [.slice oa on oc] 30)
    have O1 := Lib.hid (OCub.loc.below (ho1.narrow (A := w.heap.size + 3) (by simp)) ((Below.refl _ _).alloc (Nat.le_refl _) (.cells #[.slice oa on oc] 30)))
    have s1 := (Fm.call hb1 F0.out).size
    simp only [List.length_append, List.length_cons, List.length_nil, Nat.zero_add] at s1
    have t1 := Fm.call hb1 F0.out
    have c0 := t1.h0.cell 0 _ rfl; have c1 := t1.h0.cell 1 _ rfl; have c2 := t1.h0.cell 2 _ rfl; have lt0 := t1.h0.lt (by simp); have e0 := t1.h1.cell 0 _ rfl; have lt1 := t1.h1.lt (by simp)
    clear ho1 hb1 t1
    go_wp2_with fail
    refine (SE.out _).mono ?_
    rintro e w2 ⟨rfl, hb2⟩
    clear c0 c1 c2 lt0 e0 lt1
    have F2 := Lib.hid (Fm.call hb2 F1.out)
    have X2 := Lib.hid (X1.out.below hb2 (by simp))
    have O2 := Lib.hid (OCub.loc.below O1.out hb2)
    have s2 := hb2.size
    simp only [World.size_alloc] at s2
    have c0 := F2.out.h0.cell 0 _ rfl; have c1 := F2.out.h0.cell 1 _ rfl; have c2 := F2.out.h0.cell 2 _ rfl; have lt0 := F2.out.h0.lt (by simp)
    have e0 := F2.out.h1.cell 0 _ rfl; have lt1 := F2.out.h1.lt (by simp)
    clear hb2
    go_wp2_with fail
    refine (AG.out _ F2.out.below).mono ?_
    rintro e w3 ⟨rfl, hb3⟩
    have s3 := hb3.size
    have F3 := Lib.hid ((Fm.call hb3 F2.out).more (.cells #[.int .i64 hh] 3)).drew
    have X3 := Lib.hid ((X2.out.below hb3 (by omega)).old (o := .cells #[.int .i64 hh] 3) (by omega)).drew
    have H3 := Lib.hid (Has.new w3 [.int .i64 hh] 3).drew
    have O3 := Lib.hid (OCub.loc.below O2.out (hb3.trans (((Below.refl _ _).alloc s3 (.cells #[.int .i64 hh] 3)).drew)))
    clear c0 c1 c2 lt0 e0 lt1 hb3
    obtain ⟨ob, obc, u, fq, p⟩ := OwnRow.pick OMat.loc O3.out HG.out
    have pf := p.form
    rw [HL.out] at pf
    simp only [Value.slice.injEq] at pf
    obtain ⟨pf1, pf2, pf3⟩ := pf
    subst pf1
    obtain rfl : len = on := pf2.symm
    obtain rfl : obc = oc := pf3.symm
    have x0 := X3.out.cell 0 _ rfl; have e0 := F3.out.h1.cell 0 _ rfl; have h0c := H3.out.cell 0 _ rfl
    have cx := (F3.out.below.cell (p := ⟨b, o + s, none⟩) hbw).trans hcw
    have p0 := p.cell; have p1 := p.free; have p2 := p.lt; have p3 := p.hcap
    rw [HL.out] at p3
    have po := p.own
    have n1 : ob ≠ w1.heap.size := by have := po.2; omega
    have n2 : ob ≠ w.heap.size + 1 := by have := po.1; omega
    have n3 : ob ≠ b := by have := po.1; omega
    have i1 : w.heap.size + 1 < w3.heap.size := by omega
    have i2 : w1.heap.size < w3.heap.size := by omega
    have i3 : b < w3.heap.size := by omega
    have PP := Lib.hid p
    clear p hcw
    go_wp2
    go_region_held3 (fun w' => w'.cell? ⟨w1.heap.size, 0, none⟩ = some (.slice (some ⟨ob, 0, none⟩) len obc) ∧ w'.cell? ⟨w.heap.size + 1, 0, none⟩ = some (.slice (some ⟨b, o, none⟩) len cap) ∧ w'.cell? ⟨b, o + s, none⟩ = some (.slice ra rl rc)) (((try dsimp only); (try go_split_ands); (repeat' apply And.intro); all_goals (repeat (first | assumption | (refine cell_put n1 ?_) | (refine cell_put n2 ?_) | (refine cell_put n3 ?_) | (refine cell_later hb5 ?_)))))
      (first | (go_at_call 44; ((with_reducible refine (US.out _ F3.out.below w3.heap.size h0c).mono ?_); rintro e w5 ⟨v5, rfl, ho5, hb5⟩; obtain ⟨vn, va, vc, rfl⟩ : ∃ n a c, v5 = .slice a n c := (by obtain ⟨a, c, h⟩ := ho5.form; exact ⟨_, a, c, h⟩); have f1 := cell_later hb5 p0; have f2 := frz_later hb5 p2 p1; have f3 : ob < w5.heap.size := Nat.lt_of_lt_of_le p2 hb5.size)))
    have HO := Lib.hid ho5.lt
    have sw := Lib.hid (PP.out.swap w5 _ (.slice va vn vc) _ (Chg.of_below hb5) HO.out (fun i hi => ⟨.inr hi.1, hi.2⟩))
    have F5 := Lib.hid ((Fm.call hb5 F3.out).far (p := ⟨ob, s, none⟩) (.inr (by have := po.1; simp; omega)) (.slice va vn vc))
    have X5 := Lib.hid (((X3.out.below hb5 (by simp; omega)).other (p := ⟨ob, s, none⟩) (v := .slice va vn vc) (fun e => n1 e.symm)))
    clear ho5 hb5 f1 f2 f3 x0 e0 h0c cx p0 p1 p2
    have c0 := X5.out.cell 0 _ rfl; have lt0 := X5.out.lt (by simp)
    have e0 := F5.out.h2.cell 0 _ rfl; have ef := F5.out.h2.free; have lt1 := F5.out.h2.lt (by simp)
    go_wp2
    refine bodyPost_ret (v := .agg #[.slice (some ⟨ob, 0, none⟩) len obc]) (by simp [results, Try.results19, go_sem, e0]) rfl ⟨some ⟨ob, 0, none⟩, len, obc, rfl, ?_, (F5.out.set 2 0 [.slice none 0 0] rfl (by simp) _).below⟩
    rw [HT.out]
    exact OwnRow.wid _ _ _ _ _ _ (fun i hi => hi.elim (fun h => by have := h.1; unfold Ge; omega) (fun h => by unfold Ge; simp at h; omega)) (OCub.loc.chg (M := fun j => j = w.heap.size + 2) sw.out (Chg.setCell (M := fun j => j = w.heap.size + 2) (Chg.refl _) (fun _ => rfl) _) (fun j hj _ e => by rcases hj with h | h; (have := h.1; omega); (simp at h; omega)))
end Go.Proofs.Ytikhbijobkkhgaa
