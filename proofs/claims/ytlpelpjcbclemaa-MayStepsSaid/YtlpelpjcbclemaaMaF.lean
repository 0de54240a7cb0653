/-
  may.Touch: the state behind the use of a line.
-/
import Derived.Deep.RegionHeld3
import Derived.Test.YtlpelpjcbclemaaZMaD
import Derived.Test.YtlpelpjcbclemaaMuN
namespace Go.Proofs.Ytlpelpjcbclemaa
open Go.RowKit

theorem YSt.mst {U : List Int} {S W : Nat} {m : List (List (List Int))} {o : List Int} (h : YSt U S W m o) : MSt U S W m := ⟨h.len, fun s g hs => by obtain ⟨k, _, hy⟩ := h.set s g hs; exact hy.ws⟩
def touchYm (S W : Nat) (m : List (List (List Int))) (o : List Int) (n : Int) : List (List (List Int)) := if S = 0 then m else m.set (setN S n) (useY W n (ageY S W m o n) (m.getD (setN S n) []))
def touchYo (S W : Nat) (m : List (List (List Int))) (o : List Int) (n : Int) : List Int := if S = 0 then o else o.set (setN S n) ((tick W (ageY S W m o n) (o.getD (setN S n) 0).toNat : Nat) : Int)
theorem touchY_len {S W : Nat} {m : List (List (List Int))} {o : List Int} {n : Int} : (touchYm S W m o n).length = m.length ∧ (touchYo S W m o n).length = o.length := by
  unfold touchYm touchYo; split <;> simp
theorem ytouch_st {U : List Int} {S W : Nat} {m : List (List (List Int))} {o : List Int} (h : YSt U S W m o) (hW : 0 < W) {n : Int} (h0 : 0 ≤ n) (h1 : n ≤ 1048576) (hU : n ∈ U) : YSt U S W (touchYm S W m o n) (touchYo S W m o n) := by
  by_cases hS : S = 0
  · unfold touchYm touchYo; rw [if_pos hS, if_pos hS]; exact h
  · refine ⟨by rw [touchY_len.1]; exact h.len, by rw [touchY_len.2]; exact h.olen, fun s g' hs => ?_⟩
    obtain ⟨g, k, hg, hk, hgd, hkd, hw⟩ := h.at (setN_lt (show 0 < S by omega) n)
    have hA := ageY_found (W := W) (n := n) hS hgd hkd
    unfold touchYm at hs
    unfold touchYo
    rw [if_neg hS] at hs
    rw [if_neg hS, hkd, Int.toNat_natCast, hA]
    rw [hA, hgd, List.getElem?_set] at hs
    rw [List.getElem?_set]
    split at hs
    · rename_i e
      split at hs
      · cases hs
        rw [if_pos e, if_pos (by rw [h.olen]; exact setN_lt (by omega) n)]
        exact ⟨_, rfl, e ▸ use_yset hw hW (PS.self (by omega) h0 h1 hU)⟩
      · cases hs
    · rename_i e
      rw [if_neg e]
      exact h.set s g' hs
theorem tick_yes {W h a : Nat} (h1 : a ≤ h) : ((tick W h a : Nat) : Int) = min ((a : Int) + 1) (W : Int) := by unfold tick; rw [if_pos h1]; omega
theorem tick_no {W h a : Nat} (h1 : ¬ a ≤ h) : tick W h a = a := by unfold tick; rw [if_neg h1]
theorem OY.setSets {w w2 : World} {B : Nat} {f1 f2 g1 : Nat → Prop} {a : Option Addr} {n c : Nat} {oa : Option Addr} {on oc : Nat} {m m' : List (List (List Int))} {o : List Int} (h : OY w B f1 f2 a n c oa on oc m o) (h1 : OCub w2 g1 (.slice a n c) m') (k : Chg f1 w w2) (hg : ∀ j, g1 j → (f1 j ∨ w.heap.size ≤ j)) (hB : B ≤ w.heap.size) :
    OY w2 B (fun j => g1 j ∧ j < w2.heap.size) f2 a n c oa on oc m' o :=
  ⟨h1.lt, OInts.loc.chg h.oth k (fun j hj _ hf => h.ap j hf hj), fun j hj => ⟨by rcases hg j hj.1 with h' | h'; (exact (h.s1 j h').1); omega, hj.2⟩, fun j hj => ⟨(h.s2 j hj).1, Nat.lt_of_lt_of_le (h.s2 j hj).2 k.size⟩, fun j hj hj2 => by
    rcases hg j hj.1 with h' | h'
    · exact h.ap j h' hj2
    · have := (h.s2 j hj2).2; omega⟩
theorem OY.setOther {w : World} {B : Nat} {f1 f2 : Nat → Prop} {a : Option Addr} {n c : Nat} {oa : Option Addr} {on oc : Nat} {m : List (List (List Int))} {o : List Int} (h : OY w B f1 f2 a n c oa on oc m o) {s : Nat} (hs : s < o.length) :
    ∃ b, oa = some ⟨b, 0, none⟩ ∧ f2 b ∧ b < w.heap.size ∧ (∃ v, w.cell? ⟨b, s, none⟩ = some v) ∧ w.frozen? ⟨b, s, none⟩ = false ∧ ∀ z : Int, -9223372036854775808 ≤ z → z ≤ 9223372036854775807 → OY (w.setCell ⟨b, s, none⟩ (.int .i64 z)) B f1 (fun j => Grown f2 w j ∧ j < w.heap.size) a n c oa on oc m (o.set s z) := by
  obtain ⟨b, cap, u, fq, p⟩ := OwnRow.pick OInt.loc h.oth (List.getElem?_eq_getElem hs)
  have pf := p.form
  simp only [Value.slice.injEq] at pf
  obtain ⟨pf1, pf2, pf3⟩ := pf
  refine ⟨b, pf1, p.own, p.lt, ⟨_, p.cell⟩, p.free, fun z h0 h1 => ?_⟩
  have c : Chg (fun j => j = b) w (w.setCell ⟨b, s, none⟩ (.int .i64 z)) := Chg.setCell (M := fun j => j = b) (Chg.refl _) (fun _ => rfl) _
  have hn := p.swap w (fun _ => False) (.int .i64 z) z (Chg.refl _) ⟨rfl, h0, h1⟩ (fun _ h => h.elim)
  refine ⟨OCub.loc.chg h.sets c (fun j hj _ e => h.ap j hj (e ▸ p.own)), by have := hn.lt; simpa using this, fun j hj => ⟨(h.s1 j hj).1, by simpa using (h.s1 j hj).2⟩, fun j hj => ⟨by rcases hj.1 with h' | h'; (exact (h.s2 j h').1); omega, by simpa using hj.2⟩, fun j hj hj2 => by
    rcases hj2.1 with h' | h'
    · exact h.ap j hj h'
    · omega⟩
theorem OY.cast {w : World} {B : Nat} {f1 f2 : Nat → Prop} {a : Option Addr} {n c : Nat} {oa : Option Addr} {on oc : Nat} {m m' : List (List (List Int))} {o o' : List Int} (h : OY w B f1 f2 a n c oa on oc m o) (e : m = m') (e' : o = o') : OY w B f1 f2 a n c oa on oc m' o' := e ▸ e' ▸ h
set_option maxHeartbeats 8000000 in
theorem ytouch_any (U : List Int) (hU : U.length ≤ 1000) (S W L : Nat) (hc : COk S W L) (m : List (List (List Int))) (o : List Int) (hm : YSt U S W m o) (K : Nat → Prop) (a : Option Addr) (len cap : Nat) (oa : Option Addr) (on oc : Nat) (n : Int) (hn : 0 ≤ n) (hn1 : n ≤ 1048576) (hnU : n ∈ U) (w : World) (r : YCub K w a len cap oa on oc m o) :
    Calls Try.prog 14 #[CV S W L, YV a len cap oa on oc, .int .i64 n] w (YRet (touchYm S W m o n) (touchYo S W m o n) w) := by
  have hl := r.cub.hlen; have h6 := r.cub.hsz; have hol := r.ints.hlen
  have hS : len = S := by rw [← hl]; exact hm.len
  have hO : on = S := by rw [← hol]; exact hm.olen
  subst hS
  subst hO
  have hC := Lib.hid hc
  obtain ⟨g1, g2, g3, g4, g5, g6⟩ := hc
  have F0 := Lib.hid (Fm.new (Fm.new (Fm.new (Fm.start Non w) rfl [.int .i64 on, .int .i64 W, .int .i64 L] 26) (by simp) [.slice a on cap, .slice oa on oc] 31) (by simp) [.slice none 0 0, .slice none 0 0] 31)
  have CP := Lib.hid (fun (w' : World) (hb : Below w.heap.size w w') => ycopy_any K a on cap oa on oc m o w' (r.below hb) (hm.mst.fews hU (by omega) (by omega)) (by omega))
  have SE := Lib.hid (fun w => yset_any on W L hC.out a on cap oa on oc rfl rfl n hn (by omega) w)
  have HR := Lib.hid r; have HM := Lib.hid hm; have HL := Lib.hid hl; have HOL := Lib.hid hol
  clear r hm hl hol
  by_cases h0 : on = 0
  · subst h0
    rw [show setI 0 n = -1 from rfl] at SE
    have HT := Lib.hid (show touchYm 0 W m o n = m from rfl); have HT2 := Lib.hid (show touchYo 0 W m o n = o from rfl)
    go_enter Try.func14, Try.ntmps14
    go_wp2_with fail
    refine (CP.out _ F0.out.below).mono ?_
    rintro e w1 h1
    obtain ⟨na, nc, no, noc, f1, f2, rfl, ho1, hb1⟩ := YRet.fix (S := 0) h1 HM.out.len HM.out.olen
    have F1 := Lib.hid ((Fm.call hb1 F0.out).more (.cells #[.slice na 0 nc, .slice no 0 noc] 31))
    have X1 := Lib.hid (Has.new w1 [.slice na 0 nc, .slice no 0 noc] 31)
    have O1 := Lib.hid ((ho1.ge (C := w.heap.size + 3) (by simp)).below ((Below.refl _ _).alloc (Nat.le_refl _) (.cells #[.slice na 0 nc, .slice no 0 noc] 31)))
    have t1 := Fm.call hb1 F0.out
    have c0 := t1.h0.cell 0 _ rfl; have c1 := t1.h0.cell 1 _ rfl; have c2 := t1.h0.cell 2 _ rfl; have lt0 := t1.h0.lt (by simp); have e0 := t1.h1.cell 0 _ rfl; have e1 := t1.h1.cell 1 _ rfl; have lt1 := t1.h1.lt (by simp)
    clear h1 ho1 hb1 t1
    go_wp2_with fail
    refine (SE.out _).mono ?_
    rintro e w2 ⟨rfl, hb2⟩
    clear c0 c1 c2 lt0 e0 e1 lt1
    have F2 := Lib.hid (Fm.call hb2 F1.out)
    have X2 := Lib.hid (X1.out.below hb2 (by simp))
    have O2 := Lib.hid (O1.out.below hb2)
    have x0 := X2.out.cell 0 _ rfl; have x1 := X2.out.cell 1 _ rfl; have lt0 := X2.out.lt (by simp)
    have e0 := F2.out.h2.cell 0 _ rfl; have e1 := F2.out.h2.cell 1 _ rfl; have ef := F2.out.h2.free; have lt1 := F2.out.h2.lt (by simp)
    clear hb2
    go_wp2
    refine bodyPost_ret (v := YV na 0 nc no 0 noc) (by simp [results, Try.results14, go_sem, e0, e1]) rfl ⟨na, 0, nc, no, 0, noc, f1, f2, rfl, ?_, ((F2.out.set 2 0 _ rfl (by simp) _).set 2 1 _ rfl (by simp) _).below⟩
    rw [HT.out, HT2.out]
    exact OY.ge (OY.two O2.out (show w.heap.size + 2 < w.heap.size + 3 by omega) (Nat.le_refl _)) (by omega)
  · have hlt := setN_lt (show 0 < on by omega) n
    have hPn := PS.self (show 0 < on by omega) hn hn1 hnU
    rw [show setI on n = ((setN on n : Nat) : Int) from by unfold setI; rw [if_neg h0, setN_int (by omega)]] at SE
    obtain ⟨g, k, hg, hk, hgd, hkd, hgs⟩ := HM.out.at hlt
    have HAF := Lib.hid (ageY_found (W := W) (n := n) h0 hgd hkd)
    have HT := Lib.hid (show touchYm on W m o n = m.set (setN on n) (useY W n (ageY on W m o n) g) from by unfold touchYm; rw [if_neg h0, hgd])
    have HT2 := Lib.hid (show touchYo on W m o n = o.set (setN on n) ((tick W (ageY on W m o n) k : Nat) : Int) from by unfold touchYo; rw [if_neg h0, hkd, Int.toNat_natCast])
    have AG := Lib.hid (fun (w' : World) (hb : Below w.heap.size w w') => yage_any on W L hC.out m o HM.out K a on cap oa on oc n hn (by omega) w' (HR.out.below hb))
    have HAW := Lib.hid (show ageY on W m o n ≤ W by rw [HAF.out]; exact Nat.le_trans (ageF_le hgs n) hgs.ole)
    have HG := Lib.hid hg; have HS := Lib.hid hgs; have HP := Lib.hid hPn; have HK := Lib.hid hk
    obtain ⟨qb, qp, rfl, hco, hbo, hso, _⟩ := HR.out.other hk
    have hkW := hgs.ole
    clear hg hgd hgs hPn hk hkd
    generalize setN on n = s at *
    obtain ⟨b, p, g', ra, rl, rc, rfl, hx, hcw, hrx, _, hbw⟩ := Rows.get HR.out.cub hlt
    have hgg : g' = g := by rw [HG.out] at hx; cases hx; rfl
    subst hgg
    clear hx
    have HRX := Lib.hid hrx; clear hrx
    generalize ageY on W m o n = hh at *
    have hhW := HAW.out
    have US := Lib.hid (fun (w' : World) (hb : Below w.heap.size w w') (hbk : Nat) (hcc : w'.cell? ⟨hbk, 0, none⟩ = some (.int .i64 hh)) => yuse_any U (PS U on s) (PS.lns hU) W (by omega) (by omega) g' HS.out.ws n HP.out hh hhW K ra rl rc hbk w' (HRX.out.below (RSl.stays RInt.stays) hb) hcc)
    have hs0 : (0 : Int) ≤ (s : Int) := by omega
    have hs1 : (s : Int) < (on : Int) := by omega
    go_enter Try.func14, Try.ntmps14
    go_wp2_with fail
    refine (CP.out _ F0.out.below).mono ?_
    rintro e w1 h1
    obtain ⟨na, nc, no, noc, f1, f2, rfl, ho1, hb1⟩ := YRet.fix h1 HM.out.len HM.out.olen
    have F1 := Lib.hid ((Fm.call hb1 F0.out).more (.cells #[.slice na on nc, .slice no on noc] 31))
    have X1 := Lib.hid (Has.new w1 [.slice na on nc, .slice no on noc] 31)
    have O1 := Lib.hid ((ho1.ge (C := w.heap.size + 3) (by simp)).below ((Below.refl _ _).alloc (Nat.le_refl _) (.cells #[.slice na on nc, .slice no on noc] 31)))
    have W1 := Lib.hid (show (∀ j, f1 j → j < w1.heap.size) ∧ (∀ j, f2 j → j < w1.heap.size) from ⟨fun j hj => (ho1.s1 j hj).2, fun j hj => (ho1.s2 j hj).2⟩)
    have s1 := (Fm.call hb1 F0.out).size
    simp only [List.length_append, List.length_cons, List.length_nil, Nat.zero_add] at s1
    have t1 := Fm.call hb1 F0.out
    have c0 := t1.h0.cell 0 _ rfl; have c1 := t1.h0.cell 1 _ rfl; have c2 := t1.h0.cell 2 _ rfl; have lt0 := t1.h0.lt (by simp); have e0 := t1.h1.cell 0 _ rfl; have e1 := t1.h1.cell 1 _ rfl; have lt1 := t1.h1.lt (by simp)
    clear h1 ho1 hb1 t1
    go_wp2_with fail
    refine (SE.out _).mono ?_
    rintro e w2 ⟨rfl, hb2⟩
    clear c0 c1 c2 lt0 e0 e1 lt1
    have F2 := Lib.hid (Fm.call hb2 F1.out)
    have X2 := Lib.hid (X1.out.below hb2 (by simp))
    have O2 := Lib.hid (O1.out.below hb2)
    have s2 := hb2.size
    simp only [World.size_alloc] at s2
    have c0 := F2.out.h0.cell 0 _ rfl; have c1 := F2.out.h0.cell 1 _ rfl; have c2 := F2.out.h0.cell 2 _ rfl; have lt0 := F2.out.h0.lt (by simp)
    have e0 := F2.out.h1.cell 0 _ rfl; have e1 := F2.out.h1.cell 1 _ rfl; have lt1 := F2.out.h1.lt (by simp)
    clear hb2
    go_wp2_with fail
    refine (AG.out _ F2.out.below).mono ?_
    rintro e w3 ⟨rfl, hb3⟩
    have s3 := hb3.size
    have F3 := Lib.hid ((Fm.call hb3 F2.out).more (.cells #[.int .i64 hh] 3)).drew
    have X3 := Lib.hid ((X2.out.below hb3 (by omega)).old (o := .cells #[.int .i64 hh] 3) (by omega)).drew
    have H3 := Lib.hid (Has.new w3 [.int .i64 hh] 3).drew
    have O3 := Lib.hid (O2.out.below (hb3.trans (((Below.refl _ _).alloc s3 (.cells #[.int .i64 hh] 3)).drew)))
    clear c0 c1 c2 lt0 e0 e1 lt1 hb3
    obtain ⟨ob, obc, u, fq, pk⟩ := OwnRow.pick OMat.loc O3.out.sets HG.out
    have pf := pk.form
    rw [HL.out] at pf
    simp only [Value.slice.injEq] at pf
    obtain ⟨pf1, _, pf3⟩ := pf
    subst pf1
    obtain rfl : obc = nc := pf3.symm
    have x0 := X3.out.cell 0 _ rfl; have e0 := F3.out.h1.cell 0 _ rfl; have h0c := H3.out.cell 0 _ rfl
    have cx := (F3.out.below.cell (p := ⟨b, p + s, none⟩) hbw).trans hcw
    have p0 := pk.cell; have p1 := pk.free; have p2 := pk.lt; have p3 := pk.hcap
    rw [HL.out] at p3
    have po := O3.out.s1 _ pk.own
    have pw := W1.out.1 _ pk.own
    have n1 : ob ≠ w1.heap.size := by omega
    have n2 : ob ≠ w.heap.size + 1 := by have := po.1; omega
    have n3 : ob ≠ b := by have := po.1; omega
    have i1 : w.heap.size + 1 < w3.heap.size := by omega
    have i2 : w1.heap.size < w3.heap.size := by omega
    have i3 : b < w3.heap.size := by omega
    have PK := Lib.hid pk
    clear pk hcw
    go_wp2
    go_region_held3 (fun w' => w'.cell? ⟨w1.heap.size, 0, none⟩ = some (.slice (some ⟨ob, 0, none⟩) on obc) ∧ w'.cell? ⟨w.heap.size + 1, 0, none⟩ = some (.slice (some ⟨b, p, none⟩) on cap) ∧ w'.cell? ⟨b, p + s, none⟩ = some (.slice ra rl rc)) (((try dsimp only); (try go_split_ands); (repeat' apply And.intro); all_goals (repeat (first | assumption | (refine cell_put n1 ?_) | (refine cell_put n2 ?_) | (refine cell_put n3 ?_) | (refine cell_later hb5 ?_)))))
      (first | (go_at_call 41; ((with_reducible refine (US.out _ F3.out.below w3.heap.size h0c).mono ?_); rintro e w5 ⟨v5, rfl, ho5, hb5⟩; obtain ⟨vn, va, vc, rfl⟩ : ∃ n a c, v5 = .slice a n c := (by obtain ⟨a, c, h⟩ := ho5.form; exact ⟨_, a, c, h⟩); have q1 := cell_later hb5 p0; have q2 := frz_later hb5 p2 p1; have q3 : ob < w5.heap.size := Nat.lt_of_lt_of_le p2 hb5.size)))
    have HO := Lib.hid ho5.lt
    have s5 := hb5.size
    simp only [World.size_drew, World.size_alloc] at s5
    have CQ := Lib.hid (show Chg (fun j => j = ob ∨ fq j) ((w3.alloc (.cells #[.int .i64 hh] 3)).drew) (w5.setCell ⟨ob, s, none⟩ (.slice va vn vc)) from (Chg.of_below hb5).setCell (fun _ => .inl rfl) _)
    have sw := Lib.hid (PK.out.swap w5 _ (.slice va vn vc) _ (Chg.of_below hb5) HO.out (fun i hi => ⟨.inr hi.1, hi.2⟩))
    have O5 := Lib.hid (OY.setSets O3.out sw.out (CQ.out.mono (fun j _ hj => hj.elim (fun e => e ▸ PK.out.own) (fun h => (PK.out.sub j h).1))) (fun j hj => hj) (by simp; omega))
    have F5 := Lib.hid ((Fm.call hb5 F3.out).far (p := ⟨ob, s, none⟩) (.inr (by have := po.1; simp; omega)) (.slice va vn vc))
    have X5 := Lib.hid (((X3.out.below hb5 (by simp; omega)).other (p := ⟨ob, s, none⟩) (v := .slice va vn vc) (fun e => n1 e.symm)))
    have H5 := Lib.hid (((H3.out.below hb5 (by simp)).other (p := ⟨ob, s, none⟩) (v := .slice va vn vc) (fun e => by have := po.2; simp at e; omega)))
    have F5h := Lib.hid F5.out
    clear x0 e0 h0c cx p0 p1 p2 q1 q2 q3 ho5 hb5
    obtain ⟨wv, hwv⟩ : ∃ wv : World, wv = w5.setCell ⟨ob, s, none⟩ (.slice va vn vc) := ⟨_, rfl⟩
    have hs5 : wv.heap.size = w5.heap.size := by rw [hwv]; simp
    rw [← hwv] at F5 X5 H5 O5 ⊢
    clear hwv F5h CQ sw HO PK O3 F3 X3 H3
    have e1 := F5.out.h1.cell 1 _ rfl; have c1 := F5.out.h0.cell 1 _ rfl; have x1 := X5.out.cell 1 _ rfl
    have co := (F5.out.below.cell (p := ⟨qb, qp + s, none⟩) hbo).trans hco
    have h0c := H5.out.cell 0 _ rfl
    have j1 : w.heap.size + 1 < wv.heap.size := by omega
    have j2 : w1.heap.size < wv.heap.size := by omega
    have j3 : qb < wv.heap.size := by omega
    have j4 : w3.heap.size < wv.heap.size := by omega
    have e2 := F5.out.h2.cell 0 _ rfl; have e3 := F5.out.h2.cell 1 _ rfl; have ef := F5.out.h2.free; have lt2 := F5.out.h2.lt (by simp)
    by_cases hkh : k ≤ hh
    · have hkd : decide (k ≤ hh) = true := by simpa using hkh
      have hkT := Lib.hid (tick_yes (W := W) hkh)
      obtain ⟨nb, hnb, hf2, hnl, ⟨v0, hv0⟩, hnf, SO⟩ := OY.setOther O5.out (s := s) (by rw [HOL.out]; exact hso)
      subst hnb
      have SOH := Lib.hid SO
      have nbb := O5.out.s2 nb hf2
      have nbw := W1.out.2 nb hf2
      have m1 : nb ≠ w1.heap.size := by omega
      have m2 : nb ≠ w.heap.size + 1 := by omega
      have m3 : nb ≠ qb := by omega
      have m4 : nb ≠ w.heap.size := by omega
      have kw : IntKind.i64.wrap ((k : Int) + 1) = (k : Int) + 1 := IntWalk.i64_in _ (by omega)
      clear SO hkh
      go_wp2
      go_quiet (fail)
      go_wp2
      go_region_held3 (fun w' => w'.cell? ⟨w1.heap.size, 1, none⟩ = some (.slice (some ⟨nb, 0, none⟩) on noc) ∧ w'.cell? ⟨w.heap.size + 1, 1, none⟩ = some (.slice (some ⟨qb, qp, none⟩) on oc) ∧ w'.cell? ⟨qb, qp + s, none⟩ = some (.int .i64 k) ∧ w'.cell? ⟨w.heap.size, 1, none⟩ = some (.int .i64 W)) (((try dsimp only); (try go_split_ands); (repeat' apply And.intro); all_goals (repeat (first | assumption | (refine cell_put m1 ?_) | (refine cell_put m2 ?_) | (refine cell_put m3 ?_) | (refine cell_put m4 ?_)))))
        (fail)
      have x0 := X5.out.cell 0 _ rfl
      have m5 : nb ≠ w.heap.size + 1 + 1 := by omega
      rw [← hkT.out]
      have O7 := Lib.hid ((SOH.out ((tick W hh k : Nat) : Int) (by omega) (by have := tick_le (W := W) (h := hh) hkW; omega)).below (below_drewN (Below.refl _ _) (nq + 1)))
      have F7 := Lib.hid ((F5.out.far (p := ⟨nb, s, none⟩) (.inr (by simp; omega)) (.int .i64 ((tick W hh k : Nat) : Int))).drewN (nq + 1))
      clear co e1 c1 h0c hv0 hnf SOH kw
      go_wp2
      refine bodyPost_ret (v := YV (some ⟨ob, 0, none⟩) on obc (some ⟨nb, 0, none⟩) on noc) (by simp [results, Try.results14, go_sem, e2, e3]) rfl ⟨some ⟨ob, 0, none⟩, on, obc, some ⟨nb, 0, none⟩, on, noc, _, _, rfl, OY.cast (OY.ge (OY.two O7.out (show w.heap.size + 2 < w.heap.size + 3 by omega) (Nat.le_refl _)) (by omega)) HT.out.symm HT2.out.symm, ((F7.out.set 2 0 _ rfl (by simp) _).set 2 1 _ rfl (by simp) _).below⟩
    · have hkd : decide (k ≤ hh) = false := by simpa using hkh
      have hkT := Lib.hid (tick_no (W := W) hkh)
      have x0 := X5.out.cell 0 _ rfl
      clear hkh
      go_wp2
      go_quiet (fail)
      go_wp2
      refine bodyPost_ret (v := YV (some ⟨ob, 0, none⟩) on obc no on noc) (by simp [results, Try.results14, go_sem, e2, e3]) rfl ⟨some ⟨ob, 0, none⟩, on, obc, no, on, noc, _, f2, rfl, OY.cast (OY.ge (OY.two (O5.out.below (below_drewN (Below.refl wv.heap.size wv) nq)) (show w.heap.size + 2 < w.heap.size + 3 by omega) (Nat.le_refl _)) (by omega)) HT.out.symm (show o = touchYo on W m o n by rw [HT2.out, hkT.out, set_same HK.out]), (((F5.out.set 2 0 _ rfl (by simp) _).set 2 1 _ rfl (by simp) _).drewN _).below⟩
end Go.Proofs.Ytlpelpjcbclemaa
