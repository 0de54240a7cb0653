/-
  The document's Of (lines that can be there).
-/
import Derived.Test.YtlpelpjcbclemaaMaG
import Derived.Test.YtlpelpjcbclemaaZMaV
namespace Go.Proofs.Ytlpelpjcbclemaa
open Go.RowKit

def ofO (S W : Nat) : List Int := List.replicate S (W : Int)
theorem ofO_len (S W : Nat) : (ofO S W).length = S := List.length_replicate
theorem yof_st {S W : Nat} {ss : List (List Int)} (h : ValidP S W ss) : YSt ss.flatten S W (ofM ss) (ofO S W) := by
  have hm := of_st h
  refine ⟨hm.len, ofO_len S W, fun s g hs => ?_⟩
  have hlt : s < S := by have := (List.getElem?_eq_some_iff.1 hs).1; rw [hm.len] at this; exact this
  exact ⟨W, by unfold ofO; rw [List.getElem?_replicate, if_pos hlt], hm.set s g hs, Nat.le_refl _, fun i y k => by have := k.lt; have := (hm.set s g hs).len; omega⟩

set_option maxRecDepth 100000 in
set_option maxHeartbeats 4000000 in
theorem yrof_any (S W L : Nat) (hc : COk S W L) (K : Nat → Prop) (a : Option Addr) (len cap : Nat) (ss : List (List Int)) (hv : ValidP S W ss) (w : World) (r : Mat K w a len cap ss) :
    Calls Try.prog 36 #[CV S W L, .agg #[.slice a len cap]] w (YRet (ofM ss) (ofO S W) w) := by
  have hC := Lib.hid hc
  obtain ⟨g1, g2, g3, g4, g5, g6⟩ := hc
  have F0 := Lib.hid (Fm.new (Fm.new (Fm.new (Fm.start Non w) rfl [.int .i64 S, .int .i64 W, .int .i64 L] 26) (by simp) [.slice a len cap] 44) (by simp) [.slice none 0 0, .slice none 0 0] 31)
  have AO := Lib.hid (fun (w' : World) (hb : Below w.heap.size w w') => rof_any S W L hC.out K a len cap ss hv w' (Mat.below r hb))
  have HST := Lib.hid (yof_st hv)
  clear hv r
  have hfd : ∀ (a : Option Addr) (n c : Nat) (w : World), (Instr.field 71 (.agg #[.slice a n c]) 0).run Try.prog w = .ok (.slice a n c) w := fun _ _ _ _ => by kernel_rfl
  go_enter Try.func36, Try.ntmps36
  go_wp2_with fail
  refine (AO.out _ F0.out.below).mono ?_
  rintro e w1 h1
  obtain ⟨ta, tc, rfl, ho1, hb1⟩ := StRet.fx h1 HST.out.len
  have s1 := (Fm.call hb1 F0.out).size
  simp only [List.length_append, List.length_cons, List.length_nil, Nat.zero_add] at s1
  have F1 := Lib.hid ((Fm.call hb1 F0.out).more (.cells #[.slice ta S tc, .slice none 0 0] 31))
  have X1 := Lib.hid (Has.new w1 [.slice ta S tc, .slice none 0 0] 31)
  have O1 := Lib.hid (OCub.ka (o := .cells #[.slice ta S tc, .slice none 0 0] 31) ho1.bt1)
  simp only [World.size_alloc] at O1
  have c0 := F1.out.h0.cell 0 _ rfl; have lt0 := F1.out.h0.lt (by simp)
  clear h1 ho1 hb1 F0 AO
  go_wp2
  clear c0 lt0
  go_loopw [13] (fun i wr => ∃ (k N : Nat) (v : Value) (vs : List Value) (fps : Nat → Nat → Prop), k ≤ S ∧ i = .int .i64 k ∧ Fm Non w wr [[.int .i64 S, .int .i64 W, .int .i64 L], [.slice a len cap], [.slice none 0 0, .slice none 0 0]] ∧ Has wr w1.heap.size [.slice ta S tc, v] ∧ OCub wr (Bt (w.heap.size + 3) w1.heap.size) (.slice ta S tc) (ofM ss) ∧ w1.heap.size + 1 ≤ N ∧ Grw OInt 3 wr (w1.heap.size + 1) N v vs fps (ofO k W)) (fun i _ => S - (intOf i).toNat)
  case atStart => exact ⟨0, _, _, _, _, Nat.zero_le _, rfl, F1.out, X1.out, OwnRow.wid _ _ _ _ _ _ (fun j hj => ⟨by have := hj.1; omega, hj.2⟩) O1.out, Nat.le_refl _, Grw.nil OInt 3 _ _ (by simp)⟩
  case round =>
    obtain ⟨k, N, v, vs, fps, hk, rfl, f2, x2, o2, hN1, g2⟩ := hrel
    obtain ⟨va, vc, rfl⟩ := g2.form (ofO_len k W)
    have F2 := Lib.hid f2; have X2 := Lib.hid x2; have G2 := Lib.hid g2; have O2 := Lib.hid o2
    have c1 := f2.h0.cell 1 _ rfl; have lt0 := f2.h0.lt (by simp)
    have y0 := x2.cell 0 _ rfl; have y1 := x2.cell 1 _ rfl; have yf := x2.free; have ly := x2.lt (by simp)
    clear f2 x2 g2 o2
    by_cases hlt : k < S
    · have Q2 := Lib.hid (G2.out.alloc OInt.loc (.cells #[.int .i64 W] 3))
      have B2 := Lib.hid (Blk.new wr [.int .i64 W] 3)
      have X3 := Lib.hid (X2.out.old (o := .cells #[.int .i64 W] 3) ly)
      have F3 := Lib.hid (F2.out.more (.cells #[.int .i64 W] 3))
      have O3 := Lib.hid (OCub.ka (o := .cells #[.int .i64 W] 3) O2.out)
      have SZ := Lib.hid (show wr.heap.size < (wr.alloc (.cells #[.int .i64 W] 3)).heap.size by simp)
      have OK := Lib.hid (ofO_len k W)
      go_wp2_with (at_builtin; refine wpList_append_n k rfl _ _ 22 rfl 3 Try.underlying22 info_int rfl OInt.loc Q2.out rfl wr.heap.size (.int .i64 W) 3 B2.out rfl (f := fun _ => False) (x := (W : Int)) ⟨rfl, by omega, by omega⟩ (fun _ h => h.elim) rfl OK.out (by omega) (by decide) ?_; intro g cap' w4 hap; have X4 := hap.out.chg.has X3.out (by have := SZ.out; omega) (fun e => by have := (Q2.out.own _ e).1; omega); have z0 := X4.cell 0 _ rfl; have z1 := X4.cell 1 _ rfl; have zf := X4.free; have zl := X4.lt (by simp))
      have G4 := Lib.hid hap.out.grw
      have nw : ∀ j, (Value.slice va k vc).ownBlock = some j → w1.heap.size + 1 ≤ j := fun j e => (Q2.out.own _ e).1
      have F4 := Lib.hid (F3.out.chgd hap.out.chg (fun j hj => .inr (by have := nw j hj; simp; omega)))
      have O4 := Lib.hid (OCub.loc.chg O3.out hap.out.chg (fun j hj _ e => by have := nw j e; have := hj.2; omega))
      have ZX := Lib.hid X4
      have s4 := hap.out.chg.size
      clear hap X4 z0 z1 zf zl
      go_roundw
      case rel =>
        have ck : Chg (fun j => j = w1.heap.size) w4 (w4.setCell ⟨w1.heap.size, 1, none⟩ (.slice (some ⟨g, 0, none⟩) (k + 1) cap')) := Chg.setCell (M := fun j => j = w1.heap.size) (Chg.refl _) (fun _ => rfl) _
        have h9 := G4.out.chg OInt.loc ck (fun j h1 _ e => by omega)
        have e9 : ofO k W ++ [(W : Int)] = ofO (k + 1) W := by unfold ofO; rw [List.replicate_succ']
        rw [e9] at h9
        exact ⟨k + 1, _, _, _, _, by omega, by go_num, F4.out.far (.inr (by simp; omega)) _, ZX.out.set1 _, OCub.loc.chg O4.out ck (fun j hj _ e => by have := hj.2; omega), by have := SZ.out; have := X2.out.lt (by simp); omega, h9⟩
      case measure => simp [intOf]; omega
    · have hkS : k = S := by omega
      subst hkS
      have e0 := F2.out.h2.cell 0 _ rfl; have e1 := F2.out.h2.cell 1 _ rfl; have ef := F2.out.h2.free; have lt2 := F2.out.h2.lt (by simp)
      have D2 := Lib.hid (G2.out.done (by rw [ofO_len]; omega)).bt1
      go_wp2
      refine bodyPost_ret (v := YV ta k tc va k vc) (by simp [results, Try.results36, go_sem, e0, e1]) rfl ⟨ta, k, tc, va, k, vc, _, _, rfl, OY.ge (OY.two (OY.mk3 O2.out D2.out (.inl (by omega)) (by omega) (Nat.le_refl _) (w.heap.size + 3) (Nat.le_refl _) (by omega)) (show w.heap.size + 2 < w.heap.size + 3 by omega) (Nat.le_refl _)) (by omega), ((F2.out.set 2 0 _ rfl (by simp) _).set 2 1 _ rfl (by simp) _).below⟩
end Go.Proofs.Ytlpelpjcbclemaa
