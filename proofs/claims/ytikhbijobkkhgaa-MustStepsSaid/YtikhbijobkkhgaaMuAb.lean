/-
  The document's Shaped, Valid.
-/
import Derived.Test.YtikhbijobkkhgaaMuU
namespace Go.Proofs.Ytikhbijobkkhgaa
open Go.RowKit

set_option maxHeartbeats 8000000 in
set_option maxRecDepth 100000 in
theorem rshaped_any (S W L : Nat) (hc : COk S W L) (K : Nat → Prop) (a : Option Addr) (len cap : Nat) (m : List (List (List Int))) (w : World) (r : Cube K w a len cap m) :
    Calls Try.prog 41 #[CV S W L, .slice a len cap] w (BoolRet (ValidM S W m) w) := by
  obtain ⟨g1, g2, g3, g4, g5, g6⟩ := hc
  have hmm := @run_makeMap Try.prog
  have hcp := r.hcap
  have HL := Lib.hid r.hlen
  have HR := Lib.hid r; clear r
  have F0 := Lib.hid (Fm.new (Fm.start Non w) rfl [.int .i64 S, .int .i64 W, .int .i64 L] 26)
  by_cases hlS : len = S
  · subst hlS
    have hne : ((len : Int) != (len : Int)) = false := by simp
    go_enter Try.func41, Try.ntmps41
    go_wp2
    go_loopw [19] (fun i wr => ∃ k : Nat, k ≤ len ∧ i = .int .i64 k ∧ Fm Non w wr [[.int .i64 len, .int .i64 W, .int .i64 L]] ∧ ∀ (s : Nat) g, s < k → m[s]? = some g → g.length = W ∧ SetV len s g) (fun i _ => len - (intOf i).toNat)
    case atStart => exact ⟨0, Nat.zero_le _, rfl, F0.out, fun s g h => absurd h (Nat.not_lt_zero _)⟩
    case round =>
      obtain ⟨k, hk, rfl, f1, u1⟩ := hrel
      have F1 := Lib.hid f1; have V1 := Lib.hid u1
      have c0 := f1.h0.cell 0 _ rfl; have c1 := f1.h0.cell 1 _ rfl; have c2 := f1.h0.cell 2 _ rfl; have lt0 := f1.h0.lt (by simp)
      clear f1 u1
      by_cases hlt : k < len
      · obtain ⟨b, o, g, ga, gl, gc, rfl, hg, hcg, hrg, _, hbw⟩ := Rows.get HR.out hlt
        have hgl := hrg.hlen; have hg7 := hrg.hcap
        have cw := (F1.out.below.cell (p := ⟨b, o + k, none⟩) hbw).trans hcg
        have GL := Lib.hid hg; have GLn := Lib.hid hgl
        have RG := Lib.hid hrg
        have q0 : (0 : Int) ≤ (k : Int) := by omega
        have q1 : (k : Int) < (len : Int) := by omega
        clear hg hcg hrg hgl
        by_cases hgW : gl = W
        · subst hgW
          have hne2 : ((gl : Int) != (gl : Int)) = false := by simp
          have MM := Lib.hid (Seen.made wr)
          have F2 := Lib.hid (F1.out.more (.map #[] 0))
          have sz1 : w.heap.size + 1 ≤ wr.heap.size := by simpa using F1.out.size
          obtain ⟨bm, hbm⟩ : ∃ bm, bm = wr.heap.size := ⟨_, rfl⟩
          have HBM := Lib.hid hbm
          have BM := Lib.hid (show w.heap.size + 1 ≤ bm by omega)
          have M0 := Lib.hid (show Seen (wr.alloc (.map #[] 0)) bm 0 [] by rw [hbm]; exact MM.out)
          have hpos : 0 < len := by omega
          clear hbm sz1
          go_wp2
          clear c0 c1 c2 lt0 cw
          rw [← HBM.out]
          clear HBM MM
          go_loopw [32] (fun i wr => ∃ i' : Nat, i' ≤ gl ∧ i = .int .i64 i' ∧ Fm Non w wr [[.int .i64 len, .int .i64 gl, .int .i64 L]] ∧ Seen wr bm (i' * 17592186044416) (g.take i').flatten ∧ Upto len k g i' 0) (fun i _ => gl - (intOf i).toNat)
          case atStart => exact ⟨0, Nat.zero_le _, rfl, F2.out, by simpa using M0.out, Upto.zero _ _ _⟩
          case round =>
            obtain ⟨i, hi, rfl, f1, m1, u1⟩ := hrel
            have F3 := Lib.hid f1; have M1 := Lib.hid m1; have U1 := Lib.hid u1
            clear f1 m1 u1
            by_cases hli : i < gl
            · obtain ⟨lb0, lo0, l, la, ll, lc, rfl, hl, hcl, hrl, _, hbl⟩ := Rows.get RG.out hli
              have hll := hrl.hlen; have hl6 := hrl.hsz; have hl7 := hrl.hcap
              subst hll
              have cw := (F3.out.below.cell (p := ⟨lb0, lo0 + i, none⟩) hbl).trans hcl
              have LL := Lib.hid hl; have RL := Lib.hid hrl
              clear hl hcl hrl
              have q2 : (0 : Int) ≤ (i : Int) := by omega
              have q3 : (i : Int) < (gl : Int) := by omega
              go_wp2
              clear cw
              go_loopw [38] (fun v wr => ∃ j : Nat, j ≤ l.length ∧ v = .int .i64 j ∧ Fm Non w wr [[.int .i64 len, .int .i64 gl, .int .i64 L]] ∧ Seen wr bm (i * 17592186044416 + j) ((g.take i).flatten ++ l.take j) ∧ Upto len k g i j) (fun v _ => l.length - (intOf v).toNat)
              case atStart => exact ⟨0, Nat.zero_le _, rfl, F3.out, by simpa using M1.out, U1.out⟩
              case round =>
                obtain ⟨j, hj, rfl, f2, m2, u2⟩ := hrel
                have F4 := Lib.hid f2; have U2 := Lib.hid u2; have M2 := Lib.hid m2
                have c0 := f2.h0.cell 0 _ rfl; have c1 := f2.h0.cell 1 _ rfl; have c2 := f2.h0.cell 2 _ rfl; have lt0 := f2.h0.lt (by simp)
                clear f2 u2 m2
                by_cases hjl : j < l.length
                · obtain ⟨lb, lo, x, rfl, hx, hcx, hx1, hx2, _, hbx⟩ := Ints.get RL.out hjl
                  have cx := (F4.out.below.cell (p := ⟨lb, lo + j, none⟩) hbx).trans hcx
                  have BD := Lib.hid (line_bad (S := len) (s := k) LL.out hx)
                  have OKL := Lib.hid (line_ok (S := len) (s := k) LL.out hx)
                  have SN := Lib.hid (seen_next (g := g) (k := i) hx)
                  have q4 : (0 : Int) ≤ (j : Int) := by omega
                  have q5 : (j : Int) < (l.length : Int) := by omega
                  clear hcx
                  by_cases hneg : x < 0
                  · go_wp2
                    go_ret
                    exact BoolRet.no (fun h => BD.out (fun h => by have := h.1.1; omega) (h.2 k g GL.out).2) rfl F4.out.below
                  · by_cases hbig : x > 1048576
                    · go_wp2
                      go_ret
                      exact BoolRet.no (fun h => BD.out (fun h => by have := h.1.2; omega) (h.2 k g GL.out).2) rfl F4.out.below
                    · have hx0 : 0 ≤ x := by omega
                      have hx9 : x ≤ 1048576 := by omega
                      obtain ⟨r, hr⟩ : ∃ r, r = x % (len : Int) := ⟨_, rfl⟩
                      have e1 : x.tmod (len : Int) = r := by rw [hr]; exact Int.tmod_eq_emod_of_nonneg hx0
                      have e2 : IntKind.i64.wrap r = r := IntWalk.i64_in _ (by have h1 := Int.emod_nonneg x (show (len : Int) ≠ 0 by omega); have h2 := Int.emod_lt_of_pos x (show (0 : Int) < (len : Int) by omega); omega)
                      have p1 : ¬ len = 0 := by omega
                      have HRR := Lib.hid hr; clear hr
                      by_cases hmod : r = (k : Int)
                      · subst hmod
                        have hmb : ((k : Int) != (k : Int)) = false := by simp
                        by_cases hin : x ∈ (g.take i).flatten ++ l.take j
                        · have HI := Lib.hid hin; clear hin
                          have lk := M2.out.look ⟨hx1, hx2⟩
                          rw [decide_eq_true HI.out] at lk
                          go_wp2
                          go_ret
                          exact BoolRet.no (fun h => BD.out (fun h => h.2.2.2 HI.out) (h.2 k g GL.out).2) rfl F4.out.below
                        · have HI := Lib.hid hin; clear hin
                          have lk := M2.out.look ⟨hx1, hx2⟩
                          rw [decide_eq_false HI.out] at lk
                          cases j with
                          | zero =>
                            rw [Nat.add_zero] at cx
                            go_wp2_with (first | (at_mapUpdate; refine wpList_seen rfl _ _ _ rfl bm _ _ x rfl M2.out (by omega) ⟨hx1, hx2⟩ rfl rfl ?_; intro w4 m4 hc4) | go_in)
                            have F5 := Lib.hid (F4.out.chgd hc4 (fun j hj => .inr (by have := BM.out; simp; omega)))
                            have M4 := Lib.hid (m4.same SN.out)
                            clear m4 hc4
                            go_roundw
                            case rel => exact ⟨0 + 1, by omega, by go_num, F5.out, M4.out.mono (by omega), U2.out.next (OKL.out ⟨⟨hx0, hx9⟩, HRR.out.symm, fun y h => absurd h (Nat.lt_irrefl 0), HI.out⟩)⟩
                            case measure => simp [intOf]; omega
                          | succ j' =>
                            obtain ⟨yb, yo, y, hyb, hy, hcy, hy1, hy2, _, hby⟩ := Ints.get RL.out (show j' < l.length by omega)
                            obtain ⟨rfl, rfl⟩ : lb = yb ∧ lo = yo := by simp only [Option.some.injEq, Addr.mk.injEq] at hyb; exact ⟨hyb.1, hyb.2.1⟩
                            have cy := (F4.out.below.cell (p := ⟨lb, lo + j', none⟩) hby).trans hcy
                            have HY := Lib.hid hy
                            clear hyb hy hcy
                            have q6 : (0 : Int) ≤ (j' : Int) := by omega
                            have q7 : (j' : Int) < (l.length : Int) := by omega
                            by_cases hord : y < x
                            · have HO := Lib.hid (show ∀ y', 0 < j' + 1 → l[j' + 1 - 1]? = some y' → y' < x from fun y' _ h => by rw [Nat.add_sub_cancel, HY.out] at h; cases h; exact hord)
                              go_wp2_with (first | (at_mapUpdate; refine wpList_seen rfl _ _ _ rfl bm _ _ x rfl M2.out (by omega) ⟨hx1, hx2⟩ rfl rfl ?_; intro w4 m4 hc4) | go_in)
                              have F5 := Lib.hid (F4.out.chgd hc4 (fun j hj => .inr (by have := BM.out; simp; omega)))
                              have M4 := Lib.hid (m4.same SN.out)
                              clear m4 hc4
                              go_roundw
                              case rel => exact ⟨j' + 1 + 1, by omega, by go_num, F5.out, M4.out.mono (by omega), U2.out.next (OKL.out ⟨⟨hx0, hx9⟩, HRR.out.symm, HO.out, HI.out⟩)⟩
                              case measure => simp [intOf]; omega
                            · go_wp2
                              go_ret
                              exact BoolRet.no (fun h => BD.out (fun h => absurd (h.2.2.1 y (Nat.succ_pos _) (by rw [Nat.add_sub_cancel]; exact HY.out)) (by omega)) (h.2 k g GL.out).2) rfl F4.out.below
                      · have hmb : (r != (k : Int)) = true := by simp [hmod]
                        go_wp2
                        go_ret
                        exact BoolRet.no (fun h => BD.out (fun h => hmod (HRR.out.trans h.2.1)) (h.2 k g GL.out).2) rfl F4.out.below
                · have hje : j = l.length := by omega
                  subst hje
                  have RW := Lib.hid (seen_row LL.out)
                  go_wp2
                  go_roundw
                  case rel => exact ⟨i + 1, by omega, by go_num, F4.out, (M2.out.mono (by omega)).same RW.out, U2.out.row LL.out⟩
                  case measure => simp [intOf]; omega
            · have hil : i = gl := by omega
              subst hil
              go_wp2
              go_roundw
              case rel => exact ⟨k + 1, by omega, by go_num, F3.out, fun s g' hs hg' => by
                rcases (show s < k ∨ s = k by omega) with h | rfl
                · exact V1.out s g' h hg'
                · rw [GL.out] at hg'; cases hg'; exact ⟨GLn.out, Upto.all (by rw [GLn.out]; exact U1.out)⟩⟩
              case measure => simp [intOf]; omega
        · have hne2 : ((gl : Int) != (W : Int)) = true := by simp; omega
          go_wp2
          go_ret
          exact BoolRet.no (fun h => hgW (GLn.out.symm.trans (h.2 k g GL.out).1)) rfl F1.out.below
      · have hkl : k = len := by omega
        subst hkl
        go_wp2
        go_ret
        exact BoolRet.yes ⟨HL.out, fun s g hg => V1.out s g (by have := (List.getElem?_eq_some_iff.1 hg).1; have := HL.out; omega) hg⟩ rfl F1.out.below
  · have hne : ((len : Int) != (S : Int)) = true := by simp; omega
    have c0 := F0.out.h0.cell 0 _ rfl; have c1 := F0.out.h0.cell 1 _ rfl; have c2 := F0.out.h0.cell 2 _ rfl; have lt0 := F0.out.h0.lt (by simp)
    go_enter Try.func41, Try.ntmps41
    go_wp2
    go_ret
    exact BoolRet.no (fun h => hlS (HL.out.symm.trans h.1)) rfl F0.out.below

theorem rvalid_any (S W L : Nat) (hc : COk S W L) (K : Nat → Prop) (a : Option Addr) (len cap : Nat) (m : List (List (List Int))) (w : World) (r : Cube K w a len cap m) :
    Calls Try.prog 16 #[CV S W L, .agg #[.slice a len cap]] w (BoolRet (ValidM S W m) w) := by
  have F0 := Lib.hid (Fm.new (Fm.new (Fm.start Non w) rfl [.int .i64 S, .int .i64 W, .int .i64 L] 26) (by simp) [.slice a len cap] 30)
  have AV := Lib.hid (rshaped_any S W L hc K a len cap m _ (Row.below (RSl.stays (RSl.stays RInt.stays)) r F0.out.below))
  clear hc r
  go_enter Try.func16, Try.ntmps16
  go_wp2_with fail
  refine AV.out.mono ?_
  rintro e w3 ⟨bb, rfl, hbb, hb3⟩
  have HB := Lib.hid hbb
  have F3 := Lib.hid (Fm.call hb3 F0.out)
  clear hb3 hbb
  go_wp2
  go_ret
  exact ⟨bb, rfl, HB.out, F3.out.below⟩
end Go.Proofs.Ytikhbijobkkhgaa
