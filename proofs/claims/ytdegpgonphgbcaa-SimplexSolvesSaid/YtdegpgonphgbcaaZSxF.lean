/-
  simplex.
  simplex.
-/
import Derived.Deep.QuietTactic
import Derived.BigQuiet
import Derived.Test.YtdegpgonphgbcaaSxE
namespace Go.Proofs.Ytdegpgonphgbcaa
open Go.RowKit
def iAt (l : List Int) (i : Int) : Int := l.getD i.toNat 0
theorem iAt_of {l : List Int} {i : Nat} {z : Int} (h : l[i]? = some z) : iAt l (i : Int) = z := by unfold iAt; rw [Int.toNat_natCast, List.getD_eq_getElem?_getD, h]; rfl
def entStep (outs : List Int) (goal : List Rat) (best : Int) (k : Nat) : Int := if 0 < (gR goal (k + 1)).num ∧ (best < 0 ∨ iAt outs k < iAt outs best) then (k : Int) else best
def entAt (outs : List Int) (goal : List Rat) : Nat → Int
  | 0 => -1
  | j + 1 => entStep outs goal (entAt outs goal j) j
theorem entAt_range (outs : List Int) (goal : List Rat) (j : Nat) : entAt outs goal j = -1 ∨ ∃ t : Nat, t < j ∧ entAt outs goal j = (t : Int) := by
  induction j with
  | zero => exact .inl rfl
  | succ j ih =>
    unfold entAt entStep
    split
    · exact .inr ⟨j, by omega, rfl⟩
    · rcases ih with h | ⟨t, ht, h⟩
      · exact .inl h
      · exact .inr ⟨t, by omega, h⟩
def lastR (rows : List (List Rat)) : List Rat := rows.getD (rows.length - 1) []
def entP (outs : List Int) (rows : List (List Rat)) : Int := entAt outs (lastR rows) outs.length
theorem Dic.row {w : World} {fp : Nat → Prop} {q : Nat} {ins outs : List Int} {rows : List (List Rat)} {vI vO vR : Value} {fI fO fR : Nat → Prop} (d : Dic w fp q ins outs rows vI vO vR fI fO fR) (hne : rows ≠ []) :
    ∃ bR cR, vR = .slice (some ⟨bR, 0, none⟩) rows.length cR ∧ bR < w.heap.size ∧ fp bR ∧ ∀ i row, rows[i]? = some row → row ≠ [] → ∃ b cap sp, w.cell? ⟨bR, i, none⟩ = some (.slice (some ⟨b, 0, none⟩) row.length cap) ∧ FBlk w b row sp ∧ fp b := by
  rcases d.hrows with ⟨_, h0⟩ | ⟨bR, cR, vs, spR, fps, hv, r⟩
  · exact absurd h0 hne
  refine ⟨bR, cR, hv, r.blk.lt, d.sR _ r.own, fun i row hi hn => ?_⟩
  obtain ⟨u, hu, ho⟩ := r.row i row hi
  rcases ho with ⟨_, h0⟩ | ⟨b, cap, sp, rfl, fa⟩
  · exact absurd h0 hn
  exact ⟨b, cap, sp, r.blk.cell (by rw [List.getElem?_append_left (List.getElem?_eq_some_iff.1 hu).1]; exact hu), fa.blk, d.sR _ (r.sub i b (List.getElem?_eq_some_iff.1 hi).1 fa.own).1⟩
theorem Dic.out {w : World} {fp : Nat → Prop} {q : Nat} {ins outs : List Int} {rows : List (List Rat)} {vI vO vR : Value} {fI fO fR : Nat → Prop} (d : Dic w fp q ins outs rows vI vO vR fI fO fR) (hne : outs ≠ []) :
    ∃ bO cO, vO = .slice (some ⟨bO, 0, none⟩) outs.length cO ∧ bO < w.heap.size ∧ ∀ i z, outs[i]? = some z → w.cell? ⟨bO, i, none⟩ = some (.int .i64 z) ∧ -9223372036854775808 ≤ z ∧ z ≤ 9223372036854775807 := by
  rcases d.hout with ⟨_, h0⟩ | ⟨bO, cO, vs, sp, fps, hv, r⟩
  · exact absurd h0 hne
  refine ⟨bO, cO, hv, r.blk.lt, fun i z hz => ⟨?_, r.range z (List.mem_of_getElem? hz)⟩⟩
  rw [r.ints] at r
  exact r.blk.cell (by rw [List.getElem?_append_left (by rw [ivs_length]; exact (List.getElem?_eq_some_iff.1 hz).1)]; exact ivs_get hz)
def IntRet (z : Int) (w : World) (e : Ending) (w' : World) : Prop := e = .returned (.int .i64 z) ∧ Below w.heap.size w w'
set_option maxRecDepth 100000 in
set_option maxHeartbeats 8000000 in
theorem entering_any (w : World) (fp : Nat → Prop) (q : Nat) (ins outs : List Int) (rows : List (List Rat)) (vI vO vR : Value) (fI fO fR : Nat → Prop) (d : Dic w fp q ins outs rows vI vO vR fI fO fR)
    (hr : rows.length = ins.length + 1) (hc : ∀ r ∈ rows, r.length = outs.length + 1) (hl : ins.length ≤ 8 ∧ outs.length ≤ 8) (ho : outs ≠ []) :
    Calls Try.prog 68 #[.pointer (some ⟨q, 0, none⟩)] w (IntRet (entP outs rows) w) := by
  obtain ⟨bR, cR, hvR, lbR, _, hrow⟩ := d.row (by intro e; rw [e] at hr; simp at hr)
  obtain ⟨bO, cO, hvO, lbO, hout⟩ := d.out ho
  have q1 := d.has.cell 1 _ rfl
  have q2 := d.has.cell 2 _ rfl
  obtain ⟨m, hm⟩ : ∃ m, m = ins.length := ⟨_, rfl⟩
  obtain ⟨goal, hg⟩ : ∃ g, rows[m]? = some g := ⟨_, List.getElem?_eq_getElem (by omega)⟩
  have hgl : goal.length = outs.length + 1 := hc goal (List.mem_of_getElem? hg)
  obtain ⟨b, cap, sp, cg, fb, _⟩ := hrow m goal hg (by intro e; rw [e] at hgl; simp at hgl)
  have hE : entP outs rows = entAt outs goal outs.length := by unfold entP lastR; rw [show rows.length - 1 = m by omega, List.getD_eq_getElem?_getD, hg]; rfl
  obtain ⟨nO, hnO⟩ : ∃ n, n = outs.length := ⟨_, rfl⟩
  rw [hvO, ← hnO] at q1
  rw [hvR, hr, ← hm] at q2
  rw [hgl, ← hnO] at cg
  have wm : IntKind.i64.wrap (((m + 1 : Nat) : Int) - 1) = (m : Int) := by rw [Go.IntWalk.i64_in _ ⟨by omega, by omega⟩]; omega
  have hm8 : m ≤ 8 := by omega
  have hn8 : nO ≤ 8 := by omega
  have hmm : (m : Int) < ((m + 1 : Nat) : Int) := by omega
  have hm0 : 0 ≤ (m : Int) := by omega
  have HE := Lib.hid hE; have HNO := Lib.hid hnO; have HOUT := Lib.hid hout; have FB := Lib.hid fb; have HGL := Lib.hid hgl
  clear hE hnO hout fb hgl hg hm hvR hvO hrow hr hc hl d ho
  go_enter Try.func68, Try.ntmps68
  go_wp2
  go_quiet (fail)
  go_wp2
  clear q2 cg wm hmm hm0
  go_loop [3, 24] (fun bs k => ∃ j : Nat, j ≤ nO ∧ k = .int .i64 j ∧ bs = .int .i64 (entAt outs goal j)) (fun _ k => nO - (intOf k).toNat)
  case atStart => exact ⟨0, Nat.zero_le _, rfl, rfl⟩
  case round =>
    obtain ⟨j, hj, rfl, rfl⟩ := hrel
    by_cases hlt : j < nO
    · obtain ⟨x, hx⟩ : ∃ x, goal[j + 1]? = some x := ⟨_, List.getElem?_eq_getElem (by have := HGL.out; have := HNO.out; omega)⟩
      obtain ⟨z, hz⟩ : ∃ z, outs[j]? = some z := ⟨_, List.getElem?_eq_getElem (by have := HNO.out; omega)⟩
      obtain ⟨x0, x1⟩ := FBlk.get FB.out hx
      have z0 := (HOUT.out j z hz).1
      have hst : entAt outs goal (j + 1) = entStep outs goal (entAt outs goal j) j := rfl
      have hgx : gR goal (j + 1) = x := gR_of hx
      have hiz : iAt outs (j : Int) = z := iAt_of hz
      have wj : IntKind.i64.wrap ((j : Int) + 1) = (j : Int) + 1 := Go.IntWalk.i64_in _ ⟨by omega, by omega⟩
      have hj0 : 0 ≤ (j : Int) + 1 := by omega
      have hj1 : (j : Int) + 1 < ((nO + 1 : Nat) : Int) := by omega
      have rg := entAt_range outs goal j
      unfold entStep at hst
      rw [hgx, hiz] at hst
      have hjO : (j : Int) < (nO : Int) := by omega
      clear hx hz hgx hiz
      by_cases hp : 0 < x.num
      · rcases rg with hb | ⟨t, ht, hb⟩
        · rw [hb] at hst ⊢
          rw [if_pos ⟨hp, .inl (by omega)⟩] at hst
          have HST := Lib.hid hst
          clear hst hb
          go_wp2
          go_round
          case rel => exact ⟨j + 1, by omega, by go_num, by rw [HST.out]⟩
          case measure => simp [intOf]; omega
        · obtain ⟨y, hy⟩ : ∃ y, outs[t]? = some y := ⟨_, List.getElem?_eq_getElem (by have := HNO.out; omega)⟩
          have y0 := (HOUT.out t y hy).1
          have hiy : iAt outs (t : Int) = y := iAt_of hy
          rw [hb] at hst ⊢
          rw [hiy] at hst
          have htO : (t : Int) < (nO : Int) := by omega
          have ht0 : 0 ≤ (t : Int) := by omega
          clear hy hiy hb
          by_cases hc : z < y
          · rw [if_pos ⟨hp, .inr hc⟩] at hst
            have HST := Lib.hid hst
            clear hst
            go_wp2
            go_round
            case rel => exact ⟨j + 1, by omega, by go_num, by rw [HST.out]⟩
            case measure => simp [intOf]; omega
          · rw [if_neg (fun h => h.2.elim (by omega) hc)] at hst
            have HST := Lib.hid hst
            clear hst
            go_wp2
            go_round
            case rel => exact ⟨j + 1, by omega, by go_num, by rw [HST.out]⟩
            case measure => simp [intOf]; omega
      · rw [if_neg (fun h => hp h.1)] at hst
        have HST := Lib.hid hst
        clear hst rg
        generalize entAt outs goal j = bs at *
        go_wp2
        go_round
        case rel => exact ⟨j + 1, by omega, by go_num, by rw [HST.out]⟩
        case measure => simp [intOf]; omega
    · have hj2 : j = nO := by omega
      have HRES := Lib.hid (show entAt outs goal j = entP outs rows by rw [HE.out, hj2, HNO.out])
      clear hj2
      generalize entAt outs goal j = bs at *
      go_wp2
      go_ret
      exact ⟨ret_int HRES.out, below_drewN (Below.refl _ _) nq⟩
def levStep (ins : List Int) (rows : List (List Rat)) (k : Nat) (s : Int × Rat) (i : Nat) : Int × Rat :=
  if 0 ≤ (gR (rows.getD i []) (k + 1)).num then s else
  if 0 ≤ s.1 ∧ (0 < cmpR (-(gR (rows.getD i []) 0 / gR (rows.getD i []) (k + 1))) s.2 ∨ (cmpR (-(gR (rows.getD i []) 0 / gR (rows.getD i []) (k + 1))) s.2 = 0 ∧ iAt ins s.1 < iAt ins i)) then s else
  ((i : Int), -(gR (rows.getD i []) 0 / gR (rows.getD i []) (k + 1)))
def levAt (ins : List Int) (rows : List (List Rat)) (k : Nat) : Nat → Int × Rat
  | 0 => (-1, 0)
  | j + 1 => levStep ins rows k (levAt ins rows k j) j
def levP (ins : List Int) (rows : List (List Rat)) (k : Nat) : Int := (levAt ins rows k ins.length).1
structure LevFit (ins : List Int) (rows : List (List Rat)) (k : Nat) : Prop where
  all : ∀ r ∈ rows, FitL r
  div : ∀ i row, i < ins.length → rows[i]? = some row → (gR row (k + 1)).num < 0 → Fit (gR row 0 / gR row (k + 1))
theorem levAt_range {ins : List Int} {rows : List (List Rat)} {k : Nat} (lf : LevFit ins rows k) (hr : rows.length = ins.length + 1) (j : Nat) (hj : j ≤ ins.length) : (levAt ins rows k j).1 = -1 ∨ ∃ t : Nat, t < j ∧ (levAt ins rows k j).1 = (t : Int) ∧ Fit (levAt ins rows k j).2 := by
  induction j with
  | zero => exact .inl rfl
  | succ j ih =>
    have ih := ih (by omega)
    unfold levAt levStep
    split
    · rcases ih with h | ⟨t, ht, h, h2⟩
      · exact .inl h
      · exact .inr ⟨t, by omega, h, h2⟩
    · rename_i hn
      split
      · rcases ih with h | ⟨t, ht, h, h2⟩
        · exact .inl h
        · exact .inr ⟨t, by omega, h, h2⟩
      · refine .inr ⟨j, by omega, rfl, ?_⟩
        obtain ⟨row, hrow⟩ : ∃ row, rows[j]? = some row := ⟨_, List.getElem?_eq_getElem (by omega)⟩
        have e : rows.getD j [] = row := by rw [List.getD_eq_getElem?_getD, hrow]; rfl
        rw [e] at hn ⊢
        exact fit_neg (lf.div j row (by omega) hrow (by omega))
theorem cmpR_three (x y : Rat) : cmpR x y = -1 ∨ cmpR x y = 0 ∨ cmpR x y = 1 := by unfold cmpR; (repeat' split) <;> simp
def lbC (s : Int × Rat) : List Value := if s.1 < 0 then [.int .i64 0, .int .i64 0] else FrC s.2
theorem Dic.inn {w : World} {fp : Nat → Prop} {q : Nat} {ins outs : List Int} {rows : List (List Rat)} {vI vO vR : Value} {fI fO fR : Nat → Prop} (d : Dic w fp q ins outs rows vI vO vR fI fO fR) :
    ∃ aI cI, vI = .slice aI ins.length cI ∧ ∀ i z, ins[i]? = some z → ∃ bI, aI = some ⟨bI, 0, none⟩ ∧ bI < w.heap.size ∧ w.cell? ⟨bI, i, none⟩ = some (.int .i64 z) ∧ -9223372036854775808 ≤ z ∧ z ≤ 9223372036854775807 := by
  rcases d.hin with ⟨hv, h0⟩ | ⟨bO, cO, vs, sp, fps, hv, r⟩
  · exact ⟨none, 0, by rw [hv, h0]; rfl, fun i z hz => by rw [h0] at hz; simp at hz⟩
  refine ⟨_, cO, hv, fun i z hz => ⟨bO, rfl, r.blk.lt, ?_, r.range z (List.mem_of_getElem? hz)⟩⟩
  rw [r.ints] at r
  exact r.blk.cell (by rw [List.getElem?_append_left (by rw [ivs_length]; exact (List.getElem?_eq_some_iff.1 hz).1)]; exact ivs_get hz)
set_option maxRecDepth 100000 in
set_option maxHeartbeats 16000000 in
theorem leaving_any (w : World) (fp : Nat → Prop) (q : Nat) (ins outs : List Int) (rows : List (List Rat)) (vI vO vR : Value) (fI fO fR : Nat → Prop) (d : Dic w fp q ins outs rows vI vO vR fI fO fR) (k : Nat) (hk : k < outs.length)
    (hr : rows.length = ins.length + 1) (hc : ∀ r ∈ rows, r.length = outs.length + 1) (hl : ins.length ≤ 8 ∧ outs.length ≤ 8) (lf : LevFit ins rows k) (hfp : ∀ x, fp x → x < w.heap.size) :
    Calls Try.prog 69 #[.pointer (some ⟨q, 0, none⟩), .int .i64 k] w (IntRet (levP ins rows k) w) := by
  obtain ⟨nI, hnI⟩ : ∃ n, n = ins.length := ⟨_, rfl⟩
  obtain ⟨nC, hnC⟩ : ∃ n, n = outs.length + 1 := ⟨_, rfl⟩
  have hk8 : k ≤ 8 := by have := hl.2; omega
  have hn8 : nI ≤ 8 := by have := hl.1; omega
  have hkC : (k : Int) + 1 < (nC : Int) := by omega
  have hk0 : 0 ≤ (k : Int) + 1 := by omega
  have wk : IntKind.i64.wrap ((k : Int) + 1) = (k : Int) + 1 := Go.IntWalk.i64_in _ ⟨by omega, by omega⟩
  have B1 := Lib.hid (show Below w.heap.size w (w.alloc (.cells #[.int .i64 0, .int .i64 0] 31)) from (Below.refl _ _).alloc (Nat.le_refl _) _)
  have L1 := Lib.hid (show Blk (w.alloc (.cells #[.int .i64 0, .int .i64 0] 31)) w.heap.size 31 (lbC (levAt ins rows k 0)) from Blk.new w [.int .i64 0, .int .i64 0] 31)
  have HNI := Lib.hid hnI; have HNC := Lib.hid hnC; have HD := Lib.hid d; have HR := Lib.hid hr; have HC := Lib.hid hc; have LF := Lib.hid lf; have HFP := Lib.hid hfp; have HL := Lib.hid hl
  have q0 := d.has.cell 0 _ rfl
  have lq := d.has.lt (by simp)
  obtain ⟨aI, cI, hvI, hin⟩ := d.inn
  rw [hvI, ← hnI] at q0
  have HIN := Lib.hid hin; have HVI := Lib.hid hvI
  clear hnI hnC d hr hc lf hfp hl hin hvI
  go_enter Try.func69, Try.ntmps69
  go_wp2
  go_loopw [5, 17] (fun s5 s17 wr => ∃ j : Nat, j ≤ nI ∧ s17 = .int .i64 j ∧ s5 = .int .i64 (levAt ins rows k j).1 ∧ Blk wr w.heap.size 31 (lbC (levAt ins rows k j)) ∧ Below w.heap.size w wr) (fun _ s17 _ => nI - (intOf s17).toNat)
  case atStart => exact ⟨0, Nat.zero_le _, rfl, rfl, L1.out, B1.out⟩
  case round =>
    obtain ⟨j, hj, rfl, rfl, hL, hB⟩ := hrel
    have LR := Lib.hid hL; have BR := Lib.hid hB
    clear hL hB L1 B1
    obtain ⟨wo, rfl⟩ : ∃ wo : World, wo = wr := ⟨_, rfl⟩
    have rg := Lib.hid (levAt_range LF.out HR.out j (by have := HNI.out; omega))
    by_cases hlt : j < nI
    · have DR := Lib.hid (HD.out.chg (M := Non) (Chg.of_below BR.out) (fun _ _ _ h => h))
      obtain ⟨z, hz⟩ : ∃ z, ins[j]? = some z := ⟨_, List.getElem?_eq_getElem (by have := HNI.out; omega)⟩
      obtain ⟨bI, haI, lbI, z0, _, _⟩ := HIN.out j z hz
      subst haI
      have z0 := (BR.out.cell (p := ⟨bI, j, none⟩) lbI).trans z0
      obtain ⟨bR, cR, hvR, lbR, _, hrw⟩ := DR.out.row (by intro e; have := HR.out; rw [e] at this; simp at this)
      obtain ⟨row, hrow⟩ : ∃ row, rows[j]? = some row := ⟨_, List.getElem?_eq_getElem (by have := HR.out; have := HNI.out; omega)⟩
      have hrl := HC.out row (List.mem_of_getElem? hrow)
      obtain ⟨b, cap, sp, cr, fb, hfb⟩ := hrw j row hrow (by intro e; rw [e] at hrl; simp at hrl)
      rw [hrl, ← HNC.out] at cr
      have q2 := DR.out.has.cell 2 _ rfl
      rw [hvR, HR.out, ← HNI.out] at q2
      have q0 := DR.out.has.cell 0 _ rfl
      rw [HVI.out, ← HNI.out] at q0
      obtain ⟨x, hx⟩ : ∃ x, row[k + 1]? = some x := ⟨_, List.getElem?_eq_getElem (by omega)⟩
      obtain ⟨y, hy⟩ : ∃ y, row[0]? = some y := ⟨_, List.getElem?_eq_getElem (by omega)⟩
      obtain ⟨x0, x1⟩ := FBlk.get fb hx
      obtain ⟨y0, y1⟩ := FBlk.get fb hy
      have hgd : rows.getD j [] = row := by rw [List.getD_eq_getElem?_getD, hrow]; rfl
      have hst : levAt ins rows k (j + 1) = levStep ins rows k (levAt ins rows k j) j := rfl
      unfold levStep at hst
      rw [hgd, gR_of hx, gR_of hy, iAt_of hz] at hst
      have hdv := LF.out.div j row (by have := HNI.out; omega) hrow
      rw [gR_of hx, gR_of hy] at hdv
      have fx := Lib.hid (LF.out.all row (List.mem_of_getElem? hrow) x (List.mem_of_getElem? hx))
      have fy := Lib.hid (LF.out.all row (List.mem_of_getElem? hrow) y (List.mem_of_getElem? hy))
      have hjR : (j : Int) < ((nI + 1 : Nat) : Int) := by omega
      have hnC0 : 0 < nC := by omega
      have HDV := Lib.hid hdv; have HST := Lib.hid hst; have HZ := Lib.hid hz; have FB := Lib.hid fb
      have NB := Lib.hid (show b ≠ w.heap.size ∧ bI ≠ w.heap.size ∧ q ≠ w.heap.size from ⟨by have := HFP.out b hfb; omega, by omega, by omega⟩)
      clear hz hrow hrl hvR hrw hx hy hgd hst hdv fb hfb
      by_cases hp : 0 ≤ x.num
      · have HS := Lib.hid (HST.out.trans (if_pos hp))
        clear y0 y1
        go_wp2
        go_roundw
        case rel => exact ⟨j + 1, by omega, by go_num, by rw [HS.out], by rw [HS.out]; exact LR.out, BR.out⟩
        case measure => simp [intOf]; omega
      · have HS := Lib.hid (HST.out.trans (if_neg hp))
        have hx0 : x ≠ 0 := fun e => by rw [e] at hp; exact hp (by decide)
        have FQ := Lib.hid (HDV.out (by omega))
        have S1 := Lib.hid (sdiv y x hx0 fy.out fx.out FQ.out)
        have S2 := Lib.hid (sopp (y / x) FQ.out)
        obtain ⟨lim, hlim⟩ : ∃ l, l = -(y / x) := ⟨_, rfl⟩
        rw [← hlim] at S2 HS
        have FLM := Lib.hid (show Fit lim by rw [hlim]; exact fit_neg FQ.out)
        obtain ⟨qt, hqt⟩ : ∃ l, l = y / x := ⟨_, rfl⟩
        rw [← hqt] at S1 S2
        clear hlim hqt hx0
        go_upto_region 8 with fail
        go_cut [10] (fun s wx => ∃ B10 : Nat, s = .pointer (some ⟨B10, 0, none⟩) ∧ wo.heap.size ≤ B10 ∧ Blk wx B10 31 (FrC lim) ∧ Below wo.heap.size wo wx)
        case first =>
          as_aux_lemma =>
            refine hd_start 11 (fun w' => w'.cell? ⟨b, 0, none⟩ = some (.int .i64 y.num) ∧ w'.cell? ⟨b, 1, none⟩ = some (.int .i64 (y.den : Int)) ∧ w'.cell? ⟨b, (k + 1) * 2, none⟩ = some (.int .i64 x.num) ∧ w'.cell? ⟨b, (k + 1) * 2 + 1, none⟩ = some (.int .i64 (x.den : Int))) (by kernel_rfl) ⟨by kernel_rfl, by kernel_rfl, by kernel_rfl, by decide⟩ (by refine ⟨y0, y1, x0, x1⟩) (fun ok => ?_)
            refine hd_t 0 ok rfl ?_
            go_frame
            refine hd_t 1 ok rfl ?_
            go_frame
            refine hd_t 2 ok rfl ?_
            go_frame
            refine hd_t 3 ok rfl ?_
            go_frame
            refine hd_t 4 ok rfl ?_
            go_frame
            refine hd_t 5 ok rfl ?_
            go_frame
            refine hd_t 6 ok rfl ?_
            go_frame
            refine hd_t 7 ok rfl ?_
            go_frame
            refine hd_inv_p [(44, 8), (45, 9), (10, 10)] (fun _ => undef) (fun b v w' => Below wo.heap.size wo w' ∧ (b 8 = true → v 8 = FrV qt) ∧ (b 9 = true → v 9 = FrV lim) ∧ ∃ q7, b 10 = true → v 10 = .pointer (some ⟨q7, 0, none⟩) ∧ Blk w' q7 31 [.int .i64 0, .int .i64 0] ∧ wo.heap.size ≤ q7) (.inl ok) ⟨by decide, by decide, by kernel_rfl, rfl⟩ (by kernel_rfl) (by kernel_rfl) (by decide) ⟨(Below.refl _ _).drew, (fun h => by cases h), (fun h => by cases h), 0, (fun h => by cases h)⟩ ?_ ?_
            · intro i oj hi ho bb v a w' hJ hv hr hb hdep hS K hK
              obtain ⟨hB, j6, j7, q7, j8⟩ := hJ
              have hBs := hB.size
              have hi4 : i = 8 ∨ i = 9 ∨ i = 10 := by simpa using hi
              try dsimp only at hS
              obtain ⟨s0, s1, s2, s3⟩ := hS
              rcases hi4 with rfl | rfl | rfl
              · obtain rfl := Option.some.inj ho
                have e38 : a.tmps[38]?.getD undef = FrV y := (get_eval a 38).trans (hr 38 (by decide))
                have e43 : a.tmps[43]?.getD undef = FrV x := (get_eval a 43).trans (hr 43 (by decide))
                go_simp
                go_at_call 85
                refine (S1.out _).mono ?_
                rintro e u ⟨rfl, hu⟩
                exact hK _ _ ⟨cell_later hu s0, cell_later hu s1, cell_later hu s2, cell_later hu s3⟩ ⟨hB.trans (hu.mono hBs), fun _ => rfl, j7, q7, fun h => ⟨(j8 h).1, (j8 h).2.1.below hu (j8 h).2.1.lt, (j8 h).2.2⟩⟩
              · obtain rfl := Option.some.inj ho
                have d0 := hdep 8 (by kernel_rfl)
                have e44 : a.tmps[44]?.getD undef = FrV qt := (get_eval a 44).trans ((hv 44 8 (by decide) d0).trans (j6 d0))
                go_simp
                go_at_call 37
                refine (S2.out _).mono ?_
                rintro e u ⟨rfl, hu⟩
                exact hK _ _ ⟨cell_later hu s0, cell_later hu s1, cell_later hu s2, cell_later hu s3⟩ ⟨hB.trans (hu.mono hBs), j6, fun _ => rfl, q7, fun h => ⟨(j8 h).1, (j8 h).2.1.below hu (j8 h).2.1.lt, (j8 h).2.2⟩⟩
              · obtain rfl := Option.some.inj ho
                go_simp
                have hu : Below w'.heap.size w' (w'.alloc (.cells #[.int .i64 0, .int .i64 0] 31)) := (Below.refl _ _).alloc (Nat.le_refl _) _
                exact hK _ _ ⟨cell_later hu s0, cell_later hu s1, cell_later hu s2, cell_later hu s3⟩ ⟨hB.trans (hu.mono hBs), j6, j7, w'.heap.size, fun _ => ⟨rfl, Blk.new w' [.int .i64 0, .int .i64 0] 31, hBs⟩⟩
            · intro bb v w' hall hJ hS
              obtain ⟨hB, j6, j7, q7, j8⟩ := hJ
              have v6 := j6 (hall 8 (by decide))
              have v7 := j7 (hall 9 (by decide))
              obtain ⟨v8, b8, l8⟩ := j8 (hall 10 (by decide))
              have LA := laid_setRow (vs := FrC lim) b8
              have R := Lib.hid (show ∃ B10 : Nat, Value.pointer (some ⟨q7, 0, none⟩) = .pointer (some ⟨B10, 0, none⟩) ∧ wo.heap.size ≤ B10 ∧ Blk (w'.setRow q7 (FrC lim).toArray) B10 31 (FrC lim) ∧ Below wo.heap.size wo (w'.setRow q7 (FrC lim).toArray) from ⟨q7, rfl, l8, LA.blk, hB.trans (LA.chg.below (fun j hj e => by omega) hB.size)⟩)
              have BB := Lib.hid b8
              simp only [putP, v6, v7, v8]
              clear hB j6 j7 j8 v6 v7 v8 b8 l8 LA hS hall ok
              go_frame
              refine hd_done (by kernel_rfl) ?_
              simp only [List.drop_succ_cons, List.drop_zero]
              refine wpList_store_row rfl 31 _ _ rfl q7 (FrC lim).toArray rfl rfl 31 #[.int .i64 0, .int .i64 0] BB.out.heap (by kernel_rfl) (by simp) (by simp [Value.oneCell']) ?_
              go_wp2_with fail
              go_meet
              exact R.out
        case rest =>
          obtain ⟨B10, rfl, lB10, b10, hB⟩ := hcut
          obtain ⟨w1, hw1⟩ : ∃ w1 : World, w1 = wc := ⟨_, rfl⟩
          rw [← hw1] at b10 hB ⊢
          clear hw1
          have HB := Lib.hid hB
          have LB1 := Lib.hid (LR.out.below hB LR.out.lt)
          have LBL := Lib.hid LR.out.lt
          have BW := Lib.hid (BR.out.trans (hB.mono BR.out.size))
          have D1 := Lib.hid (DR.out.chg (M := Non) (Chg.of_below hB) (fun _ _ _ h => h))
          have BT := Lib.hid b10
          have nb10 : B10 ≠ w.heap.size := by have := LR.out.lt; omega
          have nb10' : w.heap.size ≠ B10 := fun e => nb10 e.symm
          clear hB b10 y0 y1 x0 x1 z0 q0 q2 cr S1 S2
          have t0 := BT.out.cell (i := 0) rfl
          have t1 := BT.out.cell (i := 1) rfl
          rcases rg.out with hb | ⟨t, ht, hb, hft⟩
          · have HT := Lib.hid (HS.out.trans (if_neg (fun h => by rw [hb] at h; omega)))
            have hb1 : (levAt ins rows k j).1 = -1 := hb
            rw [hb]
            clear hb
            have L0 := LB1.out
            obtain ⟨g0, hg0⟩ := L0.some0 (i := 0) (by unfold lbC; split <;> simp)
            obtain ⟨g1, hg1⟩ := L0.some0 (i := 1) (by unfold lbC; split <;> simp)
            have gf := L0.free
            clear L0
            clear hb1
            go_upto_region 12 with fail
            refine hr_start 3 (fun w' => w'.cell? ⟨B10, 0, none⟩ = some (.int .i64 lim.num) ∧ w'.cell? ⟨B10, 1, none⟩ = some (.int .i64 (lim.den : Int))) (by kernel_rfl) (by kernel_rfl) (by refine ⟨t0, t1⟩) (fun ok => ?_)
            refine hr_t 0 ok rfl ?_
            go_frame
            refine hr_t 1 ok rfl ?_
            go_frame
            refine hr_t 2 ok rfl ?_
            go_frame
            refine hr_only (c := 3) rfl (by kernel_rfl) (fun K hK => ?_)
            go_simp
            (try simp only [])
            refine hK _ _ (pend_no (by kernel_rfl)) ?_
            clear hK K
            (try go_frame)
            refine hr_end (by kernel_rfl) ?_
            have FIN := Lib.hid (show Blk ((w1.setCell ⟨w.heap.size, 0, none⟩ (.int .i64 lim.num)).setCell ⟨w.heap.size, 1, none⟩ (.int .i64 (lim.den : Int))).drew w.heap.size 31 (lbC (levAt ins rows k (j + 1))) ∧ Below w.heap.size w ((w1.setCell ⟨w.heap.size, 0, none⟩ (.int .i64 lim.num)).setCell ⟨w.heap.size, 1, none⟩ (.int .i64 (lim.den : Int))).drew from ⟨by
                rw [HT.out]
                have h := ((LB1.out.set 0 (.int .i64 lim.num)).set 1 (.int .i64 (lim.den : Int))).drew
                refine h.at ?_
                unfold lbC
                rw [if_neg (show ¬ ((j : Int), lim).1 < 0 by simp)]
                split <;> rfl, ((BW.out.setCell (by simp) _).setCell (by simp) _).drew⟩)
            clear hg0 hg1 gf t0 t1
            go_wp2
            go_roundw
            case rel => exact ⟨j + 1, by omega, by go_num, by rw [HT.out], FIN.out.1, FIN.out.2⟩
            case measure => simp [intOf]; omega
          · obtain ⟨v, hv⟩ : ∃ v, ins[t]? = some v := ⟨_, List.getElem?_eq_getElem (by have := HNI.out; omega)⟩
            obtain ⟨bI2, haI, lbI2, v0, _, _⟩ := HIN.out t v hv
            cases haI
            have v0 := (BW.out.cell (p := ⟨bI, t, none⟩) lbI).trans v0
            obtain ⟨least, hle⟩ : ∃ l, l = (levAt ins rows k j).2 := ⟨_, rfl⟩
            have HS2 := HS.out
            rw [hb, ← hle, iAt_of hv] at HS2
            have LB2 := Lib.hid (show Blk w1 w.heap.size 31 (FrC least) by have h := LB1.out; unfold lbC at h; rw [if_neg (by rw [hb]; omega), ← hle] at h; exact h)
            rw [← hle] at hft
            have NC := Lib.hid (ncmp lim least FLM.out hft)
            have l0 := LB2.out.cell (i := 0) rfl
            have l1 := LB2.out.cell (i := 1) rfl
            have q0 := D1.out.has.cell 0 _ rfl
            rw [HVI.out, ← HNI.out] at q0
            have htI : (t : Int) < (nI : Int) := by omega
            have ht0 : 0 ≤ (t : Int) := by omega
            have HB2 := Lib.hid hb
            rw [hb]
            obtain ⟨c, hcc⟩ : ∃ c, c = cmpR lim least := ⟨_, rfl⟩
            rw [← hcc] at NC HS2
            have HS3 := Lib.hid HS2
            have HCC := Lib.hid hcc
            clear hb hv hle HS2 hcc hft
            go_wp2_with fail
            refine (NC.out _).mono ?_
            rintro e w2 ⟨rfl, hb⟩
            have LB3 := Lib.hid (LB1.out.below hb LB1.out.lt)
            have BW2 := Lib.hid (BW.out.trans (hb.mono BW.out.size))
            have D2 := Lib.hid (D1.out.chg (M := Non) (Chg.of_below hb) (fun _ _ _ h => h))
            have v0 := (hb.cell (p := ⟨bI, t, none⟩) (Nat.lt_of_lt_of_le lbI BW.out.size)).trans v0
            have BT2 := Lib.hid (BT.out.below hb BT.out.lt)
            clear hb t0 t1 q0 l0 l1
            have t0 := BT2.out.cell (i := 0) rfl
            have t1 := BT2.out.cell (i := 1) rfl
            have q0 := D2.out.has.cell 0 _ rfl
            rw [HVI.out, ← HNI.out] at q0
            rcases cmpR_three lim least with h1 | h1 | h1
            · have HC1 := Lib.hid (HCC.out.trans h1)
              clear h1
              have hc1 := HC1.out
              subst hc1
              have HT := Lib.hid (HS3.out.trans (if_neg (fun h => by omega)))
              have L0 := LB3.out
              obtain ⟨g0, hg0⟩ := L0.some0 (i := 0) (by unfold lbC; split <;> simp)
              obtain ⟨g1, hg1⟩ := L0.some0 (i := 1) (by unfold lbC; split <;> simp)
              have gf := L0.free
              clear L0
              go_upto_region 12 with fail
              refine hr_start 3 (fun w' => w'.cell? ⟨B10, 0, none⟩ = some (.int .i64 lim.num) ∧ w'.cell? ⟨B10, 1, none⟩ = some (.int .i64 (lim.den : Int))) (by kernel_rfl) (by kernel_rfl) (by refine ⟨t0, t1⟩) (fun ok => ?_)
              refine hr_t 0 ok rfl ?_
              go_frame
              refine hr_t 1 ok rfl ?_
              go_frame
              refine hr_t 2 ok rfl ?_
              go_frame
              refine hr_only (c := 3) rfl (by kernel_rfl) (fun K hK => ?_)
              go_simp
              (try simp only [])
              refine hK _ _ (pend_no (by kernel_rfl)) ?_
              clear hK K
              (try go_frame)
              refine hr_end (by kernel_rfl) ?_
              have FIN := Lib.hid (show Blk ((w2.setCell ⟨w.heap.size, 0, none⟩ (.int .i64 lim.num)).setCell ⟨w.heap.size, 1, none⟩ (.int .i64 (lim.den : Int))).drew w.heap.size 31 (lbC (levAt ins rows k (j + 1))) ∧ Below w.heap.size w ((w2.setCell ⟨w.heap.size, 0, none⟩ (.int .i64 lim.num)).setCell ⟨w.heap.size, 1, none⟩ (.int .i64 (lim.den : Int))).drew from ⟨by
                  rw [HT.out]
                  have h := ((LB3.out.set 0 (.int .i64 lim.num)).set 1 (.int .i64 (lim.den : Int))).drew
                  refine h.at ?_
                  unfold lbC
                  rw [if_neg (show ¬ ((j : Int), lim).1 < 0 by simp)]
                  split <;> rfl, ((BW2.out.setCell (by simp) _).setCell (by simp) _).drew⟩)
              clear hg0 hg1 gf t0 t1
              go_wp2
              go_roundw
              case rel => exact ⟨j + 1, by omega, by go_num, by rw [HT.out], FIN.out.1, FIN.out.2⟩
              case measure => simp [intOf]; omega
            · have HC1 := Lib.hid (HCC.out.trans h1)
              clear h1
              have hc1 := HC1.out
              subst hc1
              by_cases hvz : v < z
              · have HT := Lib.hid (HS3.out.trans (if_pos ⟨ht0, .inr ⟨rfl, hvz⟩⟩))
                go_wp2
                go_roundw
                case rel => exact ⟨j + 1, by omega, by go_num, by rw [HT.out, HB2.out], by rw [HT.out]; exact LB3.out, BW2.out⟩
                case measure => simp [intOf]; omega
              · have HT := Lib.hid (HS3.out.trans (if_neg (fun h => h.2.elim (by omega) (fun h => hvz h.2))))
                have L0 := LB3.out
                obtain ⟨g0, hg0⟩ := L0.some0 (i := 0) (by unfold lbC; split <;> simp)
                obtain ⟨g1, hg1⟩ := L0.some0 (i := 1) (by unfold lbC; split <;> simp)
                have gf := L0.free
                clear L0
                go_upto_region 12 with fail
                refine hr_start 3 (fun w' => w'.cell? ⟨B10, 0, none⟩ = some (.int .i64 lim.num) ∧ w'.cell? ⟨B10, 1, none⟩ = some (.int .i64 (lim.den : Int))) (by kernel_rfl) (by kernel_rfl) (by refine ⟨t0, t1⟩) (fun ok => ?_)
                refine hr_t 0 ok rfl ?_
                go_frame
                refine hr_t 1 ok rfl ?_
                go_frame
                refine hr_t 2 ok rfl ?_
                go_frame
                refine hr_only (c := 3) rfl (by kernel_rfl) (fun K hK => ?_)
                go_simp
                (try simp only [])
                refine hK _ _ (pend_no (by kernel_rfl)) ?_
                clear hK K
                (try go_frame)
                refine hr_end (by kernel_rfl) ?_
                have FIN := Lib.hid (show Blk ((w2.setCell ⟨w.heap.size, 0, none⟩ (.int .i64 lim.num)).setCell ⟨w.heap.size, 1, none⟩ (.int .i64 (lim.den : Int))).drew w.heap.size 31 (lbC (levAt ins rows k (j + 1))) ∧ Below w.heap.size w ((w2.setCell ⟨w.heap.size, 0, none⟩ (.int .i64 lim.num)).setCell ⟨w.heap.size, 1, none⟩ (.int .i64 (lim.den : Int))).drew from ⟨by
                    rw [HT.out]
                    have h := ((LB3.out.set 0 (.int .i64 lim.num)).set 1 (.int .i64 (lim.den : Int))).drew
                    refine h.at ?_
                    unfold lbC
                    rw [if_neg (show ¬ ((j : Int), lim).1 < 0 by simp)]
                    split <;> rfl, ((BW2.out.setCell (by simp) _).setCell (by simp) _).drew⟩)
                clear hg0 hg1 gf t0 t1
                go_wp2
                go_roundw
                case rel => exact ⟨j + 1, by omega, by go_num, by rw [HT.out], FIN.out.1, FIN.out.2⟩
                case measure => simp [intOf]; omega
            · have HC1 := Lib.hid (HCC.out.trans h1)
              clear h1
              have hc1 := HC1.out
              subst hc1
              have HT := Lib.hid (HS3.out.trans (if_pos ⟨ht0, .inl (by omega)⟩))
              go_wp2
              go_roundw
              case rel => exact ⟨j + 1, by omega, by go_num, by rw [HT.out, HB2.out], by rw [HT.out]; exact LB3.out, BW2.out⟩
              case measure => simp [intOf]; omega
    · have hj2 : j = nI := by omega
      have HRES := Lib.hid (show (levAt ins rows k j).1 = levP ins rows k by unfold levP; rw [hj2, HNI.out])
      clear hj2
      generalize (levAt ins rows k j).1 = bs at *
      go_wp2
      go_ret
      exact ⟨ret_int HRES.out, BR.out⟩
end Go.Proofs.Ytdegpgonphgbcaa
