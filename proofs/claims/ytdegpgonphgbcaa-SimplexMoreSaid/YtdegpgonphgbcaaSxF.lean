/-
  simplex.entering.
-/
import Derived.Deep.QuietTactic
import Derived.BigQuiet
import Derived.Test.YtdegpgonphgbcaaSxE
namespace Go.Proofs.Ytdegpgonphgbcaa
open Go.RowKit

def iAt (l : List Int) (i : Int) : Int := l.getD i.toNat 0
theorem iAt_of {l : List Int} {i : Nat} {z : Int} (h : l[i]? = some z) : iAt l (i : Int) = z := by unfold iAt; rw [Int.toNat_natCast, List.getD_eq_getElem?_getD, h]; rfl
/-- The column that enters, of the first j. -/
def entStep (outs : List Int) (goal : List Rat) (best : Int) (k : Nat) : Int := if 0 < (gR goal (k + 1)).num ∧ (best < 0 ∨ iAt outs k < iAt outs best) then (k : Int) else best
def entAt (outs : List Int) (goal : List Rat) : Nat → Int
  | 0 => -1
  | j + 1 => entStep outs goal (entAt outs goal j) j
theorem entAt_range (outs : List Int) (goal : List Rat) (j : Nat) : entAt outs goal j = -1 ∨ ∃ t : Nat, t < j ∧ entAt outs goal j = (t : Int) := by
  induction j with
  | zero => exact .inl rfl
  | succ j ih =>
    unfold entAt entStep
    split
    · exact .inr ⟨j, by omega, rfl⟩
    · rcases ih with h | ⟨t, ht, h⟩
      · exact .inl h
      · exact .inr ⟨t, by omega, h⟩
def lastR (rows : List (List Rat)) : List Rat := rows.getD (rows.length - 1) []
def entP (outs : List Int) (rows : List (List Rat)) : Int := entAt outs (lastR rows) outs.length
/-- The blocks of one row of the dictionary. -/
theorem Dic.row {w : World} {fp : Nat → Prop} {q : Nat} {ins outs : List Int} {rows : List (List Rat)} {vI vO vR : Value} {fI fO fR : Nat → Prop} (d : Dic w fp q ins outs rows vI vO vR fI fO fR) (hne : rows ≠ []) :
    ∃ bR cR, vR = .slice (some ⟨bR, 0, none⟩) rows.length cR ∧ bR < w.heap.size ∧ fp bR ∧ ∀ i row, rows[i]? = some row → row ≠ [] → ∃ b cap sp, w.cell? ⟨bR, i, none⟩ = some (.slice (some ⟨b, 0, none⟩) row.length cap) ∧ FBlk w b row sp ∧ fp b := by
  rcases d.hrows with ⟨_, h0⟩ | ⟨bR, cR, vs, spR, fps, hv, r⟩
  · exact absurd h0 hne
  refine ⟨bR, cR, hv, r.blk.lt, d.sR _ r.own, fun i row hi hn => ?_⟩
  obtain ⟨u, hu, ho⟩ := r.row i row hi
  rcases ho with ⟨_, h0⟩ | ⟨b, cap, sp, rfl, fa⟩
  · exact absurd h0 hn
  exact ⟨b, cap, sp, r.blk.cell (by rw [List.getElem?_append_left (List.getElem?_eq_some_iff.1 hu).1]; exact hu), fa.blk, d.sR _ (r.sub i b (List.getElem?_eq_some_iff.1 hi).1 fa.own).1⟩
theorem Dic.out {w : World} {fp : Nat → Prop} {q : Nat} {ins outs : List Int} {rows : List (List Rat)} {vI vO vR : Value} {fI fO fR : Nat → Prop} (d : Dic w fp q ins outs rows vI vO vR fI fO fR) (hne : outs ≠ []) :
    ∃ bO cO, vO = .slice (some ⟨bO, 0, none⟩) outs.length cO ∧ bO < w.heap.size ∧ ∀ i z, outs[i]? = some z → w.cell? ⟨bO, i, none⟩ = some (.int .i64 z) ∧ -9223372036854775808 ≤ z ∧ z ≤ 9223372036854775807 := by
  rcases d.hout with ⟨_, h0⟩ | ⟨bO, cO, vs, sp, fps, hv, r⟩
  · exact absurd h0 hne
  refine ⟨bO, cO, hv, r.blk.lt, fun i z hz => ⟨?_, r.range z (List.mem_of_getElem? hz)⟩⟩
  rw [r.ints] at r
  exact r.blk.cell (by rw [List.getElem?_append_left (by rw [ivs_length]; exact (List.getElem?_eq_some_iff.1 hz).1)]; exact ivs_get hz)
def IntRet (z : Int) (w : World) (e : Ending) (w' : World) : Prop := e = .returned (.int .i64 z) ∧ Below w.heap.size w w'
set_option maxRecDepth 100000 in
set_option maxHeartbeats 8000000 in
theorem entering_any (w : World) (fp : Nat → Prop) (q : Nat) (ins outs : List Int) (rows : List (List Rat)) (vI vO vR : Value) (fI fO fR : Nat → Prop) (d : Dic w fp q ins outs rows vI vO vR fI fO fR)
    (hr : rows.length = ins.length + 1) (hc : ∀ r ∈ rows, r.length = outs.length + 1) (hl : ins.length ≤ 8 ∧ outs.length ≤ 8) (ho : outs ≠ []) :
    Calls Try.prog 68 #[.pointer (some ⟨q, 0, none⟩)] w (IntRet (entP outs rows) w) := by
  obtain ⟨bR, cR, hvR, lbR, _, hrow⟩ := d.row (by intro e; rw [e] at hr; simp at hr)
  obtain ⟨bO, cO, hvO, lbO, hout⟩ := d.out ho
  have q1 := d.has.cell 1 _ rfl
  have q2 := d.has.cell 2 _ rfl
  obtain ⟨m, hm⟩ : ∃ m, m = ins.length := ⟨_, rfl⟩
  obtain ⟨goal, hg⟩ : ∃ g, rows[m]? = some g := ⟨_, List.getElem?_eq_getElem (by omega)⟩
  have hgl : goal.length = outs.length + 1 := hc goal (List.mem_of_getElem? hg)
  obtain ⟨b, cap, sp, cg, fb, _⟩ := hrow m goal hg (by intro e; rw [e] at hgl; simp at hgl)
  have hE : entP outs rows = entAt outs goal outs.length := by unfold entP lastR; rw [show rows.length - 1 = m by omega, List.getD_eq_getElem?_getD, hg]; rfl
  obtain ⟨nO, hnO⟩ : ∃ n, n = outs.length := ⟨_, rfl⟩
  rw [hvO, ← hnO] at q1
  rw [hvR, hr, ← hm] at q2
  rw [hgl, ← hnO] at cg
  have wm : IntKind.i64.wrap (((m + 1 : Nat) : Int) - 1) = (m : Int) := by rw [Go.IntWalk.i64_in _ ⟨by omega, by omega⟩]; omega
  have hm8 : m ≤ 8 := by omega
  have hn8 : nO ≤ 8 := by omega
  have hmm : (m : Int) < ((m + 1 : Nat) : Int) := by omega
  have hm0 : 0 ≤ (m : Int) := by omega
  have HE := Lib.hid hE; have HNO := Lib.hid hnO; have HOUT := Lib.hid hout; have FB := Lib.hid fb; have HGL := Lib.hid hgl
  clear hE hnO hout fb hgl hg hm hvR hvO hrow hr hc hl d ho
  go_enter Try.func68, Try.ntmps68
  go_wp2
  go_quiet (fail)
  go_wp2
  clear q2 cg wm hmm hm0
  go_loop [3, 24] (fun bs k => ∃ j : Nat, j ≤ nO ∧ k = .int .i64 j ∧ bs = .int .i64 (entAt outs goal j)) (fun _ k => nO - (intOf k).toNat)
  case atStart => exact ⟨0, Nat.zero_le _, rfl, rfl⟩
  case round =>
    obtain ⟨j, hj, rfl, rfl⟩ := hrel
    by_cases hlt : j < nO
    · obtain ⟨x, hx⟩ : ∃ x, goal[j + 1]? = some x := ⟨_, List.getElem?_eq_getElem (by have := HGL.out; have := HNO.out; omega)⟩
      obtain ⟨z, hz⟩ : ∃ z, outs[j]? = some z := ⟨_, List.getElem?_eq_getElem (by have := HNO.out; omega)⟩
      obtain ⟨x0, x1⟩ := FBlk.get FB.out hx
      have z0 := (HOUT.out j z hz).1
      have hst : entAt outs goal (j + 1) = entStep outs goal (entAt outs goal j) j := rfl
      have hgx : gR goal (j + 1) = x := gR_of hx
      have hiz : iAt outs (j : Int) = z := iAt_of hz
      have wj : IntKind.i64.wrap ((j : Int) + 1) = (j : Int) + 1 := Go.IntWalk.i64_in _ ⟨by omega, by omega⟩
      have hj0 : 0 ≤ (j : Int) + 1 := by omega
      have hj1 : (j : Int) + 1 < ((nO + 1 : Nat) : Int) := by omega
      have rg := entAt_range outs goal j
      unfold entStep at hst
      rw [hgx, hiz] at hst
      have hjO : (j : Int) < (nO : Int) := by omega
      clear hx hz hgx hiz
      by_cases hp : 0 < x.num
      · rcases rg with hb | ⟨t, ht, hb⟩
        · rw [hb] at hst ⊢
          rw [if_pos ⟨hp, .inl (by omega)⟩] at hst
          have HST := Lib.hid hst
          clear hst hb
          go_wp2
          go_round
          case rel => exact ⟨j + 1, by omega, by go_num, by rw [HST.out]⟩
          case measure => simp [intOf]; omega
        · obtain ⟨y, hy⟩ : ∃ y, outs[t]? = some y := ⟨_, List.getElem?_eq_getElem (by have := HNO.out; omega)⟩
          have y0 := (HOUT.out t y hy).1
          have hiy : iAt outs (t : Int) = y := iAt_of hy
          rw [hb] at hst ⊢
          rw [hiy] at hst
          have htO : (t : Int) < (nO : Int) := by omega
          have ht0 : 0 ≤ (t : Int) := by omega
          clear hy hiy hb
          by_cases hc : z < y
          · rw [if_pos ⟨hp, .inr hc⟩] at hst
            have HST := Lib.hid hst
            clear hst
            go_wp2
            go_round
            case rel => exact ⟨j + 1, by omega, by go_num, by rw [HST.out]⟩
            case measure => simp [intOf]; omega
          · rw [if_neg (fun h => h.2.elim (by omega) hc)] at hst
            have HST := Lib.hid hst
            clear hst
            go_wp2
            go_round
            case rel => exact ⟨j + 1, by omega, by go_num, by rw [HST.out]⟩
            case measure => simp [intOf]; omega
      · rw [if_neg (fun h => hp h.1)] at hst
        have HST := Lib.hid hst
        clear hst rg
        generalize entAt outs goal j = bs at *
        go_wp2
        go_round
        case rel => exact ⟨j + 1, by omega, by go_num, by rw [HST.out]⟩
        case measure => simp [intOf]; omega
    · have hj2 : j = nO := by omega
      have HRES := Lib.hid (show entAt outs goal j = entP outs rows by rw [HE.out, hj2, HNO.out])
      clear hj2
      generalize entAt outs goal j = bs at *
      go_wp2
      go_ret
      exact ⟨ret_int HRES.out, below_drewN (Below.refl _ _) nq⟩
end Go.Proofs.Ytdegpgonphgbcaa
