/-
  The document's Same of states that are equal; the order of states behind a use.
-/
import Derived.Test.YtlpelpjcbclemaaMbA
namespace Go.Proofs.Ytlpelpjcbclemaa
open Go.RowKit

set_option maxRecDepth 100000 in
set_option maxHeartbeats 4000000 in
theorem rsame_yes (K K2 : Nat → Prop) (a b : Option Addr) (la ca lb cb : Nat) (xs : List (List (List Int))) (w : World) (ra : Cube K w a la ca xs) (rb : Cube K2 w b lb cb xs) :
    Calls Try.prog 48 #[.slice a la ca, .slice b lb cb] w fun e w' => e = .returned (.bool true) ∧ Below w.heap.size w w' := by
  obtain rfl : la = lb := by rw [← ra.hlen, ← rb.hlen]
  have hl := ra.hsz
  have RA := Lib.hid ra; have RB := Lib.hid rb
  clear ra rb
  have hll : ((la : Int) != (la : Int)) = false := by simp
  go_enter Try.func48, Try.ntmps48
  go_wp2
  go_loopw [15] (fun i wr => ∃ k : Nat, k ≤ la ∧ i = .int .i64 k ∧ Below w.heap.size w wr) (fun i _ => la - (intOf i).toNat)
  case atStart => exact ⟨0, Nat.zero_le _, rfl, Below.refl _ _⟩
  case round =>
    obtain ⟨k, hk, rfl, b1⟩ := hrel
    have B1 := Lib.hid b1
    clear b1
    by_cases hlt : k < la
    · obtain ⟨b1, o1, f, xa, xn, xc, rfl, hx, hcx, hrx, _, hb1⟩ := Rows.get RA.out hlt
      obtain ⟨b2, o2, g, ya, yn, yc, rfl, hy, hcy, hry, _, hb2⟩ := Rows.get RB.out hlt
      obtain rfl : f = g := by rw [hx] at hy; cases hy; rfl
      obtain rfl : xn = yn := by rw [← hrx.hlen, ← hry.hlen]
      have hxn := hrx.hsz
      have HX := Lib.hid hrx; have HY := Lib.hid hry; have HCX := Lib.hid hcx; have HCY := Lib.hid hcy
      have q0 : (0 : Int) ≤ (k : Int) := by omega
      have q1 : (k : Int) < (la : Int) := by omega
      have hxx : ((xn : Int) != (xn : Int)) = false := by simp
      have dx := cell_later B1.out hcx; have dy := cell_later B1.out hcy
      clear hx hy hrx hry hcx hcy
      go_wp2
      go_quiet (fail)
      have B2 := Lib.hid (below_drewN B1.out nq)
      clear dx dy
      have dx := cell_later B2.out HCX.out
      go_wp2
      clear dx
      go_loopw [34] (fun i wr => ∃ j : Nat, j ≤ xn ∧ i = .int .i64 j ∧ Below w.heap.size w wr) (fun i _ => xn - (intOf i).toNat)
      case atStart => exact ⟨0, Nat.zero_le _, rfl, B2.out⟩
      case round =>
        obtain ⟨j, hj, rfl, b3⟩ := hrel
        have B3 := Lib.hid b3
        clear b3
        by_cases hjl : j < xn
        · obtain ⟨b3, o3, l, za, zn, zc, rfl, hz, hcz, hrz, _, hb3⟩ := Rows.get HX.out hjl
          obtain ⟨b4, o4, l', za', zn', zc', rfl, hz', hcz', hrz', _, hb4⟩ := Rows.get HY.out hjl
          obtain rfl : l = l' := by rw [hz] at hz'; cases hz'; rfl
          obtain rfl : zn = zn' := by rw [← hrz.hlen, ← hrz'.hlen]
          have hzn := hrz.hsz
          have HZ := Lib.hid hrz; have HZ' := Lib.hid hrz'; have HCZ := Lib.hid hcz; have HCZ' := Lib.hid hcz'
          have q2 : (0 : Int) ≤ (j : Int) := by omega
          have q3 : (j : Int) < (xn : Int) := by omega
          have hzz : ((zn : Int) != (zn : Int)) = false := by simp
          have dx := cell_later B3.out HCX.out; have dy := cell_later B3.out HCY.out; have ex := cell_later B3.out hcz; have ey := cell_later B3.out hcz'
          clear hz hz' hrz hrz' hcz hcz'
          go_wp2
          go_quiet (fail)
          have B4 := Lib.hid (below_drewN B3.out nq)
          clear dx dy ex ey
          have dx := cell_later B4.out HCX.out; have ex := cell_later B4.out HCZ.out
          go_wp2
          clear dx ex
          go_loopw [62] (fun i wr => ∃ p : Nat, p ≤ zn ∧ i = .int .i64 p ∧ Below w.heap.size w wr) (fun i _ => zn - (intOf i).toNat)
          case atStart => exact ⟨0, Nat.zero_le _, rfl, B4.out⟩
          case round =>
            obtain ⟨p, hp, rfl, b5⟩ := hrel
            have B5 := Lib.hid b5
            clear b5
            by_cases hpl : p < zn
            · obtain ⟨b5, o5, z, rfl, hv, hcv, _, _, _, hb5⟩ := Ints.get HZ.out hpl
              obtain ⟨b6, o6, z', rfl, hv', hcv', _, _, _, hb6⟩ := Ints.get HZ'.out hpl
              obtain rfl : z = z' := by rw [hv] at hv'; cases hv'; rfl
              have q4 : (0 : Int) ≤ (p : Int) := by omega
              have q5 : (p : Int) < (zn : Int) := by omega
              have hvv : (z != z) = false := by simp
              have dx := cell_later B5.out HCX.out; have dy := cell_later B5.out HCY.out; have ex := cell_later B5.out HCZ.out; have ey := cell_later B5.out HCZ'.out; have gx := cell_later B5.out hcv; have gy := cell_later B5.out hcv'
              clear hv hv' hcv hcv'
              go_wp2
              go_quiet (fail)
              have B6 := Lib.hid (below_drewN B5.out nq)
              clear dx dy ex ey gx gy
              go_wp2
              go_roundw
              case rel => exact ⟨p + 1, by omega, by go_num, B6.out⟩
              case measure => simp [intOf]; omega
            · go_wp2
              go_roundw
              case rel => exact ⟨j + 1, by omega, by go_num, B5.out⟩
              case measure => simp [intOf]; omega
        · go_wp2
          go_roundw
          case rel => exact ⟨k + 1, by omega, by go_num, B3.out⟩
          case measure => simp [intOf]; omega
    · go_wp2
      go_ret
      exact ⟨rfl, B1.out⟩

set_option maxRecDepth 100000 in
set_option maxHeartbeats 4000000 in
theorem rysame_yes (K K2 : Nat → Prop) (a b oa ob : Option Addr) (la ca lb cb na da nb db : Nat) (m : List (List (List Int))) (o : List Int) (w : World) (ra : YCub K w a la ca oa na da m o) (rb : YCub K2 w b lb cb ob nb db m o) :
    Calls Try.prog 20 #[YV a la ca oa na da, YV b lb cb ob nb db] w fun e w' => e = .returned (.bool true) ∧ Below w.heap.size w w' := by
  obtain rfl : la = lb := by rw [← ra.cub.hlen, ← rb.cub.hlen]
  obtain rfl : na = nb := by rw [← ra.ints.hlen, ← rb.ints.hlen]
  have hl := ra.cub.hsz; have hn := ra.ints.hsz
  have RA := Lib.hid (ints_old ra); have RB := Lib.hid (ints_old rb)
  clear ra rb
  have hll : ((na : Int) != (na : Int)) = false := by simp
  have F0 := Lib.hid (Fm.new (Fm.new (Fm.start Non w) rfl [.slice a la ca, .slice oa na da] 31) (by simp) [.slice b la cb, .slice ob na db] 31)
  have a0 := F0.out.h0.cell 0 _ rfl; have a1 := F0.out.h0.cell 1 _ rfl; have b0 := F0.out.h1.cell 0 _ rfl; have b1 := F0.out.h1.cell 1 _ rfl
  go_enter Try.func20, Try.ntmps20
  go_wp2_with fail
  refine (rsame_yes _ _ a b la ca la cb m _ (RA.out.below F0.out.below).cub (RB.out.below F0.out.below).cub).mono ?_
  rintro e w1 ⟨rfl, hb1⟩
  have F1 := Lib.hid (Fm.call hb1 F0.out)
  clear a0 a1 b0 b1 hb1 F0
  have a1 := F1.out.h0.cell 1 _ rfl
  go_wp2
  clear a1
  go_loopw [24] (fun i wr => ∃ k : Nat, k ≤ na ∧ i = .int .i64 k ∧ Fm Non w wr [[.slice a la ca, .slice oa na da], [.slice b la cb, .slice ob na db]]) (fun i _ => na - (intOf i).toNat)
  case atStart => exact ⟨0, Nat.zero_le _, rfl, F1.out⟩
  case round =>
    clear F1
    obtain ⟨k, hk, rfl, hF⟩ := hrel
    have F2 := Lib.hid hF
    clear hF
    by_cases hlt : k < na
    · obtain ⟨b5, o5, z, rfl, hv, hcv, _, _, _, hb5⟩ := Ints.get RA.out.ints hlt
      obtain ⟨b6, o6, z', rfl, hv', hcv', _, _, _, hb6⟩ := Ints.get RB.out.ints hlt
      obtain rfl : z = z' := by rw [hv] at hv'; cases hv'; rfl
      have q4 : (0 : Int) ≤ (k : Int) := by omega
      have q5 : (k : Int) < (na : Int) := by omega
      have hvv : (z != z) = false := by simp
      have a1 := F2.out.h0.cell 1 _ rfl; have b1 := F2.out.h1.cell 1 _ rfl
      have gx := cell_later F2.out.below hcv; have gy := cell_later F2.out.below hcv'
      clear hv hv' hcv hcv'
      go_upto_region 6 with fail
      go_quiet (fail)
      have F3 := Lib.hid (Fm.call (below_drewN (Below.refl _ _) nq) F2.out)
      clear a1 b1 gx gy
      go_wp2
      go_roundw
      case rel => exact ⟨k + 1, by omega, by go_num, F3.out⟩
      case measure => simp [intOf]; omega
    · go_wp2
      go_ret
      exact ⟨rfl, F2.out.below⟩

/-! ### The order of states, tops and uses -/
theorem BelowY.top {U : List Int} {S W : Nat} {m : List (List (List Int))} {o : List Int} (hm : YSt U S W m o) : BelowY S W m o (topS S W) (topO S) := by
  rw [BelowY.at hm (ytop_st U S W)]
  intro s hs
  obtain ⟨f, i, hf, hi, hfd, hid, hfy⟩ := hm.at hs
  obtain ⟨g, j, hg, hj, hgd, hjd, hgy⟩ := (ytop_st U S W).at hs
  refine ⟨f, i, g, j, hf, hi, hg, hj, ?_, fun y => ?_⟩
  · unfold topO at hj
    rw [List.getElem?_replicate, if_pos hs] at hj
    have := Option.some.inj hj; omega
  · have hj0 : j = 0 := by
      unfold topO at hj
      rw [List.getElem?_replicate, if_pos hs] at hj
      have := Option.some.inj hj; omega
    have := ageF_le hgy y
    omega
/-- One set behind the use of a line. -/
theorem touchY_at {U : List Int} {S W : Nat} {m : List (List (List Int))} {o : List Int} (hm : YSt U S W m o) (hS : ¬ S = 0) (n : Int) {s : Nat} (hs : s < S) :
    ∃ f i, m[s]? = some f ∧ o[s]? = some ((i : Nat) : Int) ∧ YSet (PS U S s) W f i ∧ (s = setN S n → ageY S W m o n = ageF W f i n ∧ (touchYm S W m o n)[s]? = some (useY W n (ageF W f i n) f) ∧ (touchYo S W m o n)[s]? = some ((tick W (ageF W f i n) i : Nat) : Int)) ∧ (¬ s = setN S n → (touchYm S W m o n)[s]? = some f ∧ (touchYo S W m o n)[s]? = some ((i : Nat) : Int)) := by
  obtain ⟨f, i, hf, hi, hfd, hid, hfy⟩ := hm.at hs
  refine ⟨f, i, hf, hi, hfy, fun e => ?_, fun e => ?_⟩
  · subst e
    have ea : ageY S W m o n = ageF W f i n := ageY_found (by omega) hfd hid
    refine ⟨ea, ?_, ?_⟩
    · unfold touchYm
      rw [if_neg hS, List.getElem?_set_self (by rw [hm.len]; exact hs), hfd, ea]
    · unfold touchYo
      rw [if_neg hS, List.getElem?_set_self (by rw [hm.olen]; exact hs), hid, ea, Int.toNat_natCast]
  · unfold touchYm touchYo
    rw [if_neg hS, if_neg hS, List.getElem?_set_ne (fun h => e h.symm), List.getElem?_set_ne (fun h => e h.symm)]
    exact ⟨hf, hi⟩
theorem BelowY.touch {U : List Int} {S W : Nat} {m q : List (List (List Int))} {o r : List Int} (hm : YSt U S W m o) (hq : YSt U S W q r) (hW : 0 < W) {n : Int} (h0 : 0 ≤ n) (h1 : n ≤ 1048576) (hU : n ∈ U) (h : BelowY S W m o q r) :
    BelowY S W (touchYm S W m o n) (touchYo S W m o n) (touchYm S W q r n) (touchYo S W q r n) := by
  by_cases hS : S = 0
  · unfold touchYm touchYo; rw [if_pos hS, if_pos hS, if_pos hS, if_pos hS]; exact h
  · rw [BelowY.at hm hq] at h
    rw [BelowY.at (ytouch_st hm hW h0 h1 hU) (ytouch_st hq hW h0 h1 hU)]
    intro s hs
    obtain ⟨f', i', g', j', k1, k2, k3, k4, k5⟩ := h s hs
    obtain ⟨f, i, hf, hi, hfy, hy, hn⟩ := touchY_at hm hS n hs
    obtain ⟨g, j, hg, hj, hgy, gy, gn⟩ := touchY_at hq hS n hs
    rw [hf] at k1; cases k1
    rw [hg] at k3; cases k3
    rw [hi] at k2; rw [hj] at k4
    have e1 : i = i' := by have := Option.some.inj k2; omega
    have e2 : j = j' := by have := Option.some.inj k4; omega
    subst e1; subst e2
    by_cases e : s = setN S n
    · obtain ⟨_, a1, a2⟩ := hy e
      obtain ⟨_, b1, b2⟩ := gy e
      have hk := setN_int (S := S) (by omega) n
      have hP : PS U S s n := ⟨h0, h1, by rw [e]; exact hk.symm, hU⟩
      exact ⟨_, _, _, _, a1, a2, b1, b2, BelowF.use hfy hgy hW hP hP k5⟩
    · obtain ⟨a1, a2⟩ := hn e
      obtain ⟨b1, b2⟩ := gn e
      exact ⟨_, _, _, _, a1, a2, b1, b2, k5⟩
/-- A line that was used is the youngest. -/
theorem ageY_used {U : List Int} {S W : Nat} {m : List (List (List Int))} {o : List Int} (hm : YSt U S W m o) (hW : 0 < W) {n : Int} (h0 : 0 ≤ n) (h1 : n ≤ 1048576) (hU : n ∈ U) (hS : ¬ S = 0) : ageY S W (touchYm S W m o n) (touchYo S W m o n) n = 0 := by
  have hlt := setN_lt (S := S) (by omega) n
  obtain ⟨f, i, hf, hi, hfy, hy, hn⟩ := touchY_at hm hS n hlt
  obtain ⟨_, a1, a2⟩ := hy rfl
  have hk := setN_int (S := S) (by omega) n
  have hP : PS U S (setN S n) n := ⟨h0, h1, hk.symm, hU⟩
  rw [ageY_found (g := useY W n (ageF W f i n) f) (k := tick W (ageF W f i n) i) (by omega) (by rw [List.getD_eq_getElem?_getD, a1]; rfl) (by rw [List.getD_eq_getElem?_getD, a2]; rfl), use_ageF hfy hW hP, if_pos rfl]
theorem minF_comm (W : Nat) (f : List (List Int)) (i : Nat) (g : List (List Int)) (j : Nat) : minF W f i g j = minF W g j f i := by funext y; unfold minF; omega
theorem joinY_comm {P : Int → Prop} {W i j : Nat} {f g : List (List Int)} (hf : YSet P W f i) (hg : YSet P W g j) : joinY W f i g j = joinY W g j f i := by
  obtain ⟨h1, h2⟩ := joinY_spec hf hg
  obtain ⟨h3, h4⟩ := joinY_spec hg hf
  refine h1.ext h3 fun i x => ?_
  rw [h2, h4, minF_comm]
  unfold Kn
  constructor <;> (rintro ⟨k1, k2⟩; exact ⟨k1.symm, k2⟩)
theorem yjoin_comm {U : List Int} {S W : Nat} {m q : List (List (List Int))} {o r : List Int} (hm : YSt U S W m o) (hq : YSt U S W q r) : joinYm S W q r m o = joinYm S W m o q r ∧ joinYo S r o = joinYo S o r := by
  constructor
  · unfold joinYm
    refine List.map_congr_left fun s hs => ?_
    have hs := List.mem_range.1 hs
    obtain ⟨f, i, hf, hi, hfd, hid, hfy⟩ := hm.at hs
    obtain ⟨g, j, hg, hj, hgd, hjd, hgy⟩ := hq.at hs
    rw [hfd, hid, hgd, hjd, Int.toNat_natCast, Int.toNat_natCast]
    exact joinY_comm hgy hfy
  · unfold joinYo
    refine List.map_congr_left fun s _ => ?_
    omega
end Go.Proofs.Ytlpelpjcbclemaa
