/-
  The document's node: a node fits its code.
-/
import Derived.Deep.CutBlock
import Derived.Deep.DeepCutAuto
import Derived.Test.YtonbmijhbbodnaaZMake
import Derived.Test.YtonbmijhbbodnaaZInN
namespace Go.Proofs.Ytonbmijhbbodnaa
open Go.RowKit

def PRet (P : Prop) (w : World) (e : Ending) (w' : World) : Prop := ∃ b, e = .returned (.bool b) ∧ (b = true ↔ P) ∧ Below w.heap.size w w'
abbrev NCells (f n : Nat) (na : Option Addr) (nl nc : Nat) (aa : Option Addr) (al ac : Nat) : List Value := [.int .i64 f, .int .i64 n, .slice na nl nc, .slice aa al ac]
/-- A literal is owned. -/
theorem owns_lit {w : World} {g B : Nat} {t : TypeId} {cs : List Value} {n : Nat} (h : Blk w g t cs) (hn : cs.length = n) (hm : n ≤ 1000) (hB : B ≤ g) : w.ownsRow B t 1 (.slice (some ⟨g, 0, none⟩) n n) n cs :=
  ⟨by omega, .inr ⟨g, n, cs.toArray, rfl, hB, h.heap, Nat.le_refl _, by unfold maxLen; omega, by simp; omega, by simp [← hn]⟩⟩
set_option maxRecDepth 100000 in
set_option maxHeartbeats 16000000 in
theorem rnode_any (K : Nat → Prop) (ca : Option Addr) (cn cc : Nat) (D : Int) (ua : Option Addr) (un uc : Nat) (s : ByteArray) (na : Option Addr) (nl nc : Nat) (code : List Ins) (nodes : List Nd) (k : Nat) (x : Nd) (f n : Nat) (w : World)
    (rc : InsL K w ca cn cc code) (rn : NdL K w na nl nc nodes) (hx : nodes[k]? = some x) (hf : x.first = (f : Int)) (hn : x.cnt = (n : Int)) (hn1 : 1 ≤ n) (hfn : f + n ≤ cn) (hcn : cn ≤ 1024) (hnl : nl ≤ 1024) :
    Calls Try.prog 74 #[MV ca cn cc D ua un uc, UV s na nl nc, .int .i64 (k : Int)] w (PRet (NodeOk code D nodes k f n x) w) := by
  have hkl : k < nl := by have := (List.getElem?_eq_some_iff.1 hx).1; have := rn.hlen; omega
  have hll := rn.hlen
  have hcl := rc.hlen
  obtain ⟨pb, po, x', ma, ml, mc, aa, al, ac, rfl, hx', _, lp, _, _, g0, g1, g2, g3, hnx, hac⟩ := NdL.get rn hkl
  rw [hx] at hx'
  cases hx'
  rw [hf] at g0
  rw [hn] at g1
  have RC := Lib.hid rc; have RN := Lib.hid rn; have HX := Lib.hid hx; have NXT := Lib.hid hnx; have AX := Lib.hid hac
  have hal := hac.hlen
  have halz := hac.hsz
  have F0 := Lib.hid (Fm.new (Fm.new (Fm.new (Fm.start Non w) rfl (MCells ca cn cc D ua un uc) 31) (by simp) (UCells s (some ⟨pb, po, none⟩) nl nc) 79) (by simp) (NCells f n ma ml mc aa al ac) 70)
  clear rc rn hx hnx hac
  go_enter Try.func74, Try.ntmps74
  obtain ⟨w1, hw1⟩ : ∃ w1, w1 = ((w.alloc (.cells (MCells ca cn cc D ua un uc).toArray 31)).alloc (.cells (UCells s (some ⟨pb, po, none⟩) nl nc).toArray 79)).alloc (.cells (NCells f n ma ml mc aa al ac).toArray 70) := ⟨_, rfl⟩
  have F1 := Lib.hid (show Fm Non w w1 [MCells ca cn cc D ua un uc, UCells s (some ⟨pb, po, none⟩) nl nc, NCells f n ma ml mc aa al ac] by rw [hw1]; exact F0.out)
  go_upto_region 2 with fail
  have hw2 : ((w.alloc (.cells #[.slice ca cn cc, .int .i64 D, NIL, .slice ua un uc] 31)).alloc (.cells #[.string s, .slice (some ⟨pb, po, none⟩) nl nc, NIL, NIL, NIL, NIL, NIL, NIL, NIL, NIL] 79)).alloc (.cells #[.int .i64 f, .int .i64 n, .slice ma ml mc, .slice aa al ac] 70) = w1 := hw1.symm
  rw [hw2]
  clear hw1 hw2 F0 g0 g1 g2 g3
  have t0 := F1.out.h0; have t2 := F1.out.h2
  have m0 := t0.cell 0 _ rfl
  have n0 := t2.cell 0 _ rfl; have n1 := t2.cell 1 _ rfl
  clear t0 t2
  go_wp2
  go_loopw [8, 9] (fun v i wr => ∃ j q : Nat, j ≤ n ∧ q = (wantP code f j).length ∧ i = .int .i64 ((f + j : Nat) : Int) ∧ NoBr code f n j ∧ wr.ownsRow (w.heap.size + 3) 89 3 v q (acs (wantP code f j)) ∧ Fm Non w wr [MCells ca cn cc D ua un uc, UCells s (some ⟨pb, po, none⟩) nl nc, NCells f n ma ml mc aa al ac]) (fun _ i _ => f + n - (intOf i).toNat)
  case atStart => exact ⟨0, 0, Nat.zero_le _, rfl, rfl, fun i hi => by omega, World.ownsRow_nil _ _ _ _, F1.out⟩
  case round =>
    obtain ⟨j, q, hj, hq, rfl, hb, ho, hF⟩ := hrel
    obtain ⟨va, vc, rfl⟩ := flat_form ho
    have O1 := Lib.hid ho; have F2 := Lib.hid hF; have HB := Lib.hid hb; have HQ := Lib.hid hq
    have hql : q ≤ j := by have := wantP_len code f j; omega
    have sz2 := hF.size
    clear ho hF hb hq m0 n0 n1
    have t0 := F2.out.h0; have t2 := F2.out.h2
    have m0 := t0.cell 0 _ rfl; have m1 := t0.cell 1 _ rfl
    have n0 := t2.cell 0 _ rfl; have n1 := t2.cell 1 _ rfl; have n2 := t2.cell 2 _ rfl; have n3 := t2.cell 3 _ rfl
    have lt0 := t0.lt (by simp); have lt2 := t2.lt (by simp)
    clear t0 t2
    obtain ⟨p, hp⟩ : ∃ p, p = f + j := ⟨_, rfl⟩
    have HP := Lib.hid hp
    rw [← hp]
    clear hp
    by_cases hlt : p < f + n
    · obtain ⟨b, o, y, rfl, hy, _, _, lb, c0, c1, c2, c3, c4, c5⟩ := InsL.get (Row.below RIns.stays RC.out F2.out.below) (show p < cn by omega)
      obtain ⟨yk, ya, yb, yc, yo, yi⟩ := y
      have HCA := Lib.hid (cAt_of hy)
      have O3 := Lib.hid (flat_below (flat_below O1.out ((Below.refl _ _).alloc (Nat.le_refl _) (.cells (ICells ⟨yk, ya, yb, yc, yo, yi⟩).toArray 50))) ((Below.refl _ _).alloc (Nat.le_refl _) (.cells (acs [(p : Int)]).toArray 89)))
      have O2 := Lib.hid (flat_below O1.out ((Below.refl _ _).alloc (Nat.le_refl _) (.cells (ICells ⟨yk, ya, yb, yc, yo, yi⟩).toArray 50)))
      have B3 := Lib.hid (show Blk ((wr.alloc (.cells (ICells ⟨yk, ya, yb, yc, yo, yi⟩).toArray 50)).alloc (.cells (acs [(p : Int)]).toArray 89)) (wr.heap.size + 1) 89 (acs [(p : Int)]) from (Blk.new (wr.alloc (.cells (ICells ⟨yk, ya, yb, yc, yo, yi⟩).toArray 50)) (acs [(p : Int)]) 89).at' (by simp))
      have F5 := Lib.hid (F2.out.more (.cells (ICells ⟨yk, ya, yb, yc, yo, yi⟩).toArray 50))
      have F3 := Lib.hid (F5.out.more (.cells (acs [(p : Int)]).toArray 89))
      clear hy
      have hlast : ((p : Int) == (f : Int) + (n : Int) - 1) = decide (p + 1 = f + n) := by
        apply Bool.eq_iff_iff.2
        simp
        omega
      by_cases k4 : yk = 4
      · subst k4
        have HM := Lib.hid (show isMem ⟨4, ya, yb, yc, yo, yi⟩ from .inl rfl)
        have HNB := Lib.hid (show ¬ isBr ⟨4, ya, yb, yc, yo, yi⟩ from fun h => by unfold isBr at h; simp at h)
        have HW := Lib.hid (show wantP code f (j + 1) = wantP code f j ++ [(p : Int)] by rw [wantP, ← HP.out, HCA.out, if_pos HM.out])
        have HB2 := Lib.hid (noBr_succ HB.out (.inr (by rw [← HP.out, HCA.out]; exact HNB.out)))
        go_wp2_with (at_builtin; refine wpList_append_flat rfl _ _ 68 rfl 89 Try.underlying68 info_acc rfl (by decide) O3.out rfl (by simp; omega) ⟨wr.heap.size + 1, 0, none⟩ 1 1 (acs [(p : Int)]) rfl rfl (fun j u hu => by rw [Go.WideShapes.add_plain, Nat.zero_add]; exact B3.out.cell hu) acs_one (by decide) (by omega) (by decide) ?_; intro g c6 w6 hap)
        have F6 := Lib.hid (F3.out.chgd hap.out.chg (fun k hk => .inr (by have := (O3.out.lt k hk).1; simp; omega)))
        have Q6 := Lib.hid hap.out.owns
        clear hap
        go_roundw
        case rel => exact ⟨j + 1, q + 1, by have := HP.out; omega, by rw [HW.out, List.length_append, ← HQ.out]; rfl, by have := HP.out; congr 1; omega, HB2.out, by rw [HW.out, acs_append]; exact Q6.out, F6.out⟩
        case measure => have := HP.out; simp [intOf]; omega
      · by_cases k5 : yk = 5
        · subst k5
          have HM := Lib.hid (show isMem ⟨5, ya, yb, yc, yo, yi⟩ from .inr rfl)
          have HNB := Lib.hid (show ¬ isBr ⟨5, ya, yb, yc, yo, yi⟩ from fun h => by unfold isBr at h; simp at h)
          clear k4
          have HW := Lib.hid (show wantP code f (j + 1) = wantP code f j ++ [(p : Int)] by rw [wantP, ← HP.out, HCA.out, if_pos HM.out])
          have HB2 := Lib.hid (noBr_succ HB.out (.inr (by rw [← HP.out, HCA.out]; exact HNB.out)))
          go_wp2_with (at_builtin; refine wpList_append_flat rfl _ _ 68 rfl 89 Try.underlying68 info_acc rfl (by decide) O3.out rfl (by simp; omega) ⟨wr.heap.size + 1, 0, none⟩ 1 1 (acs [(p : Int)]) rfl rfl (fun j u hu => by rw [Go.WideShapes.add_plain, Nat.zero_add]; exact B3.out.cell hu) acs_one (by decide) (by omega) (by decide) ?_; intro g c6 w6 hap)
          have F6 := Lib.hid (F3.out.chgd hap.out.chg (fun k hk => .inr (by have := (O3.out.lt k hk).1; simp; omega)))
          have Q6 := Lib.hid hap.out.owns
          clear hap
          go_roundw
          case rel => exact ⟨j + 1, q + 1, by have := HP.out; omega, by rw [HW.out, List.length_append, ← HQ.out]; rfl, by have := HP.out; congr 1; omega, HB2.out, by rw [HW.out, acs_append]; exact Q6.out, F6.out⟩
          case measure => have := HP.out; simp [intOf]; omega
        · have n4 : (yk == 4) = false := by simpa using k4
          have n5 : (yk == 5) = false := by simpa using k5
          have HNM := Lib.hid (show ¬ isMem ⟨yk, ya, yb, yc, yo, yi⟩ from fun h => by unfold isMem at h; simp at h; omega)
          clear k4 k5
          by_cases hbr : yk = 6 ∨ yk = 7 ∨ yk = 10
          · by_cases hl : p + 1 = f + n
            · have HB2 := Lib.hid (noBr_succ HB.out (.inl (by have := HP.out; omega)))
              have hl2 : decide (p + 1 = f + n) = true := decide_eq_true hl
              clear hl
              rcases hbr with rfl | rfl | rfl
              all_goals
                have HW := Lib.hid (show wantP code f (j + 1) = wantP code f j by rw [wantP, ← HP.out, HCA.out, if_neg HNM.out, List.append_nil])
                go_wp2
                go_roundw
                case rel => exact ⟨j + 1, q, by have := HP.out; omega, by rw [HW.out]; exact HQ.out, by have := HP.out; congr 1; omega, HB2.out, by rw [HW.out]; exact O2.out, F5.out⟩
                case measure => have := HP.out; simp [intOf]; omega
            · have HNO := Lib.hid (show ¬ NodeOk code D nodes k f n x from fun h => by
                have h1 := h.br j (by have := HP.out; omega)
                rw [← HP.out, HCA.out] at h1
                rcases h1 with h1 | h1
                · have := HP.out; omega
                · exact h1 hbr)
              have hl2 : decide (p + 1 = f + n) = false := decide_eq_false hl
              clear hl
              rcases hbr with rfl | rfl | rfl
              all_goals
                go_wp2
                go_ret
                exact ⟨false, rfl, ⟨(fun h => by cases h), (fun h => absurd h HNO.out)⟩, F5.out.below⟩
          · have HB2 := Lib.hid (noBr_succ HB.out (.inr (by rw [← HP.out, HCA.out]; exact hbr)))
            have n6 : (yk == 6) = false := by simp; omega
            have n7 : (yk == 7) = false := by simp; omega
            have n10 : (yk == 10) = false := by simp; omega
            clear hbr
            have HW := Lib.hid (show wantP code f (j + 1) = wantP code f j by rw [wantP, ← HP.out, HCA.out, if_neg HNM.out, List.append_nil])
            go_wp2
            go_roundw
            case rel => exact ⟨j + 1, q, by have := HP.out; omega, by rw [HW.out]; exact HQ.out, by have := HP.out; congr 1; omega, HB2.out, by rw [HW.out]; exact O2.out, F5.out⟩
            case measure => have := HP.out; simp [intOf]; omega
    · have hjn : j = n := by have := HP.out; omega
      subst hjn
      have HPJ := Lib.hid (show p = f + j from HP.out)
      by_cases hqa : q = al
      · have HQA := Lib.hid hqa
        have hle : (wantP code f j).length = x.acc.length := by rw [← HQ.out, hal]; exact hqa
        have HLE := Lib.hid hle
        subst hqa
        clear hle
        go_wp2
        go_loopw [12] (fun i wr2 => ∃ i2 : Nat, i2 ≤ q ∧ i = .int .i64 i2 ∧ AccOk D (wantP code f j) x.acc i2 ∧ wr2.ownsRow (w.heap.size + 3) 89 3 (.slice va q vc) q (acs (wantP code f j)) ∧ Fm Non w wr2 [MCells ca cn cc D ua un uc, UCells s (some ⟨pb, po, none⟩) nl nc, NCells f j ma ml mc aa q ac]) (fun i _ => q - (intOf i).toNat)
        case atStart => exact ⟨0, Nat.zero_le _, rfl, fun i a p hi => by omega, O1.out, F2.out⟩
        case round =>
          obtain ⟨i2, hi2, rfl, hacc, ho2, hF2⟩ := hrel
          have O4 := Lib.hid ho2; have F4 := Lib.hid hF2; have HA := Lib.hid hacc
          clear ho2 hF2 hacc m0 m1 n0 n1 n2 n3 lt0 lt2
          have t0 := F4.out.h0; have t2 := F4.out.h2
          have m0 := t0.cell 0 _ rfl; have m1 := t0.cell 1 _ rfl
          have n0 := t2.cell 0 _ rfl; have n1 := t2.cell 1 _ rfl; have n2 := t2.cell 2 _ rfl; have n3 := t2.cell 3 _ rfl
          have lt0 := t0.lt (by simp); have lt2 := t2.lt (by simp)
          clear t0 t2
          by_cases hlt2 : i2 < q
          · obtain ⟨b, o, A, rfl, hA, _, lb, _, _, _, c0, c1, c2⟩ := AccL.get (Row.below RAcc.stays AX.out F4.out.below) hlt2
            obtain ⟨z, hz⟩ : ∃ z, (wantP code f j)[i2]? = some z := ⟨_, List.getElem?_eq_getElem (by rw [← HQ.out]; exact hlt2)⟩
            obtain ⟨g, rfl, _, lg, _, _, _, gc⟩ := flat_cells O4.out (by omega)
            have e0 := gc _ _ (acs_get hz)
            have HAA := Lib.hid hA; have HZ := Lib.hid hz
            have F5 := Lib.hid (F4.out.more (.cells #[.int .i64 A.at_, .int .i64 A.lo, .int .i64 A.hi] 89))
            have O5 := Lib.hid (flat_below O4.out ((Below.refl _ _).alloc (Nat.le_refl _) (.cells #[.int .i64 A.at_, .int .i64 A.lo, .int .i64 A.hi] 89)))
            clear hA hz gc
            by_cases q1 : A.at_ = z
            · have r1 : (A.at_ != z) = false := by simpa using q1
              have Q1 := Lib.hid q1
              clear q1
              by_cases q2 : A.lo < 0
              · have HNO := Lib.hid (show ¬ NodeOk code D nodes k f j x from fun h => by have := (h.acc i2 A z (by omega) HAA.out HZ.out).2.1; omega)
                go_wp2
                go_quiet (fail)
                go_wp2
                go_ret
                exact ⟨false, rfl, ⟨(fun h => by cases h), (fun h => absurd h HNO.out)⟩, below_drewN F5.out.below nq⟩
              · by_cases q3 : A.hi < A.lo
                · have HNO := Lib.hid (show ¬ NodeOk code D nodes k f j x from fun h => by have := (h.acc i2 A z (by omega) HAA.out HZ.out).2.2.1; omega)
                  go_wp2
                  go_quiet (fail)
                  go_wp2
                  go_ret
                  exact ⟨false, rfl, ⟨(fun h => by cases h), (fun h => absurd h HNO.out)⟩, below_drewN F5.out.below nq⟩
                · by_cases q4 : D ≤ A.hi
                  · have HNO := Lib.hid (show ¬ NodeOk code D nodes k f j x from fun h => by have := (h.acc i2 A z (by omega) HAA.out HZ.out).2.2.2; omega)
                    go_wp2
                    go_quiet (fail)
                    go_wp2
                    go_ret
                    exact ⟨false, rfl, ⟨(fun h => by cases h), (fun h => absurd h HNO.out)⟩, below_drewN F5.out.below nq⟩
                  · have HA2 := Lib.hid (show AccOk D (wantP code f j) x.acc (i2 + 1) from fun i a p hi ha hp => by
                      by_cases e : i = i2
                      · subst e
                        rw [HAA.out] at ha
                        rw [HZ.out] at hp
                        cases ha
                        cases hp
                        exact ⟨Q1.out, by omega, by omega, by omega⟩
                      · exact HA.out i a p (by omega) ha hp)
                    go_wp2
                    go_quiet (fail)
                    go_wp2
                    go_roundw
                    case rel => exact ⟨i2 + 1, by omega, by go_num, HA2.out, O5.out, F5.out.drewN nq⟩
                    case measure => simp [intOf]; omega
            · have r1 : (A.at_ != z) = true := by simpa using q1
              have HNO := Lib.hid (show ¬ NodeOk code D nodes k f j x from fun h => q1 (h.acc i2 A z (by omega) HAA.out HZ.out).1)
              go_wp2
              go_quiet (fail)
              go_wp2
              go_ret
              exact ⟨false, rfl, ⟨(fun h => by cases h), (fun h => absurd h HNO.out)⟩, below_drewN F5.out.below nq⟩
          · have HAC := Lib.hid (show AccOk D (wantP code f j) x.acc x.acc.length from fun i a p hi ha hp => HA.out i a p (by omega) ha hp)
            obtain ⟨e, he⟩ : ∃ e, e + 1 = f + j := ⟨f + j - 1, by omega⟩
            obtain ⟨b, o, y, rfl, hy, yin, _, lb, c0, c1, c2, c3, c4, c5⟩ := InsL.get (Row.below RIns.stays RC.out F4.out.below) (show e < cn by omega)
            obtain ⟨yk, ya, yb, yc, yo, yi⟩ := y
            have HCA := Lib.hid (show cAt code (f + j - 1) = ⟨yk, ya, yb, yc, yo, yi⟩ by rw [show f + j - 1 = e by omega]; exact cAt_of hy)
            have he2 : (f : Int) + (j : Int) - 1 = (e : Int) := by omega
            have hkk : IntKind.i64.wrap ((k : Int) + 1) = ((k + 1 : Nat) : Int) := wrap_in (by omega) (by omega)
            have KI := Lib.hid (show I64 yi from yin.imm)
            clear hy yin
            obtain ⟨NX, hNX⟩ : ∃ l, l = nextI code nodes f j k := ⟨_, rfl⟩
            have HNX := Lib.hid hNX
            obtain ⟨kk, hkk2⟩ : ∃ kk, kk = k + 1 := ⟨_, rfl⟩
            have HKK := Lib.hid hkk2
            rw [← hkk2] at hkk
            have t4 := F4.out.h1
            have u0 := t4.cell 0 _ rfl; have u1 := t4.cell 1 _ rfl; have u2 := t4.cell 2 _ rfl; have u3 := t4.cell 3 _ rfl; have u4 := t4.cell 4 _ rfl; have u5 := t4.cell 5 _ rfl; have u6 := t4.cell 6 _ rfl; have u7 := t4.cell 7 _ rfl; have u8 := t4.cell 8 _ rfl; have u9 := t4.cell 9 _ rfl
            have lt1 := t4.lt (by simp)
            clear t4 hkk2 hNX
            obtain ⟨wb, hwb⟩ : ∃ wb, wb = (wr.alloc (.cells #[.int .i64 (kk : Int)] 3)).alloc (.cells #[.int .i64 yk, .int .i64 ya, .int .i64 yb, .int .i64 yc, .int .i64 yo, .int .i64 yi] 50) := ⟨_, rfl⟩
            go_upto_block 5 with fail
            rw [← hwb]
            have FB := Lib.hid (show Fm Non w wb [MCells (some ⟨b, o, none⟩) cn cc D ua un uc, UCells s (some ⟨pb, po, none⟩) nl nc, NCells f j ma ml mc aa q ac] by rw [hwb]; exact (F4.out.more _).more _)
            have L0 := Lib.hid (show Blk wb wr.heap.size 3 (ivs [(kk : Int)]) by rw [hwb]; exact (Blk.new wr (ivs [(kk : Int)]) 3).old _)
            have Y0 := Lib.hid (show Has wb (wr.heap.size + 1) (ICells ⟨yk, ya, yb, yc, yo, yi⟩) by rw [hwb]; exact (Has.new (wr.alloc (.cells #[.int .i64 (kk : Int)] 3)) (ICells ⟨yk, ya, yb, yc, yo, yi⟩) 50).at' (by simp))
            have LR := Lib.hid (show w.heap.size + 3 ≤ wr.heap.size by have := F4.out.size; simpa using this)
            have NB := Lib.hid (Row.below RNd.stays RN.out FB.out.below)
            clear hwb u0 u1 u2 u3 u4 u5 u6 u7 u8 u9 m0 m1 n0 n1 n2 n3 lt0 lt1 lt2 c0 c1 c2 c3 c4 c5 O4 F4
            have t0 := FB.out.h0; have t1 := FB.out.h1; have t2 := FB.out.h2
            have m0 := t0.cell 0 _ rfl; have n2 := t2.cell 2 _ rfl
            have u0 := t1.cell 0 _ rfl
            have u1 := t1.cell 1 _ rfl
            have u2 := t1.cell 2 _ rfl
            have u3 := t1.cell 3 _ rfl
            have u4 := t1.cell 4 _ rfl
            have u5 := t1.cell 5 _ rfl
            have u6 := t1.cell 6 _ rfl
            have u7 := t1.cell 7 _ rfl
            have u8 := t1.cell 8 _ rfl
            have u9 := t1.cell 9 _ rfl
            have z0 := Y0.out.cell 0 _ rfl; have z5 := Y0.out.cell 5 _ rfl
            clear t0 t1 t2
            go_cut [14, 120, 122, 129] (fun s14 _ _ _ wx => ∃ a n c, s14 = .slice a n c ∧ Ints (fun _ => True) wx a n c NX ∧ Fm Non w wx [MCells (some ⟨b, o, none⟩) cn cc D ua un uc, UCells s (some ⟨pb, po, none⟩) nl nc, NCells f j ma ml mc aa q ac])
            case first =>
              by_cases k10 : yk = 10
              · have HE := Lib.hid (show NX = [] by rw [HNX.out]; unfold nextI; rw [HCA.out]; dsimp only; rw [if_pos k10])
                subst k10
                go_wp2
                go_meet
                exact ⟨none, 0, 0, rfl, by rw [HE.out]; exact Row.nil _ _ _ _ _ (by decide), FB.out⟩
              · have e10 : (yk == 10) = false := by simpa using k10
                have AR := atF_range nodes yi nodes.length 0 (by omega)
                obtain ⟨A, hA⟩ : ∃ A, A = atI nodes yi := ⟨_, rfl⟩
                have HA2 := Lib.hid hA
                have AB : -1 ≤ A ∧ A ≤ 1024 := by rw [hA]; unfold atI; omega
                clear hA AR
                by_cases k6 : yk = 6
                · have HE := Lib.hid (show NX = [A] by rw [HNX.out]; unfold nextI; rw [HCA.out]; dsimp only; rw [if_neg k10, if_pos k6, HA2.out])
                  subst k6
                  go_wp2_with fail
                  refine (rat_any _ s _ nl nc nodes yi _ NB.out).mono ?_
                  rintro e wc ⟨rfl, hbc⟩
                  rw [← HA2.out]
                  have FC := Lib.hid ((Fm.call hbc FB.out).more (.cells (ivs [A]).toArray 3))
                  have LN := Lib.hid (ints_new wc [A] 1 3 rfl (by omega) (fun z hz => by simp at hz; omega))
                  clear hbc
                  go_wp2
                  go_meet
                  exact ⟨_, _, _, rfl, by rw [HE.out]; exact Row.wide RInt.wider (fun _ _ _ => trivial) LN.out, FC.out⟩
                · have e6 : (yk == 6) = false := by simpa using k6
                  by_cases k7 : yk = 7
                  · have HE := Lib.hid (show NX = [(kk : Int), A] by rw [HNX.out]; unfold nextI; rw [HCA.out]; dsimp only; rw [if_neg k10, if_neg k6, if_pos k7, HA2.out, HKK.out])
                    subst k7
                    go_wp2_with fail
                    refine (rat_any _ s _ nl nc nodes yi _ NB.out).mono ?_
                    rintro e wc ⟨rfl, hbc⟩
                    rw [← HA2.out]
                    have FC := Lib.hid ((Fm.call hbc FB.out).more (.cells (ivs [A]).toArray 3))
                    have OL := Lib.hid (owns_lit (B := w.heap.size + 3) ((L0.out.below hbc L0.out.lt).old (.cells (ivs [A]).toArray 3)) (n := 1) rfl (by omega) LR.out)
                    have BA := Lib.hid (Blk.new wc (ivs [A]) 3)
                    clear hbc
                    go_wp2_with (at_builtin; refine wpList_append_flat rfl _ _ 22 rfl 3 Try.underlying22 info_int rfl (by decide) OL.out rfl (by have := FC.out.size; simpa using this) ⟨wc.heap.size, 0, none⟩ 1 1 (ivs [A]) rfl rfl (fun j u hu => by rw [Go.WideShapes.add_plain, Nat.zero_add]; exact BA.out.cell hu) ivs_one (by decide) (by omega) (by decide) ?_; intro g c6 w6 hap)
                    have F6 := Lib.hid (FC.out.chgd hap.out.chg (fun k hk => .inr (by have := (OL.out.lt k hk).1; simp; omega)))
                    have Q6 := Lib.hid (flat_ints (K := fun _ => True) (l := [(kk : Int), A]) hap.out.owns (fun z hz => by simp at hz; have := HKK.out; omega) (by omega) (fun _ _ => trivial))
                    clear hap
                    go_wp2
                    go_meet
                    exact ⟨_, _, _, rfl, by rw [HE.out]; exact Q6.out, F6.out⟩
                  · have HE := Lib.hid (show NX = [(kk : Int)] by rw [HNX.out]; unfold nextI; rw [HCA.out]; dsimp only; rw [if_neg k10, if_neg k6, if_neg k7, HKK.out])
                    have e7 : (yk == 7) = false := by simpa using k7
                    have Q6 := Lib.hid (flat_ints (K := fun _ => True) (l := [(kk : Int)]) (owns_lit (B := 0) L0.out (n := 1) rfl (by omega) (by omega)) (fun z hz => by simp at hz; have := HKK.out; omega) (by omega) (fun _ _ => trivial))
                    go_wp2
                    go_meet
                    exact ⟨_, _, _, rfl, by rw [HE.out]; exact Q6.out, FB.out⟩
            case rest =>
              obtain ⟨sa, sn, sc, rfl, hin, hfm⟩ := hcut
              have IN := Lib.hid hin; have FX := Lib.hid hfm
              clear hin hfm u0 u1 u2 u3 u4 u5 u6 u7 u8 u9 m0 n2 z0 z5
              have v2 := FX.out.h2.cell 2 _ rfl
              have v1 := FX.out.h1.cell 1 _ rfl
              have XN := Lib.hid (Ints.below NXT.out FX.out.below)
              go_wp2_with fail
              refine (sameints_any _ _ _ _ _ _ _ _ _ _ _ XN.out IN.out).mono ?_
              rintro e wd ⟨rfl, hbd⟩
              have FD := Lib.hid (Fm.call hbd FX.out)
              have IN2 := Lib.hid (Ints.below IN.out hbd)
              clear hbd v2 v1
              have v1 := FD.out.h1.cell 1 _ rfl
              by_cases hxn : x.next = NX
              · rw [decide_eq_true hxn]
                go_wp2_with fail
                refine (rall_any _ sa sn sc NX (nl : Int) _ IN2.out).mono ?_
                rintro e we ⟨rfl, hwe⟩
                subst hwe
                have HNO := Lib.hid (show allI NX (nl : Int) = true ↔ NodeOk code D nodes k f j x from ⟨fun h => ⟨HB.out, HLE.out, HAC.out, by rw [hxn]; exact HNX.out, by rw [← HNX.out, hll]; exact h⟩, fun h => by have := h.all; rw [← HNX.out, hll] at this; exact this⟩)
                go_wp2
                go_ret
                exact ⟨_, rfl, HNO.out, FD.out.below⟩
              · rw [decide_eq_false hxn]
                have HNO := Lib.hid (show ¬ NodeOk code D nodes k f j x from fun h => hxn (by rw [h.next]; exact HNX.out.symm))
                go_wp2
                go_ret
                exact ⟨false, rfl, ⟨(fun h => by cases h), (fun h => absurd h HNO.out)⟩, FD.out.below⟩
      · have HNO := Lib.hid (show ¬ NodeOk code D nodes k f j x from fun h => hqa (by rw [HQ.out, h.len]; exact hal))
        go_wp2
        go_ret
        exact ⟨false, rfl, ⟨(fun h => by cases h), (fun h => absurd h HNO.out)⟩, F2.out.below⟩
end Go.Proofs.Ytonbmijhbbodnaa
