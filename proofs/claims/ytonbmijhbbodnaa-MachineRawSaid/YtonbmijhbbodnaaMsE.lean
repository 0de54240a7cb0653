/-
  emit.unit and emit.Check of right images of units that have nodes alone.
-/
import Derived.Test.YtonbmijhbbodnaaZMsC
import Derived.Test.YtonbmijhbbodnaaImF
namespace Go.Proofs.Ytonbmijhbbodnaa
open Go.RowKit

theorem unit_node {code : List Ins} {D : Int} {e : Nat} {nodes : List Nd} (h : UnitOk code D e nodes) (_he : e ≤ code.length) {k : Nat} {x : Nd} (hx : nodes[k]? = some x) :
    ∃ f n : Nat, x.first = f ∧ x.cnt = n ∧ 1 ≤ n ∧ f + n ≤ code.length ∧ endOf e (nodes.take k) = f ∧ endOf e (nodes.take (k + 1)) = ((f + n : Nat) : Int) ∧ NodeOk code D nodes k f n x := by
  obtain ⟨h1, h2, h3⟩ := chain_node h.chain hx
  have hg := chain_ge (chain_take h.chain k)
  obtain ⟨f, hf⟩ := Int.eq_ofNat_of_zero_le (show 0 ≤ x.first by omega)
  obtain ⟨n, hn⟩ := Int.eq_ofNat_of_zero_le (show 0 ≤ x.cnt by omega)
  have hn2 : x.cnt = (n : Int) := hn
  have hf2 : x.first = (f : Int) := hf
  refine ⟨f, n, hf, hn, by omega, by omega, by omega, by rw [endOf_succ hx]; omega, ?_⟩
  have := h.nodes k x hx
  rw [hf2, hn2] at this
  exact this
theorem next_len {c : List Ins} {l : List Nd} {f n k : Nat} {x : Nd} (hf : x.first = f) (hn : x.cnt = n) (h1 : 1 ≤ n) : ((nextI c l f n k).length = 0 ↔ isEnd c x = true) := by
  unfold nextI isEnd
  rw [hf, hn, show ((f : Int) + (n : Int)).toNat - 1 = f + n - 1 by omega]
  simp only [beq_iff_eq]
  by_cases h : (cAt c (f + n - 1)).k = 10
  · simp [h]
  · simp only [h, if_false, iff_false]
    split
    · simp
    · split <;> simp
set_option maxRecDepth 100000 in
set_option maxHeartbeats 16000000 in
theorem munit_any (K : Nat → Prop) (ca : Option Addr) (cn cc : Nat) (D : Int) (ua : Option Addr) (un uc : Nat) (s : ByteArray) (na : Option Addr) (nl nc : Nat) (code : List Ins) (nodes : List Nd) (e0 : Nat) (w : World)
    (rc : InsL K w ca cn cc code) (rn : NdL K w na nl nc nodes) (hcn : cn ≤ 1024) (hD : D ≤ 1024) (he : e0 ≤ cn) (hok : UnitOk code D e0 nodes) :
    Calls Try.prog 64 #[MV ca cn cc D ua un uc, UV s na nl nc, .int .i64 e0] w fun r w' => r = .returned (.tuple #[.int .i64 (endOf e0 nodes), .bool true]) ∧ Below w.heap.size w w' := by
  have F0 := Lib.hid (Fm.new (Fm.new (Fm.start Non w) rfl (MCells ca cn cc D ua un uc) 31) (by simp) (UCells s na nl nc) 79)
  have RC := Lib.hid rc; have RN := Lib.hid rn; have HOK := Lib.hid hok
  have hll := rn.hlen; have hcl := rc.hlen
  have hnl : nl ≤ 1024 := by have := hok.len; omega
  have HLL := Lib.hid hll; have HCL := Lib.hid hcl
  have NT := Lib.hid (fun k x (hx : nodes[k]? = some x) => unit_node hok (by omega) hx)
  clear rc rn hok hll hcl
  go_enter Try.func64, Try.ntmps64
  go_upto_block 0 with fail
  obtain ⟨w1, hw1⟩ : ∃ w1, w1 = (w.alloc (.cells #[.slice ca cn cc, .int .i64 D, NIL, .slice ua un uc] 31)).alloc (.cells #[.string s, .slice na nl nc, NIL, NIL, NIL, NIL, NIL, NIL, NIL, NIL] 79) := ⟨_, rfl⟩
  rw [← hw1]
  have F1 := Lib.hid (show Fm Non w w1 [MCells ca cn cc D ua un uc, UCells s na nl nc] by rw [hw1]; exact F0.out)
  clear hw1 F0
  go_wp2
  go_loopw [2, 18] (fun a i wr => ∃ k e : Nat, k ≤ nl ∧ i = .int .i64 k ∧ a = .int .i64 e ∧ endOf e0 (nodes.take k) = e ∧ e ≤ cn ∧ Fm Non w wr [MCells ca cn cc D ua un uc, UCells s na nl nc]) (fun _ i _ => nl - (intOf i).toNat)
  case atStart => exact ⟨0, e0, Nat.zero_le _, rfl, rfl, by rw [List.take_zero, endOf_nil], he, F1.out⟩
  case round =>
    obtain ⟨k, e, hk, rfl, rfl, hE, hec, hfm⟩ := hrel
    have FR := Lib.hid hfm; have HE := Lib.hid hE
    clear hfm F1 hE
    by_cases hlt : k < nl
    · obtain ⟨b, o, x, ya, yl, yc, aa, al, ac, rfl, hx, _, lb, _, _, g0, g1, g2, g3, _, _⟩ := NdL.get (Row.below RNd.stays RN.out FR.out.below) hlt
      obtain ⟨f, n, hf, hn, h1, hfn, hA, hB, -⟩ := NT.out k x hx
      rw [hf] at g0; rw [hn] at g1
      obtain rfl : e = f := by have := HE.out; omega
      have hfn2 : e + n ≤ cn := by rw [← HCL.out]; exact hfn
      have HB := Lib.hid hB
      have m0 := FR.out.h0.cell 0 _ rfl; have mlt := FR.out.h0.lt (by simp)
      have FN := Lib.hid (FR.out.more (.cells (NdC e n ya yl yc aa al ac).toArray 70))
      clear hf hn hA hB hx hfn
      have q1 : ((e : Int) != (e : Int)) = false := by simp
      go_wp2
      go_roundw
      case rel => exact ⟨k + 1, e + n, by omega, by go_num, by go_num, HB.out, hfn2, FN.out⟩
      case measure => simp [intOf]; omega
    · have HE2 := Lib.hid (show endOf e0 nodes = (e : Int) by rw [← HE.out, List.take_of_length_le (by rw [HLL.out]; omega)])
      have u1 := FR.out.h1.cell 1 _ rfl
      obtain ⟨wo, rfl⟩ : ∃ wo : World, wo = wr := ⟨_, rfl⟩
      go_wp2
      clear hlt HE
      go_loopw [8, 49] (fun a i wr => ∃ k c : Nat, k ≤ nl ∧ i = .int .i64 k ∧ a = .int .i64 c ∧ endsN code (nodes.take k) = c ∧ c ≤ k ∧ Fm Non w wr [MCells ca cn cc D ua un uc, UCells s na nl nc]) (fun _ i _ => nl - (intOf i).toNat)
      case atStart => exact ⟨0, 0, Nat.zero_le _, rfl, rfl, by simp [endsN], Nat.le_refl _, FR.out⟩
      case round =>
        obtain ⟨i, c, hi, rfl, rfl, hC, hci, hfm⟩ := hrel
        have FS := Lib.hid hfm; have HC := Lib.hid hC
        clear hfm FR hC u1
        by_cases hlt : i < nl
        · obtain ⟨b, o, x, ya, yl, yc, aa, al, ac, rfl, hx, _, lb, _, _, g0, g1, g2, g3, hy, ha⟩ := NdL.get (Row.below RNd.stays RN.out FS.out.below) hlt
          obtain ⟨f, n, hf, hn, h1, hfn, -, -, hok⟩ := NT.out i x hx
          have HEN := Lib.hid (ends_succ (c := code) hx)
          have HNL := Lib.hid (next_len (c := code) (l := nodes) (k := i) hf hn h1)
          rw [hf] at g0; rw [hn] at g1
          obtain ⟨xf, xn, xnext, xacc⟩ := x
          dsimp only at hf hn g0 g1 hy ha
          subst hf hn
          have hfn2 : f + n ≤ cn := by rw [← HCL.out]; exact hfn
          have HX := Lib.hid hx; have HOKN := Lib.hid hok; have HY := Lib.hid hy; have HA := Lib.hid ha
          have F3 := Lib.hid (Fm.call ((Below.refl _ _).alloc (Nat.le_refl _) (.cells #[.int .i64 f, .int .i64 n, .slice ya yl yc, .slice aa al ac] 70)) FS.out)
          have N3 := Lib.hid (Has.new wr (NdC f n ya yl yc aa al ac) 70)
          have B3 := Lib.hid ((Below.refl wr.heap.size wr).alloc (Nat.le_refl _) (.cells #[.int .i64 f, .int .i64 n, .slice ya yl yc, .slice aa al ac] 70))
          have m0 := FS.out.h0.cell 0 _ rfl; have m1 := FS.out.h0.cell 1 _ rfl; have m2 := FS.out.h0.cell 2 _ rfl; have m3 := FS.out.h0.cell 3 _ rfl; have mlt := FS.out.h0.lt (by simp)
          have t0 := FS.out.h1
          have u0 := t0.cell 0 _ rfl; have u1 := t0.cell 1 _ rfl; have u2 := t0.cell 2 _ rfl; have u3 := t0.cell 3 _ rfl; have u4 := t0.cell 4 _ rfl; have u5 := t0.cell 5 _ rfl; have u6 := t0.cell 6 _ rfl; have u7 := t0.cell 7 _ rfl; have u8 := t0.cell 8 _ rfl; have u9 := t0.cell 9 _ rfl; have ult := t0.lt (by simp)
          clear t0 hx hok hy ha hfn
          go_wp2_with fail
          refine (leads_any K ca cn cc D ua un uc s _ nl nc code nodes i xnext xacc f n _ (Row.below RIns.stays RC.out F3.out.below) (Row.below RNd.stays RN.out F3.out.below) hcn hnl HX.out h1 hfn2 HOKN.out).mono ?_
          rintro _ w4 ⟨la, ln, lc, rfl, hL, hb⟩
          have F4 := Lib.hid (Fm.call hb F3.out); have N4 := Lib.hid (N3.out.below hb (by simp)); have B4 := Lib.hid (B3.out.trans (hb.mono B3.out.size))
          have HL := Lib.hid hL
          have hlen := hL.hlen
          have hlsz := hL.hsz
          clear hb hL F3 N3 B3 m0 m1 m2 m3 mlt u0 u1 u2 u3 u4 u5 u6 u7 u8 u9 ult
          have n2 := N4.out.cell 2 _ rfl
          go_wp2_with fail
          refine (equal_any (fun _ => True) K la ya ln yl lc yc _ w4 HL.out (by have h := Row.below RInt.stays HY.out B4.out; have := HOKN.out.next; dsimp only at this; rw [← this]; exact h)).mono ?_
          rintro _ w5 ⟨rfl, hb⟩
          have F5 := Lib.hid (Fm.call hb F4.out); have N5 := Lib.hid (N4.out.below hb (N4.out.lt (by simp))); have B5 := Lib.hid (B4.out.trans (hb.mono B4.out.size))
          clear hb F4 N4 B4 n2
          have m0 := F5.out.h0.cell 0 _ rfl; have m1 := F5.out.h0.cell 1 _ rfl; have m2 := F5.out.h0.cell 2 _ rfl; have m3 := F5.out.h0.cell 3 _ rfl
          have n0 := N5.out.cell 0 _ rfl; have n1 := N5.out.cell 1 _ rfl; have n2 := N5.out.cell 2 _ rfl; have n3 := N5.out.cell 3 _ rfl
          go_wp2_with fail
          refine (touches_any K ca cn cc D ua un uc code nodes i xnext xacc f n ya yl yc aa al ac w5 (Row.below RIns.stays RC.out F5.out.below) (Row.below RAcc.stays HA.out B5.out) hcn hD h1 hfn2 HOKN.out).mono ?_
          rintro _ w6 ⟨rfl, hb⟩
          have F6 := Lib.hid (Fm.call hb F5.out)
          clear hb F5 N5 B5 m0 m1 m2 m3 n0 n1 n2 n3
          by_cases hE : isEnd code ⟨f, n, xnext, xacc⟩ = true
          · have hl0 : ln = 0 := by rw [← hlen]; exact HNL.out.2 hE
            have HC2 := Lib.hid (show endsN code (nodes.take (i + 1)) = ((c + 1 : Nat) : Int) by rw [HEN.out, HC.out, if_pos hE]; omega)
            subst hl0
            clear hlen hE
            go_wp2
            go_roundw
            case rel => exact ⟨i + 1, c + 1, by omega, by go_num, by go_num, HC2.out, by omega, F6.out⟩
            case measure => simp [intOf]; omega
          · have hl0 : (((ln : Nat) : Int) == 0) = false := by
              have := fun h => hE (HNL.out.1 h)
              rw [hlen] at this
              simp; omega
            have hl1 : decide (ln = 0) = false := by simpa using hl0
            have HC2 := Lib.hid (show endsN code (nodes.take (i + 1)) = (c : Int) by rw [HEN.out, HC.out, if_neg hE]; omega)
            clear hlen hE
            go_wp2
            go_roundw
            case rel => exact ⟨i + 1, c, by omega, by go_num, rfl, HC2.out, by omega, F6.out⟩
            case measure => simp [intOf]; omega
        · have hc1 : c = 1 := by
            have h1 := HC.out
            rw [List.take_of_length_le (by rw [HLL.out]; omega), HOK.out.ends] at h1
            omega
          subst hc1
          have t0 := FS.out.h1
          have u0 := t0.cell 0 _ rfl; have u1 := t0.cell 1 _ rfl; have u2 := t0.cell 2 _ rfl; have u3 := t0.cell 3 _ rfl; have u4 := t0.cell 4 _ rfl; have u5 := t0.cell 5 _ rfl; have u6 := t0.cell 6 _ rfl; have u7 := t0.cell 7 _ rfl; have u8 := t0.cell 8 _ rfl; have u9 := t0.cell 9 _ rfl
          clear t0
          go_wp2_with fail
          refine (names_any s na nl nc wr).mono ?_
          rintro _ w4 ⟨rfl, hb⟩
          have F4 := Lib.hid (Fm.call hb FS.out)
          clear hb u0 u1 u2 u3 u4 u5 u6 u7 u8 u9
          go_wp2
          go_ret2
          exact ⟨by rw [HE2.out]; rfl, F4.out.below⟩
theorem good_get {l : List Ins} (h : Good l) {k : Nat} {x : Ins} (hx : l[k]? = some x) : chkI x = 0 := h x (List.mem_of_getElem? hx)
set_option maxRecDepth 100000 in
set_option maxHeartbeats 16000000 in
/-- Check of a right image, or of one without units. -/
theorem mcheckM_any (K : Nat → Prop) (ca : Option Addr) (cn cc : Nat) (D : Int) (ua : Option Addr) (un uc : Nat) (m : Img) (w : World) (h : IsImg K w ca cn cc D ua un uc m) (hl : ¬ Limit m) (hg : Good m.code) (hd : 0 ≤ m.data) (hu : UnitsOk m.code m.data 0 m.units ∨ m.units = [] ∧ m.code ≠ []) :
    Calls Try.prog 36 #[MV ca cn cc D ua un uc] w fun e w' => ∃ r, e = .returned (.int .i64 r) ∧ (r = 0 ∨ r = 10) ∧ ChkIs m r ∧ Below w.heap.size w w' := by
  obtain ⟨code, data, units⟩ := m
  have hD : D = data := h.data
  subst hD
  have F0 := Lib.hid (Fm.new (Fm.start Non w) rfl (MCells ca cn cc D ua un uc) 31)
  have RC := Lib.hid h.code; have RU := Lib.hid h.units; have HG := Lib.hid hg; have HU := Lib.hid hu; have HL := Lib.hid hl
  have hcl := h.code.hlen; have hul := h.units.hlen
  dsimp only at hcl hul
  have hcn : cn ≤ 1024 := by unfold Limit at hl; dsimp only at hl; omega
  have hdm : D ≤ 1024 := by unfold Limit at hl; dsimp only at hl; omega
  have hun : un ≤ 6 := by unfold Limit at hl; dsimp only at hl; omega
  have HCL := Lib.hid hcl; have HUL := Lib.hid hul
  have hd0 : 0 ≤ D := hd
  clear h hg hu hl hd hcl hul
  go_enter Try.func36, Try.ntmps36
  go_upto_block 0 with fail
  obtain ⟨w1, hw1⟩ : ∃ w1, w1 = w.alloc (.cells #[.slice ca cn cc, .int .i64 D, NIL, .slice ua un uc] 31) := ⟨_, rfl⟩
  rw [← hw1]
  have F1 := Lib.hid (show Fm Non w w1 [MCells ca cn cc D ua un uc] by rw [hw1]; exact F0.out)
  clear hw1 F0
  go_wp2
  go_loopw [28] (fun i wr => ∃ k : Nat, k ≤ cn ∧ i = .int .i64 k ∧ Fm Non w wr [MCells ca cn cc D ua un uc]) (fun i _ => cn - (intOf i).toNat)
  case atStart => exact ⟨0, Nat.zero_le _, rfl, F1.out⟩
  case round =>
    obtain ⟨k, hk, rfl, hfm⟩ := hrel
    have FR := Lib.hid hfm
    clear hfm F1
    by_cases hlt : k < cn
    · obtain ⟨b, o, x, rfl, hx, _, _, lb, c0, c1, c2, c3, c4, c5⟩ := InsL.get (Row.below RIns.stays RC.out FR.out.below) hlt
      have HX := Lib.hid (good_get HG.out hx)
      have FN := Lib.hid (FR.out.more (.cells (ICells x).toArray 50))
      have C := Lib.hid (check_any x)
      clear hx
      go_wp2_with fail
      refine (C.out _).mono ?_
      rintro _ w3 ⟨rfl, hb⟩
      rw [HX.out]
      have F3 := Lib.hid (Fm.call hb FN.out)
      clear hb c0 c1 c2 c3 c4 c5
      go_wp2
      go_roundw
      case rel => exact ⟨k + 1, by omega, by go_num, F3.out⟩
      case measure => simp [intOf]; omega
    · have m1 := FR.out.h0.cell 1 _ rfl; have m3 := FR.out.h0.cell 3 _ rfl
      obtain ⟨wo, rfl⟩ : ∃ wo : World, wo = wr := ⟨_, rfl⟩
      go_wp2
      clear hlt m1 m3
      go_loopw [6, 44] (fun a i wr => ∃ k e : Nat, k ≤ un ∧ i = .int .i64 k ∧ a = .int .i64 e ∧ e ≤ cn ∧ (UnitsOk code D 0 units → UnitsOk code D e (units.drop k)) ∧ (units = [] → e = 0) ∧ Fm Non w wr [MCells ca cn cc D ua un uc]) (fun _ i _ => un - (intOf i).toNat)
      case atStart => exact ⟨0, 0, Nat.zero_le _, rfl, rfl, Nat.zero_le _, fun h => h, fun _ => rfl, FR.out⟩
      case round =>
        obtain ⟨i, e, hi, rfl, rfl, hec, hE, hE0, hfm⟩ := hrel
        have FS := Lib.hid hfm; have HE := Lib.hid hE; have HE0 := Lib.hid hE0
        clear hfm FR hE hE0
        have m0 := FS.out.h0.cell 0 _ rfl; have m1 := FS.out.h0.cell 1 _ rfl; have m2 := FS.out.h0.cell 2 _ rfl; have m3 := FS.out.h0.cell 3 _ rfl; have mlt := FS.out.h0.lt (by simp)
        by_cases hlt : i < un
        · obtain ⟨b, o, u, s, na, nl, nc, rfl, hu, _, lb, hn, hcs⟩ := UnL.get (Row.below RUn.stays RU.out FS.out.below) hlt
          have HUK := Lib.hid (HU.out.resolve_right (fun h => by have := HUL.out; rw [h.1] at this; simp at this; omega))
          have hdrop : units.drop i = u :: units.drop (i + 1) := by
            have hl := (List.getElem?_eq_some_iff.1 hu).1
            rw [List.drop_eq_getElem_cons hl]
            rw [List.getElem?_eq_getElem hl] at hu
            cases hu; rfl
          have hok := HE.out HUK.out
          rw [hdrop] at hok
          have HOK := Lib.hid hok.1
          have HRE := Lib.hid hok.2
          have HN := Lib.hid hn
          have g0 := hcs 0 _ rfl; have g1 := hcs 1 _ rfl; have g2 := hcs 2 _ rfl; have g3 := hcs 3 _ rfl; have g4 := hcs 4 _ rfl; have g5 := hcs 5 _ rfl; have g6 := hcs 6 _ rfl; have g7 := hcs 7 _ rfl; have g8 := hcs 8 _ rfl; have g9 := hcs 9 _ rfl
          simp only [Nat.add_zero] at g0
          have FN := Lib.hid (FS.out.more (.cells (UCells s na nl nc).toArray 79))
          have B1 := Lib.hid ((Below.refl wr.heap.size wr).alloc (Nat.le_refl _) (.cells (UCells s na nl nc).toArray 79))
          obtain ⟨e2, he2⟩ := Int.eq_ofNat_of_zero_le (show 0 ≤ endOf e u from Int.le_trans (by omega) (chain_ge hok.1.chain))
          have he2 : endOf e u = (e2 : Int) := he2
          have he3 : e2 ≤ cn := by have := chain_le hok.1.chain (by have := HCL.out; omega); have := HCL.out; omega
          have HE2 := Lib.hid he2
          clear hn hu hdrop hok hcs he2
          go_wp2_with fail
          refine (munit_any K ca cn cc D _ un uc s na nl nc code u e _ (Row.below RIns.stays RC.out FN.out.below) (Row.below RNd.stays HN.out B1.out) hcn hdm hec HOK.out).mono ?_
          rintro _ w4 ⟨rfl, hb⟩
          rw [HE2.out]
          have F4 := Lib.hid (Fm.call hb FN.out)
          clear hb m0 m1 m2 m3 mlt g0 g1 g2 g3 g4 g5 g6 g7 g8 g9 FN B1
          go_wp2
          go_roundw
          case rel => exact ⟨i + 1, e2, by omega, by go_num, rfl, he3, fun _ => by rw [← HE2.out]; exact HRE.out, fun h => by have := HUL.out; rw [h] at this; simp at this; omega, F4.out⟩
          case measure => simp [intOf]; omega
        · have hdr : units.drop i = [] := List.drop_of_length_le (by rw [HUL.out]; omega)
          by_cases hku : UnitsOk code D 0 units
          · have h2 := HE.out hku
            rw [hdr] at h2
            have h2 : (e : Int) = code.length := h2
            obtain rfl : e = cn := by have := HCL.out; omega
            have q1 : ((e : Int) != (e : Int)) = false := by simp
            have HK := Lib.hid hku
            clear h2 hku hdr
            go_wp2
            go_ret
            exact ⟨0, rfl, .inl rfl, .ok HL.out HG.out (by show ¬ D < 0; omega) HK.out, FS.out.below⟩
          · obtain ⟨h1, h2⟩ := HU.out.resolve_left hku
            obtain rfl : e = 0 := HE0.out h1
            have hcn0 : cn ≠ 0 := fun h => h2 (List.length_eq_zero_iff.1 (by have := HCL.out; omega))
            have HK := Lib.hid hku
            have q1 : decide (0 = cn) = false := by simp; omega
            have q2 : ((0 : Int) != (cn : Int)) = true := by simp; omega
            clear h1 h2 hku hdr
            go_wp2
            go_ret
            exact ⟨10, rfl, .inr rfl, .no HL.out HG.out (by show ¬ D < 0; omega) HK.out, FS.out.below⟩
end Go.Proofs.Ytonbmijhbbodnaa
