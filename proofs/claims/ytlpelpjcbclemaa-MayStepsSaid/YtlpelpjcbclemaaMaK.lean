/-
  The document's Join (lines that can be there).
-/
import Derived.Deep.DeepCutAuto
import Derived.Test.YtlpelpjcbclemaaMaG
import Derived.Test.YtlpelpjcbclemaaZMaI
import Derived.Test.YtlpelpjcbclemaaHeadr
namespace Go.Proofs.Ytlpelpjcbclemaa
open Go.RowKit

theorem Coll.form {w : World} {F : Nat → Prop} {v : Value} {vs : List Value} (h : Coll w F v vs) {n : Nat} (hn : vs.length = n) : ∃ a c, v = .slice a n c := by
  subst hn
  rcases h.owns.2 with ⟨h2, h3⟩ | ⟨b, cap, cur, h2, _⟩
  · exact ⟨none, 0, by rw [h2, h3]⟩
  · exact ⟨_, _, h2⟩
/-- Blocks that the body of the document's Join leaves alone: old ones, and those from B to C. -/
def Kp (A B C : Nat) (j : Nat) : Prop := j < A ∨ (B ≤ j ∧ j < C)
theorem ageY_at {S W : Nat} {m : List (List (List Int))} {o : List Int} {x : Int} {s : Nat} {g : List (List Int)} {k : Nat} (hS : 0 < S) (hx : x % (S : Int) = (s : Int)) (hg : m.getD s [] = g) (hk : o.getD s 0 = (k : Int)) : ageY S W m o x = ageF W g k x := by
  have e : setN S x = s := by have := setN_int hS x; omega
  exact ageY_found (by omega) (by rw [e]; exact hg) (by rw [e]; exact hk)
theorem ints_old {w : World} {a : Option Addr} {n c : Nat} {oa : Option Addr} {on oc : Nat} {m : List (List (List Int))} {o : List Int} {K : Nat → Prop} (r : YCub K w a n c oa on oc m o) : YCub (fun j => j < w.heap.size) w a n c oa on oc m o :=
  ⟨Row.wide (RSl.wider (RSl.wider RInt.wider)) (fun _ _ h => h) r.cub, Row.wide RInt.wider (fun _ _ h => h) r.ints⟩

set_option maxRecDepth 100000 in
set_option maxHeartbeats 16000000 in
theorem yrjoin_any (U : List Int) (hU : U.length ≤ 1000) (S W L : Nat) (hc : COk S W L) (m q : List (List (List Int))) (o r : List Int) (hm : YSt U S W m o) (hq : YSt U S W q r) (K1 K2 : Nat → Prop) (a1 : Option Addr) (l1 c1 : Nat) (d1 : Option Addr) (n1 e1 : Nat) (a2 : Option Addr) (l2 c2 : Nat) (d2 : Option Addr) (n2 e2 : Nat) (w : World) (r1 : YCub K1 w a1 l1 c1 d1 n1 e1 m o) (r2 : YCub K2 w a2 l2 c2 d2 n2 e2 q r) :
    Calls Try.prog 16 #[CV S W L, YV a1 l1 c1 d1 n1 e1, YV a2 l2 c2 d2 n2 e2] w (YRet (joinYm S W m o q r) (joinYo S o r) w) := by
  have h1 : l1 = S := by rw [← r1.cub.hlen]; exact hm.len
  have h2 : n1 = S := by rw [← r1.ints.hlen]; exact hm.olen
  have h3 : l2 = S := by rw [← r2.cub.hlen]; exact hq.len
  have h4 : n2 = S := by rw [← r2.ints.hlen]; exact hq.olen
  subst h1
  obtain rfl : l1 = n1 := h2.symm
  obtain rfl : l1 = l2 := h3.symm
  obtain rfl : l1 = n2 := h4.symm
  clear h2 h3 h4
  have hC := Lib.hid hc
  obtain ⟨g1, g2, g3, g4, g5, g6⟩ := hc
  have hcp1 := r1.cub.hcap; have hcm1 := r1.cub.hmax; have hsz1 := r1.cub.hsz
  have F0 := Lib.hid (Fm.new (Fm.new (Fm.new (Fm.new (Fm.start Non w) rfl [.int .i64 l1, .int .i64 W, .int .i64 L] 26) (by simp) [.slice a1 l1 c1, .slice d1 l1 e1] 31) (by simp) [.slice a2 l1 c2, .slice d2 l1 e2] 31) (by simp) [.slice none 0 0, .slice none 0 0] 31)
  have HR1 := Lib.hid (ints_old r1); have HR2 := Lib.hid (ints_old r2); have HM := Lib.hid hm; have HQ := Lib.hid hq
  have TP := Lib.hid (fun w => yrtop_any l1 W L hC.out w)
  clear r1 r2 hm hq
  have HJL := Lib.hid (joinYm_len (S := l1) (W := W) (m := m) (o := o) (q := q) (r := r)); have HOL := Lib.hid (joinYo_len (S := l1) (o := o) (r := r))
  obtain ⟨JM, hJM⟩ : ∃ JM, joinYm l1 W m o q r = JM := ⟨_, rfl⟩
  obtain ⟨JO, hJO⟩ : ∃ JO, joinYo l1 o r = JO := ⟨_, rfl⟩
  have EM := Lib.hid hJM; have EO := Lib.hid hJO
  rw [hJM] at HJL ⊢
  rw [hJO] at HOL ⊢
  clear hJM hJO
  go_enter Try.func16, Try.ntmps16
  go_wp2_with fail
  refine (TP.out _).mono ?_
  rintro e w1 h1
  obtain ⟨ta, tc, pa, pc, f1, f2, rfl, ho1, hb1⟩ := YRet.fix h1 (topS_len l1 W) (topO_len l1)
  have F1 := Lib.hid ((Fm.call hb1 F0.out).more (.cells #[.slice ta l1 tc, .slice pa l1 pc] 31))
  have s1 := (Fm.call hb1 F0.out).size
  simp only [List.length_append, List.length_cons, List.length_nil, Nat.zero_add] at s1
  have V1 := Lib.hid (show YVr (w1.alloc (.cells #[.slice ta l1 tc, .slice pa l1 pc] 31)) (w.heap.size + 4) w1.heap.size f1 f2 l1 ta tc pa pc (fil (List.replicate W []) JM 0) (fil 0 JO 0) from
    ⟨Has.new w1 [.slice ta l1 tc, .slice pa l1 pc] 31, by rw [fil_zero, fil_zero, HJL.out, HOL.out]; exact (ho1.ge (C := w.heap.size + 4) (by simp)).below ((Below.refl _ _).alloc (Nat.le_refl _) _), by omega, by simp, fun h => by have := (ho1.s1 _ h).2; omega, fun h => by have := (ho1.s2 _ h).2; omega⟩)
  have c0 := F1.out.h1.cell 0 _ rfl; have lt1 := F1.out.h1.lt (by simp)
  clear h1 ho1 hb1 F0 TP
  go_wp2
  clear c0 lt1
  go_loopw [19] (fun i wr => ∃ (k : Nat) (f1 f2 : Nat → Prop), k ≤ l1 ∧ i = .int .i64 k ∧ YVr wr (w.heap.size + 4) w1.heap.size f1 f2 l1 ta tc pa pc (fil (List.replicate W []) JM k) (fil 0 JO k) ∧ Fm Non w wr [[.int .i64 l1, .int .i64 W, .int .i64 L], [.slice a1 l1 c1, .slice d1 l1 e1], [.slice a2 l1 c2, .slice d2 l1 e2], [.slice none 0 0, .slice none 0 0]]) (fun i _ => l1 - (intOf i).toNat)
  case atStart => exact ⟨0, f1, f2, Nat.zero_le _, rfl, V1.out, F1.out⟩
  case round =>
    obtain ⟨k, f1, f2, hk, rfl, hV, hF⟩ := hrel
    have V2 := Lib.hid hV; have F2 := Lib.hid hF
    clear hV hF V1 F1
    by_cases hlt : k < l1
    · obtain ⟨f, i, hf, hi, hfd, hid, hfy⟩ := HM.out.at hlt
      obtain ⟨g, j, hg, hj, hgd, hjd, hgy⟩ := HQ.out.at hlt
      have HJ := Lib.hid (show JM[k]? = some (joinY W f i g j) by rw [← EM.out]; exact joinYm_get hlt hfd hid hgd hjd)
      have HJO := Lib.hid (show JO[k]? = some ((min i j : Nat) : Int) by rw [← EO.out]; exact joinYo_get hlt hid hjd)
      obtain ⟨ab, ap, rfl, hca, hab, _, _⟩ := HR1.out.other hi
      obtain ⟨bb, bp, rfl, hcb, hbb, _, _⟩ := HR2.out.other hj
      have HFY := Lib.hid hfy; have HGY := Lib.hid hgy
      have HFD := Lib.hid hfd; have HID := Lib.hid hid; have HGD := Lib.hid hgd; have HJD := Lib.hid hjd
      obtain ⟨xb, xo, f', ra, rn, rc, rfl, hx, hcx, hrx, _, hbx⟩ := Rows.get HR1.out.cub hlt
      obtain rfl : f' = f := by rw [hf] at hx; cases hx; rfl
      obtain ⟨yb, yo, g', qa, qn, qc, rfl, hy, hcy, hry, _, hby⟩ := Rows.get HR2.out.cub hlt
      obtain rfl : g' = g := by rw [hg] at hy; cases hy; rfl
      obtain rfl : rn = W := by rw [← hrx.hlen]; exact hfy.ws.len
      obtain rfl : rn = qn := by rw [← hry.hlen]; exact hgy.ws.len.symm
      have hiW := hfy.ole; have hjW := hgy.ole
      have hs0 : (0 : Int) ≤ (k : Int) := by omega
      have hs1 : (k : Int) < (l1 : Int) := by omega
      have HRX := Lib.hid hrx; have HRY := Lib.hid hry
      clear hf hi hfd hid hfy hg hj hgd hjd hgy hx hrx hy hry
      obtain ⟨nb, hnb, hf2, hnl, ⟨v0, hv0⟩, hnf, SO⟩ := OY.setOther V2.out.own (s := k) (by rw [fil_length 0 JO (by rw [HOL.out]; exact hk), HOL.out]; exact hlt)
      subst hnb
      have SOH := Lib.hid SO
      have nbb := V2.out.own.s2 nb hf2
      have nbv : nb ≠ w1.heap.size := fun e => V2.out.o2 (e ▸ hf2)
      have m1 : nb ≠ w.heap.size + 1 := by omega
      have m2 : nb ≠ w.heap.size + 1 + 1 := by omega
      have m3 : nb ≠ ab := by omega
      have m4 : nb ≠ bb := by omega
      clear SO
      have x1 := V2.out.has.cell 1 _ rfl; have lx := V2.out.lt
      have y1 := F2.out.h1.cell 1 _ rfl; have z1 := F2.out.h2.cell 1 _ rfl
      have ca := (F2.out.below.cell (p := ⟨ab, ap + k, none⟩) hab).trans hca
      have cb := (F2.out.below.cell (p := ⟨bb, bp + k, none⟩) hbb).trans hcb
      have sw := F2.out.size
      simp only [List.length_cons, List.length_nil] at sw
      go_wp2
      go_region_held3 (fun w' => w'.cell? ⟨w1.heap.size, 1, none⟩ = some (.slice (some ⟨nb, 0, none⟩) l1 pc) ∧ w'.cell? ⟨w.heap.size + 1, 1, none⟩ = some (.slice (some ⟨ab, ap, none⟩) l1 e1) ∧ w'.cell? ⟨ab, ap + k, none⟩ = some (.int .i64 i) ∧ w'.cell? ⟨w.heap.size + 1 + 1, 1, none⟩ = some (.slice (some ⟨bb, bp, none⟩) l1 e2) ∧ w'.cell? ⟨bb, bp + k, none⟩ = some (.int .i64 j)) (((try dsimp only); (try go_split_ands); (repeat' apply And.intro); all_goals (repeat (first | assumption | (refine cell_put nbv ?_) | (refine cell_put m1 ?_) | (refine cell_put m2 ?_) | (refine cell_put m3 ?_) | (refine cell_put m4 ?_)))))
        (fail)
      have hmn : min (i : Int) (j : Int) = ((min i j : Nat) : Int) := by omega
      rw [hmn]
      have V5 := Lib.hid (show YVr ((wr.setCell ⟨nb, k, none⟩ (.int .i64 ((min i j : Nat) : Int))).drew) (w.heap.size + 4) w1.heap.size f1 (fun j => Grown f2 wr j ∧ j < wr.heap.size) l1 ta tc (some ⟨nb, 0, none⟩) pc (fil (List.replicate rn []) JM k) (fil 0 JO (k + 1)) from
        ⟨(V2.out.has.other (p := ⟨nb, k, none⟩) (fun e => nbv e.symm)).drew, (by rw [← fil_set 0 HJO.out]; exact (SOH.out _ (by omega) (by omega)).below (Below.refl _ _).drew), V2.out.ge, by simpa using V2.out.lt, V2.out.o1, fun h => h.1.elim V2.out.o2 (fun h => by have := V2.out.lt; omega)⟩)
      have F5 := Lib.hid ((F2.out.far (p := ⟨nb, k, none⟩) (.inr (by simp; omega)) (.int .i64 ((min i j : Nat) : Int))).drew)
      have hwr : ((wr.setCell ⟨nb, k, none⟩ (.int .i64 ((min i j : Nat) : Int))).drew).heap.size = wr.heap.size := by simp
      have Gf2 := Lib.hid (show ∀ j, (Grown f2 wr j ∧ j < wr.heap.size) → f2 j from fun j hj => hj.1.elim id (fun h => by omega))
      obtain ⟨wv, hwv⟩ : ∃ wv : World, wv = (wr.setCell ⟨nb, k, none⟩ (.int .i64 ((min i j : Nat) : Int))).drew := ⟨_, rfl⟩
      rw [← hwv] at V5 F5 hwr ⊢
      clear hwv x1 lx y1 z1 ca cb hv0 hnf SOH V2 F2 hmn m1 m2 m3 m4
      generalize hf2' : (fun j => Grown f2 wr j ∧ j < wr.heap.size) = f2' at *
      clear hf2' Gf2
      obtain ⟨ua, uo, rfl, _, _⟩ := Row.addr HRX.out (by omega)
      obtain ⟨va, vo, rfl, _, _⟩ := Row.addr HRY.out (by omega)
      obtain ⟨cs1, hv1⟩ := Mat.vals (Mat.below HRX.out F5.out.below)
      obtain ⟨cs2, hv2⟩ := Mat.vals (Mat.below HRY.out F5.out.below)
      have VS1 := Lib.hid hv1; have VS2 := Lib.hid hv2
      have L1 := Lib.hid (show cs1.length = rn by rw [hv1.len]; exact HRX.out.hlen); have L2 := Lib.hid (show cs2.length = rn by rw [hv2.len]; exact HRY.out.hlen)
      clear hv1 hv2
      have a0 := F5.out.h1.cell 0 _ rfl; have b0 := F5.out.h2.cell 0 _ rfl
      have cx := (F5.out.below.cell (p := ⟨xb, xo + k, none⟩) hbx).trans hcx
      have cy := (F5.out.below.cell (p := ⟨yb, yo + k, none⟩) hby).trans hcy
      go_upto_region 6 with fail
      refine hd_start_e 14 (fun w' => w'.cell? ⟨w.heap.size + 1, 0, none⟩ = some (.slice (some ⟨xb, xo, none⟩) l1 c1) ∧ w'.cell? ⟨xb, xo + k, none⟩ = some (.slice (some ⟨ua, uo, none⟩) rn rc) ∧ w'.cell? ⟨w.heap.size + 1 + 1, 0, none⟩ = some (.slice (some ⟨yb, yo, none⟩) l1 c2) ∧ w'.cell? ⟨yb, yo + k, none⟩ = some (.slice (some ⟨va, vo, none⟩) rn qc)) (by kernel_rfl) ⟨by kernel_rfl, by rfl⟩ (by refine ⟨a0, cx, b0, cy⟩) (fun ok => ?_)
      refine hd_take_e (i := 0) (v := ?_) ok rfl (by decide) (by kernel_rfl) (by kernel_rfl) (fun _ _ _ h => h) (Or.inl ⟨by kernel_rfl, ?_⟩) ?_
      rotate_left
      · (intro w hSw; (try dsimp only at hSw); (try go_split_ands); go_simp; (try (with_reducible rfl)))
      go_frame
      refine hd_take_e (i := 1) (v := ?_) ok rfl (by decide) (by kernel_rfl) (by kernel_rfl) (fun _ _ _ h => h) (Or.inl ⟨by kernel_rfl, ?_⟩) ?_
      rotate_left
      · (intro w hSw; (try dsimp only at hSw); (try go_split_ands); go_simp; (try (with_reducible rfl)))
      go_frame
      refine hd_take_e (i := 2) (v := ?_) ok rfl (by decide) (by kernel_rfl) (by kernel_rfl) (fun _ _ _ h => h) (Or.inl ⟨by kernel_rfl, ?_⟩) ?_
      rotate_left
      · (intro w hSw; (try dsimp only at hSw); (try go_split_ands); go_simp; (try (with_reducible rfl)))
      go_frame
      refine hd_take_e (i := 3) (v := ?_) ok rfl (by decide) (by kernel_rfl) (by kernel_rfl) (fun _ _ _ h => h) (Or.inl ⟨by kernel_rfl, ?_⟩) ?_
      rotate_left
      · (intro w hSw; (try dsimp only at hSw); (try go_split_ands); go_simp; (try (with_reducible rfl)))
      go_frame
      refine hd_take_e (i := 4) (v := ?_) ok rfl (by decide) (by kernel_rfl) (by kernel_rfl) (fun _ _ _ h => h) (Or.inl ⟨by kernel_rfl, ?_⟩) ?_
      rotate_left
      · (intro w hSw; (try dsimp only at hSw); (try go_split_ands); go_simp; (try (with_reducible rfl)))
      go_frame
      refine hd_take_e (i := 6) (v := ?_) ok rfl (by decide) (by kernel_rfl) (by kernel_rfl) (fun _ _ _ h => h) (Or.inl ⟨by kernel_rfl, ?_⟩) ?_
      rotate_left
      · (intro w hSw; (try dsimp only at hSw); (try go_split_ands); go_simp; (try (with_reducible rfl)))
      go_frame
      refine hd_take_e (i := 7) (v := ?_) ok rfl (by decide) (by kernel_rfl) (by kernel_rfl) (fun _ _ _ h => h) (Or.inl ⟨by kernel_rfl, ?_⟩) ?_
      rotate_left
      · (intro w hSw; (try dsimp only at hSw); (try go_split_ands); go_simp; (try (with_reducible rfl)))
      go_frame
      refine hd_take_e (i := 8) (v := ?_) ok rfl (by decide) (by kernel_rfl) (by kernel_rfl) (fun _ _ _ h => h) (Or.inl ⟨by kernel_rfl, ?_⟩) ?_
      rotate_left
      · (intro w hSw; (try dsimp only at hSw); (try go_split_ands); go_simp; (try (with_reducible rfl)))
      go_frame
      refine hd_take_e (i := 9) (v := ?_) ok rfl (by decide) (by kernel_rfl) (by kernel_rfl) (fun _ _ _ h => h) (Or.inl ⟨by kernel_rfl, ?_⟩) ?_
      rotate_left
      · (intro w hSw; (try dsimp only at hSw); (try go_split_ands); go_simp; (try (with_reducible rfl)))
      go_frame
      refine hd_take_e (i := 10) (v := ?_) ok rfl (by decide) (by kernel_rfl) (by kernel_rfl) (fun _ _ _ h => h) (Or.inl ⟨by kernel_rfl, ?_⟩) ?_
      rotate_left
      · (intro w hSw; (try dsimp only at hSw); (try go_split_ands); go_simp; (try (with_reducible rfl)))
      go_frame
      refine hd_take_e (i := 13) (v := ?_) ok rfl (by decide) (by kernel_rfl) (by kernel_rfl) (fun _ _ _ h => h) (Or.inl ⟨by kernel_rfl, ?_⟩) ?_
      rotate_left
      · (intro w hSw; (try dsimp only at hSw); (try go_split_ands); go_simp; (try (with_reducible rfl)))
      go_frame
      refine hd_only_l (c := 5) rfl (by decide) (by kernel_rfl) (fun K hK => ?_)
      refine step_append_coll rfl _ _ 42 rfl Try.underlying42 info_sl rfl (Coll.nil wv.drew (fun _ => False)) rfl ⟨ua, uo, none⟩ rn rc cs1 rfl L1.out VS1.out.cell VS1.out.one (by simp; omega) ?_
      intro v6 w6 hap
      have k6 := hap.out.2
      have a1 := k6.cell (fun h => h) a0; have cx1 := k6.cell (fun h => h) cx; have b1 := k6.cell (fun h => h) b0; have cy1 := k6.cell (fun h => h) cy
      have C6 := Lib.hid hap.out.1
      have K6 := Lib.hid (show Chg (fun _ => False) wv w6 from (Chg.refl wv).drew.trans k6 (fun _ _ h => h))
      have s6 := k6.size
      simp only [World.size_drew] at s6
      clear hap k6 a0 cx b0 cy
      (try simp only [])
      refine hK _ _ (by refine ⟨?_, ?_, ?_, ?_⟩ <;> (first | exact a1 | exact cx1 | exact b1 | exact cy1)) ?_
      clear hK K
      (try go_frame)

      refine hd_only_l (c := 11) rfl (by decide) (by kernel_rfl) (fun K hK => ?_)
      refine step_append_coll rfl _ _ 42 rfl Try.underlying42 info_sl rfl C6.out rfl ⟨va, vo, none⟩ rn qc cs2 rfl L2.out (fun j u hu => by have h9 := VS2.out.cell j u hu; rw [Go.WideShapes.add_plain] at h9 ⊢; exact K6.out.cell (fun h => h) h9) VS2.out.one (by have := L1.out; simp; omega) ?_
      intro v7 w7 hap
      have k7 := hap.out.2
      have nG : ∀ x, x < wv.heap.size → ¬ Grown (fun _ => False) wv.drew x := fun x hx h => h.elim id (fun h => by simp at h; omega)
      have a2 := k7.cell (nG _ (by omega)) a1; have cx2 := k7.cell (nG _ (by omega)) cx1; have b2 := k7.cell (nG _ (by omega)) b1; have cy2 := k7.cell (nG _ (by omega)) cy1
      obtain ⟨la, lc, rfl⟩ := hap.out.1.form (n := rn + rn) (by have := L1.out; have := L2.out; simp; omega)
      have C7 := Lib.hid hap.out.1
      have s7 := k7.size
      have K7 := Lib.hid k7
      clear hap k7 a1 cx1 b1 cy1
      (try simp only [])
      refine hK _ _ (by refine ⟨?_, ?_, ?_, ?_⟩ <;> (first | exact a2 | exact cx2 | exact b2 | exact cy2)) ?_
      clear hK K
      (try go_frame)

      refine hd_only_l (c := 12) rfl (by decide) (by kernel_rfl) (fun K hK => ?_)
      go_simp
      (try simp only [])
      refine hK _ _ (by refine ⟨?_, ?_, ?_, ?_⟩ <;> (first | exact a2 | exact cx2 | exact b2 | exact cy2)) ?_
      clear hK K
      (try go_frame)

      clear ok a2 cx2 b2 cy2
      refine hd_end (by kernel_rfl) rfl ?_
      have KW := Lib.hid (show Chg Non wv w7 from (K6.out.mono (fun _ _ h => h)).trans K7.out (fun j hj h => absurd h (nG j (by omega))))
      have F7 := Lib.hid (Fm.call KW.out.below0 F5.out)
      have V7 := Lib.hid (V5.out.chg KW.out (fun j _ h => h))
      have hLn : (f' ++ g').length = rn + rn := by rw [List.length_append, HRX.out.hlen, HRY.out.hlen]
      have ML := Lib.hid (show Mat (Kp w.heap.size wv.heap.size w7.heap.size) w7 la (rn + rn) lc (f' ++ g') from C7.out.mat (by have := L1.out; have := L2.out; rw [hLn]; simp; omega) (by omega) (fun j' l hl => by
        have wide : ∀ {a n c} {z : List Int}, Ints (fun j => j < w.heap.size) w7 a n c z → Ints (Kp w.heap.size wv.heap.size w7.heap.size) w7 a n c z := fun h => Row.wide RInt.wider (fun k hk _ => .inl hk) h
        rw [List.nil_append]
        rcases Nat.lt_or_ge j' f'.length with h | h
        · rw [List.getElem?_append_left h] at hl
          obtain ⟨a, n, c, q1, q2⟩ := VS1.out.chg KW.out (fun _ _ h => h) j' l hl
          exact ⟨a, n, c, by rw [List.getElem?_append_left (by have := L1.out; have := HRX.out.hlen; omega)]; exact q1, wide q2⟩
        · rw [List.getElem?_append_right h] at hl
          obtain ⟨a, n, c, q1, q2⟩ := VS2.out.chg KW.out (fun _ _ h => h) _ l hl
          have e9 : f'.length = cs1.length := by have := L1.out; have := HRX.out.hlen; omega
          exact ⟨a, n, c, by rw [List.getElem?_append_right (by omega), ← e9]; exact q1, wide q2⟩) (fun j' h h' => .inr ⟨h.elim (fun h => h.elim False.elim (fun h => by simpa using h)) (fun h => by omega), h'⟩))
      have PL := Lib.hid (show ∀ l ∈ f' ++ g', ∀ x ∈ l, PS U l1 k x from fun l hl x hx => by
        rcases List.mem_append.1 hl with h | h
        · obtain ⟨t, ht⟩ := List.getElem?_of_mem h; exact HFY.out.ws.mem t x ⟨l, ht, hx⟩
        · obtain ⟨t, ht⟩ := List.getElem?_of_mem h; exact HGY.out.ws.mem t x ⟨l, ht, hx⟩)
      have hf1K := Lib.hid (show ∀ x, f1 x → ¬ Kp w.heap.size wv.heap.size w7.heap.size x from fun x hx h => by have := V5.out.own.s1 x hx; unfold Kp at h; omega)
      obtain ⟨nn, hnn⟩ : ∃ nn, minF rn f' i g' j = nn := ⟨_, rfl⟩
      have NN := Lib.hid hnn
      obtain ⟨LL, hLL⟩ : ∃ LL, f' ++ g' = LL := ⟨_, rfl⟩
      have HLL := Lib.hid hLL
      rw [hLL] at ML PL hLn
      have HLn := Lib.hid hLn
      have hkM : k < (fil (List.replicate rn []) JM k).length := by rw [fil_length _ JM (by rw [HJL.out]; exact hk), HJL.out]; exact hlt
      have HKM := Lib.hid hkM
      have V8 := Lib.hid (show YVr w7 (w.heap.size + 4) w1.heap.size f1 f2' l1 ta tc (some ⟨nb, 0, none⟩) pc ((fil (List.replicate rn []) JM k).set k (jL rn nn (List.replicate rn []) (LL.take 0).flatten)) (fil 0 JO (k + 1)) from by
        have e9 : (fil (List.replicate rn []) JM k).set k (jL rn nn (List.replicate rn []) (LL.take 0).flatten) = fil (List.replicate rn []) JM k := by rw [List.take_zero]; exact set_same (fil_get _ (by rw [HJL.out]; exact hlt))
        rw [e9]; exact V7.out)
      have CW := Lib.hid (Chg.refl (M := fun x => ¬ Kp w.heap.size wv.heap.size w7.heap.size x) w7)
      clear hnn hLL hLn hkM C6 K6 C7 K7 s6 nG VS1 VS2 cs1 cs2 L1 L2 V7 V5 F5
      go_wp2
      go_loopw [50] (fun v wr => ∃ (t : Nat) (h1 : Nat → Prop), t ≤ rn + rn ∧ v = .int .i64 t ∧ (∀ x, h1 x → ¬ Kp w.heap.size wv.heap.size w7.heap.size x) ∧ YVr wr (w.heap.size + 4) w1.heap.size h1 f2' l1 ta tc (some ⟨nb, 0, none⟩) pc ((fil (List.replicate rn []) JM k).set k (jL rn nn (List.replicate rn []) ((LL.take t).flatten))) (fil 0 JO (k + 1)) ∧ Fm Non w wr [[.int .i64 l1, .int .i64 rn, .int .i64 L], [.slice (some ⟨xb, xo, none⟩) l1 c1, .slice (some ⟨ab, ap, none⟩) l1 e1], [.slice (some ⟨yb, yo, none⟩) l1 c2, .slice (some ⟨bb, bp, none⟩) l1 e2], [.slice none 0 0, .slice none 0 0]] ∧ Chg (fun x => ¬ Kp w.heap.size wv.heap.size w7.heap.size x) w7 wr) (fun v _ => rn + rn - (intOf v).toNat)
      case atStart => exact ⟨0, f1, Nat.zero_le _, rfl, hf1K.out, V8.out, F7.out, CW.out⟩
      case round =>
        obtain ⟨t, h1, ht, rfl, hK1, hV, hF, hCW⟩ := hrel
        have V9 := Lib.hid hV; have F9 := Lib.hid hF; have CW9 := Lib.hid hCW; have HK9 := Lib.hid hK1
        clear hV hF hCW hK1
        by_cases htl : t < rn + rn
        · obtain ⟨gb, go, l, qa', ll, qc', rfl, hxl, hcl', hrl, hKb, hbl'⟩ := Rows.get ML.out htl
          have hcl := CW9.out.cell (fun hn => hn hKb) hcl'
          have hbl : gb < wr.heap.size := Nat.lt_of_lt_of_le hbl' CW9.out.size
          have hll := hrl.hlen; have hl6 := hrl.hsz
          subst hll
          have RL := Lib.hid (show Ints (Kp w.heap.size wv.heap.size w7.heap.size) w7 qa' l.length qc' l from hrl)
          have HXL := Lib.hid hxl
          have PLl := Lib.hid (PL.out l (List.mem_of_getElem? hxl))
          clear hxl hrl hcl' hbl' hKb
          obtain ⟨wo, hwo⟩ : ∃ wo : World, wo = wr := ⟨_, rfl⟩
          subst hwo
          have VA := Lib.hid (show YVr wo (w.heap.size + 4) w1.heap.size h1 f2' l1 ta tc (some ⟨nb, 0, none⟩) pc ((fil (List.replicate rn []) JM k).set k (jL rn nn (List.replicate rn []) ((LL.take t).flatten ++ l.take 0))) (fil 0 JO (k + 1)) from by rw [List.take_zero, List.append_nil]; exact V9.out)
          go_wp2
          rw [show decide ((t : Int) < (rn : Int) + (rn : Int)) = true from by simp; omega]
          go_loopw [56] (fun v wr => ∃ (y : Nat) (h1 : Nat → Prop), y ≤ l.length ∧ v = .int .i64 y ∧ (∀ x, h1 x → ¬ Kp w.heap.size wv.heap.size w7.heap.size x) ∧ YVr wr (w.heap.size + 4) w1.heap.size h1 f2' l1 ta tc (some ⟨nb, 0, none⟩) pc ((fil (List.replicate rn []) JM k).set k (jL rn nn (List.replicate rn []) ((LL.take t).flatten ++ l.take y))) (fil 0 JO (k + 1)) ∧ Fm Non w wr [[.int .i64 l1, .int .i64 rn, .int .i64 L], [.slice (some ⟨xb, xo, none⟩) l1 c1, .slice (some ⟨ab, ap, none⟩) l1 e1], [.slice (some ⟨yb, yo, none⟩) l1 c2, .slice (some ⟨bb, bp, none⟩) l1 e2], [.slice none 0 0, .slice none 0 0]] ∧ Chg (fun x => ¬ Kp w.heap.size wv.heap.size w7.heap.size x) w7 wr) (fun v _ => l.length - (intOf v).toNat)
          case atStart => exact ⟨0, h1, Nat.zero_le _, rfl, HK9.out, VA.out, F9.out, CW9.out⟩
          case round =>
            obtain ⟨y, h1, hy, rfl, hK1, hV, hF, hCW⟩ := hrel
            have VB := Lib.hid hV; have FB := Lib.hid hF; have CB := Lib.hid hCW; have HKB := Lib.hid hK1
            clear hV hF hCW hK1
            by_cases hyl : y < l.length
            · obtain ⟨lb, lo, x, rfl, hzx, hcz, hz1, hz2, _, hbz⟩ := Ints.get (RL.out.chg CB.out (fun x hx hn => hn hx)) hyl
              have PX := Lib.hid (PLl.out x (List.mem_of_getElem? hzx))
              have hx0 := PX.out.1; have hx9 := PX.out.2.1
              have HTS := Lib.hid (show jL rn nn (List.replicate rn []) ((LL.take t).flatten ++ l.take (y + 1)) = jStep rn nn (jL rn nn (List.replicate rn []) ((LL.take t).flatten ++ l.take y)) x from by unfold jL; rw [List.take_add_one, hzx, ← List.append_assoc, List.foldl_append]; rfl)
              have WS := Lib.hid (jL_spec (P := PS U l1 k) (W := rn) (n := nn) (l := (LL.take t).flatten ++ l.take y) (WSet.nils _ rn) (fun i y h => absurd h not_at_nils) (fun z hz => by
                rcases List.mem_append.1 hz with h | h
                · obtain ⟨l', hl', hz'⟩ := List.mem_flatten.1 h
                  exact PL.out l' (List.mem_of_mem_take hl') z hz'
                · exact PLl.out z (List.mem_of_mem_take h))).1
              generalize jL rn nn (List.replicate rn []) ((LL.take t).flatten ++ l.take y) = X at *
              have AGa := Lib.hid (fun (w' : World) (hb : Below w.heap.size w w') => yrage_any l1 rn L hC.out m o HM.out _ _ l1 c1 _ l1 e1 x hx0 w' (HR1.out.below hb))
              have AGb := Lib.hid (fun (w' : World) (hb : Below w.heap.size w w') => yrage_any l1 rn L hC.out q r HQ.out _ _ l1 c2 _ l1 e2 x hx0 w' (HR2.out.below hb))
              rw [ageY_at (by omega) PX.out.2.2.1 HFD.out HID.out] at AGa
              rw [ageY_at (by omega) PX.out.2.2.1 HGD.out HJD.out] at AGb
              have hnx : nn x = min (ageF rn f' i x) (ageF rn g' j x) := by rw [← NN.out]; rfl
              generalize ageF rn f' i x = na at *
              generalize ageF rn g' j x = nb' at *
              obtain ⟨N, hN⟩ : ∃ N : Nat, min na nb' = N := ⟨_, rfl⟩
              rw [hN] at hnx
              have hmn2 : min (na : Int) (nb' : Int) = (N : Int) := by omega
              have HNX := Lib.hid hnx
              clear hzx hnx hN
              have kc0 := FB.out.h0.cell 0 _ rfl; have kc1 := FB.out.h0.cell 1 _ rfl; have kc2 := FB.out.h0.cell 2 _ rfl; have p0 := FB.out.h1.cell 0 _ rfl; have p1 := FB.out.h1.cell 1 _ rfl; have q0 := FB.out.h2.cell 0 _ rfl; have q1 := FB.out.h2.cell 1 _ rfl
              go_upto_region 12 with fail
              clear hcz
              have FB0 := Lib.hid FB.out.drew
              refine hd_start 8 (fun w' => w'.cell? ⟨w.heap.size, 0, none⟩ = some (.int .i64 l1) ∧ w'.cell? ⟨w.heap.size, 1, none⟩ = some (.int .i64 rn) ∧ w'.cell? ⟨w.heap.size, 2, none⟩ = some (.int .i64 L) ∧ w'.cell? ⟨w.heap.size + 1, 0, none⟩ = some (.slice (some ⟨xb, xo, none⟩) l1 c1) ∧ w'.cell? ⟨w.heap.size + 1, 1, none⟩ = some (.slice (some ⟨ab, ap, none⟩) l1 e1) ∧ w'.cell? ⟨w.heap.size + 1 + 1, 0, none⟩ = some (.slice (some ⟨yb, yo, none⟩) l1 c2) ∧ w'.cell? ⟨w.heap.size + 1 + 1, 1, none⟩ = some (.slice (some ⟨bb, bp, none⟩) l1 e2)) (by kernel_rfl) ⟨by kernel_rfl, by kernel_rfl, by kernel_rfl, by decide⟩ (by refine ⟨kc0, kc1, kc2, p0, p1, q0, q1⟩) (fun ok => ?_)
              refine hd_take_l (i := 0) (v := ?_) ok rfl (by decide) (by kernel_rfl) (by kernel_rfl) (fun _ _ _ h => h) (Or.inl ⟨by kernel_rfl, ?_⟩) ?_
              rotate_left
              · (intro w hSw; (try dsimp only at hSw); (try go_split_ands); go_simp; (try (with_reducible rfl)))
              go_frame
              refine hd_take_l (i := 1) (v := ?_) ok rfl (by decide) (by kernel_rfl) (by kernel_rfl) (fun _ _ _ h => h) (Or.inl ⟨by kernel_rfl, ?_⟩) ?_
              rotate_left
              · (intro w hSw; (try dsimp only at hSw); (try go_split_ands); go_simp; (try (with_reducible rfl)))
              go_frame
              refine hd_take_l (i := 2) (v := ?_) ok rfl (by decide) (by kernel_rfl) (by kernel_rfl) (fun _ _ _ h => h) (Or.inl ⟨by kernel_rfl, ?_⟩) ?_
              rotate_left
              · (intro w hSw; (try dsimp only at hSw); (try go_split_ands); go_simp; (try (with_reducible rfl)))
              go_frame
              refine hd_take_l (i := 4) (v := ?_) ok rfl (by decide) (by kernel_rfl) (by kernel_rfl) (fun _ _ _ h => h) (Or.inl ⟨by kernel_rfl, ?_⟩) ?_
              rotate_left
              · (intro w hSw; (try dsimp only at hSw); (try go_split_ands); go_simp; (try (with_reducible rfl)))
              go_frame
              refine hd_take_l (i := 5) (v := ?_) ok rfl (by decide) (by kernel_rfl) (by kernel_rfl) (fun _ _ _ h => h) (Or.inl ⟨by kernel_rfl, ?_⟩) ?_
              rotate_left
              · (intro w hSw; (try dsimp only at hSw); (try go_split_ands); go_simp; (try (with_reducible rfl)))
              go_frame
              refine hd_take_l (i := 6) (v := ?_) ok rfl (by decide) (by kernel_rfl) (by kernel_rfl) (fun _ _ _ h => h) (Or.inl ⟨by kernel_rfl, ?_⟩) ?_
              rotate_left
              · (intro w hSw; (try dsimp only at hSw); (try go_split_ands); go_simp; (try (with_reducible rfl)))
              go_frame
              refine hd_only_l (c := 3) rfl (by decide) (by kernel_rfl) (fun K hK => ?_)
              go_simp
              go_at_call 30
              refine (AGa.out _ FB0.out.below).mono ?_
              rintro e w11 ⟨rfl, hb11⟩
              have FC := Lib.hid (Fm.call hb11 FB0.out)
              have BC := Lib.hid (show Below wr.heap.size wr w11 from (Below.refl _ _).drew.trans hb11)
              clear kc0 kc1 kc2 p0 p1 q0 q1 hb11
              have kc0 := FC.out.h0.cell 0 _ rfl; have kc1 := FC.out.h0.cell 1 _ rfl; have kc2 := FC.out.h0.cell 2 _ rfl; have p0 := FC.out.h1.cell 0 _ rfl; have p1 := FC.out.h1.cell 1 _ rfl; have q0 := FC.out.h2.cell 0 _ rfl; have q1 := FC.out.h2.cell 1 _ rfl
              (try simp only [])
              refine hK _ _ (by refine ⟨?_, ?_, ?_, ?_, ?_, ?_, ?_⟩ <;> (first | exact kc0 | exact kc1 | exact kc2 | exact p0 | exact p1 | exact q0 | exact q1)) ?_
              clear hK K
              (try go_frame)

              refine hd_only_l (c := 7) rfl (by decide) (by kernel_rfl) (fun K hK => ?_)
              go_simp
              go_at_call 30
              refine (AGb.out _ FC.out.below).mono ?_
              rintro e w12 ⟨rfl, hb12⟩
              have FD := Lib.hid (Fm.call hb12 FC.out)
              have BD := Lib.hid (BC.out.trans (hb12.mono BC.out.size))
              clear kc0 kc1 kc2 p0 p1 q0 q1 hb12
              have kc0 := FD.out.h0.cell 0 _ rfl; have kc1 := FD.out.h0.cell 1 _ rfl; have kc2 := FD.out.h0.cell 2 _ rfl; have p0 := FD.out.h1.cell 0 _ rfl; have p1 := FD.out.h1.cell 1 _ rfl; have q0 := FD.out.h2.cell 0 _ rfl; have q1 := FD.out.h2.cell 1 _ rfl
              (try simp only [])
              refine hK _ _ (by refine ⟨?_, ?_, ?_, ?_, ?_, ?_, ?_⟩ <;> (first | exact kc0 | exact kc1 | exact kc2 | exact p0 | exact p1 | exact q0 | exact q1)) ?_
              clear hK K
              (try go_frame)

              clear ok
              refine hd_done (by kernel_rfl) ?_
              simp only [List.drop_succ_cons, List.drop_zero]
              go_upto_region 13 with fail
              have VD := Lib.hid (VB.out.below BD.out)
              have CD := Lib.hid (CB.out.tr BD.out)
              clear kc0 kc2 p0 p1 q0 q1 hmn2 AGa AGb FB FC FB0 BC VB
              have ltc := FD.out.h0.lt (by simp)
              by_cases hNW : N < rn
              · have hNd : decide (N < rn) = true := by simpa using hNW
                obtain ⟨lx, hlx⟩ : ∃ lx, X[N]? = some lx := ⟨_, List.getElem?_eq_getElem (by rw [WS.out.len]; exact hNW)⟩
                obtain ⟨ob, obc, cb, cc, u9, fq, pk⟩ := OCub.pick2 VD.out.own.sets (set_get HKM.out) hlx
                have pf := pk.form
                rw [List.length_set, fil_length _ JM (by rw [HJL.out]; exact hk), HJL.out] at pf
                simp only [Value.slice.injEq] at pf
                obtain ⟨pf1, _, pf3⟩ := pf
                subst pf1
                obtain rfl : obc = tc := pf3.symm
                obtain ⟨b', o', X', ra', rl', rc', he', hX', hc', hr', _, _⟩ := Rows.get (VD.out.own.ycub (K := fun _ => True) (fun _ _ _ => trivial)).cub hlt
                simp only [Option.some.injEq, Addr.mk.injEq, and_true] at he'
                obtain ⟨rfl, rfl⟩ := he'
                rw [set_get HKM.out] at hX'
                cases hX'
                rw [Nat.zero_add] at hc'
                have h9 := hc'.symm.trans pk.cell
                simp only [Option.some.injEq, Value.slice.injEq] at h9
                obtain ⟨rfl, rfl, rfl⟩ := h9
                have PLC := Lib.hid (place_any (fun _ => True) (some ⟨cb, 0, none⟩) X.length rc' X x w12 hr')
                obtain ⟨zl, hzl⟩ : ∃ zl, lx.length = zl := ⟨_, rfl⟩
                obtain ⟨ua', uc, hu9⟩ : ∃ a c, u9 = .slice a zl c := by obtain ⟨a, c, h⟩ := pk.elem.form; exact ⟨a, c, by rw [h, hzl]⟩
                subst hu9
                have PU := Lib.hid (fun (w' : World) (hb : Below w12.heap.size w12 w') => rput_any (fun _ => True) ua' zl uc lx x ⟨hz1, hz2⟩ w' ((OInts.read (fun _ _ => trivial) pk.elem).below hb) (by rw [← hzl]; exact ((PS.lns hU).short WS.out _ _ hlx).2))
                have XL := Lib.hid WS.out.len
                have HLX := Lib.hid hlx
                have hoc := pk.hcap; have hom := pk.hmax
                rw [List.length_set, fil_length _ JM (by rw [HJL.out]; exact hk), HJL.out] at hoc
                have hcc := pk.hcap2; have hcm := pk.hmax2
                have x0 := VD.out.has.cell 0 _ rfl; have lx0 := VD.out.lt
                have r1 := pk.cell; have r2 := pk.cell2; have r3 := pk.free2; have r4 := pk.lt2
                rw [XL.out] at r1 hcc PLC
                have nvc : cb ≠ w1.heap.size := fun e => VD.out.o1 (e ▸ pk.ownc)
                have nob : cb ≠ ob := pk.ne
                have PK := Lib.hid pk
                have N0 : (0 : Int) ≤ (N : Int) := by omega
                have N1 : (N : Int) < (rn : Int) := by omega
                clear pk hlx hc' hr' hzl
                go_wp2_with fail
                refine PLC.out.mono ?_
                by_cases hp : plc X x < X.length
                · rw [show findI X x = ((plc X x : Nat) : Int) from if_pos hp]
                  have HE := Lib.hid (show jStep rn nn X x = X from if_neg (fun h => h.2 hp))
                  rintro e w13 ⟨rfl, rfl⟩
                  clear hp x0 r1 r2 r3 r4
                  go_wp2
                  go_roundw
                  case rel => first
                    | exact ⟨y + 1, h1, by omega, by go_num, HKB.out, by rw [HTS.out, HE.out]; exact VD.out, FD.out, CD.out⟩
                    | ((repeat apply Exists.intro); exact ⟨⟨y + 1, h1, by omega, by go_num, HKB.out, by rw [HTS.out, HE.out]; exact VD.out, FD.out, CD.out⟩, rfl⟩)
                  case measure => simp [intOf]; omega
                · rw [show findI X x = -1 from if_neg hp]
                  have HE := Lib.hid (show jStep rn nn X x = X.set N (ins x lx) from by rw [show jStep rn nn X x = put X (nn x) x from if_pos ⟨by rw [HNX.out]; exact hNW, hp⟩, HNX.out]; exact put_get HLX.out)
                  rintro e w13 ⟨rfl, hw13⟩
                  obtain rfl := hw13
                  clear hp hNW
                  go_upto_region 14 with fail
                  refine hd_start 16 (fun w' => w'.cell? ⟨w1.heap.size, 0, none⟩ = some (.slice (some ⟨ob, 0, none⟩) l1 obc) ∧ w'.cell? ⟨ob, k, none⟩ = some (.slice (some ⟨cb, 0, none⟩) rn rc') ∧ w'.cell? ⟨cb, N, none⟩ = some (.slice ua' zl uc)) (by kernel_rfl) ⟨by kernel_rfl, by kernel_rfl, by kernel_rfl, by decide⟩ (by refine ⟨x0, r1, r2⟩) (fun ok => ?_)
                  refine hd_take_l (i := 0) (v := ?_) ok rfl (by decide) (by kernel_rfl) (by kernel_rfl) (fun _ _ _ h => h) (Or.inl ⟨by kernel_rfl, ?_⟩) ?_
                  rotate_left
                  · (intro w hSw; (try dsimp only at hSw); (try go_split_ands); go_simp; (try (with_reducible rfl)))
                  go_frame
                  refine hd_take_l (i := 1) (v := ?_) ok rfl (by decide) (by kernel_rfl) (by kernel_rfl) (fun _ _ _ h => h) (Or.inl ⟨by kernel_rfl, ?_⟩) ?_
                  rotate_left
                  · (intro w hSw; (try dsimp only at hSw); (try go_split_ands); go_simp; (try (with_reducible rfl)))
                  go_frame
                  refine hd_take_l (i := 2) (v := ?_) ok rfl (by decide) (by kernel_rfl) (by kernel_rfl) (fun _ _ _ h => h) (Or.inl ⟨by kernel_rfl, ?_⟩) ?_
                  rotate_left
                  · (intro w hSw; (try dsimp only at hSw); (try go_split_ands); go_simp; (try (with_reducible rfl)))
                  go_frame
                  refine hd_take_l (i := 3) (v := ?_) ok rfl (by decide) (by kernel_rfl) (by kernel_rfl) (fun _ _ _ h => h) (Or.inl ⟨by kernel_rfl, ?_⟩) ?_
                  rotate_left
                  · (intro w hSw; (try dsimp only at hSw); (try go_split_ands); go_simp; (try (with_reducible rfl)))
                  go_frame
                  refine hd_take_l (i := 4) (v := ?_) ok rfl (by decide) (by kernel_rfl) (by kernel_rfl) (fun _ _ _ h => h) (Or.inl ⟨by kernel_rfl, ?_⟩) ?_
                  rotate_left
                  · (intro w hSw; (try dsimp only at hSw); (try go_split_ands); go_simp; (try (with_reducible rfl)))
                  go_frame
                  refine hd_take_l (i := 5) (v := ?_) ok rfl (by decide) (by kernel_rfl) (by kernel_rfl) (fun _ _ _ h => h) (Or.inl ⟨by kernel_rfl, ?_⟩) ?_
                  rotate_left
                  · (intro w hSw; (try dsimp only at hSw); (try go_split_ands); go_simp; (try (with_reducible rfl)))
                  go_frame
                  refine hd_take_l (i := 6) (v := ?_) ok rfl (by decide) (by kernel_rfl) (by kernel_rfl) (fun _ _ _ h => h) (Or.inl ⟨by kernel_rfl, ?_⟩) ?_
                  rotate_left
                  · (intro w hSw; (try dsimp only at hSw); (try go_split_ands); go_simp; (try (with_reducible rfl)))
                  go_frame
                  refine hd_take_l (i := 7) (v := ?_) ok rfl (by decide) (by kernel_rfl) (by kernel_rfl) (fun _ _ _ h => h) (Or.inl ⟨by kernel_rfl, ?_⟩) ?_
                  rotate_left
                  · (intro w hSw; (try dsimp only at hSw); (try go_split_ands); go_simp; (try (with_reducible rfl)))
                  go_frame
                  refine hd_take_l (i := 8) (v := ?_) ok rfl (by decide) (by kernel_rfl) (by kernel_rfl) (fun _ _ _ h => h) (Or.inl ⟨by kernel_rfl, ?_⟩) ?_
                  rotate_left
                  · (intro w hSw; (try dsimp only at hSw); (try go_split_ands); go_simp; (try (with_reducible rfl)))
                  go_frame
                  refine hd_take_l (i := 9) (v := ?_) ok rfl (by decide) (by kernel_rfl) (by kernel_rfl) (fun _ _ _ h => h) (Or.inl ⟨by kernel_rfl, ?_⟩) ?_
                  rotate_left
                  · (intro w hSw; (try dsimp only at hSw); (try go_split_ands); go_simp; (try (with_reducible rfl)))
                  go_frame
                  refine hd_take_l (i := 10) (v := ?_) ok rfl (by decide) (by kernel_rfl) (by kernel_rfl) (fun _ _ _ h => h) (Or.inl ⟨by kernel_rfl, ?_⟩) ?_
                  rotate_left
                  · (intro w hSw; (try dsimp only at hSw); (try go_split_ands); go_simp; (try (with_reducible rfl)))
                  go_frame
                  refine hd_take_l (i := 11) (v := ?_) ok rfl (by decide) (by kernel_rfl) (by kernel_rfl) (fun _ _ _ h => h) (Or.inl ⟨by kernel_rfl, ?_⟩) ?_
                  rotate_left
                  · (intro w hSw; (try dsimp only at hSw); (try go_split_ands); go_simp; (try (with_reducible rfl)))
                  go_frame
                  refine hd_take_l (i := 12) (v := ?_) ok rfl (by decide) (by kernel_rfl) (by kernel_rfl) (fun _ _ _ h => h) (Or.inl ⟨by kernel_rfl, ?_⟩) ?_
                  rotate_left
                  · (intro w hSw; (try dsimp only at hSw); (try go_split_ands); go_simp; (try (with_reducible rfl)))
                  go_frame
                  refine hd_take_l (i := 13) (v := ?_) ok rfl (by decide) (by kernel_rfl) (by kernel_rfl) (fun _ _ _ h => h) (Or.inl ⟨by kernel_rfl, ?_⟩) ?_
                  rotate_left
                  · (intro w hSw; (try dsimp only at hSw); (try go_split_ands); go_simp; (try (with_reducible rfl)))
                  go_frame
                  refine hd_take_l (i := 14) (v := ?_) ok rfl (by decide) (by kernel_rfl) (by kernel_rfl) (fun _ _ _ h => h) (Or.inl ⟨by kernel_rfl, ?_⟩) ?_
                  rotate_left
                  · (intro w hSw; (try dsimp only at hSw); (try go_split_ands); go_simp; (try (with_reducible rfl)))
                  go_frame
                  refine hd_only_l (c := 15) rfl (by decide) (by kernel_rfl) (fun K hK => ?_)
                  go_simp
                  go_at_call 45
                  refine (PU.out _ (Below.refl _ _).drew).mono ?_
                  rintro e w14 ⟨v6, rfl, ho6, hb6⟩
                  obtain ⟨vn, vva, vc, rfl⟩ : ∃ n a c, v6 = .slice a n c := by obtain ⟨a, c, h⟩ := ho6.form; exact ⟨_, a, c, h⟩
                  have k14 : Below w12.heap.size w12 w14 := (Below.refl _ _).drew.trans hb6
                  have K14 := Lib.hid k14
                  have x1 := cell_later k14 x0; have t1 := cell_later k14 r1; have t2 := cell_later k14 r2; have t3 := frz_later k14 r4 r3; have t4 : cb < w14.heap.size := Nat.lt_of_lt_of_le r4 k14.size
                  have sw := Lib.hid (PK.out.swap w14 _ (.slice vva vn vc) _ (Chg.of_below k14) ho6.lt (fun i hi => ⟨.inr hi.1, hi.2⟩))
                  clear ho6 hb6 k14 x0 r1 r2 r3 r4
                  (try simp only [])
                  refine hK _ _ (by refine ⟨?_, ?_, ?_⟩ <;> (first | exact x1 | exact t1 | exact t2)) ?_
                  clear hK K
                  (try go_frame)

                  have ow := PK.out.ownc
                  have s14 := K14.out.size
                  have F14 := Lib.hid ((Fm.call K14.out FD.out).far (p := ⟨cb, N, none⟩) (.inr (by have := VD.out.own.s1 _ ow; simp; omega)) (.slice vva vn vc))
                  have C14 := Lib.hid ((CD.out.tr K14.out).setCell (p := ⟨cb, N, none⟩) (fun _ => HKB.out _ ow) (.slice vva vn vc))
                  have V14 := Lib.hid (show YVr (w14.setCell ⟨cb, N, none⟩ (.slice vva vn vc)) (w.heap.size + 4) w1.heap.size _ f2' l1 (some ⟨ob, 0, none⟩) obc (some ⟨nb, 0, none⟩) pc ((fil (List.replicate rn []) JM k).set k (X.set N (ins x lx))) (fil 0 JO (k + 1)) from
                    ⟨(VD.out.has.below K14.out VD.out.lt).other (fun e => nvc e.symm), OY.cast (OY.setSets VD.out.own sw.out.1 sw.out.2 (fun j hj => hj) (by have := VD.out.own.s1 _ ow; omega)) (set_twice _ _ _ _) rfl, VD.out.ge, by simp; omega, fun h => h.1.elim VD.out.o1 (fun h => by omega), VD.out.o2⟩)
                  have HK14 := Lib.hid (show ∀ z, (Grown h1 w12 z ∧ z < (w14.setCell ⟨cb, N, none⟩ (.slice vva vn vc)).heap.size) → ¬ Kp w.heap.size wv.heap.size w7.heap.size z from fun z hz h => hz.1.elim (fun h' => HKB.out z h' h) (fun h' => by have a1 := CD.out.size; have a2 := FD.out.size; have a3 := KW.out.size; unfold Kp at h; omega))
                  clear ok x1 t1
                  refine hd_done (by kernel_rfl) ?_
                  simp only [List.drop_succ_cons, List.drop_zero]
                  go_wp2
                  go_roundw
                  case rel => first
                    | exact ⟨y + 1, _, by omega, by go_num, HK14.out, by rw [HTS.out, HE.out]; exact V14.out, F14.out, C14.out⟩
                    | ((repeat apply Exists.intro); exact ⟨⟨y + 1, _, by omega, by go_num, HK14.out, by rw [HTS.out, HE.out]; exact V14.out, F14.out, C14.out⟩, rfl⟩)
                  case measure => simp [intOf]; omega
              · have hNd : decide (N < rn) = false := by simpa using hNW
                have HE := Lib.hid (show jStep rn nn X x = X from if_neg (fun h => hNW (by rw [← HNX.out]; exact h.1)))
                clear hNW
                go_wp2
                go_roundw
                case rel => first
                  | exact ⟨y + 1, h1, by omega, by go_num, HKB.out, by rw [HTS.out, HE.out]; exact VD.out, FD.out, CD.out⟩
                  | ((repeat apply Exists.intro); exact ⟨⟨y + 1, h1, by omega, by go_num, HKB.out, by rw [HTS.out, HE.out]; exact VD.out, FD.out, CD.out⟩, rfl⟩)
                case measure => simp [intOf]; omega
            · have hye : y = l.length := by omega
              subst hye
              have e9 : (LL.take (t + 1)).flatten = (LL.take t).flatten ++ l.take l.length := by rw [List.take_add_one, HXL.out, List.flatten_append, List.take_length]; simp
              have E9 := Lib.hid e9
              clear e9
              go_wp2
              go_roundw
              case rel => exact ⟨t + 1, h1, by omega, by go_num, HKB.out, by rw [E9.out]; exact VB.out, FB.out, CB.out⟩
              case measure => simp [intOf]; omega
        · have hte : t = rn + rn := by omega
          subst hte
          have HFIN := Lib.hid (show (fil (List.replicate rn []) JM k).set k (jL rn nn (List.replicate rn []) (LL.take (rn + rn)).flatten) = fil (List.replicate rn []) JM (k + 1) from by
            have e9 : jL rn nn (List.replicate rn []) (LL.take (rn + rn)).flatten = joinY rn f' i g' j := by
              rw [List.take_of_length_le (by rw [HLn.out]; exact Nat.le_refl _), ← HLL.out, ← NN.out]; rfl
            rw [e9]; exact fil_set _ HJ.out)
          go_wp2
          go_roundw
          case rel => exact ⟨k + 1, h1, f2', by omega, by go_num, by rw [← HFIN.out]; exact V9.out, F9.out⟩
          case measure => simp [intOf]; omega
    · have hke : k = l1 := by omega
      subst hke
      have e9 : fil (List.replicate W []) JM k = JM := by have := fil_all (List.replicate W []) JM; rwa [HJL.out] at this
      have e8 : fil 0 JO k = JO := by have := fil_all 0 JO; rwa [HOL.out] at this
      rw [e9, e8] at V2
      clear e9 e8
      have x0 := V2.out.has.cell 0 _ rfl; have x1 := V2.out.has.cell 1 _ rfl; have lx := V2.out.lt
      have r0 := F2.out.h3.cell 0 _ rfl; have r1 := F2.out.h3.cell 1 _ rfl; have rf := F2.out.h3.free; have lr := F2.out.h3.lt (by simp)
      go_wp2
      refine bodyPost_ret (v := YV ta k tc pa k pc) (by simp [results, Try.results16, go_sem, r0, r1]) rfl ⟨ta, k, tc, pa, k, pc, f1, f2, rfl, OY.ge (OY.two V2.out.own (show w.heap.size + 3 < w.heap.size + 4 by omega) (Nat.le_refl _)) (by omega), ((F2.out.set 3 0 _ rfl (by simp) _).set 3 1 _ rfl (by simp) _).below⟩
end Go.Proofs.Ytlpelpjcbclemaa
