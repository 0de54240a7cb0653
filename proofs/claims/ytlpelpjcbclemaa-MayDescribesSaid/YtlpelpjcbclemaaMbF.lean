/-
  The document's Below (lines that can be there).
-/
import Derived.Test.YtlpelpjcbclemaaMaT
namespace Go.Proofs.Ytlpelpjcbclemaa
open Go.RowKit

set_option maxRecDepth 100000 in
set_option maxHeartbeats 16000000 in
theorem yrbelow_any (U : List Int) (hU : U.length ≤ 1000) (S W L : Nat) (hc : COk S W L) (m q : List (List (List Int))) (o r : List Int) (hm : YSt U S W m o) (hq : YSt U S W q r) (K1 K2 : Nat → Prop) (a1 : Option Addr) (l1 c1 : Nat) (d1 : Option Addr) (n1 e1 : Nat) (a2 : Option Addr) (l2 c2 : Nat) (d2 : Option Addr) (n2 e2 : Nat) (w : World) (r1 : YCub K1 w a1 l1 c1 d1 n1 e1 m o) (r2 : YCub K2 w a2 l2 c2 d2 n2 e2 q r) :
    Calls Try.prog 33 #[CV S W L, YV a1 l1 c1 d1 n1 e1, YV a2 l2 c2 d2 n2 e2] w (BoolIff (BelowY S W m o q r) w) := by
  have h1 : l1 = S := by rw [← r1.cub.hlen]; exact hm.len
  have h2 : n1 = S := by rw [← r1.ints.hlen]; exact hm.olen
  have h3 : l2 = S := by rw [← r2.cub.hlen]; exact hq.len
  have h4 : n2 = S := by rw [← r2.ints.hlen]; exact hq.olen
  subst h1
  obtain rfl : l1 = n1 := h2.symm
  obtain rfl : l1 = l2 := h3.symm
  obtain rfl : l1 = n2 := h4.symm
  clear h2 h3 h4
  have hC := Lib.hid hc
  obtain ⟨g1, g2, g3, g4, g5, g6⟩ := hc
  have F0 := Lib.hid (Fm.new (Fm.new (Fm.new (Fm.start Non w) rfl [.int .i64 l1, .int .i64 W, .int .i64 L] 26) (by simp) [.slice a1 l1 c1, .slice d1 l1 e1] 31) (by simp) [.slice a2 l1 c2, .slice d2 l1 e2] 31)
  have HR1 := Lib.hid (ints_old r1); have HR2 := Lib.hid (ints_old r2); have HM := Lib.hid hm; have HQ := Lib.hid hq
  clear r1 r2 hm hq
  have a0 := F0.out.h1.cell 0 _ rfl; have a1' := F0.out.h1.cell 1 _ rfl; have b0 := F0.out.h2.cell 0 _ rfl; have b1 := F0.out.h2.cell 1 _ rfl
  go_enter Try.func33, Try.ntmps33
  go_wp2_with fail
  clear a0 a1' b0 b1
  have F1 := Lib.hid (show Fm Non w (((w.alloc (.cells #[.int .i64 l1, .int .i64 W, .int .i64 L] 26)).alloc (.cells #[.slice a1 l1 c1, .slice d1 l1 e1] 31)).alloc (.cells #[.slice a2 l1 c2, .slice d2 l1 e2] 31)) [[.int .i64 l1, .int .i64 W, .int .i64 L], [.slice a1 l1 c1, .slice d1 l1 e1], [.slice a2 l1 c2, .slice d2 l1 e2]] from F0.out)
  go_loopw [15] (fun i wr => ∃ k : Nat, k ≤ l1 ∧ i = .int .i64 k ∧ (∀ s, s < k → BelowAt W (m.getD s []) (o.getD s 0).toNat (q.getD s []) (r.getD s 0).toNat) ∧ Fm Non w wr [[.int .i64 l1, .int .i64 W, .int .i64 L], [.slice a1 l1 c1, .slice d1 l1 e1], [.slice a2 l1 c2, .slice d2 l1 e2]]) (fun i _ => l1 - (intOf i).toNat)
  case atStart => exact ⟨0, Nat.zero_le _, rfl, fun s hs => absurd hs (Nat.not_lt_zero _), F1.out⟩
  case round =>
    clear F0 F1
    obtain ⟨k, hk, rfl, hB, hF⟩ := hrel
    have F2 := Lib.hid hF; have HB := Lib.hid hB
    clear hF hB
    by_cases hlt : k < l1
    · obtain ⟨f, i, hf, hi, hfd, hid, hfy⟩ := HM.out.at hlt
      obtain ⟨g, j, hg, hj, hgd, hjd, hgy⟩ := HQ.out.at hlt
      obtain ⟨ab, ap, rfl, hca, hab, _, _⟩ := HR1.out.other hi
      obtain ⟨bb, bp, rfl, hcb, hbb, _, _⟩ := HR2.out.other hj
      have HFY := Lib.hid hfy; have HGY := Lib.hid hgy
      have HFD := Lib.hid hfd; have HID := Lib.hid hid; have HGD := Lib.hid hgd; have HJD := Lib.hid hjd
      obtain ⟨xb, xo, f', ra, rn, rc, rfl, hx, hcx, hrx, _, hbx⟩ := Rows.get HR1.out.cub hlt
      obtain rfl : f' = f := by rw [hf] at hx; cases hx; rfl
      obtain ⟨yb, yo, g', qa, qn, qc, rfl, hy, hcy, hry, _, hby⟩ := Rows.get HR2.out.cub hlt
      obtain rfl : g' = g := by rw [hg] at hy; cases hy; rfl
      obtain rfl : rn = W := by rw [← hrx.hlen]; exact hfy.ws.len
      obtain rfl : rn = qn := by rw [← hry.hlen]; exact hgy.ws.len.symm
      have hs0 : (0 : Int) ≤ (k : Int) := by omega
      have hs1 : (k : Int) < (l1 : Int) := by omega
      have HRX := Lib.hid hrx; have HRY := Lib.hid hry
      have BA := Lib.hid (show BelowAt rn (m.getD k []) (o.getD k 0).toNat (q.getD k []) (r.getD k 0).toNat ↔ BelowAt rn f' i g' j by rw [hfd, hid, hgd, hjd, Int.toNat_natCast, Int.toNat_natCast])
      clear hf hi hfd hid hfy hg hj hgd hjd hgy hx hrx hy hry
      have a1' := F2.out.h1.cell 1 _ rfl; have b1 := F2.out.h2.cell 1 _ rfl
      have ca := (F2.out.below.cell (p := ⟨ab, ap + k, none⟩) hab).trans hca
      have cb := (F2.out.below.cell (p := ⟨bb, bp + k, none⟩) hbb).trans hcb
      by_cases hji : i < j
      · have NO := Lib.hid (show ¬ BelowY l1 rn m o q r from fun h => by have := (BA.out.1 (h k hlt)).1; omega)
        have hgt : ((j : Int) > (i : Int)) := by omega
        clear hji
        go_upto_region 4 with fail
        go_quiet (fail)
        go_wp2
        go_ret
        exact BoolIff.no rfl NO.out (below_drewN F2.out.below _)
      · have hgt : ¬ ((j : Int) > (i : Int)) := by omega
        have HJI := Lib.hid (show j ≤ i by omega)
        clear hji
        obtain ⟨ua, uo, rfl, _, _⟩ := Row.addr HRX.out (by omega)
        obtain ⟨va, vo, rfl, _, _⟩ := Row.addr HRY.out (by omega)
        have FX := Lib.hid (yset_flat HFY.out hU (by omega)); have FY := Lib.hid (yset_flat HGY.out hU (by omega))
        go_upto_region 4 with fail
        go_quiet (fail)
        have F3 := Lib.hid (Fm.call (below_drewN (Below.refl _ _) nq) F2.out)
        obtain ⟨wv, hwv⟩ : ∃ wv : World, wv = wr.drewN nq := ⟨_, rfl⟩
        rw [← hwv] at F3 ⊢
        clear hwv ca cb a1' b1 F2
        have a0 := F3.out.h1.cell 0 _ rfl; have b0 := F3.out.h2.cell 0 _ rfl
        have cx := (F3.out.below.cell (p := ⟨xb, xo + k, none⟩) hbx).trans hcx
        have cy := (F3.out.below.cell (p := ⟨yb, yo + k, none⟩) hby).trans hcy
        obtain ⟨cs1, hv1⟩ := Mat.vals (Mat.below HRX.out F3.out.below)
        obtain ⟨cs2, hv2⟩ := Mat.vals (Mat.below HRY.out F3.out.below)
        have VS1 := Lib.hid hv1; have VS2 := Lib.hid hv2
        have L1 := Lib.hid (show cs1.length = rn by rw [hv1.len]; exact HRX.out.hlen); have L2 := Lib.hid (show cs2.length = rn by rw [hv2.len]; exact HRY.out.hlen)
        clear hv1 hv2
        go_upto_region 6 with fail
        refine hd_start_e 14 (fun w' => w'.cell? ⟨w.heap.size + 1, 0, none⟩ = some (.slice (some ⟨xb, xo, none⟩) l1 c1) ∧ w'.cell? ⟨xb, xo + k, none⟩ = some (.slice (some ⟨ua, uo, none⟩) rn rc) ∧ w'.cell? ⟨w.heap.size + 1 + 1, 0, none⟩ = some (.slice (some ⟨yb, yo, none⟩) l1 c2) ∧ w'.cell? ⟨yb, yo + k, none⟩ = some (.slice (some ⟨va, vo, none⟩) rn qc)) (by kernel_rfl) ⟨by kernel_rfl, by rfl⟩ (by refine ⟨a0, cx, b0, cy⟩) (fun ok => ?_)
        refine hd_take_e (i := 0) (v := ?_) ok rfl (by decide) (by kernel_rfl) (by kernel_rfl) (fun _ _ _ h => h) (Or.inl ⟨by kernel_rfl, ?_⟩) ?_
        rotate_left
        · (intro w hSw; (try dsimp only at hSw); (try go_split_ands); go_simp; (try (with_reducible rfl)))
        go_frame
        refine hd_take_e (i := 1) (v := ?_) ok rfl (by decide) (by kernel_rfl) (by kernel_rfl) (fun _ _ _ h => h) (Or.inl ⟨by kernel_rfl, ?_⟩) ?_
        rotate_left
        · (intro w hSw; (try dsimp only at hSw); (try go_split_ands); go_simp; (try (with_reducible rfl)))
        go_frame
        refine hd_take_e (i := 2) (v := ?_) ok rfl (by decide) (by kernel_rfl) (by kernel_rfl) (fun _ _ _ h => h) (Or.inl ⟨by kernel_rfl, ?_⟩) ?_
        rotate_left
        · (intro w hSw; (try dsimp only at hSw); (try go_split_ands); go_simp; (try (with_reducible rfl)))
        go_frame
        refine hd_take_e (i := 3) (v := ?_) ok rfl (by decide) (by kernel_rfl) (by kernel_rfl) (fun _ _ _ h => h) (Or.inl ⟨by kernel_rfl, ?_⟩) ?_
        rotate_left
        · (intro w hSw; (try dsimp only at hSw); (try go_split_ands); go_simp; (try (with_reducible rfl)))
        go_frame
        refine hd_take_e (i := 4) (v := ?_) ok rfl (by decide) (by kernel_rfl) (by kernel_rfl) (fun _ _ _ h => h) (Or.inl ⟨by kernel_rfl, ?_⟩) ?_
        rotate_left
        · (intro w hSw; (try dsimp only at hSw); (try go_split_ands); go_simp; (try (with_reducible rfl)))
        go_frame
        refine hd_take_e (i := 6) (v := ?_) ok rfl (by decide) (by kernel_rfl) (by kernel_rfl) (fun _ _ _ h => h) (Or.inl ⟨by kernel_rfl, ?_⟩) ?_
        rotate_left
        · (intro w hSw; (try dsimp only at hSw); (try go_split_ands); go_simp; (try (with_reducible rfl)))
        go_frame
        refine hd_take_e (i := 7) (v := ?_) ok rfl (by decide) (by kernel_rfl) (by kernel_rfl) (fun _ _ _ h => h) (Or.inl ⟨by kernel_rfl, ?_⟩) ?_
        rotate_left
        · (intro w hSw; (try dsimp only at hSw); (try go_split_ands); go_simp; (try (with_reducible rfl)))
        go_frame
        refine hd_take_e (i := 8) (v := ?_) ok rfl (by decide) (by kernel_rfl) (by kernel_rfl) (fun _ _ _ h => h) (Or.inl ⟨by kernel_rfl, ?_⟩) ?_
        rotate_left
        · (intro w hSw; (try dsimp only at hSw); (try go_split_ands); go_simp; (try (with_reducible rfl)))
        go_frame
        refine hd_take_e (i := 9) (v := ?_) ok rfl (by decide) (by kernel_rfl) (by kernel_rfl) (fun _ _ _ h => h) (Or.inl ⟨by kernel_rfl, ?_⟩) ?_
        rotate_left
        · (intro w hSw; (try dsimp only at hSw); (try go_split_ands); go_simp; (try (with_reducible rfl)))
        go_frame
        refine hd_take_e (i := 10) (v := ?_) ok rfl (by decide) (by kernel_rfl) (by kernel_rfl) (fun _ _ _ h => h) (Or.inl ⟨by kernel_rfl, ?_⟩) ?_
        rotate_left
        · (intro w hSw; (try dsimp only at hSw); (try go_split_ands); go_simp; (try (with_reducible rfl)))
        go_frame
        refine hd_take_e (i := 13) (v := ?_) ok rfl (by decide) (by kernel_rfl) (by kernel_rfl) (fun _ _ _ h => h) (Or.inl ⟨by kernel_rfl, ?_⟩) ?_
        rotate_left
        · (intro w hSw; (try dsimp only at hSw); (try go_split_ands); go_simp; (try (with_reducible rfl)))
        go_frame
        refine hd_only_l (c := 5) rfl (by decide) (by kernel_rfl) (fun K hK => ?_)
        refine step_append_coll rfl _ _ 42 rfl Try.underlying42 info_sl rfl (Coll.nil wv.drew (fun _ => False)) rfl ⟨ua, uo, none⟩ rn rc cs1 rfl L1.out VS1.out.cell VS1.out.one (by simp; omega) ?_
        intro v6 w6 hap
        have k6 := hap.out.2
        have a1 := k6.cell (fun h => h) a0; have cx1 := k6.cell (fun h => h) cx; have b1 := k6.cell (fun h => h) b0; have cy1 := k6.cell (fun h => h) cy
        have C6 := Lib.hid hap.out.1
        have K6 := Lib.hid (show Chg (fun _ => False) wv w6 from (Chg.refl wv).drew.trans k6 (fun _ _ h => h))
        have s6 := k6.size
        simp only [World.size_drew] at s6
        clear hap k6 a0 cx b0 cy
        (try simp only [])
        refine hK _ _ (by refine ⟨?_, ?_, ?_, ?_⟩ <;> (first | exact a1 | exact cx1 | exact b1 | exact cy1)) ?_
        clear hK K
        (try go_frame)

        refine hd_only_l (c := 11) rfl (by decide) (by kernel_rfl) (fun K hK => ?_)
        refine step_append_coll rfl _ _ 42 rfl Try.underlying42 info_sl rfl C6.out rfl ⟨va, vo, none⟩ rn qc cs2 rfl L2.out (fun j u hu => by have h9 := VS2.out.cell j u hu; rw [Go.WideShapes.add_plain] at h9 ⊢; exact K6.out.cell (fun h => h) h9) VS2.out.one (by have := L1.out; simp; omega) ?_
        intro v7 w7 hap
        have k7 := hap.out.2
        have nG : ∀ x, x < wv.heap.size → ¬ Grown (fun _ => False) wv.drew x := fun x hx h => h.elim id (fun h => by simp at h; omega)
        have F3s := F3.out.size
        simp only [List.length_cons, List.length_nil] at F3s
        have F3b := F3.out.below.size
        have a2 := k7.cell (nG _ (by omega)) a1; have cx2 := k7.cell (nG _ (by omega)) cx1; have b2 := k7.cell (nG _ (by omega)) b1; have cy2 := k7.cell (nG _ (by omega)) cy1
        obtain ⟨la, lc, rfl⟩ := hap.out.1.form (n := rn + rn) (by have := L1.out; have := L2.out; simp; omega)
        have C7 := Lib.hid hap.out.1
        have s7 := k7.size
        have K7 := Lib.hid k7
        clear hap k7 a1 cx1 b1 cy1
        (try simp only [])
        refine hK _ _ (by refine ⟨?_, ?_, ?_, ?_⟩ <;> (first | exact a2 | exact cx2 | exact b2 | exact cy2)) ?_
        clear hK K
        (try go_frame)

        refine hd_only_l (c := 12) rfl (by decide) (by kernel_rfl) (fun K hK => ?_)
        go_simp
        (try simp only [])
        refine hK _ _ (by refine ⟨?_, ?_, ?_, ?_⟩ <;> (first | exact a2 | exact cx2 | exact b2 | exact cy2)) ?_
        clear hK K
        (try go_frame)

        clear ok a2 cx2 b2 cy2
        refine hd_end (by kernel_rfl) rfl ?_
        have KW := Lib.hid (show Chg Non wv w7 from (K6.out.mono (fun _ _ h => h)).trans K7.out (fun j hj h => absurd h (nG j (by omega))))
        have F7 := Lib.hid (Fm.call KW.out.below0 F3.out)
        have hLn : (f' ++ g').length = rn + rn := by rw [List.length_append, HRX.out.hlen, HRY.out.hlen]
        have ML := Lib.hid (show Mat (fun _ => True) w7 la (rn + rn) lc (f' ++ g') from C7.out.mat (by have := L1.out; have := L2.out; rw [hLn]; simp; omega) (by omega) (fun j' l hl => by
          rcases Nat.lt_or_ge j' f'.length with hj | hj
          · rw [List.getElem?_append_left hj] at hl
            obtain ⟨a', n', c', h1, h2⟩ := VS1.out.row j' l hl
            exact ⟨a', n', c', by rw [List.nil_append, List.getElem?_append_left (by rw [VS1.out.len]; exact hj)]; exact h1, Row.below RInt.stays (Row.wide RInt.wider (fun _ _ _ => trivial) h2) KW.out.below0⟩
          · rw [List.getElem?_append_right hj] at hl
            obtain ⟨a', n', c', h1, h2⟩ := VS2.out.row (j' - f'.length) l hl
            exact ⟨a', n', c', by rw [List.nil_append, List.getElem?_append_right (by rw [VS1.out.len]; exact hj), VS1.out.len]; exact h1, Row.below RInt.stays (Row.wide RInt.wider (fun _ _ _ => trivial) h2) KW.out.below0⟩) (fun _ _ _ => trivial))
        have PL := Lib.hid (show ∀ l x, l ∈ f' ++ g' → x ∈ l → Kn f' g' x from fun l x hl hx => mem_kn.1 (List.mem_flatten.2 ⟨l, hl, hx⟩))
        obtain ⟨LL, hLL⟩ : ∃ LL, f' ++ g' = LL := ⟨_, rfl⟩
        have HLL := Lib.hid hLL
        rw [hLL] at ML PL hLn
        have HLn := Lib.hid hLn
        clear hLL hLn C6 K6 C7 K7 s6 nG VS1 VS2 cs1 cs2 L1 L2 F3
        go_wp2
        go_loopw [42] (fun v wr => ∃ t : Nat, t ≤ rn + rn ∧ v = .int .i64 t ∧ (∀ x, x ∈ (LL.take t).flatten → ageF rn g' j x ≤ ageF rn f' i x) ∧ Below w7.heap.size w7 wr ∧ Fm Non w wr [[.int .i64 l1, .int .i64 rn, .int .i64 L], [.slice (some ⟨xb, xo, none⟩) l1 c1, .slice (some ⟨ab, ap, none⟩) l1 e1], [.slice (some ⟨yb, yo, none⟩) l1 c2, .slice (some ⟨bb, bp, none⟩) l1 e2]]) (fun v _ => rn + rn - (intOf v).toNat)
        case atStart => exact ⟨0, Nat.zero_le _, rfl, by simp, Below.refl _ _, F7.out⟩
        case round =>
          clear F7
          obtain ⟨t, ht, rfl, hT, hbt, hF⟩ := hrel
          have FB := Lib.hid hF; have BT := Lib.hid hbt; have HT := Lib.hid hT
          clear hF hbt hT
          by_cases htl : t < rn + rn
          · obtain ⟨gb, go, l, qa', ll, qc', rfl, hxl, hcl', hrl, hKb, hbl'⟩ := Rows.get ML.out htl
            have hcl := (BT.out.cell (p := ⟨gb, go + t, none⟩) hbl').trans hcl'
            have hll := hrl.hlen; have hl6 := hrl.hsz
            subst hll
            have RL := Lib.hid (show Ints (fun _ => True) w7 qa' l.length qc' l from hrl)
            have HXL := Lib.hid hxl
            have hLm := List.mem_of_getElem? hxl
            have PLl := Lib.hid (fun x hx => PL.out l x hLm hx)
            have HE9 := Lib.hid (show (LL.take (t + 1)).flatten = (LL.take t).flatten ++ l by rw [List.take_add_one, hxl, List.flatten_append]; simp)
            clear hxl hrl hcl' hbl' hKb hLm
            go_wp2
            rw [show decide ((t : Int) < (rn : Int) + (rn : Int)) = true from by simp; omega]
            go_loopw [48] (fun v wr => ∃ y : Nat, y ≤ l.length ∧ v = .int .i64 y ∧ (∀ x, x ∈ l.take y → ageF rn g' j x ≤ ageF rn f' i x) ∧ Below w7.heap.size w7 wr ∧ Fm Non w wr [[.int .i64 l1, .int .i64 rn, .int .i64 L], [.slice (some ⟨xb, xo, none⟩) l1 c1, .slice (some ⟨ab, ap, none⟩) l1 e1], [.slice (some ⟨yb, yo, none⟩) l1 c2, .slice (some ⟨bb, bp, none⟩) l1 e2]]) (fun v _ => l.length - (intOf v).toNat)
            case atStart => exact ⟨0, Nat.zero_le _, rfl, by simp, BT.out, FB.out⟩
            case round =>
              clear FB BT hcl
              obtain ⟨y, hy, rfl, hY, hbt, hF⟩ := hrel
              have FB := Lib.hid hF; have BT := Lib.hid hbt; have HY := Lib.hid hY
              clear hF hbt hY
              by_cases hyl : y < l.length
              · obtain ⟨lb, lo, x, rfl, hzx, hcz, hz1, hz2, _, hbz⟩ := Ints.get (RL.out.below BT.out) hyl
                have KN := Lib.hid (PLl.out x (List.mem_of_getElem? hzx))
                have PX := Lib.hid (show PS U l1 k x from KN.out.elim (fun ⟨i, h⟩ => HFY.out.ws.mem i x h) (fun ⟨i, h⟩ => HGY.out.ws.mem i x h))
                have hx0 := PX.out.1; have hx9 := PX.out.2.1
                have AGa := Lib.hid (fun (s : BelowW wr) => yrage_any l1 rn L hC.out m o HM.out _ _ l1 c1 _ l1 e1 x hx0 s.world (HR1.out.below (FB.out.below.trans (s.ok.mono (by have := FB.out.size; omega)))))
                have AGb := Lib.hid (fun (s : BelowW wr) => yrage_any l1 rn L hC.out q r HQ.out _ _ l1 c2 _ l1 e2 x hx0 s.world (HR2.out.below (FB.out.below.trans (s.ok.mono (by have := FB.out.size; omega)))))
                have EA := Lib.hid (ageY_at (W := rn) (by omega) PX.out.2.2.1 HFD.out HID.out)
                have EB := Lib.hid (ageY_at (W := rn) (by omega) PX.out.2.2.1 HGD.out HJD.out)
                simp only [EA.out] at AGa
                simp only [EB.out] at AGb
                have HZX := Lib.hid hzx
                clear hzx EA EB
                have kc0 := fun s : BelowW wr => (FB.out.h0.every (FB.out.h0.lt (by simp)) s).cell 0 _ rfl; have kc1 := fun s : BelowW wr => (FB.out.h0.every (FB.out.h0.lt (by simp)) s).cell 1 _ rfl; have kc2 := fun s : BelowW wr => (FB.out.h0.every (FB.out.h0.lt (by simp)) s).cell 2 _ rfl
                have p0 := fun s : BelowW wr => (FB.out.h1.every (FB.out.h1.lt (by simp)) s).cell 0 _ rfl; have p1 := fun s : BelowW wr => (FB.out.h1.every (FB.out.h1.lt (by simp)) s).cell 1 _ rfl
                have q0 := fun s : BelowW wr => (FB.out.h2.every (FB.out.h2.lt (by simp)) s).cell 0 _ rfl; have q1 := fun s : BelowW wr => (FB.out.h2.every (FB.out.h2.lt (by simp)) s).cell 1 _ rfl
                by_cases hle : ageF rn f' i x < ageF rn g' j x
                · have NO := Lib.hid (show ¬ BelowY l1 rn m o q r from fun h => by have := (BA.out.1 (h k hlt)).2 x KN.out; omega)
                  generalize ageF rn f' i x = na at *
                  generalize ageF rn g' j x = nb at *
                  have hgt2 : ((nb : Int) > (na : Int)) := by omega
                  clear hle
                  go_upto_region 12 with fail
                  clear hcz
                  refine wp_region_below (by kernel_rfl) (by kernel_rfl) ?_
                  repeat (go_big_quiet_step ((go_at_call 30; first | (with_reducible exact calls_below _ (AGb.out _)) | (with_reducible exact calls_below _ (AGa.out _)))))
                  refine wpQuiet_nil ?_
                  rintro w' ⟨s, rfl⟩
                  have F4 := Lib.hid (Fm.call s.ok FB.out)
                  clear kc0 kc1 kc2 p0 p1 q0 q1
                  go_wp2
                  go_ret
                  exact BoolIff.no rfl NO.out F4.out.below
                · have HL := Lib.hid (show ∀ z, z ∈ l.take (y + 1) → ageF rn g' j z ≤ ageF rn f' i z from fun z hz => by
                    rw [List.take_add_one, HZX.out, List.mem_append] at hz
                    rcases hz with h | h
                    · exact HY.out z h
                    · simp at h; subst h; omega)
                  have HAB := Lib.hid (show ¬ ((ageF rn g' j x : Int) > (ageF rn f' i x : Int)) by omega)
                  obtain ⟨na, hna⟩ : ∃ na, ageF rn f' i x = na := ⟨_, rfl⟩
                  obtain ⟨nb, hnb⟩ : ∃ nb, ageF rn g' j x = nb := ⟨_, rfl⟩
                  simp only [hna] at AGa
                  simp only [hnb] at AGb
                  rw [hna, hnb] at HAB
                  have hgt2 := HAB.out
                  clear hle hna hnb HY
                  go_upto_region 12 with fail
                  clear hcz
                  refine wp_region_below (by kernel_rfl) (by kernel_rfl) ?_
                  repeat (go_big_quiet_step ((go_at_call 30; first | (with_reducible exact calls_below _ (AGb.out _)) | (with_reducible exact calls_below _ (AGa.out _)))))
                  refine wpQuiet_nil ?_
                  rintro w' ⟨s, rfl⟩
                  have F4 := Lib.hid (Fm.call s.ok FB.out)
                  have B4 := Lib.hid (BT.out.trans (s.ok.mono BT.out.size))
                  clear kc0 kc1 kc2 p0 p1 q0 q1
                  go_wp2
                  go_roundw
                  case rel => exact ⟨y + 1, by omega, by go_num, HL.out, B4.out, F4.out⟩
                  case measure => simp [intOf]; omega
              · obtain rfl : y = l.length := by omega
                rw [List.take_length] at HY
                have HT2 := Lib.hid (show ∀ x, x ∈ (LL.take (t + 1)).flatten → ageF rn g' j x ≤ ageF rn f' i x from fun x hx => by
                  rw [HE9.out, List.mem_append] at hx
                  exact hx.elim (HT.out x) (HY.out x))
                go_wp2
                go_roundw
                case rel => exact ⟨t + 1, by omega, by go_num, HT2.out, BT.out, FB.out⟩
                case measure => simp [intOf]; omega
          · obtain rfl : t = rn + rn := by omega
            have HB2 := Lib.hid (show ∀ s, s < k + 1 → BelowAt rn (m.getD s []) (o.getD s 0).toNat (q.getD s []) (r.getD s 0).toNat from fun s hs => by
              by_cases e : s = k
              · subst e
                refine BA.out.2 ⟨HJI.out, fun y hy => HT.out y ?_⟩
                rw [List.take_of_length_le (by rw [HLn.out]; exact Nat.le_refl _), ← HLL.out]
                exact mem_kn.2 hy
              · exact HB.out s (by omega))
            go_wp2
            go_roundw
            case rel => exact ⟨k + 1, by omega, by go_num, HB2.out, FB.out⟩
            case measure => simp [intOf]; omega
    · obtain rfl : k = l1 := by omega
      go_wp2
      go_ret
      exact BoolIff.yes rfl HB.out F2.out.below
end Go.Proofs.Ytlpelpjcbclemaa
