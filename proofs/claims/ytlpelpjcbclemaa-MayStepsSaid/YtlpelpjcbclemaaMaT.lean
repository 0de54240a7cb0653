/-
  may.Below: whether one state says at least as much as another one.
-/
import Derived.Test.YtlpelpjcbclemaaMaR
import Derived.Test.YtlpelpjcbclemaaQuiet
namespace Go.Proofs.Ytlpelpjcbclemaa
open Go.RowKit

/-- In one set the first state says at least as much. -/
def BelowAt (W : Nat) (f : List (List Int)) (i : Nat) (g : List (List Int)) (j : Nat) : Prop := j ≤ i ∧ ∀ y, Kn f g y → ageF W g j y ≤ ageF W f i y
def BelowY (S W : Nat) (m : List (List (List Int))) (o : List Int) (q : List (List (List Int))) (r : List Int) : Prop := ∀ s, s < S → BelowAt W (m.getD s []) (o.getD s 0).toNat (q.getD s []) (r.getD s 0).toNat
theorem BelowAt.iff {P Q : Int → Prop} {W i j : Nat} {f g : List (List Int)} (hf : YSet P W f i) (hg : YSet Q W g j) : BelowAt W f i g j ↔ BelowF W f i g j := by
  constructor
  · intro h
    refine ⟨h.1, fun y => ?_⟩
    by_cases k : Kn f g y
    · exact h.2 y k
    · rw [ageF_no hf fun n h => k (.inl ⟨n, h⟩), ageF_no hg fun n h => k (.inr ⟨n, h⟩)]; exact h.1
  · intro h
    exact ⟨h.1, fun y _ => h.2 y⟩
def BoolIff (P : Prop) (w : World) (e : Ending) (w' : World) : Prop := ∃ v : Bool, e = .returned (.bool v) ∧ (v = true ↔ P) ∧ Below w.heap.size w w'
theorem BoolIff.yes {P : Prop} {w w' : World} {e : Ending} (he : e = .returned (.bool true)) (hp : P) (hb : Below w.heap.size w w') : BoolIff P w e w' := ⟨true, he, ⟨fun _ => hp, fun _ => rfl⟩, hb⟩
theorem BoolIff.no {P : Prop} {w w' : World} {e : Ending} (he : e = .returned (.bool false)) (hp : ¬ P) (hb : Below w.heap.size w w') : BoolIff P w e w' := ⟨false, he, ⟨fun h => (by cases h), fun h => absurd h hp⟩, hb⟩

set_option maxRecDepth 100000 in
set_option maxHeartbeats 16000000 in
theorem ybelow_any (U : List Int) (hU : U.length ≤ 1000) (S W L : Nat) (hc : COk S W L) (m q : List (List (List Int))) (o r : List Int) (hm : YSt U S W m o) (hq : YSt U S W q r) (K1 K2 : Nat → Prop) (a1 : Option Addr) (l1 c1 : Nat) (d1 : Option Addr) (n1 e1 : Nat) (a2 : Option Addr) (l2 c2 : Nat) (d2 : Option Addr) (n2 e2 : Nat) (w : World) (r1 : YCub K1 w a1 l1 c1 d1 n1 e1 m o) (r2 : YCub K2 w a2 l2 c2 d2 n2 e2 q r) :
    Calls Try.prog 18 #[CV S W L, YV a1 l1 c1 d1 n1 e1, YV a2 l2 c2 d2 n2 e2] w (BoolIff (BelowY S W m o q r) w) := by
  have h1 : l1 = S := by rw [← r1.cub.hlen]; exact hm.len
  have h2 : n1 = S := by rw [← r1.ints.hlen]; exact hm.olen
  have h3 : l2 = S := by rw [← r2.cub.hlen]; exact hq.len
  have h4 : n2 = S := by rw [← r2.ints.hlen]; exact hq.olen
  subst h1
  obtain rfl : l1 = n1 := h2.symm
  obtain rfl : l1 = l2 := h3.symm
  obtain rfl : l1 = n2 := h4.symm
  clear h2 h3 h4
  have hC := Lib.hid hc
  obtain ⟨g1, g2, g3, g4, g5, g6⟩ := hc
  have F0 := Lib.hid (Fm.new (Fm.new (Fm.new (Fm.start Non w) rfl [.int .i64 l1, .int .i64 W, .int .i64 L] 26) (by simp) [.slice a1 l1 c1, .slice d1 l1 e1] 31) (by simp) [.slice a2 l1 c2, .slice d2 l1 e2] 31)
  have HR1 := Lib.hid (ints_old r1); have HR2 := Lib.hid (ints_old r2); have HM := Lib.hid hm; have HQ := Lib.hid hq
  clear r1 r2 hm hq
  have hne : ((l1 : Int) != (l1 : Int)) = false := by simp
  have hne2 : ((l1 : Int) == (l1 : Int)) = true := by simp
  have a0 := F0.out.h1.cell 0 _ rfl; have a1' := F0.out.h1.cell 1 _ rfl; have b0 := F0.out.h2.cell 0 _ rfl; have b1 := F0.out.h2.cell 1 _ rfl
  go_enter Try.func18, Try.ntmps18
  go_wp2_with fail
  clear a0 a1' b0 b1
  have F1 := Lib.hid (show Fm Non w (((w.alloc (.cells #[.int .i64 l1, .int .i64 W, .int .i64 L] 26)).alloc (.cells #[.slice a1 l1 c1, .slice d1 l1 e1] 31)).alloc (.cells #[.slice a2 l1 c2, .slice d2 l1 e2] 31)) [[.int .i64 l1, .int .i64 W, .int .i64 L], [.slice a1 l1 c1, .slice d1 l1 e1], [.slice a2 l1 c2, .slice d2 l1 e2]] from F0.out)
  go_loopw [38] (fun i wr => ∃ k : Nat, k ≤ l1 ∧ i = .int .i64 k ∧ (∀ s, s < k → BelowAt W (m.getD s []) (o.getD s 0).toNat (q.getD s []) (r.getD s 0).toNat) ∧ Fm Non w wr [[.int .i64 l1, .int .i64 W, .int .i64 L], [.slice a1 l1 c1, .slice d1 l1 e1], [.slice a2 l1 c2, .slice d2 l1 e2]]) (fun i _ => l1 - (intOf i).toNat)
  case atStart => exact ⟨0, Nat.zero_le _, rfl, fun s hs => absurd hs (Nat.not_lt_zero _), F1.out⟩
  case round =>
    clear F0 F1
    obtain ⟨k, hk, rfl, hB, hF⟩ := hrel
    have F2 := Lib.hid hF; have HB := Lib.hid hB
    clear hF hB
    by_cases hlt : k < l1
    · obtain ⟨f, i, hf, hi, hfd, hid, hfy⟩ := HM.out.at hlt
      obtain ⟨g, j, hg, hj, hgd, hjd, hgy⟩ := HQ.out.at hlt
      obtain ⟨ab, ap, rfl, hca, hab, _, _⟩ := HR1.out.other hi
      obtain ⟨bb, bp, rfl, hcb, hbb, _, _⟩ := HR2.out.other hj
      have HFY := Lib.hid hfy; have HGY := Lib.hid hgy
      have HFD := Lib.hid hfd; have HID := Lib.hid hid; have HGD := Lib.hid hgd; have HJD := Lib.hid hjd
      obtain ⟨xb, xo, f', ra, rn, rc, rfl, hx, hcx, hrx, _, hbx⟩ := Rows.get HR1.out.cub hlt
      obtain rfl : f' = f := by rw [hf] at hx; cases hx; rfl
      obtain ⟨yb, yo, g', qa, qn, qc, rfl, hy, hcy, hry, _, hby⟩ := Rows.get HR2.out.cub hlt
      obtain rfl : g' = g := by rw [hg] at hy; cases hy; rfl
      obtain rfl : rn = W := by rw [← hrx.hlen]; exact hfy.ws.len
      obtain rfl : rn = qn := by rw [← hry.hlen]; exact hgy.ws.len.symm
      have hs0 : (0 : Int) ≤ (k : Int) := by omega
      have hs1 : (k : Int) < (l1 : Int) := by omega
      have HRX := Lib.hid hrx; have HRY := Lib.hid hry
      have BA := Lib.hid (show BelowAt rn (m.getD k []) (o.getD k 0).toNat (q.getD k []) (r.getD k 0).toNat ↔ BelowAt rn f' i g' j by rw [hfd, hid, hgd, hjd, Int.toNat_natCast, Int.toNat_natCast])
      clear hf hi hfd hid hfy hg hj hgd hjd hgy hx hrx hy hry
      have a1' := F2.out.h1.cell 1 _ rfl; have b1 := F2.out.h2.cell 1 _ rfl
      have ca := (F2.out.below.cell (p := ⟨ab, ap + k, none⟩) hab).trans hca
      have cb := (F2.out.below.cell (p := ⟨bb, bp + k, none⟩) hbb).trans hcb
      by_cases hji : i < j
      · have NO := Lib.hid (show ¬ BelowY l1 rn m o q r from fun h => by have := (BA.out.1 (h k hlt)).1; omega)
        have hgt : ((j : Int) > (i : Int)) := by omega
        clear hji
        go_upto_region 6 with fail
        go_quiet (fail)
        go_wp2
        go_ret
        exact BoolIff.no rfl NO.out (below_drewN F2.out.below _)
      · have hgt : ¬ ((j : Int) > (i : Int)) := by omega
        have HJI := Lib.hid (show j ≤ i by omega)
        clear hji
        obtain ⟨ua, uo, rfl, _, _⟩ := Row.addr HRX.out (by omega)
        obtain ⟨va, vo, rfl, _, _⟩ := Row.addr HRY.out (by omega)
        have FX := Lib.hid (yset_flat HFY.out hU (by omega)); have FY := Lib.hid (yset_flat HGY.out hU (by omega))
        go_upto_region 6 with fail
        go_quiet (fail)
        have F3 := Lib.hid (Fm.call (below_drewN (Below.refl _ _) nq) F2.out)
        obtain ⟨wv, hwv⟩ : ∃ wv : World, wv = wr.drewN nq := ⟨_, rfl⟩
        rw [← hwv] at F3 ⊢
        clear hwv ca cb a1' b1 F2
        have a0 := F3.out.h1.cell 0 _ rfl; have b0 := F3.out.h2.cell 0 _ rfl
        have cx := (F3.out.below.cell (p := ⟨xb, xo + k, none⟩) hbx).trans hcx
        have cy := (F3.out.below.cell (p := ⟨yb, yo + k, none⟩) hby).trans hcy
        go_upto_region 8 with fail
        refine hd_start_e 13 (fun w' => w'.cell? ⟨w.heap.size + 1, 0, none⟩ = some (.slice (some ⟨xb, xo, none⟩) l1 c1) ∧ w'.cell? ⟨xb, xo + k, none⟩ = some (.slice (some ⟨ua, uo, none⟩) rn rc) ∧ w'.cell? ⟨w.heap.size + 1 + 1, 0, none⟩ = some (.slice (some ⟨yb, yo, none⟩) l1 c2) ∧ w'.cell? ⟨yb, yo + k, none⟩ = some (.slice (some ⟨va, vo, none⟩) rn qc)) (by kernel_rfl) ⟨by kernel_rfl, by rfl⟩ (by refine ⟨a0, cx, b0, cy⟩) (fun ok => ?_)
        refine hd_take_e (i := 0) (v := ?_) ok rfl (by decide) (by kernel_rfl) (by kernel_rfl) (fun _ _ _ h => h) (Or.inl ⟨by kernel_rfl, ?_⟩) ?_
        rotate_left
        · (intro w hSw; (try dsimp only at hSw); (try go_split_ands); go_simp; (try (with_reducible rfl)))
        go_frame
        refine hd_take_e (i := 1) (v := ?_) ok rfl (by decide) (by kernel_rfl) (by kernel_rfl) (fun _ _ _ h => h) (Or.inl ⟨by kernel_rfl, ?_⟩) ?_
        rotate_left
        · (intro w hSw; (try dsimp only at hSw); (try go_split_ands); go_simp; (try (with_reducible rfl)))
        go_frame
        refine hd_take_e (i := 2) (v := ?_) ok rfl (by decide) (by kernel_rfl) (by kernel_rfl) (fun _ _ _ h => h) (Or.inl ⟨by kernel_rfl, ?_⟩) ?_
        rotate_left
        · (intro w hSw; (try dsimp only at hSw); (try go_split_ands); go_simp; (try (with_reducible rfl)))
        go_frame
        refine hd_take_e (i := 3) (v := ?_) ok rfl (by decide) (by kernel_rfl) (by kernel_rfl) (fun _ _ _ h => h) (Or.inl ⟨by kernel_rfl, ?_⟩) ?_
        rotate_left
        · (intro w hSw; (try dsimp only at hSw); (try go_split_ands); go_simp; (try (with_reducible rfl)))
        go_frame
        refine hd_take_e (i := 4) (v := ?_) ok rfl (by decide) (by kernel_rfl) (by kernel_rfl) (fun _ _ _ h => h) (Or.inl ⟨by kernel_rfl, ?_⟩) ?_
        rotate_left
        · (intro w hSw; (try dsimp only at hSw); (try go_split_ands); go_simp; (try (with_reducible rfl)))
        go_frame
        refine hd_take_e (i := 5) (v := ?_) ok rfl (by decide) (by kernel_rfl) (by kernel_rfl) (fun _ _ _ h => h) (Or.inl ⟨by kernel_rfl, ?_⟩) ?_
        rotate_left
        · (intro w hSw; (try dsimp only at hSw); (try go_split_ands); go_simp; (try (with_reducible rfl)))
        go_frame
        refine hd_take_e (i := 6) (v := ?_) ok rfl (by decide) (by kernel_rfl) (by kernel_rfl) (fun _ _ _ h => h) (Or.inl ⟨by kernel_rfl, ?_⟩) ?_
        rotate_left
        · (intro w hSw; (try dsimp only at hSw); (try go_split_ands); go_simp; (try (with_reducible rfl)))
        go_frame
        refine hd_take_e (i := 7) (v := ?_) ok rfl (by decide) (by kernel_rfl) (by kernel_rfl) (fun _ _ _ h => h) (Or.inl ⟨by kernel_rfl, ?_⟩) ?_
        rotate_left
        · (intro w hSw; (try dsimp only at hSw); (try go_split_ands); go_simp; (try (with_reducible rfl)))
        go_frame
        refine hd_take_e (i := 8) (v := ?_) ok rfl (by decide) (by kernel_rfl) (by kernel_rfl) (fun _ _ _ h => h) (Or.inl ⟨by kernel_rfl, ?_⟩) ?_
        rotate_left
        · (intro w hSw; (try dsimp only at hSw); (try go_split_ands); go_simp; (try (with_reducible rfl)))
        go_frame
        refine hd_take_e (i := 9) (v := ?_) ok rfl (by decide) (by kernel_rfl) (by kernel_rfl) (fun _ _ _ h => h) (Or.inl ⟨by kernel_rfl, ?_⟩) ?_
        rotate_left
        · (intro w hSw; (try dsimp only at hSw); (try go_split_ands); go_simp; (try (with_reducible rfl)))
        go_frame
        refine hd_take_e (i := 12) (v := ?_) ok rfl (by decide) (by kernel_rfl) (by kernel_rfl) (fun _ _ _ h => h) (Or.inl ⟨by kernel_rfl, ?_⟩) ?_
        rotate_left
        · (intro w hSw; (try dsimp only at hSw); (try go_split_ands); go_simp; (try (with_reducible rfl)))
        go_frame
        refine hd_only_l (c := 10) rfl (by decide) (by kernel_rfl) (fun K hK => ?_)
        go_simp
        go_at_call 46
        refine (known_any _ _ f' g' _ _ _ _ _ _ _ ((Mat.below HRX.out F3.out.below).below (Below.refl _ _).drew) ((Mat.below HRY.out F3.out.below).below (Below.refl _ _).drew) FX.out FY.out).mono ?_
        rintro e w7 ⟨la, ln, lc, l, rfl, hol, hasc, hmem, hln, hb7⟩
        have hlln : l.length = ln := by
          obtain ⟨_, _, hfm⟩ := hol.form
          simp only [Value.slice.injEq] at hfm
          exact hfm.2.1.symm
        have k7 : Below wv.heap.size wv w7 := (Below.refl _ _).drew.trans hb7
        have K7 := Lib.hid k7
        have RL := Lib.hid (show Ints (fun _ => True) w7 la ln lc l from OInts.read (fun _ _ => trivial) hol)
        have ML := Lib.hid hmem; have LL := Lib.hid hlln
        have a2 := cell_later k7 a0; have cx2 := cell_later k7 cx; have b2 := cell_later k7 b0; have cy2 := cell_later k7 cy
        clear hol hasc hmem hlln hb7 k7 a0 cx b0 cy
        (try simp only [])
        refine hK _ _ (by refine ⟨?_, ?_, ?_, ?_⟩ <;> (first | exact a2 | exact cx2 | exact b2 | exact cy2)) ?_
        clear hK K
        (try go_frame)

        refine hd_only_l (c := 11) rfl (by decide) (by kernel_rfl) (fun K hK => ?_)
        go_simp
        (try simp only [])
        refine hK _ _ (by refine ⟨?_, ?_, ?_, ?_⟩ <;> (first | exact a2 | exact cx2 | exact b2 | exact cy2)) ?_
        clear hK K
        (try go_frame)

        clear ok a2 cx2 b2 cy2
        refine hd_end (by kernel_rfl) rfl ?_
        have F7 := Lib.hid (Fm.call K7.out F3.out)
        clear F3 K7
        go_wp2
        go_loopw [64] (fun v wr => ∃ t : Nat, t ≤ ln ∧ v = .int .i64 t ∧ (∀ x, x ∈ l.take t → ageF rn g' j x ≤ ageF rn f' i x) ∧ Below w7.heap.size w7 wr ∧ Fm Non w wr [[.int .i64 l1, .int .i64 rn, .int .i64 L], [.slice (some ⟨xb, xo, none⟩) l1 c1, .slice (some ⟨ab, ap, none⟩) l1 e1], [.slice (some ⟨yb, yo, none⟩) l1 c2, .slice (some ⟨bb, bp, none⟩) l1 e2]]) (fun v _ => ln - (intOf v).toNat)
        case atStart => exact ⟨0, Nat.zero_le _, rfl, by simp, Below.refl _ _, F7.out⟩
        case round =>
          clear F7
          obtain ⟨t, ht, rfl, hT, hbt, hF⟩ := hrel
          have FB := Lib.hid hF; have BT := Lib.hid hbt; have HT := Lib.hid hT
          clear hF hbt hT
          by_cases htl : t < ln
          · obtain ⟨lb, lo, x, rfl, hzx, hcz, hz1, hz2, _, hbz⟩ := Ints.get (RL.out.below BT.out) htl
            have KN := Lib.hid (mem_kn.1 ((ML.out x).1 (List.mem_of_getElem? hzx)))
            have PX := Lib.hid (show PS U l1 k x from KN.out.elim (fun ⟨i, h⟩ => HFY.out.ws.mem i x h) (fun ⟨i, h⟩ => HGY.out.ws.mem i x h))
            have hx0 := PX.out.1; have hx9 := PX.out.2.1
            have AGa := Lib.hid (fun (s : BelowW wr) => yage_any l1 rn L hC.out m o HM.out _ _ l1 c1 _ l1 e1 x hx0 (by omega) s.world (HR1.out.below (FB.out.below.trans (s.ok.mono (by have := FB.out.size; omega)))))
            have AGb := Lib.hid (fun (s : BelowW wr) => yage_any l1 rn L hC.out q r HQ.out _ _ l1 c2 _ l1 e2 x hx0 (by omega) s.world (HR2.out.below (FB.out.below.trans (s.ok.mono (by have := FB.out.size; omega)))))
            have EA := Lib.hid (ageY_at (W := rn) (by omega) PX.out.2.2.1 HFD.out HID.out)
            have EB := Lib.hid (ageY_at (W := rn) (by omega) PX.out.2.2.1 HGD.out HJD.out)
            simp only [EA.out] at AGa
            simp only [EB.out] at AGb
            have HZX := Lib.hid hzx
            clear hzx EA EB
            have kc0 := fun s : BelowW wr => (FB.out.h0.every (FB.out.h0.lt (by simp)) s).cell 0 _ rfl; have kc1 := fun s : BelowW wr => (FB.out.h0.every (FB.out.h0.lt (by simp)) s).cell 1 _ rfl; have kc2 := fun s : BelowW wr => (FB.out.h0.every (FB.out.h0.lt (by simp)) s).cell 2 _ rfl
            have p0 := fun s : BelowW wr => (FB.out.h1.every (FB.out.h1.lt (by simp)) s).cell 0 _ rfl; have p1 := fun s : BelowW wr => (FB.out.h1.every (FB.out.h1.lt (by simp)) s).cell 1 _ rfl
            have q0 := fun s : BelowW wr => (FB.out.h2.every (FB.out.h2.lt (by simp)) s).cell 0 _ rfl; have q1 := fun s : BelowW wr => (FB.out.h2.every (FB.out.h2.lt (by simp)) s).cell 1 _ rfl
            by_cases hle : ageF rn f' i x < ageF rn g' j x
            · have NO := Lib.hid (show ¬ BelowY l1 rn m o q r from fun h => by have := (BA.out.1 (h k hlt)).2 x KN.out; omega)
              generalize ageF rn f' i x = na at *
              generalize ageF rn g' j x = nb at *
              have hgt2 : ((nb : Int) > (na : Int)) := by omega
              clear hle
              go_upto_region 11 with fail
              clear hcz
              refine wp_region_below (by kernel_rfl) (by kernel_rfl) ?_
              repeat (go_big_quiet_step ((go_at_call 15; first | (with_reducible exact calls_below _ (AGb.out _)) | (with_reducible exact calls_below _ (AGa.out _)))))
              refine wpQuiet_nil ?_
              rintro w' ⟨s, rfl⟩
              have F4 := Lib.hid (Fm.call s.ok FB.out)
              clear kc0 kc1 kc2 p0 p1 q0 q1
              go_wp2
              go_ret
              exact BoolIff.no rfl NO.out F4.out.below
            · have HL := Lib.hid (show ∀ y, y ∈ l.take (t + 1) → ageF rn g' j y ≤ ageF rn f' i y from fun y hy => by
                rw [List.take_add_one, HZX.out, List.mem_append] at hy
                rcases hy with h | h
                · exact HT.out y h
                · simp at h; subst h; omega)
              have HAB := Lib.hid (show ¬ ((ageF rn g' j x : Int) > (ageF rn f' i x : Int)) by omega)
              obtain ⟨na, hna⟩ : ∃ na, ageF rn f' i x = na := ⟨_, rfl⟩
              obtain ⟨nb, hnb⟩ : ∃ nb, ageF rn g' j x = nb := ⟨_, rfl⟩
              simp only [hna] at AGa
              simp only [hnb] at AGb
              rw [hna, hnb] at HAB
              have hgt2 := HAB.out
              clear hle hna hnb HT
              go_upto_region 11 with fail
              clear hcz
              refine wp_region_below (by kernel_rfl) (by kernel_rfl) ?_
              repeat (go_big_quiet_step ((go_at_call 15; first | (with_reducible exact calls_below _ (AGb.out _)) | (with_reducible exact calls_below _ (AGa.out _)))))
              refine wpQuiet_nil ?_
              rintro w' ⟨s, rfl⟩
              have F4 := Lib.hid (Fm.call s.ok FB.out)
              have B4 := Lib.hid (BT.out.trans (s.ok.mono BT.out.size))
              clear kc0 kc1 kc2 p0 p1 q0 q1
              go_wp2
              go_roundw
              case rel => exact ⟨t + 1, by omega, by go_num, HL.out, B4.out, F4.out⟩
              case measure => simp [intOf]; omega
          · obtain rfl : t = ln := by omega
            have HB2 := Lib.hid (show ∀ s, s < k + 1 → BelowAt rn (m.getD s []) (o.getD s 0).toNat (q.getD s []) (r.getD s 0).toNat from fun s hs => by
              by_cases e : s = k
              · subst e
                refine BA.out.2 ⟨HJI.out, fun y hy => HT.out y ?_⟩
                rw [List.take_of_length_le (by rw [LL.out]; exact Nat.le_refl _), ML.out]
                exact mem_kn.2 hy
              · exact HB.out s (by omega))
            go_wp2
            go_roundw
            case rel => exact ⟨k + 1, by omega, by go_num, HB2.out, FB.out⟩
            case measure => simp [intOf]; omega
    · obtain rfl : k = l1 := by omega
      go_wp2
      go_ret
      exact BoolIff.yes rfl HB.out F2.out.below
end Go.Proofs.Ytlpelpjcbclemaa
