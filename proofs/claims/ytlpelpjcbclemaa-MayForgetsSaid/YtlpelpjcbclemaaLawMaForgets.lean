/-
  timeboundlaw25.MayForgets returns true, whatever its list is. No condition.
-/
import Derived.Test.YtlpelpjcbclemaaMaM
import Derived.Test.YtlpelpjcbclemaaMaN
import Derived.Test.YtlpelpjcbclemaaMaO
import Derived.Test.YtlpelpjcbclemaaQuiet
import Derived.Deep.DeepCutAuto
namespace Go.Proofs.Ytlpelpjcbclemaa
open Go.RowKit

theorem yage_ret {S W L : Nat} (hc : COk S W L) {U : List Int} {m : List (List (List Int))} {o : List Int} (hm : YSt U S W m o) {w : World} {B b : Nat} {f1 f2 : Nat → Prop} {a oa : Option Addr} {c oc : Nat} (h : YVr w B b f1 f2 S a c oa oc m o) {n : Int} {v : Nat} (hn : 0 ≤ n) (hn' : n ≤ 9223372036854775807) (hv : ageY S W m o n = v) :
    Calls Try.prog 15 #[CV S W L, YV a S c oa S oc, .int .i64 n] w fun e w' => e = .returned (.int .i64 (v : Int)) ∧ Below w.heap.size w w' := by
  have k := yage_any S W L hc m o hm (fun _ => True) a S c oa S oc n hn hn' w (h.own.ycub (fun _ _ _ => trivial))
  rw [hv] at k
  exact k
theorem fm_fin {w w3 wx : World} {l : List (List Value)} (C : Chg (Ge w.heap.size) w w3) (F : Fm (fun k => k = w.heap.size) w3 wx l) : Below w.heap.size w wx :=
  (C.trans F.chg (fun j _ e => by unfold Ge; omega)).below (fun j hj h => by unfold Ge at h; omega) (Nat.le_refl _)

set_option maxRecDepth 100000 in
set_option maxHeartbeats 8000000 in
theorem mforgets_law (a0 : Option Addr) (len0 cap0 : Nat) (z0 : List Int) (w : World) (w0 : IsRow .i64 w a0 len0 cap0 z0) :
    Calls Try.prog 3 #[.slice a0 len0 cap0] w fun e w' => e = .returned (.bool true) ∧ Below w.heap.size w w' := by
  have W0 := Lib.hid w0
  clear w0
  go_enter Try.func3, Try.ntmps3
  go_wp2_with fail
  refine (new_any a0 len0 cap0 z0 _ W0.out).mono ?_
  rintro e w2 ⟨rfl, hd2, hb2⟩
  have D2 := Lib.hid hd2; have C2 := Lib.hid (Chg.of_below (M := Ge w.heap.size) hb2); clear hd2 hb2
  go_wp2_with fail
  refine (m2cache_any w.heap.size _ D2.out).mono ?_
  rintro e w3 ⟨S, W, L, rfl, g1, g2, g3, g4, g5, hd3, hc3⟩
  have hC := Lib.hid (show COk S W L from ⟨by omega, by omega, by omega, by omega, by omega, by omega⟩)
  have WP := Lib.hid (show 0 < W by omega)
  have D3 := Lib.hid (Deck.k_alloc (o := .cells #[.int .i64 S, .int .i64 W, .int .i64 L] 26) hd3)
  have C3 := Lib.hid (show Chg (Ge w.heap.size) w w3 from C2.out.trans hc3 (fun j _ e => by unfold Ge; omega))
  have F3 := Lib.hid (Fm.new (Fm.start (fun k => k = w.heap.size) w3) rfl [.int .i64 S, .int .i64 W, .int .i64 L] 26)
  have l3 := hd3.lt
  clear hd3 hc3 D2 C2 W0
  have c0 := F3.out.h0.cell 0 _ rfl; have c1 := F3.out.h0.cell 1 _ rfl; have c2 := F3.out.h0.cell 2 _ rfl; have lc := F3.out.h0.lt (by simp)
  by_cases hS : S = 0
  · subst hS
    go_wp2_with fail
    refine (awake_any _).mono ?_
    rintro e w9 ⟨rfl, hb9⟩
    have F9 := Lib.hid (Fm.call hb9 F3.out)
    go_wp2
    go_ret
    exact ⟨rfl, fm_fin C3.out F9.out⟩
  · have hz : ((S : Int) == 0) = false := by simp; omega
    go_wp2_with fail
    refine (m2may_any S W L hC.out (by omega) (by omega) w.heap.size _ D3.out).mono ?_
    rintro e w4 ⟨U, oa, oc, pa, pc, f1, f2, m, o, rfl, ho4, hm4, hU4, hd4, hc4⟩
    have s4 := hc4.size
    simp only [World.size_alloc] at s4
    have F4 := Lib.hid ((F3.out.chgd hc4 (fun j hj => .inl ⟨by omega, hj⟩)).more (.cells #[.slice oa S oc, .slice pa S pc] 31))
    have V4 := Lib.hid (YVr.newO (E := w3.heap.size + 1) ho4 (by simp; omega))
    have D4 := Lib.hid (Deck.k_alloc (o := .cells #[.slice oa S oc, .slice pa S pc] 31) hd4)
    obtain ⟨U2, hU2⟩ : ∃ U2, U2 = U ++ Lows := ⟨_, rfl⟩
    have HM4 := Lib.hid (show YSt U2 S W m o from hm4.union (fun x hx => by rw [hU2]; exact List.mem_append_left _ hx))
    have HU := Lib.hid (show U2.length ≤ 1000 by rw [hU2, List.length_append, lows_len]; omega)
    have HLo := Lib.hid (show ∀ x ∈ Lows, x ∈ U2 from fun x hx => by rw [hU2]; exact List.mem_append_right _ hx)
    clear ho4 hm4 hU4 hd4 hc4 hU2 c0 c1 c2 lc F3 D3
    go_wp2_with fail
    refine (next_any w.heap.size 2 (by omega) (by omega) _ D4.out).mono ?_
    rintro e w5 ⟨r1, rfl, a1, b1, hd5, hb5⟩
    have F5 := Lib.hid (F4.out.chgd hb5.chg (fun j hj => .inl ⟨by omega, hj⟩))
    have V5 := Lib.hid (V4.out.chgd hb5.chg (by omega))
    have D5 := Lib.hid hd5
    clear hd5 hb5 F4 V4 D4
    go_upto_if 23 with fail
    go_cut [5] (fun s5 wx => ∃ f1 f2 oa oc pa pc m o, s5 = .pointer (some ⟨w4.heap.size, 0, none⟩) ∧ YSt U2 S W m o ∧ YVr wx (w3.heap.size + 1) w4.heap.size f1 f2 S oa oc pa pc m o ∧ Fm (fun k => k = w.heap.size) w3 wx [[.int .i64 S, .int .i64 W, .int .i64 L]] ∧ Deck wx w.heap.size)
    case first =>
      by_cases hr : r1 = 0
      · subst hr
        have c0 := F5.out.h0.cell 0 _ rfl; have c1 := F5.out.h0.cell 1 _ rfl; have c2 := F5.out.h0.cell 2 _ rfl; have lt0 := F5.out.h0.lt (by simp)
        go_wp2_with fail
        refine (ytop_any S W L hC.out _).mono ?_
        rintro e w6 h6
        obtain ⟨ja, jc, ia, ic, d1, d2, rfl, ho6, hb6⟩ := YRet.fix h6 (topS_len S W) (topO_len S)
        have F6 := Lib.hid (Fm.call hb6 F5.out)
        have l5 := V5.out.lt
        have V6 := Lib.hid (V5.out.below hb6)
        have D6 := Lib.hid (D5.out.below hb6 (Nat.le_refl _))
        have s5 := F5.out.size
        simp only [List.length_append, List.length_cons, List.length_nil] at s5
        have J6 := Lib.hid ho6
        have x0 := V6.out.has.cell 0 _ rfl; have x1 := V6.out.has.cell 1 _ rfl; have x2 := V6.out.lt; have xf := V6.out.has.free
        clear c0 c1 c2 lt0 h6 ho6 hb6
        go_wp2_with fail
        go_meet
        exact ⟨_, _, _, _, _, _, _, _, rfl, ytop_st U2 S W, YVr.set V6.out J6.out l5 (by omega), (F6.out.far (p := ⟨w4.heap.size, 0, none⟩) (.inr (by simp; omega)) _).far (p := ⟨w4.heap.size, 1, none⟩) (.inr (by simp; omega)) _, (D6.out.other (by simp; omega) _).other (by simp; omega) _⟩
      · have hr' : (r1 == 0) = false := by simpa using hr
        go_wp2_with fail
        all_goals
          go_meet
          exact ⟨_, _, _, _, _, _, _, _, rfl, HM4.out, V5.out, F5.out, D5.out⟩
    case rest =>
      obtain ⟨f1, f2, oa, oc, pa, pc, m, o, rfl, hM, hV, hF, hD⟩ := hcut
      have HM0 := Lib.hid hM; have V0 := Lib.hid hV; have F0 := Lib.hid hF
      clear hM hV hF V5 F5 D5 HM4
      have c0 := F0.out.h0.cell 0 _ rfl; have lt0 := F0.out.h0.lt (by simp)
      go_wp2_with fail
      refine (next_any w.heap.size S (by omega) (by omega) _ hD).mono ?_
      rintro e w6 ⟨z6, rfl, a2, b2, hd6, hb6⟩
      obtain ⟨s0, rfl⟩ := Int.eq_ofNat_of_zero_le a2
      have hs0 : s0 < S := by omega
      have F6 := Lib.hid (F0.out.chgd hb6.chg (fun j hj => .inl ⟨by omega, hj⟩))
      have V6 := Lib.hid (V0.out.chgd hb6.chg (by omega))
      have D6 := Lib.hid hd6
      clear hd6 hb6 F0 V0 hD c0 lt0 a2 b2
      go_wp2
      go_loopw [7] (fun i wr => ∃ (k : Nat) (f1 f2 : Nat → Prop) (oa : Option Addr) (oc : Nat) (pa : Option Addr) (pc : Nat) (m : List (List (List Int))) (o : List Int) (T : List Int), k ≤ W ∧ i = .int .i64 k ∧ Fgt S W s0 k m o T ∧ YSt U2 S W m o ∧ YVr wr (w3.heap.size + 1) w4.heap.size f1 f2 S oa oc pa pc m o ∧ Fm (fun k => k = w.heap.size) w3 wr [[.int .i64 S, .int .i64 W, .int .i64 L]] ∧ Deck wr w.heap.size) (fun i _ => W - (intOf i).toNat)
      case atStart => exact ⟨0, _, _, _, _, _, _, _, _, [], Nat.zero_le _, rfl, Fgt.zero _ _ _ _ _, HM0.out, V6.out, F6.out, D6.out⟩
      case round =>
        clear HM0 V6 F6 D6
        obtain ⟨k, f1, f2, oa, oc, pa, pc, m, o, T, hk, rfl, hG, hM, hV, hF, hD⟩ := hrel
        have HG := Lib.hid hG; have HM := Lib.hid hM; have V3 := Lib.hid hV; have F3 := Lib.hid hF; have D3 := Lib.hid hD
        clear hG hM hV hF hD
        have c0 := F3.out.h0.cell 0 _ rfl; have c1 := F3.out.h0.cell 1 _ rfl; have c2 := F3.out.h0.cell 2 _ rfl; have lc := F3.out.h0.lt (by simp)
        by_cases hlt : k < W
        · have x0 := V3.out.has.cell 0 _ rfl; have x1 := V3.out.has.cell 1 _ rfl
          have q0 : (k : Int) < (W : Int) := by omega
          go_upto_region 12 with fail
          refine hd_start 13 (fun w' => w'.cell? ⟨w3.heap.size, 0, none⟩ = some (.int .i64 S) ∧ w'.cell? ⟨w3.heap.size, 1, none⟩ = some (.int .i64 W) ∧ w'.cell? ⟨w3.heap.size, 2, none⟩ = some (.int .i64 L) ∧ w'.cell? ⟨w4.heap.size, 0, none⟩ = some (.slice oa S oc) ∧ w'.cell? ⟨w4.heap.size, 1, none⟩ = some (.slice pa S pc)) (by kernel_rfl) ⟨by kernel_rfl, by kernel_rfl, by kernel_rfl, by decide⟩ (by refine ⟨c0, c1, c2, x0, x1⟩) (fun ok => ?_)
          refine hd_take_l (i := 0) (v := ?_) ok rfl (by decide) (by kernel_rfl) (by kernel_rfl) (fun _ _ _ h => h) (Or.inl ⟨by kernel_rfl, ?_⟩) ?_
          rotate_left
          · (intro w hSw; (try dsimp only at hSw); (try go_split_ands); go_simp; (try (with_reducible rfl)))
          go_frame
          refine hd_take_l (i := 1) (v := ?_) ok rfl (by decide) (by kernel_rfl) (by kernel_rfl) (fun _ _ _ h => h) (Or.inl ⟨by kernel_rfl, ?_⟩) ?_
          rotate_left
          · (intro w hSw; (try dsimp only at hSw); (try go_split_ands); go_simp; (try (with_reducible rfl)))
          go_frame
          refine hd_take_l (i := 2) (v := ?_) ok rfl (by decide) (by kernel_rfl) (by kernel_rfl) (fun _ _ _ h => h) (Or.inl ⟨by kernel_rfl, ?_⟩) ?_
          rotate_left
          · (intro w hSw; (try dsimp only at hSw); (try go_split_ands); go_simp; (try (with_reducible rfl)))
          go_frame
          refine hd_take_l (i := 3) (v := ?_) ok rfl (by decide) (by kernel_rfl) (by kernel_rfl) (fun _ _ _ h => h) (Or.inl ⟨by kernel_rfl, ?_⟩) ?_
          rotate_left
          · (intro w hSw; (try dsimp only at hSw); (try go_split_ands); go_simp; (try (with_reducible rfl)))
          go_frame
          refine hd_take_l (i := 4) (v := ?_) ok rfl (by decide) (by kernel_rfl) (by kernel_rfl) (fun _ _ _ h => h) (Or.inl ⟨by kernel_rfl, ?_⟩) ?_
          rotate_left
          · (intro w hSw; (try dsimp only at hSw); (try go_split_ands); go_simp; (try (with_reducible rfl)))
          go_frame
          refine hd_take_l (i := 5) (v := ?_) ok rfl (by decide) (by kernel_rfl) (by kernel_rfl) (fun _ _ _ h => h) (Or.inl ⟨by kernel_rfl, ?_⟩) ?_
          rotate_left
          · (intro w hSw; (try dsimp only at hSw); (try go_split_ands); go_simp; (try (with_reducible rfl)))
          go_frame
          refine hd_take_l (i := 6) (v := ?_) ok rfl (by decide) (by kernel_rfl) (by kernel_rfl) (fun _ _ _ h => h) (Or.inl ⟨by kernel_rfl, ?_⟩) ?_
          rotate_left
          · (intro w hSw; (try dsimp only at hSw); (try go_split_ands); go_simp; (try (with_reducible rfl)))
          go_frame
          refine hd_only_l (c := 7) rfl (by decide) (by kernel_rfl) (fun K hK => ?_)
          go_simp
          go_at_call 12
          refine (next_any w.heap.size 3 (by omega) (by omega) _ (Deck.k_drew D3.out)).mono ?_
          rintro e w7 ⟨z7, rfl, a7, b7, hd7, hb7⟩
          obtain ⟨r, rfl⟩ := Int.eq_ofNat_of_zero_le a7
          have c7 : Chg (fun k => k = w.heap.size) wr w7 := (Chg.refl wr).drew.trans hb7.chg (fun _ _ h => h)
          have F7 := Lib.hid (F3.out.chgd c7 (fun j hj => .inl ⟨by omega, hj⟩))
          have V7 := Lib.hid (V3.out.chgd c7 (by omega))
          have D7 := Lib.hid hd7
          clear hd7 hb7 c7 c0 c1 c2 x0 x1
          have c0 := F7.out.h0.cell 0 _ rfl; have c1 := F7.out.h0.cell 1 _ rfl; have c2 := F7.out.h0.cell 2 _ rfl
          have x0 := V7.out.has.cell 0 _ rfl; have x1 := V7.out.has.cell 1 _ rfl
          have r2 : r ≤ 2 := by omega
          have y0 : 0 ≤ (S : Int) * ((k : Int) + (r : Int) * 10) := Int.mul_nonneg (by omega) (by omega)
          have y1 : (S : Int) * ((k : Int) + (r : Int) * 10) ≤ 4 * 22 := Int.mul_le_mul (by omega) (by omega) (by omega) (by omega)
          have p1 : IntKind.i64.wrap ((r : Int) * 10) = (r : Int) * 10 := IntWalk.i64_in _ (by omega)
          have p2 : IntKind.i64.wrap ((k : Int) + (r : Int) * 10) = (k : Int) + (r : Int) * 10 := IntWalk.i64_in _ (by omega)
          have p3 : IntKind.i64.wrap ((S : Int) * ((k : Int) + (r : Int) * 10)) = (S : Int) * ((k : Int) + (r : Int) * 10) := IntWalk.i64_in _ (by omega)
          have p4 : IntKind.i64.wrap ((s0 : Int) + (S : Int) * ((k : Int) + (r : Int) * 10)) = (s0 : Int) + (S : Int) * ((k : Int) + (r : Int) * 10) := IntWalk.i64_in _ (by omega)
          (try simp only [])
          refine hK _ _ (by refine ⟨?_, ?_, ?_, ?_, ?_⟩ <;> (first | exact c0 | exact c1 | exact c2 | exact x0 | exact x1)) ?_
          clear hK K
          (try go_frame)
          refine hd_take_l (i := 8) (v := ?_) ok rfl (by decide) (by kernel_rfl) (by kernel_rfl) (fun _ _ _ h => h) (Or.inl ⟨by kernel_rfl, ?_⟩) ?_
          rotate_left
          · (intro w hSw; (try dsimp only at hSw); (try go_split_ands); go_simp; (try (with_reducible rfl)))
          go_frame
          refine hd_take_l (i := 9) (v := ?_) ok rfl (by decide) (by kernel_rfl) (by kernel_rfl) (fun _ _ _ h => h) (Or.inl ⟨by kernel_rfl, ?_⟩) ?_
          rotate_left
          · (intro w hSw; (try dsimp only at hSw); (try go_split_ands); go_simp; (try (with_reducible rfl)))
          go_frame
          refine hd_take_l (i := 10) (v := ?_) ok rfl (by decide) (by kernel_rfl) (by kernel_rfl) (fun _ _ _ h => h) (Or.inl ⟨by kernel_rfl, ?_⟩) ?_
          rotate_left
          · (intro w hSw; (try dsimp only at hSw); (try go_split_ands); go_simp; (try (with_reducible rfl)))
          go_frame
          refine hd_take_l (i := 11) (v := ?_) ok rfl (by decide) (by kernel_rfl) (by kernel_rfl) (fun _ _ _ h => h) (Or.inl ⟨by kernel_rfl, ?_⟩) ?_
          rotate_left
          · (intro w hSw; (try dsimp only at hSw); (try go_split_ands); go_simp; (try (with_reducible rfl)))
          go_frame
          refine hd_only_l (c := 12) rfl (by decide) (by kernel_rfl) (fun K hK => ?_)
          go_simp
          have n0 : 0 ≤ (s0 : Int) + (S : Int) * ((k : Int) + (r : Int) * 10) := by omega
          have n1 : (s0 : Int) + (S : Int) * ((k : Int) + (r : Int) * 10) < 200 := by omega
          have NU := Lib.hid (HLo.out _ (lows_mem n0 n1))
          have ST := Lib.hid (ytouch_st HM.out WP.out n0 (by omega) NU.out)
          have GT := Lib.hid (HG.out.step (q := k + r * 10) HM.out hs0 hlt (by omega) (show (s0 : Int) + (S : Int) * ((k : Int) + (r : Int) * 10) = _ by rw [Int.natCast_add, Int.natCast_mul]; rfl) (by omega) (by omega) n0 (by omega) NU.out)
          go_at_call 14
          refine (ytouch_any U2 HU.out S W L hC.out m o HM.out (fun _ => True) oa S oc pa S pc _ n0 (by omega) NU.out w7 (V7.out.own.ycub (fun _ _ _ => trivial))).mono ?_
          rintro e w8 h8
          obtain ⟨ja, jc, ia, ic, d1, d2, rfl, ho8, hb8⟩ := YRet.fix h8 ST.out.len ST.out.olen
          have F8 := Lib.hid (Fm.call hb8 F7.out)
          have l7 := V7.out.lt
          have s7 := F7.out.size
          simp only [List.length_cons, List.length_nil] at s7
          have V8 := Lib.hid (V7.out.below hb8)
          have D8 := Lib.hid (D7.out.below hb8 (Nat.le_refl _))
          have J8 := Lib.hid ho8
          clear h8 ho8 hb8 c0 c1 c2 x0 x1
          have c0 := F8.out.h0.cell 0 _ rfl; have c1 := F8.out.h0.cell 1 _ rfl; have c2 := F8.out.h0.cell 2 _ rfl
          have x0 := V8.out.has.cell 0 _ rfl; have x1 := V8.out.has.cell 1 _ rfl
          (try simp only [])
          refine hK _ _ (by refine ⟨?_, ?_, ?_, ?_, ?_⟩ <;> (first | exact c0 | exact c1 | exact c2 | exact x0 | exact x1)) ?_
          clear hK K
          (try go_frame)
          have xf := V8.out.has.free; have xl := V8.out.lt; have xg := V8.out.ge
          clear ok c0 c1 c2 p1 p2 p3 p4 y0 y1 n0 n1
          refine hd_done (by kernel_rfl) ?_
          simp only [List.drop_succ_cons, List.drop_zero]
          go_wp2
          go_roundw
          case rel => exact ⟨k + 1, _, _, _, _, _, _, _, _, _, by omega, by go_num, GT.out, ST.out, YVr.set V8.out J8.out l7 (by omega), (F8.out.far (p := ⟨w4.heap.size, 0, none⟩) (.inr (by simp; omega)) _).far (p := ⟨w4.heap.size, 1, none⟩) (.inr (by simp; omega)) _, (D8.out.other (by simp; omega) _).other (by simp; omega) _⟩
          case measure => simp [intOf]; omega
        · obtain rfl : k = W := by omega
          go_wp2
          go_loopw [8, 9] (fun v8 v9 wr => ∃ j : Nat, j ≤ 60 ∧ v9 = .int .i64 j ∧ v8 = .int .i64 (cntT S s0 T j : Nat) ∧ YVr wr (w3.heap.size + 1) w4.heap.size f1 f2 S oa oc pa pc m o ∧ Fm (fun k => k = w.heap.size) w3 wr [[.int .i64 S, .int .i64 k, .int .i64 L]]) (fun _ v9 _ => 60 - (intOf v9).toNat)
          case atStart => exact ⟨0, Nat.zero_le _, rfl, rfl, V3.out, F3.out⟩
          case round =>
            clear V3 F3 D3 c0 c1 c2 lc
            obtain ⟨j, hj, rfl, rfl, hV, hF⟩ := hrel
            have V3 := Lib.hid hV; have F3 := Lib.hid hF
            clear hV hF
            have hcj := cntT_le S s0 T j
            by_cases hjl : j < 60
            · have q0 : (j : Int) < 60 := by omega
              have y0 : 0 ≤ (S : Int) * (j : Int) := Int.mul_nonneg (by omega) (by omega)
              have y1 : (S : Int) * (j : Int) ≤ 4 * 60 := Int.mul_le_mul (by omega) (by omega) (by omega) (by omega)
              have p3 : IntKind.i64.wrap ((S : Int) * (j : Int)) = (S : Int) * (j : Int) := IntWalk.i64_in _ (by omega)
              have p4 : IntKind.i64.wrap ((s0 : Int) + (S : Int) * (j : Int)) = (s0 : Int) + (S : Int) * (j : Int) := IntWalk.i64_in _ (by omega)
              have hag := HG.out.age (q := j) HM.out hs0
              obtain ⟨v, hv⟩ : ∃ v, ageY S k m o ((s0 : Int) + (S : Int) * (j : Int)) = v := ⟨_, rfl⟩
              rw [hv] at hag
              have AX := Lib.hid (fun s : BelowW wr => yage_ret hC.out HM.out (V3.out.below s.ok) (show 0 ≤ (s0 : Int) + (S : Int) * (j : Int) by omega) (by omega) hv)
              clear hv
              have c0 := fun s : BelowW wr => (F3.out.h0.every (F3.out.h0.lt (by simp)) s).cell 0 _ rfl; have c1 := fun s : BelowW wr => (F3.out.h0.every (F3.out.h0.lt (by simp)) s).cell 1 _ rfl; have c2 := fun s : BelowW wr => (F3.out.h0.every (F3.out.h0.lt (by simp)) s).cell 2 _ rfl
              have x0 := fun s : BelowW wr => (V3.out.has.every V3.out.lt s).cell 0 _ rfl; have x1 := fun s : BelowW wr => (V3.out.has.every V3.out.lt s).cell 1 _ rfl
              by_cases hin : (s0 : Int) + (S : Int) * (j : Int) ∈ T
              · have HC := Lib.hid (cntT_in hin)
                have hvv : decide (v < k) = true := by have := hag.2 hin; simpa using this
                clear hag hin
                go_upto_region 17 with fail
                refine wp_region_below (by kernel_rfl) (by kernel_rfl) ?_
                repeat (go_big_quiet_step ((go_at_call 15; with_reducible exact calls_below _ (AX.out _))))
                refine wpQuiet_nil ?_
                rintro w' ⟨s, rfl⟩
                have V4 := Lib.hid (V3.out.below s.ok); have F4 := Lib.hid (Fm.call s.ok F3.out)
                clear c0 c1 c2 x0 x1 p3 p4 y0 y1
                go_wp2
                go_roundw
                case rel => exact ⟨j + 1, by omega, by go_num, by rw [HC.out]; go_num, V4.out, F4.out⟩
                case measure => simp [intOf]; omega
              · have HC := Lib.hid (cntT_out hin)
                have hvv : decide (v < k) = false := by have := fun h => hin (hag.1 h); simpa using this
                clear hag hin
                go_upto_region 17 with fail
                refine wp_region_below (by kernel_rfl) (by kernel_rfl) ?_
                repeat (go_big_quiet_step ((go_at_call 15; with_reducible exact calls_below _ (AX.out _))))
                refine wpQuiet_nil ?_
                rintro w' ⟨s, rfl⟩
                have V4 := Lib.hid (V3.out.below s.ok); have F4 := Lib.hid (Fm.call s.ok F3.out)
                clear c0 c1 c2 x0 x1 p3 p4 y0 y1
                go_wp2
                go_roundw
                case rel => exact ⟨j + 1, by omega, by go_num, by rw [HC.out], V4.out, F4.out⟩
                case measure => simp [intOf]; omega
            · obtain rfl : j = 60 := by omega
              rw [HG.out.count hs0] at *
              obtain ⟨ib, io, z, rfl, hz, hcz, _, _, _, hbz⟩ := Ints.get (V3.out.own.ycub (K := fun _ => True) (fun _ _ _ => trivial)).ints hs0
              obtain rfl : (k : Int) = z := by have e := HG.out.other HM.out hs0; rw [e] at hz; exact Option.some.inj hz
              clear hz hcj
              have c0 := fun s : BelowW wr => (F3.out.h0.every (F3.out.h0.lt (by simp)) s).cell 0 _ rfl; have c1 := fun s : BelowW wr => (F3.out.h0.every (F3.out.h0.lt (by simp)) s).cell 1 _ rfl; have c2 := fun s : BelowW wr => (F3.out.h0.every (F3.out.h0.lt (by simp)) s).cell 2 _ rfl
              have x0 := fun s : BelowW wr => (V3.out.has.every V3.out.lt s).cell 0 _ rfl; have x1 := fun s : BelowW wr => (V3.out.has.every V3.out.lt s).cell 1 _ rfl
              have x2 := fun s : BelowW wr => (s.ok.cell (p := ⟨ib, io + s0, none⟩) hbz).trans hcz
              have hSS : ((S : Int) == (S : Int)) = true := by simp
              have hWW : ((k : Int) == (k : Int)) = true := by simp
              have q0 : (0 : Int) ≤ (s0 : Int) := by omega
              have q1 : (s0 : Int) < (S : Int) := by omega
              clear hcz
              go_upto_region 19 with fail
              refine wp_region_below (by kernel_rfl) (by kernel_rfl) ?_
              repeat (go_big_quiet_step ((go_at_call 10; with_reducible exact calls_below _ (awake_any _))))
              refine wpQuiet_nil ?_
              rintro w' ⟨s, rfl⟩
              have F4 := Lib.hid (Fm.call s.ok F3.out)
              clear c0 c1 c2 x0 x1 x2
              go_wp2
              go_ret
              exact ⟨rfl, fm_fin C3.out F4.out⟩
end Go.Proofs.Ytlpelpjcbclemaa
