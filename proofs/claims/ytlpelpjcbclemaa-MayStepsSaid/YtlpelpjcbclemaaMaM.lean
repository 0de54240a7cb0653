/-
  timeboundmake2.May: a valid state, whatever the deck gives. Printed by mkMaM.py.
-/
import Derived.Test.YtlpelpjcbclemaaMaL
import Derived.Test.YtlpelpjcbclemaaZMaV
namespace Go.Proofs.Ytlpelpjcbclemaa
open Go.RowKit

theorem YVr.chgd {w w' : World} {d B b : Nat} {f1 f2 : Nat → Prop} {S c oc : Nat} {a oa : Option Addr} {m : List (List (List Int))} {o : List Int} (h : YVr w B b f1 f2 S a c oa oc m o) (k : Chg (fun k => k = d) w w') (hd : d < B) : YVr w' B b f1 f2 S a c oa oc m o :=
  ⟨k.has h.has h.lt (by have := h.ge; omega), h.own.chg k (fun j hj _ e => by omega), h.ge, Nat.lt_of_lt_of_le h.lt k.size, h.o1, h.o2⟩
def MayTaken (S W : Nat) (d : Nat) (w : World) (e : Ending) (w' : World) : Prop := ∃ U a c oa oc f1 f2 m o, e = .returned (YV a S c oa S oc) ∧ OY w' w.heap.size f1 f2 a S c oa S oc m o ∧ YSt U S W m o ∧ U.length ≤ 43 ∧ Deck w' d ∧ Chg (fun k => k = d) w w'

set_option maxRecDepth 100000 in
set_option maxHeartbeats 8000000 in
theorem m2may_any (S W L : Nat) (hc : COk S W L) (hS4 : S ≤ 4) (hW3 : W ≤ 3) (d : Nat) (w : World) (hd : Deck w d) :
    Calls Try.prog 11 #[.pointer (some ⟨d, 0, none⟩), CV S W L] w (MayTaken S W d w) := by
  have hlt := hd.lt
  have HD := Lib.hid hd
  have hC := Lib.hid hc
  obtain ⟨g1, g2, g3, g4, g5, g6⟩ := hc
  have WP := Lib.hid (show 0 < W by omega)
  have F0 := Lib.hid (Fm.new (Fm.new (Fm.start Non w) rfl [.int .i64 S, .int .i64 W, .int .i64 L] 26) (by simp) [.slice none 0 0, .slice none 0 0] 31)
  have D0 := Lib.hid (HD.out.chg F0.out.chg (fun _ _ _ h => h))
  clear hd
  go_enter Try.func11, Try.ntmps11
  go_upto_region 1 with fail
  obtain ⟨w0, hw0⟩ : ∃ w0, w0 = (w.alloc (.cells #[.int .i64 S, .int .i64 W, .int .i64 L] 26)).alloc (.cells #[.slice none 0 0, .slice none 0 0] 31) := ⟨_, rfl⟩
  have F1 := Lib.hid (show Fm (fun k => k = d) w w0 [[.int .i64 S, .int .i64 W, .int .i64 L], [.slice none 0 0, .slice none 0 0]] from by rw [hw0]; exact F0.out.non)
  have D1 := Lib.hid (show Deck w0 d from by rw [hw0]; exact D0.out)
  have hs0 : w0.heap.size ≤ w.heap.size + 2 ∧ w.heap.size + 2 ≤ w0.heap.size := by rw [hw0]; simp
  rw [← hw0]
  clear hw0 F0 D0
  have c0 := F1.out.h0.cell 0 _ rfl; have c1 := F1.out.h0.cell 1 _ rfl; have c2 := F1.out.h0.cell 2 _ rfl
  have F2 := Lib.hid F1.out.drew; have D2 := Lib.hid (Deck.k_drew D1.out)
  go_cut [5] (fun s5 wx => ∃ U ob f1 f2 oa oc pa pc m o, s5 = .pointer (some ⟨ob, 0, none⟩) ∧ YVr wx (w.heap.size + 2) ob f1 f2 S oa oc pa pc m o ∧ YSt U S W m o ∧ U.length ≤ 43 ∧ (∀ x ∈ Base, x ∈ U) ∧ Fm (fun k => k = d) w wx [[.int .i64 S, .int .i64 W, .int .i64 L], [.slice none 0 0, .slice none 0 0]] ∧ Deck wx d)
  case first =>
    as_aux_lemma =>
      refine hd_start 6 (fun w' => w'.cell? ⟨w.heap.size, 0, none⟩ = some (.int .i64 S) ∧ w'.cell? ⟨w.heap.size, 1, none⟩ = some (.int .i64 W) ∧ w'.cell? ⟨w.heap.size, 2, none⟩ = some (.int .i64 L)) (by kernel_rfl) ⟨by kernel_rfl, by kernel_rfl, by kernel_rfl, by decide⟩ (by refine ⟨c0, c1, c2⟩) (fun ok => ?_)
      refine hd_take_l (i := 0) (v := ?_) ok rfl (by decide) (by kernel_rfl) (by kernel_rfl) (fun _ _ _ h => h) (Or.inl ⟨by kernel_rfl, ?_⟩) ?_
      rotate_left
      · (intro w hSw; (try dsimp only at hSw); (try go_split_ands); go_simp; (try (with_reducible rfl)))
      go_frame
      refine hd_take_l (i := 1) (v := ?_) ok rfl (by decide) (by kernel_rfl) (by kernel_rfl) (fun _ _ _ h => h) (Or.inl ⟨by kernel_rfl, ?_⟩) ?_
      rotate_left
      · (intro w hSw; (try dsimp only at hSw); (try go_split_ands); go_simp; (try (with_reducible rfl)))
      go_frame
      refine hd_take_l (i := 2) (v := ?_) ok rfl (by decide) (by kernel_rfl) (by kernel_rfl) (fun _ _ _ h => h) (Or.inl ⟨by kernel_rfl, ?_⟩) ?_
      rotate_left
      · (intro w hSw; (try dsimp only at hSw); (try go_split_ands); go_simp; (try (with_reducible rfl)))
      go_frame
      refine hd_two_l (c := 3) (d := 5) rfl rfl (by decide) (by decide) (by kernel_rfl) (fun K hK => ?_) (fun K hK => ?_)
      · skip
        go_simp
        go_at_call 21
        refine (m2lines_any S W L hC.out d _ D2.out).mono ?_
        rintro e w3 ⟨oa3, on3, oc3, ss, rfl, ho3, hv3, hd3, hc3⟩
        have s3 := hc3.size
        (try simp only [World.size_drew] at s3)
        have F3 := Lib.hid (F2.out.chgd hc3 (fun j hj => .inl ⟨by omega, hj⟩))
        have D3 := Lib.hid hd3; have HV := Lib.hid hv3; have O3 := Lib.hid (show Mat (fun _ => True) w3 oa3 on3 oc3 ss from ho3.read (fun _ _ => trivial))
        clear c0 c1 c2 ho3 hv3 hd3 hc3
        have c0 := F3.out.h0.cell 0 _ rfl; have c1 := F3.out.h0.cell 1 _ rfl; have c2 := F3.out.h0.cell 2 _ rfl
        (try simp only [])
        refine hK _ _ (by refine ⟨?_, ?_, ?_⟩ <;> (first | exact c0 | exact c1 | exact c2)) ?_
        clear hK K
        (try go_frame)
        refine hd_two_l (c := 4) (d := 5) rfl rfl (by decide) (by decide) (by kernel_rfl) (fun K hK => ?_) (fun K hK => ?_)
        · skip
          go_simp
          go_at_call 36
          refine (yrof_any S W L hC.out (fun _ => True) oa3 on3 oc3 ss HV.out _ O3.out).mono ?_
          rintro e w5 hr5
          obtain ⟨ta, tc, pa, pc, f1, f2, rfl, ho5, hb5⟩ := YRet.fix hr5 (yof_st HV.out).len (yof_st HV.out).olen
          have s5 := hb5.size
          (try simp only [World.size_drew, World.size_alloc] at s5)
          have F5 := Lib.hid (Fm.call hb5 F3.out)
          have D5 := Lib.hid (D3.out.below hb5 (Nat.le_refl _))
          have O5 := Lib.hid ho5
          (try simp only [World.size_drew, World.size_alloc] at O5)
          clear c0 c1 c2 hr5 ho5 hb5
          have c0 := F5.out.h0.cell 0 _ rfl; have c1 := F5.out.h0.cell 1 _ rfl; have c2 := F5.out.h0.cell 2 _ rfl
          (try simp only [])
          refine hK _ _ (by refine ⟨?_, ?_, ?_⟩ <;> (first | exact c0 | exact c1 | exact c2)) ?_
          clear hK K
          (try go_frame)
          refine hd_only_l (c := 5) rfl (by decide) (by kernel_rfl) (fun K hK => ?_)
          go_simp
          (try simp only [])
          refine hK _ _ (by refine ⟨?_, ?_, ?_⟩ <;> (first | exact (cell_alloc (by omega) c0) | exact (cell_alloc (by omega) c1) | exact (cell_alloc (by omega) c2))) ?_
          clear hK K
          (try go_frame)
          clear ok c0 c1 c2
          refine hd_done (by kernel_rfl) ?_
          simp only [List.drop_succ_cons, List.drop_zero]
          go_wp2_with fail
          go_meet
          exact ⟨ss.flatten ++ Base, w5.heap.size, _, _, _, _, _, _, _, _, rfl, YVr.newO O5.out (by omega), (yof_st HV.out).union (fun x hx => List.mem_append_left _ hx), by rw [List.length_append]; have := flatten_le HV.out hS4 hW3; have : Base.length = 31 := rfl; omega, fun x hx => List.mem_append_right _ hx, F5.out.more _, Deck.k_alloc D5.out⟩
        · skip
          go_simp
          have F4 := Lib.hid (F3.out.more (.cells #[.slice none 0 0, .slice none 0 0] 31)); have H4 := Lib.hid (Has.new w3 [.slice none 0 0, .slice none 0 0] 31)
          have D4 := Lib.hid (Deck.k_alloc (o := .cells #[.slice none 0 0, .slice none 0 0] 31) D3.out)
          clear c0 c1 c2
          have c0 := F4.out.h0.cell 0 _ rfl; have c1 := F4.out.h0.cell 1 _ rfl; have c2 := F4.out.h0.cell 2 _ rfl
          (try simp only [])
          refine hK _ _ (by refine ⟨?_, ?_, ?_⟩ <;> (first | exact c0 | exact c1 | exact c2)) ?_
          clear hK K
          (try go_frame)
          refine hd_only_l (c := 4) rfl (by decide) (by kernel_rfl) (fun K hK => ?_)
          go_simp
          go_at_call 36
          refine (yrof_any S W L hC.out (fun _ => True) oa3 on3 oc3 ss HV.out _ (Row.below (RSl.stays RInt.stays) O3.out ((Below.refl _ _).alloc (Nat.le_refl _) _))).mono ?_
          rintro e w5 hr5
          obtain ⟨ta, tc, pa, pc, f1, f2, rfl, ho5, hb5⟩ := YRet.fix hr5 (yof_st HV.out).len (yof_st HV.out).olen
          have s5 := hb5.size
          (try simp only [World.size_alloc] at s5)
          have F5 := Lib.hid (Fm.call hb5 F4.out)
          have D5 := Lib.hid (D4.out.below hb5 (Nat.le_refl _))
          have O5 := Lib.hid ho5
          have H5 := Lib.hid (H4.out.below hb5 (H4.out.lt (by simp)))
          (try simp only [World.size_alloc] at O5)
          clear c0 c1 c2 hr5 ho5 hb5
          have c0 := F5.out.h0.cell 0 _ rfl; have c1 := F5.out.h0.cell 1 _ rfl; have c2 := F5.out.h0.cell 2 _ rfl
          (try simp only [])
          refine hK _ _ (by refine ⟨?_, ?_, ?_⟩ <;> (first | exact c0 | exact c1 | exact c2)) ?_
          clear hK K
          (try go_frame)
          have h0 := H5.out.cell 0 _ rfl; have h1 := H5.out.cell 1 _ rfl; have hf := H5.out.free; have hl := H5.out.lt (by simp)
          clear ok c0 c1 c2
          refine hd_done (by kernel_rfl) ?_
          simp only [List.drop_succ_cons, List.drop_zero]
          go_wp2_with fail
          go_meet
          exact ⟨ss.flatten ++ Base, w3.heap.size, _, _, _, _, _, _, _, _, rfl, YVr.setO H5.out O5.out (by omega) (by omega), (yof_st HV.out).union (fun x hx => List.mem_append_left _ hx), by rw [List.length_append]; have := flatten_le HV.out hS4 hW3; have : Base.length = 31 := rfl; omega, fun x hx => List.mem_append_right _ hx, (F5.out.far (p := ⟨w3.heap.size, 0, none⟩) (.inr (by simp; omega)) _).far (p := ⟨w3.heap.size, 1, none⟩) (.inr (by simp; omega)) _, (D5.out.other (by simp; omega) _).other (by simp; omega) _⟩
      · skip
        go_simp
        have F4 := Lib.hid (F1.out.more (.cells #[.slice none 0 0, .slice none 0 0] 31)).drew; have H4 := Lib.hid (Has.new w0 [.slice none 0 0, .slice none 0 0] 31).drew
        have D4 := Lib.hid (Deck.k_drew (Deck.k_alloc (o := .cells #[.slice none 0 0, .slice none 0 0] 31) D1.out))
        clear c0 c1 c2
        have c0 := F4.out.h0.cell 0 _ rfl; have c1 := F4.out.h0.cell 1 _ rfl; have c2 := F4.out.h0.cell 2 _ rfl
        (try simp only [])
        refine hK _ _ (by refine ⟨?_, ?_, ?_⟩ <;> (first | exact c0 | exact c1 | exact c2)) ?_
        clear hK K
        (try go_frame)
        refine hd_only_l (c := 3) rfl (by decide) (by kernel_rfl) (fun K hK => ?_)
        go_simp
        go_at_call 21
        refine (m2lines_any S W L hC.out d _ D4.out).mono ?_
        rintro e w3 ⟨oa3, on3, oc3, ss, rfl, ho3, hv3, hd3, hc3⟩
        have s3 := hc3.size
        (try simp only [World.size_drew, World.size_alloc] at s3)
        have F3 := Lib.hid (F4.out.chgd hc3 (fun j hj => .inl ⟨by omega, hj⟩))
        have D3 := Lib.hid hd3; have HV := Lib.hid hv3; have O3 := Lib.hid (show Mat (fun _ => True) w3 oa3 on3 oc3 ss from ho3.read (fun _ _ => trivial))
        have H3 := Lib.hid (hc3.has H4.out (H4.out.lt (by simp)) (show ¬ _ = d by omega))
        clear c0 c1 c2 ho3 hv3 hd3 hc3
        have c0 := F3.out.h0.cell 0 _ rfl; have c1 := F3.out.h0.cell 1 _ rfl; have c2 := F3.out.h0.cell 2 _ rfl
        (try simp only [])
        refine hK _ _ (by refine ⟨?_, ?_, ?_⟩ <;> (first | exact c0 | exact c1 | exact c2)) ?_
        clear hK K
        (try go_frame)
        refine hd_only_l (c := 4) rfl (by decide) (by kernel_rfl) (fun K hK => ?_)
        go_simp
        go_at_call 36
        refine (yrof_any S W L hC.out (fun _ => True) oa3 on3 oc3 ss HV.out _ O3.out).mono ?_
        rintro e w5 hr5
        obtain ⟨ta, tc, pa, pc, f1, f2, rfl, ho5, hb5⟩ := YRet.fix hr5 (yof_st HV.out).len (yof_st HV.out).olen
        have s5 := hb5.size
        (try simp only [World.size_drew, World.size_alloc] at s5)
        have F5 := Lib.hid (Fm.call hb5 F3.out)
        have D5 := Lib.hid (D3.out.below hb5 (Nat.le_refl _))
        have O5 := Lib.hid ho5
        have H5 := Lib.hid (H3.out.below hb5 (H3.out.lt (by simp)))
        (try simp only [World.size_drew, World.size_alloc] at O5)
        clear c0 c1 c2 hr5 ho5 hb5
        have c0 := F5.out.h0.cell 0 _ rfl; have c1 := F5.out.h0.cell 1 _ rfl; have c2 := F5.out.h0.cell 2 _ rfl
        (try simp only [])
        refine hK _ _ (by refine ⟨?_, ?_, ?_⟩ <;> (first | exact c0 | exact c1 | exact c2)) ?_
        clear hK K
        (try go_frame)
        have h0 := H5.out.cell 0 _ rfl; have h1 := H5.out.cell 1 _ rfl; have hf := H5.out.free; have hl := H5.out.lt (by simp)
        clear ok c0 c1 c2
        refine hd_done (by kernel_rfl) ?_
        simp only [List.drop_succ_cons, List.drop_zero]
        go_wp2_with fail
        go_meet
        exact ⟨ss.flatten ++ Base, w0.heap.size, _, _, _, _, _, _, _, _, rfl, YVr.setO H5.out O5.out (by omega) (by omega), (yof_st HV.out).union (fun x hx => List.mem_append_left _ hx), by rw [List.length_append]; have := flatten_le HV.out hS4 hW3; have : Base.length = 31 := rfl; omega, fun x hx => List.mem_append_right _ hx, (F5.out.far (p := ⟨w0.heap.size, 0, none⟩) (.inr (by simp; omega)) _).far (p := ⟨w0.heap.size, 1, none⟩) (.inr (by simp; omega)) _, (D5.out.other (by simp; omega) _).other (by simp; omega) _⟩
  case rest =>
    obtain ⟨U, ob, f1, f2, oa, oc, pa, pc, m, o, rfl, hV, hM, hU, hB, hF, hD⟩ := hcut
    have hob := hV.ge
    have HU := Lib.hid (show U.length ≤ 1000 by omega)
    have HU43 := Lib.hid hU
    have HB := Lib.hid hB
    have HM0 := Lib.hid hM; have V0 := Lib.hid hV; have F2 := Lib.hid hF
    clear hU hB hM hV hF c0 c1 c2 F1 D1 D2
    go_wp2_with fail
    refine (next_any d 3 (by omega) (by omega) _ hD).mono ?_
    rintro e w1 ⟨r1, rfl, a1, b1, hd1, hb1⟩
    have F3 := Lib.hid (F2.out.chgd hb1.chg (fun j hj => .inl ⟨by omega, hj⟩))
    have V3 := Lib.hid (V0.out.chgd hb1.chg (by omega))
    have D3 := Lib.hid hd1
    clear hd1 hb1 F2 V0 hD
    go_upto_if 14 with fail
    go_cut [5] (fun s5 wx => ∃ f1 f2 oa oc pa pc m o, s5 = .pointer (some ⟨ob, 0, none⟩) ∧ YSt U S W m o ∧ YVr wx (w.heap.size + 2) ob f1 f2 S oa oc pa pc m o ∧ Fm (fun k => k = d) w wx [[.int .i64 S, .int .i64 W, .int .i64 L], [.slice none 0 0, .slice none 0 0]] ∧ Deck wx d)
    case first =>
      by_cases hr : r1 = 0
      · subst hr
        have c0 := F3.out.h0.cell 0 _ rfl; have c1 := F3.out.h0.cell 1 _ rfl; have c2 := F3.out.h0.cell 2 _ rfl; have lt0 := F3.out.h0.lt (by simp)
        go_wp2_with fail
        refine (yrtop_any S W L hC.out _).mono ?_
        rintro e w4 h4
        obtain ⟨ja, jc, ia, ic, d1, d2, rfl, ho4, hb4⟩ := YRet.fix h4 (topS_len S W) (topO_len S)
        have F4 := Lib.hid (Fm.call hb4 F3.out)
        have l3 := V3.out.lt
        have V4 := Lib.hid (V3.out.below hb4)
        have D4 := Lib.hid (D3.out.below hb4 (Nat.le_refl _))
        have s5 := F3.out.size
        simp only [List.length_cons, List.length_nil] at s5
        have J4 := Lib.hid ho4
        have x0 := V4.out.has.cell 0 _ rfl; have x1 := V4.out.has.cell 1 _ rfl; have x2 := V4.out.lt; have xf := V4.out.has.free
        clear c0 c1 c2 lt0 h4 ho4 hb4
        go_wp2_with fail
        go_meet
        exact ⟨_, _, _, _, _, _, _, _, rfl, ytop_st U S W, YVr.set V4.out J4.out l3 (by omega), (F4.out.far (p := ⟨ob, 0, none⟩) (.inr (by simp; omega)) _).far (p := ⟨ob, 1, none⟩) (.inr (by simp; omega)) _, (D4.out.other (by simp; omega) _).other (by simp; omega) _⟩
      · have hr' : (r1 == 0) = false := by simpa using hr
        go_wp2_with fail
        all_goals
          go_meet
          exact ⟨_, _, _, _, _, _, _, _, rfl, HM0.out, V3.out, F3.out, D3.out⟩
    case rest =>
      obtain ⟨f1, f2, oa, oc, pa, pc, m, o, rfl, hM, hV, hF, hD⟩ := hcut
      have HM0 := Lib.hid hM; have V0 := Lib.hid hV; have F2 := Lib.hid hF
      clear hM hV hF V3 F3 D3
      go_wp2_with fail
      refine (next_any d 8 (by omega) (by omega) _ hD).mono ?_
      rintro e w1 ⟨r2, rfl, a2, b2, hd1, hb1⟩
      have F3 := Lib.hid (F2.out.chgd hb1.chg (fun j hj => .inl ⟨by omega, hj⟩))
      have V3 := Lib.hid (V0.out.chgd hb1.chg (by omega))
      have D3 := Lib.hid hd1
      clear hd1 hb1 F2 V0 hD
      go_wp2
      go_loopw [6] (fun i wr => ∃ q : Int, i = .int .i64 q ∧ 0 ≤ q ∧ q < 8 ∧ ∃ f1 f2 oa oc pa pc m o, YSt U S W m o ∧ YVr wr (w.heap.size + 2) ob f1 f2 S oa oc pa pc m o ∧ Fm (fun k => k = d) w wr [[.int .i64 S, .int .i64 W, .int .i64 L], [.slice none 0 0, .slice none 0 0]] ∧ Deck wr d) (fun i _ => (intOf i).toNat)
      case atStart => exact ⟨r2, rfl, a2, b2, _, _, _, _, _, _, _, _, HM0.out, V3.out, F3.out, D3.out⟩
      case round =>
        obtain ⟨q, rfl, hq0, hq8, f1, f2, oa, oc, pa, pc, m, o, hM, hV, hF, hD⟩ := hrel
        have HM := Lib.hid hM; have V0 := Lib.hid hV; have F2 := Lib.hid hF
        clear hM hV hF V3 F3 D3 HM0
        by_cases hq : 0 < q
        · go_wp2_with fail
          refine (next_any d 4 (by omega) (by omega) _ hD).mono ?_
          rintro e wr ⟨r, rfl, a3, b3, hd1, hb1⟩
          have F3 := Lib.hid (F2.out.chgd hb1.chg (fun j hj => .inl ⟨by omega, hj⟩))
          have V3 := Lib.hid (V0.out.chgd hb1.chg (by omega))
          have D3 := Lib.hid hd1
          clear hd1 hb1 F2 V0 hD
          have c0 := F3.out.h0.cell 0 _ rfl; have c1 := F3.out.h0.cell 1 _ rfl; have c2 := F3.out.h0.cell 2 _ rfl
          have x0 := V3.out.has.cell 0 _ rfl; have x1 := V3.out.has.cell 1 _ rfl
          by_cases hr0 : r = 0
          · subst hr0
            go_upto_region 10 with fail
            refine hd_start 8 (fun w' => w'.cell? ⟨w.heap.size, 0, none⟩ = some (.int .i64 S) ∧ w'.cell? ⟨w.heap.size, 1, none⟩ = some (.int .i64 W) ∧ w'.cell? ⟨w.heap.size, 2, none⟩ = some (.int .i64 L) ∧ w'.cell? ⟨ob, 0, none⟩ = some (.slice oa S oc) ∧ w'.cell? ⟨ob, 1, none⟩ = some (.slice pa S pc)) (by kernel_rfl) ⟨by kernel_rfl, by kernel_rfl, by kernel_rfl, by decide⟩ (by refine ⟨c0, c1, c2, x0, x1⟩) (fun ok => ?_)
            refine hd_take_l (i := 0) (v := ?_) ok rfl (by decide) (by kernel_rfl) (by kernel_rfl) (fun _ _ _ h => h) (Or.inl ⟨by kernel_rfl, ?_⟩) ?_
            rotate_left
            · (intro w hSw; (try dsimp only at hSw); (try go_split_ands); go_simp; (try (with_reducible rfl)))
            go_frame
            refine hd_take_l (i := 1) (v := ?_) ok rfl (by decide) (by kernel_rfl) (by kernel_rfl) (fun _ _ _ h => h) (Or.inl ⟨by kernel_rfl, ?_⟩) ?_
            rotate_left
            · (intro w hSw; (try dsimp only at hSw); (try go_split_ands); go_simp; (try (with_reducible rfl)))
            go_frame
            refine hd_take_l (i := 2) (v := ?_) ok rfl (by decide) (by kernel_rfl) (by kernel_rfl) (fun _ _ _ h => h) (Or.inl ⟨by kernel_rfl, ?_⟩) ?_
            rotate_left
            · (intro w hSw; (try dsimp only at hSw); (try go_split_ands); go_simp; (try (with_reducible rfl)))
            go_frame
            refine hd_take_l (i := 3) (v := ?_) ok rfl (by decide) (by kernel_rfl) (by kernel_rfl) (fun _ _ _ h => h) (Or.inl ⟨by kernel_rfl, ?_⟩) ?_
            rotate_left
            · (intro w hSw; (try dsimp only at hSw); (try go_split_ands); go_simp; (try (with_reducible rfl)))
            go_frame
            refine hd_take_l (i := 4) (v := ?_) ok rfl (by decide) (by kernel_rfl) (by kernel_rfl) (fun _ _ _ h => h) (Or.inl ⟨by kernel_rfl, ?_⟩) ?_
            rotate_left
            · (intro w hSw; (try dsimp only at hSw); (try go_split_ands); go_simp; (try (with_reducible rfl)))
            go_frame
            refine hd_only_l (c := 5) rfl (by decide) (by kernel_rfl) (fun K hK => ?_)
            go_simp
            go_at_call 17
            refine (m2line_any d _ (Deck.k_drew D3.out)).mono ?_
            rintro e w4 ⟨x, rfl, hx4, hd4, hc4⟩
            have c4 : Chg (fun k => k = d) wr w4 := (Chg.refl wr).drew.trans hc4 (fun _ _ h => h)
            have F4 := Lib.hid (F3.out.chgd c4 (fun j hj => .inl ⟨by omega, hj⟩))
            have V4 := Lib.hid (V3.out.chgd c4 (by omega))
            have D4 := Lib.hid hd4
            have HX := Lib.hid hx4; have HO := Lib.hid (base_ok hx4)
            clear hx4
            clear hd4 c4 hc4 c0 c1 c2 x0 x1
            have c0 := F4.out.h0.cell 0 _ rfl; have c1 := F4.out.h0.cell 1 _ rfl; have c2 := F4.out.h0.cell 2 _ rfl
            have x0 := V4.out.has.cell 0 _ rfl; have x1 := V4.out.has.cell 1 _ rfl
            (try simp only [])
            refine hK _ _ (by refine ⟨?_, ?_, ?_, ?_, ?_⟩ <;> (first | exact c0 | exact c1 | exact c2 | exact x0 | exact x1)) ?_
            clear hK K
            (try go_frame)

            refine hd_only_l (c := 6) rfl (by decide) (by kernel_rfl) (fun K hK => ?_)
            go_simp
            go_at_call 31
            refine (yrtouch_any U HU.out S W L hC.out m o HM.out (fun _ => True) oa S oc pa S pc x HO.out.1 HO.out.2 (HB.out x HX.out) w4 (V4.out.own.ycub (fun _ _ _ => trivial))).mono ?_
            rintro e w5 hr5
            obtain ⟨j5a, j5c, i5a, i5c, g51, g52, rfl, ho5, hb5⟩ := YRet.fix hr5 (ytouch_st HM.out WP.out HO.out.1 HO.out.2 (HB.out x HX.out)).len (ytouch_st HM.out WP.out HO.out.1 HO.out.2 (HB.out x HX.out)).olen
            have s5 := hb5.size
            have F5 := Lib.hid (Fm.call hb5 F4.out)
            have V5 := Lib.hid (V4.out.below hb5)
            have D5 := Lib.hid (D4.out.below hb5 (Nat.le_refl _))
            have J5 := Lib.hid ho5
            have l4 := V4.out.lt
            clear hr5 ho5 hb5 c0 c1 c2 x0 x1
            have c0 := F5.out.h0.cell 0 _ rfl; have c1 := F5.out.h0.cell 1 _ rfl; have c2 := F5.out.h0.cell 2 _ rfl
            have x0 := V5.out.has.cell 0 _ rfl; have x1 := V5.out.has.cell 1 _ rfl
            (try simp only [])
            refine hK _ _ (by refine ⟨?_, ?_, ?_, ?_, ?_⟩ <;> (first | exact c0 | exact c1 | exact c2 | exact x0 | exact x1)) ?_
            clear hK K
            (try go_frame)

            refine hd_only_l (c := 7) rfl (by decide) (by kernel_rfl) (fun K hK => ?_)
            go_simp
            go_at_call 16
            refine (yrjoin_any U HU.out S W L hC.out m (touchYm S W m o x) o (touchYo S W m o x) HM.out (ytouch_st HM.out WP.out HO.out.1 HO.out.2 (HB.out x HX.out)) (fun _ => True) (fun _ => True) oa S oc pa S pc j5a S j5c i5a S i5c w5 (V5.out.own.ycub (fun _ _ _ => trivial)) (J5.out.ycub (fun _ _ _ => trivial))).mono ?_
            rintro e w6 hr6
            obtain ⟨j6a, j6c, i6a, i6c, g61, g62, rfl, ho6, hb6⟩ := YRet.fix hr6 (yjoin_st HM.out (ytouch_st HM.out WP.out HO.out.1 HO.out.2 (HB.out x HX.out))).len (yjoin_st HM.out (ytouch_st HM.out WP.out HO.out.1 HO.out.2 (HB.out x HX.out))).olen
            have s6 := hb6.size
            have F6 := Lib.hid (Fm.call hb6 F5.out)
            have V6 := Lib.hid (V5.out.below hb6)
            have D6 := Lib.hid (D5.out.below hb6 (Nat.le_refl _))
            have J6 := Lib.hid ho6
            have l5 := V5.out.lt
            clear hr6 ho6 hb6 c0 c1 c2 x0 x1
            have c0 := F6.out.h0.cell 0 _ rfl; have c1 := F6.out.h0.cell 1 _ rfl; have c2 := F6.out.h0.cell 2 _ rfl
            have x0 := V6.out.has.cell 0 _ rfl; have x1 := V6.out.has.cell 1 _ rfl
            (try simp only [])
            refine hK _ _ (by refine ⟨?_, ?_, ?_, ?_, ?_⟩ <;> (first | exact c0 | exact c1 | exact c2 | exact x0 | exact x1)) ?_
            clear hK K
            (try go_frame)

            have xf := V6.out.has.free; have xl := V6.out.lt; have xg := V6.out.ge
            clear ok c0 c1 c2
            refine hd_done (by kernel_rfl) ?_
            simp only [List.drop_succ_cons, List.drop_zero]
            go_wp2
            go_roundw
            case rel => exact ⟨q - 1, by go_num, by omega, by omega, _, _, _, _, _, _, _, _, (yjoin_st HM.out (ytouch_st HM.out WP.out HO.out.1 HO.out.2 (HB.out x HX.out))), YVr.set V6.out J6.out l5 (by omega), (F6.out.far (p := ⟨ob, 0, none⟩) (.inr (by simp; omega)) _).far (p := ⟨ob, 1, none⟩) (.inr (by simp; omega)) _, (D6.out.other (by simp; omega) _).other (by simp; omega) _⟩
            case measure => simp [intOf]; omega
          · have e0 : (r == 0) = false := by simpa using hr0
            by_cases hr1 : r = 1
            · subst hr1
              go_upto_region 12 with fail
              refine hd_start 5 (fun w' => w'.cell? ⟨w.heap.size, 0, none⟩ = some (.int .i64 S) ∧ w'.cell? ⟨w.heap.size, 1, none⟩ = some (.int .i64 W) ∧ w'.cell? ⟨w.heap.size, 2, none⟩ = some (.int .i64 L) ∧ w'.cell? ⟨ob, 0, none⟩ = some (.slice oa S oc) ∧ w'.cell? ⟨ob, 1, none⟩ = some (.slice pa S pc)) (by kernel_rfl) ⟨by kernel_rfl, by kernel_rfl, by kernel_rfl, by decide⟩ (by refine ⟨c0, c1, c2, x0, x1⟩) (fun ok => ?_)
              refine hd_take_l (i := 0) (v := ?_) ok rfl (by decide) (by kernel_rfl) (by kernel_rfl) (fun _ _ _ h => h) (Or.inl ⟨by kernel_rfl, ?_⟩) ?_
              rotate_left
              · (intro w hSw; (try dsimp only at hSw); (try go_split_ands); go_simp; (try (with_reducible rfl)))
              go_frame
              refine hd_take_l (i := 1) (v := ?_) ok rfl (by decide) (by kernel_rfl) (by kernel_rfl) (fun _ _ _ h => h) (Or.inl ⟨by kernel_rfl, ?_⟩) ?_
              rotate_left
              · (intro w hSw; (try dsimp only at hSw); (try go_split_ands); go_simp; (try (with_reducible rfl)))
              go_frame
              refine hd_take_l (i := 2) (v := ?_) ok rfl (by decide) (by kernel_rfl) (by kernel_rfl) (fun _ _ _ h => h) (Or.inl ⟨by kernel_rfl, ?_⟩) ?_
              rotate_left
              · (intro w hSw; (try dsimp only at hSw); (try go_split_ands); go_simp; (try (with_reducible rfl)))
              go_frame
              refine hd_only_l (c := 3) rfl (by decide) (by kernel_rfl) (fun K hK => ?_)
              go_simp
              go_at_call 23
              refine (m2few_any d _ (Deck.k_drew D3.out)).mono ?_
              rintro e w4 ⟨la, ln, lc, xs, rfl, hl4, hn4, hx4, hd4, hc4⟩
              have c4 : Chg (fun k => k = d) wr w4 := (Chg.refl wr).drew.trans hc4 (fun _ _ h => h)
              have F4 := Lib.hid (F3.out.chgd c4 (fun j hj => .inl ⟨by omega, hj⟩))
              have V4 := Lib.hid (V3.out.chgd c4 (by omega))
              have D4 := Lib.hid hd4
              have HL := Lib.hid hl4
              have HLI := Lib.hid (show LnsOk U xs from fun x hx => ⟨(base_ok (hx4 x hx)).1, (base_ok (hx4 x hx)).2, HB.out x (hx4 x hx)⟩)
              clear hx4 hl4
              clear hd4 c4 hc4 c0 c1 c2 x0 x1
              have c0 := F4.out.h0.cell 0 _ rfl; have c1 := F4.out.h0.cell 1 _ rfl; have c2 := F4.out.h0.cell 2 _ rfl
              have x0 := V4.out.has.cell 0 _ rfl; have x1 := V4.out.has.cell 1 _ rfl
              (try simp only [])
              refine hK _ _ (by refine ⟨?_, ?_, ?_, ?_, ?_⟩ <;> (first | exact c0 | exact c1 | exact c2 | exact x0 | exact x1)) ?_
              clear hK K
              (try go_frame)

              refine hd_only_l (c := 4) rfl (by decide) (by kernel_rfl) (fun K hK => ?_)
              go_simp
              go_at_call 34
              refine (yreither_any U HU.out S W L hC.out m o HM.out (fun _ => True) (fun _ => True) oa S oc pa S pc la ln lc xs HLI.out w4 (V4.out.own.ycub (fun _ _ _ => trivial)) (HL.out.read (fun _ _ => trivial))).mono ?_
              rintro e w5 hr5
              obtain ⟨j5a, j5c, i5a, i5c, g51, g52, rfl, ho5, hb5⟩ := YRet.fix hr5 (eitherY_st (st := (m, o)) HM.out WP.out HLI.out).len (eitherY_st (st := (m, o)) HM.out WP.out HLI.out).olen
              have s5 := hb5.size
              have F5 := Lib.hid (Fm.call hb5 F4.out)
              have V5 := Lib.hid (V4.out.below hb5)
              have D5 := Lib.hid (D4.out.below hb5 (Nat.le_refl _))
              have J5 := Lib.hid ho5
              have l4 := V4.out.lt
              clear hr5 ho5 hb5 c0 c1 c2 x0 x1
              have c0 := F5.out.h0.cell 0 _ rfl; have c1 := F5.out.h0.cell 1 _ rfl; have c2 := F5.out.h0.cell 2 _ rfl
              have x0 := V5.out.has.cell 0 _ rfl; have x1 := V5.out.has.cell 1 _ rfl
              (try simp only [])
              refine hK _ _ (by refine ⟨?_, ?_, ?_, ?_, ?_⟩ <;> (first | exact c0 | exact c1 | exact c2 | exact x0 | exact x1)) ?_
              clear hK K
              (try go_frame)

              have xf := V5.out.has.free; have xl := V5.out.lt; have xg := V5.out.ge
              clear ok c0 c1 c2
              refine hd_done (by kernel_rfl) ?_
              simp only [List.drop_succ_cons, List.drop_zero]
              go_wp2
              go_roundw
              case rel => exact ⟨q - 1, by go_num, by omega, by omega, _, _, _, _, _, _, _, _, (eitherY_st (st := (m, o)) HM.out WP.out HLI.out), YVr.set V5.out J5.out l4 (by omega), (F5.out.far (p := ⟨ob, 0, none⟩) (.inr (by simp; omega)) _).far (p := ⟨ob, 1, none⟩) (.inr (by simp; omega)) _, (D5.out.other (by simp; omega) _).other (by simp; omega) _⟩
              case measure => simp [intOf]; omega
            · have e1 : (r == 1) = false := by simpa using hr1
              go_upto_region 8 with fail
              refine hd_start 5 (fun w' => w'.cell? ⟨w.heap.size, 0, none⟩ = some (.int .i64 S) ∧ w'.cell? ⟨w.heap.size, 1, none⟩ = some (.int .i64 W) ∧ w'.cell? ⟨w.heap.size, 2, none⟩ = some (.int .i64 L) ∧ w'.cell? ⟨ob, 0, none⟩ = some (.slice oa S oc) ∧ w'.cell? ⟨ob, 1, none⟩ = some (.slice pa S pc)) (by kernel_rfl) ⟨by kernel_rfl, by kernel_rfl, by kernel_rfl, by decide⟩ (by refine ⟨c0, c1, c2, x0, x1⟩) (fun ok => ?_)
              refine hd_take_l (i := 0) (v := ?_) ok rfl (by decide) (by kernel_rfl) (by kernel_rfl) (fun _ _ _ h => h) (Or.inl ⟨by kernel_rfl, ?_⟩) ?_
              rotate_left
              · (intro w hSw; (try dsimp only at hSw); (try go_split_ands); go_simp; (try (with_reducible rfl)))
              go_frame
              refine hd_take_l (i := 1) (v := ?_) ok rfl (by decide) (by kernel_rfl) (by kernel_rfl) (fun _ _ _ h => h) (Or.inl ⟨by kernel_rfl, ?_⟩) ?_
              rotate_left
              · (intro w hSw; (try dsimp only at hSw); (try go_split_ands); go_simp; (try (with_reducible rfl)))
              go_frame
              refine hd_take_l (i := 2) (v := ?_) ok rfl (by decide) (by kernel_rfl) (by kernel_rfl) (fun _ _ _ h => h) (Or.inl ⟨by kernel_rfl, ?_⟩) ?_
              rotate_left
              · (intro w hSw; (try dsimp only at hSw); (try go_split_ands); go_simp; (try (with_reducible rfl)))
              go_frame
              refine hd_only_l (c := 3) rfl (by decide) (by kernel_rfl) (fun K hK => ?_)
              go_simp
              go_at_call 17
              refine (m2line_any d _ (Deck.k_drew D3.out)).mono ?_
              rintro e w4 ⟨x, rfl, hx4, hd4, hc4⟩
              have c4 : Chg (fun k => k = d) wr w4 := (Chg.refl wr).drew.trans hc4 (fun _ _ h => h)
              have F4 := Lib.hid (F3.out.chgd c4 (fun j hj => .inl ⟨by omega, hj⟩))
              have V4 := Lib.hid (V3.out.chgd c4 (by omega))
              have D4 := Lib.hid hd4
              have HX := Lib.hid hx4; have HO := Lib.hid (base_ok hx4)
              clear hx4
              clear hd4 c4 hc4 c0 c1 c2 x0 x1
              have c0 := F4.out.h0.cell 0 _ rfl; have c1 := F4.out.h0.cell 1 _ rfl; have c2 := F4.out.h0.cell 2 _ rfl
              have x0 := V4.out.has.cell 0 _ rfl; have x1 := V4.out.has.cell 1 _ rfl
              (try simp only [])
              refine hK _ _ (by refine ⟨?_, ?_, ?_, ?_, ?_⟩ <;> (first | exact c0 | exact c1 | exact c2 | exact x0 | exact x1)) ?_
              clear hK K
              (try go_frame)

              refine hd_only_l (c := 4) rfl (by decide) (by kernel_rfl) (fun K hK => ?_)
              go_simp
              go_at_call 31
              refine (yrtouch_any U HU.out S W L hC.out m o HM.out (fun _ => True) oa S oc pa S pc x HO.out.1 HO.out.2 (HB.out x HX.out) w4 (V4.out.own.ycub (fun _ _ _ => trivial))).mono ?_
              rintro e w5 hr5
              obtain ⟨j5a, j5c, i5a, i5c, g51, g52, rfl, ho5, hb5⟩ := YRet.fix hr5 (ytouch_st HM.out WP.out HO.out.1 HO.out.2 (HB.out x HX.out)).len (ytouch_st HM.out WP.out HO.out.1 HO.out.2 (HB.out x HX.out)).olen
              have s5 := hb5.size
              have F5 := Lib.hid (Fm.call hb5 F4.out)
              have V5 := Lib.hid (V4.out.below hb5)
              have D5 := Lib.hid (D4.out.below hb5 (Nat.le_refl _))
              have J5 := Lib.hid ho5
              have l4 := V4.out.lt
              clear hr5 ho5 hb5 c0 c1 c2 x0 x1
              have c0 := F5.out.h0.cell 0 _ rfl; have c1 := F5.out.h0.cell 1 _ rfl; have c2 := F5.out.h0.cell 2 _ rfl
              have x0 := V5.out.has.cell 0 _ rfl; have x1 := V5.out.has.cell 1 _ rfl
              (try simp only [])
              refine hK _ _ (by refine ⟨?_, ?_, ?_, ?_, ?_⟩ <;> (first | exact c0 | exact c1 | exact c2 | exact x0 | exact x1)) ?_
              clear hK K
              (try go_frame)

              have xf := V5.out.has.free; have xl := V5.out.lt; have xg := V5.out.ge
              clear ok c0 c1 c2
              refine hd_done (by kernel_rfl) ?_
              simp only [List.drop_succ_cons, List.drop_zero]
              go_wp2
              go_roundw
              case rel => exact ⟨q - 1, by go_num, by omega, by omega, _, _, _, _, _, _, _, _, (ytouch_st HM.out WP.out HO.out.1 HO.out.2 (HB.out x HX.out)), YVr.set V5.out J5.out l4 (by omega), (F5.out.far (p := ⟨ob, 0, none⟩) (.inr (by simp; omega)) _).far (p := ⟨ob, 1, none⟩) (.inr (by simp; omega)) _, (D5.out.other (by simp; omega) _).other (by simp; omega) _⟩
              case measure => simp [intOf]; omega
        · have hq' : q = 0 := by omega
          subst hq'
          have e0 := F2.out.h1.cell 0 _ rfl; have e1 := F2.out.h1.cell 1 _ rfl; have ef := F2.out.h1.free; have lt1 := F2.out.h1.lt (by simp)
          have x0 := V0.out.has.cell 0 _ rfl; have x1 := V0.out.has.cell 1 _ rfl; have xl := V0.out.lt
          go_wp2
          refine bodyPost_ret (v := YV oa S oc pa S pc) (by simp [results, Try.results11, go_sem, e0, e1]) rfl ⟨U, oa, oc, pa, pc, f1, f2, m, o, rfl, OY.ge (OY.two V0.out.own (show w.heap.size + 1 < w.heap.size + 2 by omega) (Nat.le_refl _)) (by omega), HM.out, HU43.out, (hD.other (by simp; omega) _).other (by simp; omega) _, ((F2.out.set 1 0 _ rfl (by simp) _).set 1 1 _ rfl (by simp) _).chg⟩
end Go.Proofs.Ytlpelpjcbclemaa
