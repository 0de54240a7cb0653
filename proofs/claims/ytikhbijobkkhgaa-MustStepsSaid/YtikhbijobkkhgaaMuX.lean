/-
  timeboundmake2.Must: a valid state, whatever the deck gives. Printed by mkMuX.py.
-/
import Derived.Test.YtikhbijobkkhgaaMuQ
import Derived.Test.YtikhbijobkkhgaaMuW
namespace Go.Proofs.Ytikhbijobkkhgaa
open Go.RowKit

theorem StRet.fix {S : Nat} {X : List (List (List Int))} {w w' : World} {e : Ending} (h : StRet X w e w') (hl : X.length = S) : ∃ a cap, e = .returned (.agg #[.slice a S cap]) ∧ OCub w' (Ge w.heap.size) (.slice a S cap) X ∧ Below w.heap.size w w' := by
  obtain ⟨a, n, cap, rfl, ho, hb⟩ := h
  obtain ⟨_, _, hfo⟩ := ho.form
  simp only [Value.slice.injEq] at hfo
  obtain rfl : S = n := (hfo.2.1.trans hl).symm
  exact ⟨a, cap, rfl, ho, hb⟩
theorem OCub.cubeT {w : World} {fp : Nat → Prop} {a : Option Addr} {n cap : Nat} {X : List (List (List Int))} (h : OCub w fp (.slice a n cap) X) : Cube (fun _ => True) w a n cap X := h.read (fun _ _ => trivial)
theorem OMat.matT {w : World} {fp : Nat → Prop} {a : Option Addr} {n cap : Nat} {X : List (List Int)} (h : OMat w fp (.slice a n cap) X) : Mat (fun _ => True) w a n cap X := h.read (fun _ _ => trivial)

def MustTaken (S W : Nat) (d : Nat) (w : World) (e : Ending) (w' : World) : Prop := ∃ U a cap m, e = .returned (.agg #[.slice a S cap]) ∧ OCub w' (Ge w.heap.size) (.slice a S cap) m ∧ MSt U S W m ∧ U.length ≤ 43 ∧ Deck w' d ∧ Chg (fun k => k = d) w w'

set_option maxRecDepth 20000 in
set_option maxHeartbeats 8000000 in
theorem m2must_any (S W L : Nat) (hc : COk S W L) (hS4 : S ≤ 4) (hW3 : W ≤ 3) (d : Nat) (w : World) (hd : Deck w d) :
    Calls Try.prog 11 #[.pointer (some ⟨d, 0, none⟩), CV S W L] w (MustTaken S W d w) := by
  have hlt := hd.lt
  have HD := Lib.hid hd
  have hC := Lib.hid hc
  obtain ⟨g1, g2, g3, g4, g5, g6⟩ := hc
  have WP := Lib.hid (show 0 < W by omega)
  have F0 := Lib.hid (Fm.new (Fm.new (Fm.start Non w) rfl [.int .i64 S, .int .i64 W, .int .i64 L] 26) (by simp) [.slice none 0 0] 30)
  have D0 := Lib.hid (HD.out.chg F0.out.chg (fun _ _ _ h => h))
  clear hd
  go_enter Try.func11, Try.ntmps11
  go_upto_region 1 with fail
  obtain ⟨w0, hw0⟩ : ∃ w0, w0 = (w.alloc (.cells #[.int .i64 S, .int .i64 W, .int .i64 L] 26)).alloc (.cells #[.slice none 0 0] 30) := ⟨_, rfl⟩
  have F1 := Lib.hid (show Fm (fun k => k = d) w w0 [[.int .i64 S, .int .i64 W, .int .i64 L], [.slice none 0 0]] from by rw [hw0]; exact F0.out.non)
  have D1 := Lib.hid (show Deck w0 d from by rw [hw0]; exact D0.out)
  have hs0 : w0.heap.size = w.heap.size + 2 := by rw [hw0]; simp
  rw [← hw0]
  clear hw0 F0 D0
  have c0 := F1.out.h0.cell 0 _ rfl; have c1 := F1.out.h0.cell 1 _ rfl; have c2 := F1.out.h0.cell 2 _ rfl
  have HS0 := Lib.hid hs0
  go_cut [5] (fun s5 wx => ∃ U ob oa oc X, s5 = .pointer (some ⟨ob, 0, none⟩) ∧ w.heap.size + 2 ≤ ob ∧ U.length ≤ 43 ∧ (∀ x ∈ Base, x ∈ U) ∧ MSt U S W X ∧ Has wx ob [.slice oa S oc] ∧ OCub wx (fun i => w.heap.size + 2 ≤ i ∧ i ≠ ob) (.slice oa S oc) X ∧ Fm (fun k => k = d) w wx [[.int .i64 S, .int .i64 W, .int .i64 L], [.slice none 0 0]] ∧ Deck wx d)
  case first =>
    have k0 : w.heap.size < w0.heap.size := by omega
    have k1 : d < w0.heap.size := by omega
    clear hs0
    go_region_held3 (fun w' => w'.cell? ⟨w.heap.size, 0, none⟩ = some (.int .i64 S) ∧ w'.cell? ⟨w.heap.size, 1, none⟩ = some (.int .i64 W) ∧ w'.cell? ⟨w.heap.size, 2, none⟩ = some (.int .i64 L)) (((try dsimp only); (try go_split_ands); (repeat' apply And.intro); all_goals (repeat (first | assumption | (refine cell_later hb5 ?_) | (refine hc3.cell (by omega) ?_) | (refine cell_alloc (by first | assumption | omega | (simp; omega)) ?_) | (refine cell_set (by omega) ?_) | (refine cell_drew ?_)))))
      (first
        | (go_at_call 26; ((with_reducible refine (m2lines_any S W L hC.out d _ (by first | exact Deck.k_drew D1.out | exact Deck.k_drew (Deck.k_alloc D1.out))).mono ?_); rintro e w3 ⟨oa3, on3, oc3, ss, rfl, ho3, hv3, hd3, hc3⟩; have s3 := hc3.size; (try simp only [World.size_alloc, World.size_drew] at s3); have l3 : w.heap.size < w3.heap.size := (by omega)))
        | (go_at_call 38; ((with_reducible refine (rof_any S W L hC.out (fun _ => True) oa3 on3 oc3 ss hv3 _ (by first | exact ho3.matT | exact (OMat.k_alloc ho3).matT)).mono ?_); rintro e w5 h5; obtain ⟨oa5, oc5, rfl, ho5, hb5⟩ := StRet.fix h5 (of_st hv3).len; have s5 := hb5.size; (try simp only [World.size_alloc] at s5); have l5 : w.heap.size < w5.heap.size := (by omega); (try (have x50 : Has w5 w0.heap.size [.slice none 0 0] := (by with_reducible refine Has.k_below hb5 (by first | omega | (simp; done) | (simp; omega)) (Has.k_chg hc3 (by first | omega | (simp; done) | (simp; omega)) (by first | omega | (simp; done) | (simp; omega)) (Has.drew (Has.k_new rfl)))); have x50c := x50.cell 0 _ rfl; have x50f := x50.free; have x50l := x50.lt (by simp))); (try (have x51 : Has w5 w3.heap.size [.slice none 0 0] := (by with_reducible refine Has.k_below hb5 (by first | omega | (simp; done) | (simp; omega)) (Has.k_new rfl)); have x51c := x51.cell 0 _ rfl; have x51f := x51.free; have x51l := x51.lt (by simp))); (try (have x52 := Has.new w5 [.slice none 0 0] 30; have x52c := x52.cell 0 _ rfl; have x52f := x52.free; have x52l := x52.lt (by simp))))))
    all_goals
      have hs0 := HS0.out
      have F3 := Lib.hid (show Fm (fun k => k = d) w w3 [[.int .i64 S, .int .i64 W, .int .i64 L], [.slice none 0 0]] from by first | exact F1.out.drew.chgd hc3 (fun j hj => .inl ⟨by omega, hj⟩) | exact (F1.out.more _).drew.chgd hc3 (fun j hj => .inl ⟨by omega, hj⟩))
      have F5 := Lib.hid (show Fm (fun k => k = d) w w5 [[.int .i64 S, .int .i64 W, .int .i64 L], [.slice none 0 0]] from by first | exact Fm.call hb5 F3.out | exact Fm.call hb5 (F3.out.more _))
      have D5 := Lib.hid (show Deck w5 d from by first | exact hd3.below hb5 (Nat.le_refl _) | exact (Deck.k_alloc hd3).below hb5 (Nat.le_refl _))
      have O5 := Lib.hid ho5
      have HV := Lib.hid hv3
      clear c0 c1 c2 ho5 ho3 hv3 hd3 h5
      go_wp2_with fail
      go_meet
      refine ⟨ss.flatten ++ Base, _, oa5, oc5, ofM ss, rfl, ?_, ?_, ?_, ?_, ?_, ?_, ?_, ?_⟩
      · first | omega | (simp; omega)
      · rw [List.length_append]; have := flatten_le HV.out hS4 hW3; have : Base.length = 31 := rfl; omega
      · exact fun x hx => List.mem_append_right _ hx
      · exact (of_st HV.out).mono (fun x hx => List.mem_append_left _ hx)
      · first | exact Has.k_set0 x50 | exact Has.k_set0 x51 | exact Has.new w5 [.slice oa5 S oc5] 30
      · first
          | exact OwnRow.wid _ _ _ _ _ _ (fun i hi => by have h1 := hi.1; have h2 := hi.2; (try simp only [World.size_alloc] at h1); constructor <;> omega) (OCub.k_set (fun i hi e => by have h1 := hi.1; (try simp only [World.size_alloc] at h1); omega) O5.out.bt1)
          | exact OwnRow.wid _ _ _ _ _ _ (fun i hi => by have h1 := hi.1; have h2 := hi.2; (try simp only [World.size_alloc, World.size_drew] at h1); constructor <;> omega) (OCub.k_alloc O5.out.bt1)
      · repeat (first | (with_reducible exact F5.out) | (with_reducible refine Fm.more ?_ _) | (refine Fm.far ?_ (.inr (by simp; omega)) _))
      · repeat (first | (with_reducible exact D5.out) | (with_reducible refine Deck.k_alloc ?_) | (refine Deck.k_set (by omega) ?_))
  case rest =>
    obtain ⟨U, ob, oa, oc, X, rfl, hob, hU, hB, hM, hX, hO, hF, hD⟩ := hcut
    have HU := Lib.hid (show U.length ≤ 1000 by omega)
    have HU43 := Lib.hid hU
    have HB := Lib.hid hB
    have HM0 := Lib.hid hM; have X0 := Lib.hid hX; have O0 := Lib.hid hO; have F2 := Lib.hid hF
    have HS1 := HS0
    clear HS0 hs0 hU hB hM hX hO hF c0 c1 c2 F1 D1
    go_wp2_with fail
    refine (next_any d 3 (by omega) (by omega) _ hD).mono ?_
    rintro e w1 ⟨r1, rfl, a1, b1, hd1, hb1⟩
    have F3 := Lib.hid (F2.out.chgd hb1.chg (fun j hj => .inl ⟨by omega, hj⟩))
    have X3 := Lib.hid (hb1.chg.has X0.out (X0.out.lt (by simp)) (by omega))
    have O3 := Lib.hid (OCub.loc.chg O0.out hb1.chg (fun j hj _ e => by have := hj.1; omega))
    have D3 := Lib.hid hd1
    clear hd1 hb1 F2 X0 O0 hD
    go_upto_if 14 with fail
    go_cut [5] (fun s5 wx => ∃ oa oc X, s5 = .pointer (some ⟨ob, 0, none⟩) ∧ MSt U S W X ∧ Has wx ob [.slice oa S oc] ∧ OCub wx (fun i => w.heap.size + 2 ≤ i ∧ i ≠ ob) (.slice oa S oc) X ∧ Fm (fun k => k = d) w wx [[.int .i64 S, .int .i64 W, .int .i64 L], [.slice none 0 0]] ∧ Deck wx d)
    case first =>
      by_cases hr : r1 = 0
      · subst hr
        have c0 := F3.out.h0.cell 0 _ rfl; have c1 := F3.out.h0.cell 1 _ rfl; have c2 := F3.out.h0.cell 2 _ rfl; have lt0 := F3.out.h0.lt (by simp)
        go_wp2_with fail
        refine (rtop_any S W L hC.out _).mono ?_
        rintro e w4 h4
        obtain ⟨j4a, j4c, rfl, ho4, hb4⟩ := StRet.fix h4 (topS_len S W)
        have F4 := Lib.hid (Fm.call hb4 F3.out)
        have x1 := X3.out.lt (by simp)
        have X4 := Lib.hid (X3.out.below hb4 x1)
        have D4 := Lib.hid (D3.out.below hb4 (Nat.le_refl _))
        have s5 := F3.out.size
        simp only [List.length_cons, List.length_nil] at s5
        have J4 := Lib.hid ho4
        have x0 := X4.out.cell 0 _ rfl; have x2 := X4.out.lt (by simp); have xf := X4.out.free
        clear c0 c1 c2 lt0 h4 ho4 hb4
        go_wp2_with fail
        go_meet
        exact ⟨_, _, _, rfl, top_st U S W, X4.out.set0 _, OwnRow.wid _ _ _ _ _ _ (fun i hi => by unfold Ge at hi; constructor <;> omega) (OCub.k_set (fun i hi => by unfold Ge at hi; omega) J4.out), F4.out.far (.inr (by simp; omega)) _, D4.out.other (by simp; omega) _⟩
      · have hr' : (r1 == 0) = false := by simpa using hr
        go_wp2_with fail
        all_goals
          go_meet
          exact ⟨_, _, _, rfl, HM0.out, X3.out, O3.out, F3.out, D3.out⟩
    case rest =>
      obtain ⟨oa, oc, X, rfl, hM, hX, hO, hF, hD⟩ := hcut
      have HM0 := Lib.hid hM; have X0 := Lib.hid hX; have O0 := Lib.hid hO; have F2 := Lib.hid hF
      clear hM hX hO hF X3 O3 F3 D3
      go_wp2_with fail
      refine (next_any d 8 (by omega) (by omega) _ hD).mono ?_
      rintro e w1 ⟨r2, rfl, a2, b2, hd1, hb1⟩
      have F3 := Lib.hid (F2.out.chgd hb1.chg (fun j hj => .inl ⟨by omega, hj⟩))
      have X3 := Lib.hid (hb1.chg.has X0.out (X0.out.lt (by simp)) (by omega))
      have O3 := Lib.hid (OCub.loc.chg O0.out hb1.chg (fun j hj _ e => by have := hj.1; omega))
      have D3 := Lib.hid hd1
      clear hd1 hb1 F2 X0 O0 hD
      go_wp2
      go_loopw [6] (fun i wr => ∃ q : Int, i = .int .i64 q ∧ 0 ≤ q ∧ q < 8 ∧ ∃ oa oc X, MSt U S W X ∧ Has wr ob [.slice oa S oc] ∧ OCub wr (fun i => w.heap.size + 2 ≤ i ∧ i ≠ ob) (.slice oa S oc) X ∧ Fm (fun k => k = d) w wr [[.int .i64 S, .int .i64 W, .int .i64 L], [.slice none 0 0]] ∧ Deck wr d) (fun i _ => (intOf i).toNat)
      case atStart => exact ⟨r2, rfl, a2, b2, _, _, _, HM0.out, X3.out, O3.out, F3.out, D3.out⟩
      case round =>
        obtain ⟨q, rfl, hq0, hq8, oa, oc, X, hM, hX, hO, hF, hD⟩ := hrel
        have HM := Lib.hid hM; have X0 := Lib.hid hX; have O0 := Lib.hid hO; have F2 := Lib.hid hF
        clear hM hX hO hF X3 O3 F3 D3 HM0
        by_cases hq : 0 < q
        · go_wp2_with fail
          refine (next_any d 4 (by omega) (by omega) _ hD).mono ?_
          rintro e wr ⟨r, rfl, a3, b3, hd1, hb1⟩
          have F3 := Lib.hid (F2.out.chgd hb1.chg (fun j hj => .inl ⟨by omega, hj⟩))
          have X3 := Lib.hid (hb1.chg.has X0.out (X0.out.lt (by simp)) (by omega))
          have O3 := Lib.hid (OCub.loc.chg O0.out hb1.chg (fun j hj _ e => by have := hj.1; omega))
          have D3 := Lib.hid hd1
          clear hd1 hb1 F2 X0 O0 hD
          have c0 := F3.out.h0.cell 0 _ rfl; have c1 := F3.out.h0.cell 1 _ rfl; have c2 := F3.out.h0.cell 2 _ rfl; have x0 := X3.out.cell 0 _ rfl; have x1 := X3.out.lt (by simp)
          by_cases hr0 : r = 0
          · subst hr0
            go_upto_region 10 with fail
            refine hd_start 8 (fun w' => w'.cell? ⟨w.heap.size, 0, none⟩ = some (.int .i64 S) ∧ w'.cell? ⟨w.heap.size, 1, none⟩ = some (.int .i64 W) ∧ w'.cell? ⟨w.heap.size, 2, none⟩ = some (.int .i64 L) ∧ w'.cell? ⟨ob, 0, none⟩ = some (.slice oa S oc)) (by kernel_rfl) ⟨by kernel_rfl, by kernel_rfl, by kernel_rfl, by decide⟩ ⟨c0, c1, c2, x0⟩ (fun ok => ?_)
            refine hd_take (i := 0) (v := ?_) ok rfl (by decide) (by kernel_rfl) (by kernel_rfl) (fun _ _ _ h => h) (Or.inl ⟨by rfl, ?_⟩) ?_
            rotate_left
            · (intro w hSw; (try dsimp only at hSw); (try go_split_ands); go_simp; (try (with_reducible rfl)))
            simp only [Act.put, List.setIfInBounds_toArray]
            refine hd_take (i := 1) (v := ?_) ok rfl (by decide) (by kernel_rfl) (by kernel_rfl) (fun _ _ _ h => h) (Or.inl ⟨by rfl, ?_⟩) ?_
            rotate_left
            · (intro w hSw; (try dsimp only at hSw); (try go_split_ands); go_simp; (try (with_reducible rfl)))
            simp only [Act.put]
            refine hd_take (i := 2) (v := ?_) ok rfl (by decide) (by kernel_rfl) (by kernel_rfl) (fun _ _ _ h => h) (Or.inl ⟨by rfl, ?_⟩) ?_
            rotate_left
            · (intro w hSw; (try dsimp only at hSw); (try go_split_ands); go_simp; (try (with_reducible rfl)))
            simp only [Act.put]
            refine hd_take (i := 3) (v := ?_) ok rfl (by decide) (by kernel_rfl) (by kernel_rfl) (fun _ _ _ h => h) (Or.inl ⟨by rfl, ?_⟩) ?_
            rotate_left
            · (intro w hSw; (try dsimp only at hSw); (try go_split_ands); go_simp; (try (with_reducible rfl)))
            simp only [Act.put]
            refine hd_take (i := 4) (v := ?_) ok rfl (by decide) (by kernel_rfl) (by kernel_rfl) (fun _ _ _ h => h) (Or.inl ⟨by rfl, ?_⟩) ?_
            rotate_left
            · (intro w hSw; (try dsimp only at hSw); (try go_split_ands); go_simp; (try (with_reducible rfl)))
            simp only [Act.put]
            refine hd_only (c := 5) rfl (by decide) (by kernel_rfl) (fun K hK => ?_)
            go_simp
            go_at_call 18
            refine (m2line_any d _ (Deck.k_drew D3.out)).mono ?_
            rintro e w4 ⟨x, rfl, hx4, hd4, hc4⟩
            simp only []
            refine hK _ _ (by refine ⟨?_, ?_, ?_, ?_⟩ <;> (first | exact hc4.cell (by omega) c0 | exact hc4.cell (by omega) c1 | exact hc4.cell (by omega) c2 | exact hc4.cell (by omega) x0)) ?_
            clear hK K
            (try simp only [Act.put, List.setIfInBounds_toArray, List.set_cons_zero, List.set_cons_succ])
            have c4 : Chg (fun k => k = d) wr w4 := (Chg.refl wr).drew.trans hc4 (fun _ _ h => h)
            have F4 := Lib.hid (F3.out.chgd c4 (fun j hj => .inl ⟨by omega, hj⟩))
            have X4 := Lib.hid (c4.has X3.out x1 (by omega))
            have O4 := Lib.hid (OCub.loc.chg O3.out c4 (fun j hj _ e => by have := hj.1; omega))
            have D4 := Lib.hid hd4
            have HX := Lib.hid hx4
            have HO := Lib.hid (base_ok hx4)
            clear hx4
            clear hd4 c4 hc4 c0 c1 c2 x0 x1
            have c0 := F4.out.h0.cell 0 _ rfl; have c1 := F4.out.h0.cell 1 _ rfl; have c2 := F4.out.h0.cell 2 _ rfl; have x0 := X4.out.cell 0 _ rfl; have x1 := X4.out.lt (by simp)
            refine hd_only (c := 6) rfl (by decide) (by kernel_rfl) (fun K hK => ?_)
            go_simp
            go_at_call 34
            refine (rtouch_any U HU.out S W L hC.out X HM.out (fun _ => True) oa S oc x HO.out.1 HO.out.2 (HB.out x HX.out) w4 O4.out.cubeT).mono ?_
            rintro e w5 h5
            obtain ⟨j5a, j5c, rfl, ho5, hb5⟩ := StRet.fix h5 (touch_st HM.out WP.out HO.out.1 HO.out.2 (HB.out x HX.out)).len
            simp only []
            refine hK _ _ (by refine ⟨?_, ?_, ?_, ?_⟩ <;> (first | exact cell_later hb5 c0 | exact cell_later hb5 c1 | exact cell_later hb5 c2 | exact cell_later hb5 x0)) ?_
            clear hK K
            (try simp only [Act.put, List.setIfInBounds_toArray, List.set_cons_zero, List.set_cons_succ])
            have F5 := Lib.hid (Fm.call hb5 F4.out)
            have X5 := Lib.hid (X4.out.below hb5 x1)
            have D5 := Lib.hid (D4.out.below hb5 (Nat.le_refl _))
            have J5 := Lib.hid ho5
            have O5 := Lib.hid (OCub.loc.below O4.out hb5)
            clear h5 ho5 hb5 c0 c1 c2 x0 x1
            have c0 := F5.out.h0.cell 0 _ rfl; have c1 := F5.out.h0.cell 1 _ rfl; have c2 := F5.out.h0.cell 2 _ rfl; have x0 := X5.out.cell 0 _ rfl; have x1 := X5.out.lt (by simp)
            refine hd_only (c := 7) rfl (by decide) (by kernel_rfl) (fun K hK => ?_)
            go_simp
            go_at_call 21
            refine (rjoin_any U U HU.out S W L hC.out X (touchM S W X x) HM.out (touch_st HM.out WP.out HO.out.1 HO.out.2 (HB.out x HX.out)) (fun _ => True) (fun _ => True) oa S oc j5a S j5c w5 O5.out.cubeT J5.out.cubeT).mono ?_
            rintro e w6 h6
            obtain ⟨j6a, j6c, rfl, ho6, hb6⟩ := StRet.fix h6 (join_st HM.out (touch_st HM.out WP.out HO.out.1 HO.out.2 (HB.out x HX.out))).len
            simp only []
            refine hK _ _ (by refine ⟨?_, ?_, ?_, ?_⟩ <;> (first | exact cell_later hb6 c0 | exact cell_later hb6 c1 | exact cell_later hb6 c2 | exact cell_later hb6 x0)) ?_
            clear hK K
            (try simp only [Act.put, List.setIfInBounds_toArray, List.set_cons_zero, List.set_cons_succ])
            have F6 := Lib.hid (Fm.call hb6 F5.out)
            have X6 := Lib.hid (X5.out.below hb6 x1)
            have D6 := Lib.hid (D5.out.below hb6 (Nat.le_refl _))
            have J6 := Lib.hid ho6
            have s6 := X5.out.lt (by simp)
            have s5 := F5.out.size
            simp only [List.length_cons, List.length_nil] at s5
            clear h6 ho6 hb6 c0 c1 c2 x0 x1
            have c0 := F6.out.h0.cell 0 _ rfl; have c1 := F6.out.h0.cell 1 _ rfl; have c2 := F6.out.h0.cell 2 _ rfl; have x0 := X6.out.cell 0 _ rfl; have x1 := X6.out.lt (by simp)
            have xf := X6.out.free
            refine hd_done (by kernel_rfl) ?_
            simp only [List.drop_succ_cons, List.drop_zero]
            go_wp2
            go_roundw
            case rel => exact ⟨q - 1, by go_num, by omega, by omega, _, _, _, join_st HM.out (touch_st HM.out WP.out HO.out.1 HO.out.2 (HB.out x HX.out)), X6.out.set0 _, OwnRow.wid _ _ _ _ _ _ (fun i hi => by unfold Ge at hi; constructor <;> omega) (OCub.k_set (fun i hi => by unfold Ge at hi; omega) J6.out), F6.out.far (.inr (by simp; omega)) _, D6.out.other (by simp; omega) _⟩
            case measure => simp [intOf]; omega
          · have e0 : (r == 0) = false := by simpa using hr0
            by_cases hr1 : r = 1
            · subst hr1
              go_upto_region 12 with fail
              refine hd_start 5 (fun w' => w'.cell? ⟨w.heap.size, 0, none⟩ = some (.int .i64 S) ∧ w'.cell? ⟨w.heap.size, 1, none⟩ = some (.int .i64 W) ∧ w'.cell? ⟨w.heap.size, 2, none⟩ = some (.int .i64 L) ∧ w'.cell? ⟨ob, 0, none⟩ = some (.slice oa S oc)) (by kernel_rfl) ⟨by kernel_rfl, by kernel_rfl, by kernel_rfl, by decide⟩ ⟨c0, c1, c2, x0⟩ (fun ok => ?_)
              refine hd_take (i := 0) (v := ?_) ok rfl (by decide) (by kernel_rfl) (by kernel_rfl) (fun _ _ _ h => h) (Or.inl ⟨by rfl, ?_⟩) ?_
              rotate_left
              · (intro w hSw; (try dsimp only at hSw); (try go_split_ands); go_simp; (try (with_reducible rfl)))
              simp only [Act.put, List.setIfInBounds_toArray]
              refine hd_take (i := 1) (v := ?_) ok rfl (by decide) (by kernel_rfl) (by kernel_rfl) (fun _ _ _ h => h) (Or.inl ⟨by rfl, ?_⟩) ?_
              rotate_left
              · (intro w hSw; (try dsimp only at hSw); (try go_split_ands); go_simp; (try (with_reducible rfl)))
              simp only [Act.put]
              refine hd_take (i := 2) (v := ?_) ok rfl (by decide) (by kernel_rfl) (by kernel_rfl) (fun _ _ _ h => h) (Or.inl ⟨by rfl, ?_⟩) ?_
              rotate_left
              · (intro w hSw; (try dsimp only at hSw); (try go_split_ands); go_simp; (try (with_reducible rfl)))
              simp only [Act.put]
              refine hd_only (c := 3) rfl (by decide) (by kernel_rfl) (fun K hK => ?_)
              go_simp
              go_at_call 28
              refine (m2few_any d _ (Deck.k_drew D3.out)).mono ?_
              rintro e w4 ⟨la, ln, lc, xs, rfl, hl4, hn4, hx4, hd4, hc4⟩
              simp only []
              refine hK _ _ (by refine ⟨?_, ?_, ?_, ?_⟩ <;> (first | exact hc4.cell (by omega) c0 | exact hc4.cell (by omega) c1 | exact hc4.cell (by omega) c2 | exact hc4.cell (by omega) x0)) ?_
              clear hK K
              (try simp only [Act.put, List.setIfInBounds_toArray, List.set_cons_zero, List.set_cons_succ])
              have c4 : Chg (fun k => k = d) wr w4 := (Chg.refl wr).drew.trans hc4 (fun _ _ h => h)
              have F4 := Lib.hid (F3.out.chgd c4 (fun j hj => .inl ⟨by omega, hj⟩))
              have X4 := Lib.hid (c4.has X3.out x1 (by omega))
              have O4 := Lib.hid (OCub.loc.chg O3.out c4 (fun j hj _ e => by have := hj.1; omega))
              have D4 := Lib.hid hd4
              have HX := Lib.hid hx4
              have HL := Lib.hid hl4
              have HLI := Lib.hid (show LnsOk U xs from fun x hx => ⟨(base_ok (hx4 x hx)).1, (base_ok (hx4 x hx)).2, HB.out x (hx4 x hx)⟩)
              clear hx4 hl4
              clear hd4 c4 hc4 c0 c1 c2 x0 x1
              have c0 := F4.out.h0.cell 0 _ rfl; have c1 := F4.out.h0.cell 1 _ rfl; have c2 := F4.out.h0.cell 2 _ rfl; have x0 := X4.out.cell 0 _ rfl; have x1 := X4.out.lt (by simp)
              refine hd_only (c := 4) rfl (by decide) (by kernel_rfl) (fun K hK => ?_)
              go_simp
              go_at_call 36
              refine (reither_any U HU.out S W L hC.out X HM.out (fun _ => True) (fun _ => True) oa S oc la ln lc xs HLI.out w4 O4.out.cubeT (HL.out.read (fun _ _ => trivial))).mono ?_
              rintro e w5 h5
              obtain ⟨j5a, j5c, rfl, ho5, hb5⟩ := StRet.fix h5 (either_st HM.out WP.out HLI.out).len
              simp only []
              refine hK _ _ (by refine ⟨?_, ?_, ?_, ?_⟩ <;> (first | exact cell_later hb5 c0 | exact cell_later hb5 c1 | exact cell_later hb5 c2 | exact cell_later hb5 x0)) ?_
              clear hK K
              (try simp only [Act.put, List.setIfInBounds_toArray, List.set_cons_zero, List.set_cons_succ])
              have F5 := Lib.hid (Fm.call hb5 F4.out)
              have X5 := Lib.hid (X4.out.below hb5 x1)
              have D5 := Lib.hid (D4.out.below hb5 (Nat.le_refl _))
              have J5 := Lib.hid ho5
              have s6 := X4.out.lt (by simp)
              have s5 := F4.out.size
              simp only [List.length_cons, List.length_nil] at s5
              clear h5 ho5 hb5 c0 c1 c2 x0 x1
              have c0 := F5.out.h0.cell 0 _ rfl; have c1 := F5.out.h0.cell 1 _ rfl; have c2 := F5.out.h0.cell 2 _ rfl; have x0 := X5.out.cell 0 _ rfl; have x1 := X5.out.lt (by simp)
              have xf := X5.out.free
              refine hd_done (by kernel_rfl) ?_
              simp only [List.drop_succ_cons, List.drop_zero]
              go_wp2
              go_roundw
              case rel => exact ⟨q - 1, by go_num, by omega, by omega, _, _, _, either_st HM.out WP.out HLI.out, X5.out.set0 _, OwnRow.wid _ _ _ _ _ _ (fun i hi => by unfold Ge at hi; constructor <;> omega) (OCub.k_set (fun i hi => by unfold Ge at hi; omega) J5.out), F5.out.far (.inr (by simp; omega)) _, D5.out.other (by simp; omega) _⟩
              case measure => simp [intOf]; omega
            · have e1 : (r == 1) = false := by simpa using hr1
              go_upto_region 8 with fail
              refine hd_start 5 (fun w' => w'.cell? ⟨w.heap.size, 0, none⟩ = some (.int .i64 S) ∧ w'.cell? ⟨w.heap.size, 1, none⟩ = some (.int .i64 W) ∧ w'.cell? ⟨w.heap.size, 2, none⟩ = some (.int .i64 L) ∧ w'.cell? ⟨ob, 0, none⟩ = some (.slice oa S oc)) (by kernel_rfl) ⟨by kernel_rfl, by kernel_rfl, by kernel_rfl, by decide⟩ ⟨c0, c1, c2, x0⟩ (fun ok => ?_)
              refine hd_take (i := 0) (v := ?_) ok rfl (by decide) (by kernel_rfl) (by kernel_rfl) (fun _ _ _ h => h) (Or.inl ⟨by rfl, ?_⟩) ?_
              rotate_left
              · (intro w hSw; (try dsimp only at hSw); (try go_split_ands); go_simp; (try (with_reducible rfl)))
              simp only [Act.put, List.setIfInBounds_toArray]
              refine hd_take (i := 1) (v := ?_) ok rfl (by decide) (by kernel_rfl) (by kernel_rfl) (fun _ _ _ h => h) (Or.inl ⟨by rfl, ?_⟩) ?_
              rotate_left
              · (intro w hSw; (try dsimp only at hSw); (try go_split_ands); go_simp; (try (with_reducible rfl)))
              simp only [Act.put]
              refine hd_take (i := 2) (v := ?_) ok rfl (by decide) (by kernel_rfl) (by kernel_rfl) (fun _ _ _ h => h) (Or.inl ⟨by rfl, ?_⟩) ?_
              rotate_left
              · (intro w hSw; (try dsimp only at hSw); (try go_split_ands); go_simp; (try (with_reducible rfl)))
              simp only [Act.put]
              refine hd_only (c := 3) rfl (by decide) (by kernel_rfl) (fun K hK => ?_)
              go_simp
              go_at_call 18
              refine (m2line_any d _ (Deck.k_drew D3.out)).mono ?_
              rintro e w4 ⟨x, rfl, hx4, hd4, hc4⟩
              simp only []
              refine hK _ _ (by refine ⟨?_, ?_, ?_, ?_⟩ <;> (first | exact hc4.cell (by omega) c0 | exact hc4.cell (by omega) c1 | exact hc4.cell (by omega) c2 | exact hc4.cell (by omega) x0)) ?_
              clear hK K
              (try simp only [Act.put, List.setIfInBounds_toArray, List.set_cons_zero, List.set_cons_succ])
              have c4 : Chg (fun k => k = d) wr w4 := (Chg.refl wr).drew.trans hc4 (fun _ _ h => h)
              have F4 := Lib.hid (F3.out.chgd c4 (fun j hj => .inl ⟨by omega, hj⟩))
              have X4 := Lib.hid (c4.has X3.out x1 (by omega))
              have O4 := Lib.hid (OCub.loc.chg O3.out c4 (fun j hj _ e => by have := hj.1; omega))
              have D4 := Lib.hid hd4
              have HX := Lib.hid hx4
              have HO := Lib.hid (base_ok hx4)
              clear hx4
              clear hd4 c4 hc4 c0 c1 c2 x0 x1
              have c0 := F4.out.h0.cell 0 _ rfl; have c1 := F4.out.h0.cell 1 _ rfl; have c2 := F4.out.h0.cell 2 _ rfl; have x0 := X4.out.cell 0 _ rfl; have x1 := X4.out.lt (by simp)
              refine hd_only (c := 4) rfl (by decide) (by kernel_rfl) (fun K hK => ?_)
              go_simp
              go_at_call 34
              refine (rtouch_any U HU.out S W L hC.out X HM.out (fun _ => True) oa S oc x HO.out.1 HO.out.2 (HB.out x HX.out) w4 O4.out.cubeT).mono ?_
              rintro e w5 h5
              obtain ⟨j5a, j5c, rfl, ho5, hb5⟩ := StRet.fix h5 (touch_st HM.out WP.out HO.out.1 HO.out.2 (HB.out x HX.out)).len
              simp only []
              refine hK _ _ (by refine ⟨?_, ?_, ?_, ?_⟩ <;> (first | exact cell_later hb5 c0 | exact cell_later hb5 c1 | exact cell_later hb5 c2 | exact cell_later hb5 x0)) ?_
              clear hK K
              (try simp only [Act.put, List.setIfInBounds_toArray, List.set_cons_zero, List.set_cons_succ])
              have F5 := Lib.hid (Fm.call hb5 F4.out)
              have X5 := Lib.hid (X4.out.below hb5 x1)
              have D5 := Lib.hid (D4.out.below hb5 (Nat.le_refl _))
              have J5 := Lib.hid ho5
              have s6 := X4.out.lt (by simp)
              have s5 := F4.out.size
              simp only [List.length_cons, List.length_nil] at s5
              clear h5 ho5 hb5 c0 c1 c2 x0 x1
              have c0 := F5.out.h0.cell 0 _ rfl; have c1 := F5.out.h0.cell 1 _ rfl; have c2 := F5.out.h0.cell 2 _ rfl; have x0 := X5.out.cell 0 _ rfl; have x1 := X5.out.lt (by simp)
              have xf := X5.out.free
              refine hd_done (by kernel_rfl) ?_
              simp only [List.drop_succ_cons, List.drop_zero]
              go_wp2
              go_roundw
              case rel => exact ⟨q - 1, by go_num, by omega, by omega, _, _, _, touch_st HM.out WP.out HO.out.1 HO.out.2 (HB.out x HX.out), X5.out.set0 _, OwnRow.wid _ _ _ _ _ _ (fun i hi => by unfold Ge at hi; constructor <;> omega) (OCub.k_set (fun i hi => by unfold Ge at hi; omega) J5.out), F5.out.far (.inr (by simp; omega)) _, D5.out.other (by simp; omega) _⟩
              case measure => simp [intOf]; omega
        · have hq' : q = 0 := by omega
          subst hq'
          have e0 := F2.out.h1.cell 0 _ rfl; have ef := F2.out.h1.free; have lt1 := F2.out.h1.lt (by simp)
          have x0 := X0.out.cell 0 _ rfl; have x1 := X0.out.lt (by simp)
          go_wp2
          refine bodyPost_ret (v := .agg #[.slice oa S oc]) (by simp [results, Try.results11, go_sem, e0]) rfl ⟨U, oa, oc, X, rfl, ?_, HM.out, HU43.out, hD.other (by simp; omega) _, (F2.out.set 1 0 [.slice none 0 0] rfl (by simp) _).chg⟩
          exact OwnRow.wid _ _ _ _ _ _ (fun i hi => by have := hi.1; unfold Ge; omega) (OCub.k_set (fun i hi => by have := hi.1; omega) O0.out)
end Go.Proofs.Ytikhbijobkkhgaa
