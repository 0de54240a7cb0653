/-
  timeboundmake: Few, Cache, lines, Lines: right caches and contents, whatever the deck gives.
-/
import Derived.Test.YtlpelpjcbclemaaCacheK
import Derived.Test.YtlpelpjcbclemaaDeck
namespace Go.Proofs.Ytlpelpjcbclemaa
open Go.RowKit

theorem But.chg {d : Nat} {w w' : World} (h : But d w w') : Chg (fun k => k = d) w w' := ⟨h.os, h.tape, h.output, h.size, fun k hk hm => h.block k hk hm⟩
theorem Chg.but {d : Nat} {w w' : World} (h : Chg (fun k => k = d) w w') : But d w w' := ⟨h.os, h.tape, h.output, h.size, fun k hk hm => h.block k hk hm⟩
theorem Deck.chg {M : Nat → Prop} {w w' : World} {d : Nat} (h : Deck w d) (k : Chg M w w') (hM : ∀ j, j < w.heap.size → j ≤ d → ¬ M j) : Deck w' d := by
  have hd := h.lt
  obtain ⟨a, len, cap, zs, i, h1, h2, h3, h4⟩ := h
  refine ⟨a, len, cap, zs, i, ?_, h2, k.has h3 hd (hM d hd (Nat.le_refl _)), h4⟩
  rcases h1 with h1 | ⟨x, rfl, k1, k2, k3, k4, k5⟩
  · exact .inl h1
  · refine .inr ⟨x, rfl, k1, k2, k3, fun j hj => ?_, k5⟩
    have hx := h2 x rfl (by omega)
    exact (World.cell?_of_block (w := w) (a := x.add j) (by rw [add_block]; exact k.block _ (by omega) (hM _ (by omega) (by omega)))).trans (k4 j hj)

def CacheTaken (d : Nat) (w : World) (e : Ending) (w' : World) : Prop := ∃ S W L : Nat, e = .returned (CV S W L) ∧ S ≤ 4 ∧ 1 ≤ W ∧ W ≤ 3 ∧ 1 ≤ L ∧ L ≤ 4 ∧ Deck w' d ∧ Chg (fun k => k = d) w w'
set_option maxHeartbeats 1000000 in
theorem mcache_any (d : Nat) (w : World) (hd : Deck w d) :
    Calls Try.prog 37 #[.pointer (some ⟨d, 0, none⟩)] w (CacheTaken d w) := by
  have hlt := hd.lt
  have HD := Lib.hid hd
  have F0 := Lib.hid (Fm.new (Fm.start (fun k => k = d) w) rfl [.int .i64 0, .int .i64 0, .int .i64 0] 26)
  have D0 := Lib.hid (HD.out.below ((Below.refl _ _).alloc (Nat.le_refl _) (.cells [Value.int .i64 0, .int .i64 0, .int .i64 0].toArray 26)) (Nat.le_refl _))
  clear hd
  go_enter Try.func37, Try.ntmps37
  go_wp2_with fail
  refine (next_any d 5 (by omega) (by omega) _ D0.out).mono ?_
  rintro e w1 ⟨r1, rfl, a1, b1, hd1, hb1⟩
  have F1 := Lib.hid (F0.out.chgd hb1.chg (fun j hj => .inl ⟨by omega, hj⟩))
  go_wp2_with fail
  refine (next_any d 3 (by omega) (by omega) _ hd1).mono ?_
  rintro e w2 ⟨r2, rfl, a2, b2, hd2, hb2⟩
  have F2 := Lib.hid (F1.out.chgd hb2.chg (fun j hj => .inl ⟨by omega, hj⟩))
  go_wp2_with fail
  refine (next_any d 4 (by omega) (by omega) _ hd2).mono ?_
  rintro e w3 ⟨r3, rfl, a3, b3, hd3, hb3⟩
  have F3 := Lib.hid (F2.out.chgd hb3.chg (fun j hj => .inl ⟨by omega, hj⟩))
  have D3 := Lib.hid hd3
  clear hd1 hd2 hd3 hb1 hb2 hb3
  have t0 := F3.out.h0
  have c0 := t0.cell 0 _ rfl; have c1 := t0.cell 1 _ rfl; have c2 := t0.cell 2 _ rfl; have cf := t0.free; have lt0 := t0.lt (by simp)
  go_wp2
  obtain ⟨S, rfl⟩ := Int.eq_ofNat_of_zero_le a1
  obtain ⟨W, rfl⟩ := Int.eq_ofNat_of_zero_le a2
  obtain ⟨L, rfl⟩ := Int.eq_ofNat_of_zero_le a3
  have F4 := (((F3.out.set 0 0 _ rfl (by simp) (.int .i64 S)).set 0 1 _ rfl (by simp) (.int .i64 (1 + (W : Int)))).set 0 2 _ rfl (by simp) (.int .i64 (1 + (L : Int))))
  refine bodyPost_ret (v := .agg #[.int .i64 S, .int .i64 (1 + (W : Int)), .int .i64 (1 + (L : Int))]) (by simp [results, Try.results37, go_sem, c0, c1, c2]) rfl ⟨S, 1 + W, 1 + L, by simp, by omega, by omega, by omega, by omega, by omega, ?_, F4.chg⟩
  exact ((D3.out.other (by simp; omega) _).other (by simp; omega) _).other (by simp; omega) _

def LinesTaken (S W : Nat) (d : Nat) (w : World) (e : Ending) (w' : World) : Prop := ∃ a n cap ss, e = .returned (.agg #[.slice a n cap]) ∧ OMat w' (Ge w.heap.size) (.slice a n cap) ss ∧ ValidP S W ss ∧ Deck w' d ∧ Chg (fun k => k = d) w w'
set_option maxHeartbeats 2000000 in
theorem mlines_any (S W L : Nat) (hc : COk S W L) (d : Nat) (w : World) (hd : Deck w d) :
    Calls Try.prog 70 #[.pointer (some ⟨d, 0, none⟩), CV S W L] w (LinesTaken S W d w) := by
  have hlt := hd.lt
  have HD := Lib.hid hd
  have hC := Lib.hid hc
  obtain ⟨g1, g2, g3, g4, g5, g6⟩ := hc
  have F0 := Lib.hid (Fm.new (Fm.new (Fm.start Non w) rfl [.int .i64 S, .int .i64 W, .int .i64 L] 26) (by simp) [.slice none 0 0] 44)
  clear hd
  go_enter Try.func70, Try.ntmps70
  go_wp2_with fail
  refine (rempty_any S W L hC.out _).mono ?_
  rintro e w1 ⟨oa, on, oc, rfl, ho1, hb1⟩
  have F1 := Lib.hid ((Fm.call hb1 F0.out).more (.cells #[.slice oa on oc] 44))
  have hs1 := (Fm.call hb1 F0.out).size
  simp only [List.length_append, List.length_cons, List.length_nil, Nat.zero_add] at hs1
  have O1 := Lib.hid (ho1.ge (B' := w.heap.size + 2) (by simp)).bt
  have O2 := Lib.hid (OMat.loc.chg (M := Non) O1.out ((Chg.refl w1).alloc (.cells #[.slice oa on oc] 44)) (fun _ _ _ h => h))
  have X1 := Lib.hid (Has.new w1 [.slice oa on oc] 44)
  have D1 := Lib.hid (HD.out.chg F1.out.chg (fun j hj hjd e => e))
  go_wp2_with fail
  refine (next_any d 12 (by omega) (by omega) _ D1.out).mono ?_
  rintro e w2 ⟨r, rfl, a1, b1, hd2, hb2⟩
  have F2 := Lib.hid ((F1.out.non (N := fun k => k = d)).chgd hb2.chg (fun j hj => .inl ⟨by omega, hj⟩))
  have X2 := Lib.hid (hb2.has X1.out (by simp) (by omega))
  have O3 := Lib.hid (OMat.loc.chg O2.out hb2.chg (fun j hj _ e => by have := hj.1; omega))
  have D2 := Lib.hid hd2
  clear ho1 hb1 hd2 hb2
  go_wp2
  go_loopw [6] (fun i wr => ∃ (r : Int) (ss : List (List Int)), i = .int .i64 r ∧ 0 ≤ r ∧ r < 12 ∧ Fm (fun k => k = d) w wr [[.int .i64 S, .int .i64 W, .int .i64 L], [.slice none 0 0]] ∧ Has wr w1.heap.size [.slice oa on oc] ∧ OMat wr (Bt (w.heap.size + 2) w1.heap.size) (.slice oa on oc) ss ∧ ValidP S W ss ∧ Deck wr d) (fun i _ => (intOf i).toNat)
  case atStart => exact ⟨r, _, rfl, a1, b1, F2.out, X2.out, O3.out, valid_empty S W, D2.out⟩
  case round =>
    obtain ⟨q, ss, rfl, q0, q1, f3, x3, o3, hv, hd3⟩ := hrel
    have t0 := f3.h0
    have c0 := t0.cell 0 _ rfl; have c1 := t0.cell 1 _ rfl; have c2 := t0.cell 2 _ rfl; have lt0 := t0.lt (by simp)
    have y0 := x3.cell 0 _ rfl; have ly := x3.lt (by simp)
    by_cases hgo : 0 < q ∧ 1 ≤ S
    · obtain ⟨hq, hS⟩ := hgo
      have F3 := Lib.hid f3; have X3 := Lib.hid x3; have O4 := Lib.hid o3; have HV := Lib.hid hv; have D3 := Lib.hid (hd3.chg (M := Non) ((Chg.refl wr).drew) (fun _ _ _ h => h))
      clear f3 x3 o3 hv hd3 t0
      go_wp2
      go_region_held3 (fun w' => w'.cell? ⟨w1.heap.size, 0, none⟩ = some (.slice oa on oc) ∧ w'.cell? ⟨w.heap.size, 0, none⟩ = some (.int .i64 S) ∧ w'.cell? ⟨w.heap.size, 1, none⟩ = some (.int .i64 W) ∧ w'.cell? ⟨w.heap.size, 2, none⟩ = some (.int .i64 L)) (((try dsimp only); (try go_split_ands); (repeat' apply And.intro); all_goals (first | assumption | (refine hb4.cell (by omega) ?_; assumption) | (refine hc5.cell (fun h => by have := h.1; have := h.2; omega) ?_; assumption) | go_cell | go_keep)))
        (first
          | (go_at_call 12; refine (next_any d 120 (by omega) (by omega) _ (by exact D3.out)).mono ?_; rintro e w4 ⟨z, rfl, z0, z1, hd4, hb4'⟩; have hb4 := hb4'.chg)
          | (go_at_call 26; refine (use_any S W L hC.out hS (Bt (w.heap.size + 2) w1.heap.size) oa on oc ss _ (by exact OMat.loc.chg O4.out ((Chg.refl wr).drew.trans hb4 (fun _ _ h => h)) (fun j hj _ e => by have := hj.1; omega)) z z0 (by omega) HV.out.wide (valid_once HV.out hS (Int.ediv_nonneg z0 (by omega)))).mono ?_; rintro e w5 ⟨rfl, ho5, hc5⟩))
      have c4 : Chg (fun k => k = d) wr w4 := (Chg.refl wr).drew.trans hb4 (fun _ _ h => h)
      have F5 := Lib.hid ((F3.out.chgd c4 (fun j hj => .inl ⟨by omega, hj⟩)).chgd hc5 (fun j hj => .inr (by have := hj.1; simp; omega)))
      have X5 := Lib.hid (hc5.has (c4.has X3.out ly (by omega)) (Nat.lt_of_lt_of_le ly c4.size) (fun h => by have := h.2; omega))
      have D5 := Lib.hid (hd4.chg hc5 (fun j hj hjd e => by have := e.1; omega))
      have O5 := Lib.hid ho5
      have HV' := Lib.hid (valid_acc HV.out hS (by omega) (m := z / (L : Int)) (Int.ediv_nonneg z0 (by omega)) (Int.le_trans (Int.ediv_le_self _ z0) (by omega)))
      clear c4 hc5 hd4 ho5 hb4 hb4' c0 c1 c2 lt0 y0 ly
      go_wp2
      go_roundw
      case rel => exact ⟨q - 1, _, by go_num, by omega, by omega, F5.out, X5.out, O5.out, HV'.out, D5.out⟩
      case measure => simp [intOf]; omega
    · by_cases hq0 : q = 0
      · subst hq0
        have F3 := Lib.hid f3; have O4 := Lib.hid o3; have HV := Lib.hid hv; have D3 := Lib.hid hd3
        have t1 := f3.h1
        have e0 := t1.cell 0 _ rfl; have ef := t1.free; have lt1 := t1.lt (by simp)
        clear f3 x3 o3 hv hd3 t0 t1
        go_wp2
        refine bodyPost_ret (v := .agg #[.slice oa on oc]) (by simp [results, Try.results70, go_sem, e0]) rfl ⟨oa, on, oc, ss, rfl, ?_, HV.out, D3.out.other (by simp; omega) _, (F3.out.set 1 0 [.slice none 0 0] rfl (by simp) _).chg⟩
        exact (OMat.loc.chg (M := fun j => j = w.heap.size + 1) O4.out (Chg.setCell (M := fun j => j = w.heap.size + 1) (Chg.refl _) (fun _ => rfl) _) (fun j hj _ e => by have := hj.1; omega)).of_bt (by omega)
      · have hS0 : S = 0 := by omega
        subst hS0
        have hqp : 0 < q := by omega
        have F3 := Lib.hid f3; have O4 := Lib.hid o3; have HV := Lib.hid hv; have D3 := Lib.hid hd3
        have t1 := f3.h1
        have e0 := t1.cell 0 _ rfl; have ef := t1.free; have lt1 := t1.lt (by simp)
        clear f3 x3 o3 hv hd3 t0 t1
        go_wp2
        refine bodyPost_ret (v := .agg #[.slice oa on oc]) (by simp [results, Try.results70, go_sem, e0]) rfl ⟨oa, on, oc, ss, rfl, ?_, HV.out, D3.out.other (by simp; omega) _, (F3.out.set 1 0 [.slice none 0 0] rfl (by simp) _).chg⟩
        exact (OMat.loc.chg (M := fun j => j = w.heap.size + 1) O4.out (Chg.setCell (M := fun j => j = w.heap.size + 1) (Chg.refl _) (fun _ => rfl) _) (fun j hj _ e => by have := hj.1; omega)).of_bt (by omega)

theorem mlines2_any (S W L : Nat) (hc : COk S W L) (d : Nat) (w : World) (hd : Deck w d) :
    Calls Try.prog 49 #[.pointer (some ⟨d, 0, none⟩), CV S W L] w (LinesTaken S W d w) := by
  have hlt := hd.lt
  have HD := Lib.hid hd
  have hC := Lib.hid hc
  clear hc hd
  have F0 := Lib.hid (Fm.new (Fm.new (Fm.start Non w) rfl [.int .i64 S, .int .i64 W, .int .i64 L] 26) (by simp) [.slice none 0 0] 44)
  have D0 := Lib.hid (HD.out.chg F0.out.chg (fun _ _ _ h => h))
  go_enter Try.func49, Try.ntmps49
  go_wp2_with fail
  refine (mlines_any S W L hC.out d _ D0.out).mono ?_
  rintro e w1 ⟨oa, on, oc, ss, rfl, ho1, hv1, hd1, hb1⟩
  have F1 := Lib.hid ((F0.out.non (N := fun k => k = d)).chgd hb1 (fun j hj => .inl ⟨by omega, hj⟩))
  have O1 := Lib.hid (ho1.ge (B' := w.heap.size + 2) (by simp)).bt
  have HV := Lib.hid hv1; have D1 := Lib.hid hd1
  have t1 := F1.out.h1
  have e0 := t1.cell 0 _ rfl; have ef := t1.free; have lt1 := t1.lt (by simp)
  clear ho1 hv1 hd1 hb1 t1
  go_wp2
  refine bodyPost_ret (v := .agg #[.slice oa on oc]) (by simp [results, Try.results49, go_sem, e0]) rfl ⟨oa, on, oc, ss, rfl, ?_, HV.out, D1.out.other (by simp; omega) _, (F1.out.set 1 0 [.slice none 0 0] rfl (by simp) _).chg⟩
  exact (OMat.loc.chg (M := fun j => j = w.heap.size + 1) O1.out (Chg.setCell (M := fun j => j = w.heap.size + 1) (Chg.refl _) (fun _ => rfl) _) (fun j hj _ e => by have := hj.1; omega)).of_bt (by omega)
end Go.Proofs.Ytlpelpjcbclemaa
