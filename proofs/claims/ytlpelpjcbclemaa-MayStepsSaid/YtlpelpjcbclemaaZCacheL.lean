/-
  timeboundmake: Few, Cache, lines, Lines: right caches and contents, whatever the deck gives.
  A cell that is kept by a store elsewhere, or by a new block: small laws.
  What is kept through new blocks, stores elsewhere and calls: small laws.
-/
import Derived.Test.YtlpelpjcbclemaaZCacheK
import Derived.Test.YtlpelpjcbclemaaMem
namespace Go.Proofs.Ytlpelpjcbclemaa
open Go.RowKit

theorem But.chg {d : Nat} {w w' : World} (h : But d w w') : Chg (fun k => k = d) w w' := ⟨h.os, h.tape, h.output, h.size, fun k hk hm => h.block k hk hm⟩
theorem Chg.but {d : Nat} {w w' : World} (h : Chg (fun k => k = d) w w') : But d w w' := ⟨h.os, h.tape, h.output, h.size, fun k hk hm => h.block k hk hm⟩
theorem Deck.chg {M : Nat → Prop} {w w' : World} {d : Nat} (h : Deck w d) (k : Chg M w w') (hM : ∀ j, j < w.heap.size → j ≤ d → ¬ M j) : Deck w' d := by
  have hd := h.lt
  obtain ⟨a, len, cap, zs, i, h1, h2, h3, h4⟩ := h
  refine ⟨a, len, cap, zs, i, ?_, h2, k.has h3 hd (hM d hd (Nat.le_refl _)), h4⟩
  rcases h1 with h1 | ⟨x, rfl, k1, k2, k3, k4, k5⟩
  · exact .inl h1
  · refine .inr ⟨x, rfl, k1, k2, k3, fun j hj => ?_, k5⟩
    have hx := h2 x rfl (by omega)
    exact (World.cell?_of_block (w := w) (a := x.add j) (by rw [add_block]; exact k.block _ (by omega) (hM _ (by omega) (by omega)))).trans (k4 j hj)

def CacheTaken (d : Nat) (w : World) (e : Ending) (w' : World) : Prop := ∃ S W L : Nat, e = .returned (CV S W L) ∧ S ≤ 4 ∧ 1 ≤ W ∧ W ≤ 3 ∧ 1 ≤ L ∧ L ≤ 4 ∧ Deck w' d ∧ Chg (fun k => k = d) w w'
set_option maxHeartbeats 1000000 in
theorem mcache_any (d : Nat) (w : World) (hd : Deck w d) :
    Calls Try.prog 37 #[.pointer (some ⟨d, 0, none⟩)] w (CacheTaken d w) := by
  have hlt := hd.lt
  have HD := Lib.hid hd
  have F0 := Lib.hid (Fm.new (Fm.start (fun k => k = d) w) rfl [.int .i64 0, .int .i64 0, .int .i64 0] 26)
  have D0 := Lib.hid (HD.out.below ((Below.refl _ _).alloc (Nat.le_refl _) (.cells [Value.int .i64 0, .int .i64 0, .int .i64 0].toArray 26)) (Nat.le_refl _))
  clear hd
  go_enter Try.func37, Try.ntmps37
  go_wp2_with fail
  refine (next_any d 5 (by omega) (by omega) _ D0.out).mono ?_
  rintro e w1 ⟨r1, rfl, a1, b1, hd1, hb1⟩
  have F1 := Lib.hid (F0.out.chgd hb1.chg (fun j hj => .inl ⟨by omega, hj⟩))
  go_wp2_with fail
  refine (next_any d 3 (by omega) (by omega) _ hd1).mono ?_
  rintro e w2 ⟨r2, rfl, a2, b2, hd2, hb2⟩
  have F2 := Lib.hid (F1.out.chgd hb2.chg (fun j hj => .inl ⟨by omega, hj⟩))
  go_wp2_with fail
  refine (next_any d 4 (by omega) (by omega) _ hd2).mono ?_
  rintro e w3 ⟨r3, rfl, a3, b3, hd3, hb3⟩
  have F3 := Lib.hid (F2.out.chgd hb3.chg (fun j hj => .inl ⟨by omega, hj⟩))
  have D3 := Lib.hid hd3
  clear hd1 hd2 hd3 hb1 hb2 hb3
  have t0 := F3.out.h0
  have c0 := t0.cell 0 _ rfl; have c1 := t0.cell 1 _ rfl; have c2 := t0.cell 2 _ rfl; have cf := t0.free; have lt0 := t0.lt (by simp)
  go_wp2
  obtain ⟨S, rfl⟩ := Int.eq_ofNat_of_zero_le a1
  obtain ⟨W, rfl⟩ := Int.eq_ofNat_of_zero_le a2
  obtain ⟨L, rfl⟩ := Int.eq_ofNat_of_zero_le a3
  have F4 := (((F3.out.set 0 0 _ rfl (by simp) (.int .i64 S)).set 0 1 _ rfl (by simp) (.int .i64 (1 + (W : Int)))).set 0 2 _ rfl (by simp) (.int .i64 (1 + (L : Int))))
  refine bodyPost_ret (v := .agg #[.int .i64 S, .int .i64 (1 + (W : Int)), .int .i64 (1 + (L : Int))]) (by simp [results, Try.results37, go_sem, c0, c1, c2]) rfl ⟨S, 1 + W, 1 + L, by simp, by omega, by omega, by omega, by omega, by omega, ?_, F4.chg⟩
  exact ((D3.out.other (by simp; omega) _).other (by simp; omega) _).other (by simp; omega) _

def LinesTaken (S W : Nat) (d : Nat) (w : World) (e : Ending) (w' : World) : Prop := ∃ a n cap ss, e = .returned (.agg #[.slice a n cap]) ∧ OMat w' (Ge w.heap.size) (.slice a n cap) ss ∧ ValidP S W ss ∧ Deck w' d ∧ Chg (fun k => k = d) w w'
set_option maxHeartbeats 2000000 in
theorem mlines_any (S W L : Nat) (hc : COk S W L) (d : Nat) (w : World) (hd : Deck w d) :
    Calls Try.prog 70 #[.pointer (some ⟨d, 0, none⟩), CV S W L] w (LinesTaken S W d w) := by
  have hlt := hd.lt
  have HD := Lib.hid hd
  have hC := Lib.hid hc
  obtain ⟨g1, g2, g3, g4, g5, g6⟩ := hc
  have F0 := Lib.hid (Fm.new (Fm.new (Fm.start Non w) rfl [.int .i64 S, .int .i64 W, .int .i64 L] 26) (by simp) [.slice none 0 0] 44)
  clear hd
  go_enter Try.func70, Try.ntmps70
  go_wp2_with fail
  refine (rempty_any S W L hC.out _).mono ?_
  rintro e w1 ⟨oa, on, oc, rfl, ho1, hb1⟩
  have F1 := Lib.hid ((Fm.call hb1 F0.out).more (.cells #[.slice oa on oc] 44))
  have hs1 := (Fm.call hb1 F0.out).size
  simp only [List.length_append, List.length_cons, List.length_nil, Nat.zero_add] at hs1
  have O1 := Lib.hid (ho1.ge (B' := w.heap.size + 2) (by simp)).bt
  have O2 := Lib.hid (OMat.loc.chg (M := Non) O1.out ((Chg.refl w1).alloc (.cells #[.slice oa on oc] 44)) (fun _ _ _ h => h))
  have X1 := Lib.hid (Has.new w1 [.slice oa on oc] 44)
  have D1 := Lib.hid (HD.out.chg F1.out.chg (fun j hj hjd e => e))
  go_wp2_with fail
  refine (next_any d 12 (by omega) (by omega) _ D1.out).mono ?_
  rintro e w2 ⟨r, rfl, a1, b1, hd2, hb2⟩
  have F2 := Lib.hid ((F1.out.non (N := fun k => k = d)).chgd hb2.chg (fun j hj => .inl ⟨by omega, hj⟩))
  have X2 := Lib.hid (hb2.has X1.out (by simp) (by omega))
  have O3 := Lib.hid (OMat.loc.chg O2.out hb2.chg (fun j hj _ e => by have := hj.1; omega))
  have D2 := Lib.hid hd2
  clear ho1 hb1 hd2 hb2
  go_wp2
  go_loopw [6] (fun i wr => ∃ (r : Int) (ss : List (List Int)), i = .int .i64 r ∧ 0 ≤ r ∧ r < 12 ∧ Fm (fun k => k = d) w wr [[.int .i64 S, .int .i64 W, .int .i64 L], [.slice none 0 0]] ∧ Has wr w1.heap.size [.slice oa on oc] ∧ OMat wr (Bt (w.heap.size + 2) w1.heap.size) (.slice oa on oc) ss ∧ ValidP S W ss ∧ Deck wr d) (fun i _ => (intOf i).toNat)
  case atStart => exact ⟨r, _, rfl, a1, b1, F2.out, X2.out, O3.out, valid_empty S W, D2.out⟩
  case round =>
    obtain ⟨q, ss, rfl, q0, q1, f3, x3, o3, hv, hd3⟩ := hrel
    have t0 := f3.h0
    have c0 := t0.cell 0 _ rfl; have c1 := t0.cell 1 _ rfl; have c2 := t0.cell 2 _ rfl; have lt0 := t0.lt (by simp)
    have y0 := x3.cell 0 _ rfl; have ly := x3.lt (by simp)
    by_cases hgo : 0 < q ∧ 1 ≤ S
    · obtain ⟨hq, hS⟩ := hgo
      have F3 := Lib.hid f3; have X3 := Lib.hid x3; have O4 := Lib.hid o3; have HV := Lib.hid hv; have D3 := Lib.hid (hd3.chg (M := Non) ((Chg.refl wr).drew) (fun _ _ _ h => h))
      clear f3 x3 o3 hv hd3 t0
      go_wp2
      go_region_held3 (fun w' => w'.cell? ⟨w1.heap.size, 0, none⟩ = some (.slice oa on oc) ∧ w'.cell? ⟨w.heap.size, 0, none⟩ = some (.int .i64 S) ∧ w'.cell? ⟨w.heap.size, 1, none⟩ = some (.int .i64 W) ∧ w'.cell? ⟨w.heap.size, 2, none⟩ = some (.int .i64 L)) (((try dsimp only); (try go_split_ands); (repeat' apply And.intro); all_goals (first | assumption | (refine hb4.cell (by omega) ?_; assumption) | (refine hc5.cell (fun h => by have := h.1; have := h.2; omega) ?_; assumption) | go_cell | go_keep)))
        (first
          | (go_at_call 12; refine (next_any d 120 (by omega) (by omega) _ (by exact D3.out)).mono ?_; rintro e w4 ⟨z, rfl, z0, z1, hd4, hb4'⟩; have hb4 := hb4'.chg)
          | (go_at_call 26; refine (use_any S W L hC.out hS (Bt (w.heap.size + 2) w1.heap.size) oa on oc ss _ (by exact OMat.loc.chg O4.out ((Chg.refl wr).drew.trans hb4 (fun _ _ h => h)) (fun j hj _ e => by have := hj.1; omega)) z z0 (by omega) HV.out.wide (valid_once HV.out hS (Int.ediv_nonneg z0 (by omega)))).mono ?_; rintro e w5 ⟨rfl, ho5, hc5⟩))
      have c4 : Chg (fun k => k = d) wr w4 := (Chg.refl wr).drew.trans hb4 (fun _ _ h => h)
      have F5 := Lib.hid ((F3.out.chgd c4 (fun j hj => .inl ⟨by omega, hj⟩)).chgd hc5 (fun j hj => .inr (by have := hj.1; simp; omega)))
      have X5 := Lib.hid (hc5.has (c4.has X3.out ly (by omega)) (Nat.lt_of_lt_of_le ly c4.size) (fun h => by have := h.2; omega))
      have D5 := Lib.hid (hd4.chg hc5 (fun j hj hjd e => by have := e.1; omega))
      have O5 := Lib.hid ho5
      have HV' := Lib.hid (valid_acc HV.out hS (by omega) (m := z / (L : Int)) (Int.ediv_nonneg z0 (by omega)) (Int.le_trans (Int.ediv_le_self _ z0) (by omega)))
      clear c4 hc5 hd4 ho5 hb4 hb4' c0 c1 c2 lt0 y0 ly
      go_wp2
      go_roundw
      case rel => exact ⟨q - 1, _, by go_num, by omega, by omega, F5.out, X5.out, O5.out, HV'.out, D5.out⟩
      case measure => simp [intOf]; omega
    · by_cases hq0 : q = 0
      · subst hq0
        have F3 := Lib.hid f3; have O4 := Lib.hid o3; have HV := Lib.hid hv; have D3 := Lib.hid hd3
        have t1 := f3.h1
        have e0 := t1.cell 0 _ rfl; have ef := t1.free; have lt1 := t1.lt (by simp)
        clear f3 x3 o3 hv hd3 t0 t1
        go_wp2
        refine bodyPost_ret (v := .agg #[.slice oa on oc]) (by simp [results, Try.results70, go_sem, e0]) rfl ⟨oa, on, oc, ss, rfl, ?_, HV.out, D3.out.other (by simp; omega) _, (F3.out.set 1 0 [.slice none 0 0] rfl (by simp) _).chg⟩
        exact (OMat.loc.chg (M := fun j => j = w.heap.size + 1) O4.out (Chg.setCell (M := fun j => j = w.heap.size + 1) (Chg.refl _) (fun _ => rfl) _) (fun j hj _ e => by have := hj.1; omega)).of_bt (by omega)
      · have hS0 : S = 0 := by omega
        subst hS0
        have hqp : 0 < q := by omega
        have F3 := Lib.hid f3; have O4 := Lib.hid o3; have HV := Lib.hid hv; have D3 := Lib.hid hd3
        have t1 := f3.h1
        have e0 := t1.cell 0 _ rfl; have ef := t1.free; have lt1 := t1.lt (by simp)
        clear f3 x3 o3 hv hd3 t0 t1
        go_wp2
        refine bodyPost_ret (v := .agg #[.slice oa on oc]) (by simp [results, Try.results70, go_sem, e0]) rfl ⟨oa, on, oc, ss, rfl, ?_, HV.out, D3.out.other (by simp; omega) _, (F3.out.set 1 0 [.slice none 0 0] rfl (by simp) _).chg⟩
        exact (OMat.loc.chg (M := fun j => j = w.heap.size + 1) O4.out (Chg.setCell (M := fun j => j = w.heap.size + 1) (Chg.refl _) (fun _ => rfl) _) (fun j hj _ e => by have := hj.1; omega)).of_bt (by omega)

theorem mlines2_any (S W L : Nat) (hc : COk S W L) (d : Nat) (w : World) (hd : Deck w d) :
    Calls Try.prog 49 #[.pointer (some ⟨d, 0, none⟩), CV S W L] w (LinesTaken S W d w) := by
  have hlt := hd.lt
  have HD := Lib.hid hd
  have hC := Lib.hid hc
  clear hc hd
  have F0 := Lib.hid (Fm.new (Fm.new (Fm.start Non w) rfl [.int .i64 S, .int .i64 W, .int .i64 L] 26) (by simp) [.slice none 0 0] 44)
  have D0 := Lib.hid (HD.out.chg F0.out.chg (fun _ _ _ h => h))
  go_enter Try.func49, Try.ntmps49
  go_wp2_with fail
  refine (mlines_any S W L hC.out d _ D0.out).mono ?_
  rintro e w1 ⟨oa, on, oc, ss, rfl, ho1, hv1, hd1, hb1⟩
  have F1 := Lib.hid ((F0.out.non (N := fun k => k = d)).chgd hb1 (fun j hj => .inl ⟨by omega, hj⟩))
  have O1 := Lib.hid (ho1.ge (B' := w.heap.size + 2) (by simp)).bt
  have HV := Lib.hid hv1; have D1 := Lib.hid hd1
  have t1 := F1.out.h1
  have e0 := t1.cell 0 _ rfl; have ef := t1.free; have lt1 := t1.lt (by simp)
  clear ho1 hv1 hd1 hb1 t1
  go_wp2
  refine bodyPost_ret (v := .agg #[.slice oa on oc]) (by simp [results, Try.results49, go_sem, e0]) rfl ⟨oa, on, oc, ss, rfl, ?_, HV.out, D1.out.other (by simp; omega) _, (F1.out.set 1 0 [.slice none 0 0] rfl (by simp) _).chg⟩
  exact (OMat.loc.chg (M := fun j => j = w.heap.size + 1) O1.out (Chg.setCell (M := fun j => j = w.heap.size + 1) (Chg.refl _) (fun _ => rfl) _) (fun j hj _ e => by have := hj.1; omega)).of_bt (by omega)
end Go.Proofs.Ytlpelpjcbclemaa
namespace Go.Proofs.Ytlpelpjcbclemaa
open Go.RowKit

theorem cell_set {w : World} {b o g k : Nat} {u v : Value} (hne : g ≠ b) (h : w.cell? ⟨b, o, none⟩ = some v) : (w.setCell ⟨g, k, none⟩ u).cell? ⟨b, o, none⟩ = some v :=
  (World.cell?_setCell_other w ⟨g, k, none⟩ ⟨b, o, none⟩ u (fun e => hne (by cases e; rfl))).trans h
theorem cell_alloc {w : World} {b o : Nat} {v : Value} {ob : Obj} (hb : b < w.heap.size) (h : w.cell? ⟨b, o, none⟩ = some v) : (w.alloc ob).cell? ⟨b, o, none⟩ = some v := (World.cell?_alloc_lt w ob ⟨b, o, none⟩ hb).trans h
theorem cell_drew {w : World} {p : Addr} {v : Value} (h : w.cell? p = some v) : w.drew.cell? p = some v := h
end Go.Proofs.Ytlpelpjcbclemaa
namespace Go.Proofs.Ytlpelpjcbclemaa
open Go.RowKit

theorem OMat.k_alloc {w : World} {fp : Nat → Prop} {v : Value} {ss : List (List Int)} {o : Obj} (h : OMat w fp v ss) : OMat (w.alloc o) fp v ss := OMat.loc.below h ((Below.refl _ _).alloc (Nat.le_refl _) _)
theorem OMat.k_set {w : World} {fp : Nat → Prop} {v : Value} {ss : List (List Int)} {b k : Nat} {u : Value} (h : OMat w fp v ss) (hb : ¬ fp b) : OMat (w.setCell ⟨b, k, none⟩ u) fp v ss :=
  OMat.loc.chg (M := fun j => j = b) h (Chg.setCell (M := fun j => j = b) (Chg.refl _) (fun _ => rfl) _) (fun _ hj _ e => hb (e ▸ hj))
theorem OMat.k_chg {w w' : World} {fp : Nat → Prop} {v : Value} {ss : List (List Int)} {d : Nat} (hc : Chg (fun k => k = d) w w') (h : OMat w fp v ss) (hb : ¬ fp d) : OMat w' fp v ss := OMat.loc.chg h hc (fun _ hj _ e => hb (e ▸ hj))
theorem OMat.k_below {w w' : World} {fp : Nat → Prop} {v : Value} {ss : List (List Int)} (hc : Below w.heap.size w w') (h : OMat w fp v ss) : OMat w' fp v ss := OMat.loc.below h hc
theorem OMat.k_drew {w : World} {fp : Nat → Prop} {v : Value} {ss : List (List Int)} (h : OMat w fp v ss) : OMat w.drew fp v ss := OMat.loc.below h (Below.refl _ _).drew
theorem Deck.k_alloc {w : World} {d : Nat} {o : Obj} (h : Deck w d) : Deck (w.alloc o) d := h.below ((Below.refl w.heap.size w).alloc (Nat.le_refl _) o) (Nat.le_refl _)
theorem Deck.k_drew {w : World} {d : Nat} (h : Deck w d) : Deck w.drew d := h.drewN 1
/-- Which blocks a list lies in: not those of the variables. -/
def Off (l : List Nat) (k : Nat) : Prop := k ∉ l
theorem off4 {a b c d k : Nat} (h1 : k ≠ a) (h2 : k ≠ b) (h3 : k ≠ c) (h4 : k ≠ d) : Off [a, b, c, d] k := by unfold Off; simp; omega
theorem OMat.off {w : World} {A C : Nat} {a : Option Addr} {len cap : Nat} {ss : List (List Int)} {bx by_ cb d : Nat} (h : OMat w (Bt A C) (.slice a len cap) ss) (h1 : bx < A ∨ C ≤ bx) (h2 : by_ < A ∨ C ≤ by_) (h3 : cb < A ∨ C ≤ cb) (h4 : d < A ∨ C ≤ d) : Mat (Off [bx, by_, cb, d]) w a len cap ss :=
  OMat.read (fun k hk => off4 (by have := hk.1; have := hk.2; omega) (by have := hk.1; have := hk.2; omega) (by have := hk.1; have := hk.2; omega) (by have := hk.1; have := hk.2; omega)) h
theorem Has.k_new {w : World} {b : Nat} {v : Value} {t : TypeId} (e : b = w.heap.size) : Has (w.alloc (.cells #[v] t)) b [v] := e ▸ Has.new w [v] t
theorem Chg.k_set {M : Nat → Prop} {a b : World} {g k : Nat} {v : Value} (hp : a.heap.size ≤ g) (h : Chg M a b) : Chg M a (b.setCell ⟨g, k, none⟩ v) := h.setCell (fun e => by simp at e; omega) v
theorem Chg.k_call {d : Nat} {a b c : World} (hc : Chg (fun k => k = d) b c) (h : Chg (fun k => k = d) a b) : Chg (fun k => k = d) a c := h.trans hc (fun _ _ h => h)
theorem Deck.k_set {w : World} {d g k : Nat} {v : Value} (hp : d < g) (h : Deck w d) : Deck (w.setCell ⟨g, k, none⟩ v) d := h.other hp v
theorem Has.k_set0 {w : World} {b : Nat} {v : Value} (h : Has w b [.slice none 0 0]) : Has (w.setCell ⟨b, 0, none⟩ v) b [v] := h.set0 v
theorem Has.k_set {w : World} {b g k : Nat} {vs : List Value} {v : Value} (hne : g ≠ b) (h : Has w b vs) : Has (w.setCell ⟨g, k, none⟩ v) b vs := h.other (fun e => hne e.symm)
theorem Has.k_below {w w' : World} {b : Nat} {vs : List Value} (hc : Below w.heap.size w w') (hb : b < w.heap.size) (h : Has w b vs) : Has w' b vs := h.below hc hb
theorem Has.k_chg {w w' : World} {b d : Nat} {vs : List Value} (hc : Chg (fun k => k = d) w w') (hb : b < w.heap.size) (hd : b ≠ d) (h : Has w b vs) : Has w' b vs := hc.has h hb hd

/-- Two variables with right contents; the deck is as it was. -/
structure TwoL (wv : World) (d cb S W : Nat) (s7 s8 : Value) (wx : World) (bx by_ : Nat) (xa ya : Option Addr) (xn xc yn yc : Nat) (ss tt : List (List Int)) : Prop where
  e7 : s7 = .pointer (some ⟨bx, 0, none⟩)
  e8 : s8 = .pointer (some ⟨by_, 0, none⟩)
  hx : Has wx bx [.slice xa xn xc]
  hy : Has wx by_ [.slice ya yn yc]
  ne : bx ≠ by_
  lx : wv.heap.size ≤ bx
  ly : wv.heap.size ≤ by_
  mx : Mat (Off [bx, by_, cb, d]) wx xa xn xc ss
  my : Mat (Off [bx, by_, cb, d]) wx ya yn yc tt
  vx : ValidP S W ss
  vy : ValidP S W tt
  dk : Deck wx d
  chg : Chg (fun k => k = d) wv wx
def TwoLines (wv : World) (d cb S W : Nat) (s7 s8 : Value) (wx : World) : Prop := ∃ bx by_ xa ya xn xc yn yc ss tt, TwoL wv d cb S W s7 s8 wx bx by_ xa ya xn xc yn yc ss tt
end Go.Proofs.Ytlpelpjcbclemaa
