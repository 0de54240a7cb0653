/-
  SimplexProves, walked: for every input the law's function returns true, and nothing that was there changes.
-/
import Derived.Deep.CutBlock
import Derived.Test.YtdegpgonphgbcaaZPrG
import Derived.Test.YtdegpgonphgbcaaSyG
import Derived.Test.YtdegpgonphgbcaaZSxV
namespace Go.Proofs.Ytdegpgonphgbcaa
open Go.RowKit

/-- A list of fractions under construction is read as one. -/
theorem fr_read {w : World} {B n c : Nat} {a : Option Addr} {l : List (Int × Int)} (h : w.ownsRow B 31 2 (.slice a n c) n (tcs l)) (hl : l.length = n) (h9 : n ≤ 17592186044416) : Row RTm 2 (fun k => B ≤ k) w a n c l := by
  obtain ⟨h1, h2, h3⟩ := flat_len h
  refine ⟨hl, h2, by unfold maxLen at h3; omega, h9, fun i t ht => ?_⟩
  have hi := (List.getElem?_eq_some_iff.1 ht).1
  obtain ⟨g, rfl, hg, hgl, _, _, _, hc⟩ := flat_cells h (by omega)
  have := tcs_get ht
  exact ⟨g, 0, rfl, hg, hgl, by rw [Nat.zero_add]; exact hc _ _ this.1, by rw [Nat.zero_add]; exact hc _ _ this.2⟩
theorem Sml.snoc {l : List (Int × Int)} (h : Sml l) {p q : Int} (h0 : -10 ≤ p) (h1 : p ≤ 10) (h2 : 1 ≤ q) (h3 : q ≤ 9) : Sml (l ++ [(p, q)]) := fun t ht => by
  rcases List.mem_append.1 ht with h' | h'
  · exact h t h'
  · simp at h'; subst h'; exact ⟨h0, h1, h2, h3⟩
theorem Sml.nil : Sml [] := fun t h => by cases h
/-- Lists of fractions under construction, behind the world w4. -/
structure FrJ (D : Nat) (w4 wr : World) (v : Value) (l : List (Int × Int)) : Prop where
  own : wr.ownsRow w4.heap.size 31 2 v l.length (tcs l)
  sml : Sml l
  deck : Deck wr D
  chg : Chg (fun x => x = D) w4 wr
theorem FrJ.but {D : Nat} {w4 wr wx : World} {v : Value} {l : List (Int × Int)} (h : FrJ D w4 wr v l) (hD : D < w4.heap.size) (hb : But D wr wx) (hd : Deck wx D) : FrJ D w4 wx v l :=
  ⟨flat_of h.own hb.chg (fun x h1 _ e => by omega), h.sml, hd, h.chg.trans hb.chg (fun _ _ e => e)⟩
theorem FrJ.call {D : Nat} {w4 wr wx : World} {v : Value} {l : List (Int × Int)} (h : FrJ D w4 wr v l) (hb : Below wr.heap.size wr wx) : FrJ D w4 wx v l :=
  ⟨flat_below h.own hb, h.sml, h.deck.below hb (Nat.le_refl _), h.chg.tr hb⟩
theorem FrJ.set {D : Nat} {w4 wr : World} {v : Value} {l : List (Int × Int)} (h : FrJ D w4 wr v l) {X k : Nat} (hX : w4.heap.size ≤ X) (hv : ¬ v.ownBlock = some X) (hD : D < w4.heap.size) (u : Value) : FrJ D w4 (wr.setCell ⟨X, k, none⟩ u) v l := by
  have c : Chg (fun x => x = X) wr (wr.setCell ⟨X, k, none⟩ u) := Chg.setCell (M := fun x => x = X) (p := ⟨X, k, none⟩) (Chg.refl wr) (fun _ => rfl) u
  exact ⟨ownsRow_of h.own (fun x hx => c.block x (h.own.lt x hx).2 (fun e => hv (e ▸ hx))), h.sml, h.deck.other (p := ⟨X, k, none⟩) (by show D < X; omega) u, h.chg.trans c (fun x hx e => by omega)⟩
theorem FrJ.push {D : Nat} {w4 wr wx : World} {v v' : Value} {l : List (Int × Int)} {n : Nat} (hn : n = l.length) (h : FrJ D w4 wr v l) (hD : D < w4.heap.size) {p q : Int} (h0 : -10 ≤ p) (h1 : p ≤ 10) (h2 : 1 ≤ q) (h3 : q ≤ 9) (hap : FApp 31 2 w4.heap.size v n 1 (tcs l) (tcs [(p, q)]) wr wx v') : FrJ D w4 wx v' (l ++ [(p, q)]) := by
  subst hn
  have ho := hap.owns
  rw [← tcs_append] at ho
  refine ⟨by rw [List.length_append]; exact ho, h.sml.snoc h0 h1 h2 h3, h.deck.chg hap.chg (fun j _ hj e => ?_), h.chg.trans hap.chg (fun x hx e => ?_)⟩
  · have := (h.own.lt j e).1; omega
  · have := (h.own.lt x e).1; omega
theorem FrJ.apart {D : Nat} {w4 wr : World} {v : Value} {l : List (Int × Int)} (h : FrJ D w4 wr v l) {X : Nat} (hX : wr.heap.size ≤ X) : ¬ v.ownBlock = some X := fun e => by have := (h.own.lt X e).2; omega

theorem pbool_of (p : Prop) : ∃ b : Bool, b = true ↔ p := by
  by_cases h : p
  · exact ⟨true, fun _ => h, fun _ => rfl⟩
  · exact ⟨false, (fun e => by cases e), fun e => absurd e h⟩
theorem pyes_fix {p : Prop} {b : Bool} (hb : b = true ↔ p) {f : FuncId} {args : Array Value} {w : World} (h : Calls Try.prog f args w (YesNo p w)) : Calls Try.prog f args w fun e w' => e = .returned (.bool b) ∧ Below w.heap.size w w' :=
  h.mono fun e w' ⟨r, he, hr, hw⟩ => ⟨by
    have : r = b := by
      cases r <;> cases b <;> simp_all
    rw [he, this], hw⟩
/-- Behind the model: where it lies, the deck. -/
structure MdlAt (D P : Nat) (n : Nat) (ra : Option Addr) (rn rc : Nat) (ga : Option Addr) (gn gc : Nat) (c0 : Int) (rows : List MRow) (goal : List (Int × Int)) (w : World) : Prop where
  blk : Blk w P 28 (MdC n (.slice ra rn rc) ga gn gc c0)
  rows : Row RRw 2 (fun k => D < k) w ra rn rc rows
  goal : Row RTm 2 (fun k => D < k) w ga gn gc goal
theorem MdlAt.chg {D P n : Nat} {ra : Option Addr} {rn rc : Nat} {ga : Option Addr} {gn gc : Nat} {c0 : Int} {rows : List MRow} {goal : List (Int × Int)} {w w' : World} (h : MdlAt D P n ra rn rc ga gn gc c0 rows goal w) (hP : D < P) (hc : Chg (fun x => x = D) w w') : MdlAt D P n ra rn rc ga gn gc c0 rows goal w' :=
  ⟨h.blk.chg hc (fun e => by omega), h.rows.chg RRw.stays hc (fun k hk e => by omega), h.goal.chg RTm.stays hc (fun k hk e => by omega)⟩
set_option maxRecDepth 100000 in
set_option maxHeartbeats 64000000 in
theorem sxProves_top (la : Option Addr) (ln lc : Nat) (zs : List Int) (w : World) (L : IsRow .i64 w la ln lc zs) :
    Calls Try.prog 8 #[.slice la ln lc] w (AwRet w) := by
  have HL := Lib.hid L
  clear L
  go_enter Try.func8, Try.ntmps8
  go_wp2_with fail
  refine (new_any la ln lc zs w HL.out).mono ?_
  rintro e w2 ⟨rfl, hdk, hb⟩
  have B2 := Lib.hid hb
  have DK := Lib.hid hdk
  obtain ⟨D, hD⟩ : ∃ D, D = w.heap.size := ⟨_, rfl⟩
  rw [← hD] at DK ⊢
  have HD := Lib.hid hD
  clear hdk hb hD
  go_wp2_with fail
  refine (mmodel_any D 4 (by omega) w2 DK.out).mono ?_
  rintro e w3 ⟨n, ra, rn, rc, ga, gn, gc, c0, rows, goal, rfl, hR, hG, hs, hn4, hd3, hb3⟩
  obtain ⟨w4, hw4⟩ : ∃ w4, w4 = w3.alloc (.cells (MdC n (.slice ra rn rc) ga gn gc c0).toArray 28) := ⟨_, rfl⟩
  have A4 := Lib.hid (show Below w3.heap.size w3 w4 by rw [hw4]; exact (Below.refl _ _).alloc (Nat.le_refl _) _)
  have lD2 := DK.out.lt
  have M4 := Lib.hid (show MdlAt D w3.heap.size n ra rn rc ga gn gc c0 rows goal w4 from ⟨by rw [hw4]; exact Blk.new w3 _ _, (rw_wide hR (fun k hk => by omega)).keeps RRw.stays (fun y _ hl => A4.out.block y hl) A4.out.size, (tm_wide hG (fun k hk => by omega)).keeps RTm.stays (fun y _ hl => A4.out.block y hl) A4.out.size⟩)
  have D4 := Lib.hid (hd3.below A4.out (Nat.le_refl _))
  have B4 := Lib.hid (show But D w2 w4 from hb3.trans (But.of_below A4.out))
  have B4w := Lib.hid (show Below w.heap.size w w4 by
    refine B2.out.trans ?_
    rw [← HD.out]
    exact B4.out.below (by omega))
  have HS := Lib.hid hs
  have HRL := Lib.hid hR.hlen
  have hrn6 : rn ≤ 6 := by have := hR.hlen; have := hs.2.2.1; omega
  have HW4 := Lib.hid hw4
  obtain ⟨P, hP⟩ : ∃ P, P = w3.heap.size := ⟨_, rfl⟩
  rw [← hP] at M4
  have LP := Lib.hid (show D < P ∧ P < w4.heap.size from ⟨by rw [hP]; have := hb3.size; omega, M4.out.blk.lt⟩)
  have LD := Lib.hid (show D < w4.heap.size by have := LP.out; omega)
  have HP := Lib.hid hP
  clear hw4 hP hR hG hs hd3 hb3 lD2
  go_upto_region 3 with fail
  rw [← HW4.out, ← HP.out]
  go_upto_region 4 with fail
  go_cut [7] (fun s wx => ∃ k : Int, s = .int .i64 k ∧ -1 ≤ k ∧ k ≤ 5 ∧ Deck wx D ∧ Chg (fun x => x = D) w4 wx)
  case first =>
    as_aux_lemma =>
      have m0 := M4.out.blk.cell (i := 0) rfl
      have hPD : ¬ P = D := by have := LP.out; omega
      refine hd_start 8 (fun w' => w'.cell? ⟨P, 0, none⟩ = some (.int .i64 n)) (by kernel_rfl) ⟨by kernel_rfl, by kernel_rfl, by kernel_rfl, by decide⟩ m0 (fun ok => ?_)
      refine hd_take_l (i := 0) (v := ?_) ok rfl (by decide) (by kernel_rfl) (by kernel_rfl) (fun _ _ _ h => h) (Or.inl ⟨by kernel_rfl, ?_⟩) ?_
      rotate_left
      · (intro w hSw; (try dsimp only at hSw); (try go_split_ands); go_simp; (try (with_reducible rfl)))
      go_frame
      refine hd_take_l (i := 2) (v := ?_) ok rfl (by decide) (by kernel_rfl) (by kernel_rfl) (fun _ _ _ h => h) (Or.inl ⟨by kernel_rfl, ?_⟩) ?_
      rotate_left
      · (intro w hSw; (try dsimp only at hSw); (try go_split_ands); go_simp; (try (with_reducible rfl)))
      go_frame
      refine hd_take_l (i := 3) (v := ?_) ok rfl (by decide) (by kernel_rfl) (by kernel_rfl) (fun _ _ _ h => h) (Or.inl ⟨by kernel_rfl, ?_⟩) ?_
      rotate_left
      · (intro w hSw; (try dsimp only at hSw); (try go_split_ands); go_simp; (try (with_reducible rfl)))
      go_frame
      refine hd_take_l (i := 5) (v := ?_) ok rfl (by decide) (by kernel_rfl) (by kernel_rfl) (fun _ _ _ h => h) (Or.inl ⟨by kernel_rfl, ?_⟩) ?_
      rotate_left
      · (intro w hSw; (try dsimp only at hSw); (try go_split_ands); go_simp; (try (with_reducible rfl)))
      go_frame
      refine hd_only_l (c := 1) rfl (by decide) (by kernel_rfl) (fun K hK => ?_)
      go_simp
      refine (next_any D 2 (by omega) (by omega) w4.drew (D4.out.below ((Below.refl _ _).drew) (Nat.le_refl _))).mono ?_
      rintro e' w' ⟨ra1, rfl, a0, a1, hd', hb'⟩
      have CD := Lib.hid (show Chg (fun x => x = D) w4 w' from (Chg.refl w4).drew.trans hb'.chg (fun _ _ h => h))
      have wa : IntKind.i64.wrap (ra1 + n) = ra1 + n := Go.IntWalk.i64_in _ ⟨by omega, by omega⟩
      have m1 := CD.out.cell hPD m0
      (try simp only [])
      refine hK _ _ (by first | exact m1) ?_
      clear hK K
      (try go_frame)
      refine hd_take_l (i := 4) (v := ?_) ok rfl (by decide) (by kernel_rfl) (by kernel_rfl) (fun _ _ _ h => h) (Or.inl ⟨by kernel_rfl, ?_⟩) ?_
      rotate_left
      · (intro w hSw; (try dsimp only at hSw); (try go_split_ands); go_simp; (try (with_reducible rfl)))
      go_frame
      clear hb' m0
      refine hd_only_l (c := 6) rfl (by decide) (by kernel_rfl) (fun K hK => ?_)
      go_simp
      refine (next_any D 2 (by omega) (by omega) w' hd').mono ?_
      rintro e' w'' ⟨rb1, rfl, b0, b1, hd'', hb''⟩
      have CD2 := Lib.hid (show Chg (fun x => x = D) w4 w'' from CD.out.trans hb''.chg (fun _ _ h => h))
      have wb : IntKind.i64.wrap (ra1 + n - rb1) = ra1 + n - rb1 := Go.IntWalk.i64_in _ ⟨by omega, by omega⟩
      (try simp only [])
      refine hK _ _ (by first | exact CD2.out.cell hPD (M4.out.blk.cell (i := 0) rfl)) ?_
      clear hK K
      (try go_frame)
      refine hd_take_l (i := 7) (v := ?_) ok rfl (by decide) (by kernel_rfl) (by kernel_rfl) (fun _ _ _ h => h) (Or.inl ⟨by kernel_rfl, ?_⟩) ?_
      rotate_left
      · (intro w hSw; (try dsimp only at hSw); (try go_split_ands); go_simp; (try (with_reducible rfl)))
      go_frame
      refine hd_done (by kernel_rfl) ?_
      simp only [List.drop_succ_cons, List.drop_zero]
      have R := Lib.hid (show ∃ k : Int, Value.int .i64 (ra1 + n - rb1) = .int .i64 k ∧ -1 ≤ k ∧ k ≤ 5 ∧ Deck w'' D ∧ Chg (fun x => x = D) w4 w'' from ⟨_, rfl, by omega, by omega, hd'', CD2.out⟩)
      clear hd'' hb'' m1
      go_wp2_with fail
      go_meet
      exact R.out
  case rest =>
    obtain ⟨k0, rfl, k00, k01, hd5, hc5⟩ := hcut
    obtain ⟨w5', hw5⟩ : ∃ w5 : World, w5 = wc := ⟨_, rfl⟩
    rw [← hw5] at hd5 hc5 ⊢
    clear hw5
    have J0 := Lib.hid (show FrJ D w4 w5' (.slice none 0 0) [] from ⟨World.ownsRow_nil _ _ _ _, Sml.nil, hd5, hc5⟩)
    clear hd5 hc5
    go_wp2
    go_loopw [7, 5] (fun s v wr => ∃ (k : Int) (l : List (Int × Int)), s = .int .i64 k ∧ -1 ≤ k ∧ k + l.length ≤ 5 ∧ l.length ≤ 6 ∧ FrJ D w4 wr v l) (fun s _ _ => (intOf s).toNat)
    case atStart => exact ⟨k0, [], rfl, k00, by simp; exact k01, by simp, J0.out⟩
    case round =>
      obtain ⟨k, l, rfl, hk0, hkl, hl6, hj⟩ := hrel
      have JR := Lib.hid hj
      obtain ⟨a, c, rfl⟩ := flat_form hj.own
      clear hj
      obtain ⟨m, hm⟩ : ∃ m, m = l.length := ⟨_, rfl⟩
      rw [← hm] at JR hkl hl6 ⊢
      have HM := Lib.hid hm
      clear hm
      by_cases hlt : 0 < k
      · have hm5 : m ≤ 5 := by omega
        have wk1 : IntKind.i64.wrap (k - 1) = k - 1 := Go.IntWalk.i64_in _ ⟨by omega, by omega⟩
        go_wp2_with fail
        refine (frac_any D wr JR.out.deck).mono ?_
        rintro e w5 ⟨p, q, rfl, p0, p1, q0, q1, hg, hd5, hb5⟩
        have J5 := Lib.hid (JR.out.but LD.out hb5 hd5)
        have S5 := Lib.hid hb5.size
        clear hd5 hb5 hg
        obtain ⟨w6, hw6⟩ : ∃ w6, w6 = w5.alloc (.cells #[.int .i64 p, .int .i64 q] 31) := ⟨_, rfl⟩
        have A6 := Lib.hid (show Below w5.heap.size w5 w6 by rw [hw6]; exact (Below.refl _ _).alloc (Nat.le_refl _) _)
        have X6 := Lib.hid (show Blk w6 w5.heap.size 31 [.int .i64 p, .int .i64 q] by rw [hw6]; exact Blk.new w5 _ _)
        have J6 := Lib.hid (J5.out.call A6.out)
        have HW6 := Lib.hid hw6
        obtain ⟨X, hX⟩ : ∃ X, X = w5.heap.size := ⟨_, rfl⟩
        have LX := Lib.hid (show w4.heap.size ≤ X ∧ D < X ∧ wr.heap.size ≤ X from ⟨by rw [hX]; exact J5.out.chg.size, by rw [hX]; have := J5.out.chg.size; have := LD.out; omega, by rw [hX]; exact S5.out⟩)
        have AX := Lib.hid (show ¬ (Value.slice a m c).ownBlock = some X from JR.out.apart LX.out.2.2)
        rw [← hX] at X6
        have HX := Lib.hid hX
        clear hw6 hX
        go_upto_region 8 with fail
        rw [← HW6.out, ← HX.out]
        go_wp2_with fail
        refine (next_any D 3 (by omega) (by omega) _ J6.out.deck).mono ?_
        rintro e w7 ⟨r, rfl, r0, r1, hd7, hb7⟩
        have J7 := Lib.hid (J6.out.but LD.out hb7 hd7)
        have X7 := Lib.hid (X6.out.chg hb7.chg (fun e => by have := LX.out; omega))
        clear hd7 hb7
        go_upto_if 34 with fail
        go_cut [] (fun wx => ∃ p' : Int, -10 ≤ p' ∧ p' ≤ 10 ∧ Blk wx X 31 [.int .i64 p', .int .i64 q] ∧ FrJ D w4 wx (.slice a m c) l)
        case first =>
          as_aux_lemma =>
            by_cases hr : 0 < r
            rotate_left
            · have RR := Lib.hid (show ∃ p' : Int, -10 ≤ p' ∧ p' ≤ 10 ∧ Blk w7 X 31 [.int .i64 p', .int .i64 q] ∧ FrJ D w4 w7 (.slice a m c) l from ⟨p, p0, p1, X7.out, J7.out⟩)
              go_wp2
              go_meet
              exact RR.out
            · have x0 := X7.out.cell (i := 0) rfl
              have xf := X7.out.free
              have wneg : IntKind.i64.wrap (-p) = -p := Go.IntWalk.i64_in _ ⟨by omega, by omega⟩
              have RR := Lib.hid (show ∀ z, z = max p (-p) → ∃ p' : Int, -10 ≤ p' ∧ p' ≤ 10 ∧ Blk (w7.setCell ⟨X, 0, none⟩ (.int .i64 z)) X 31 [.int .i64 p', .int .i64 q] ∧ FrJ D w4 (w7.setCell ⟨X, 0, none⟩ (.int .i64 z)) (.slice a m c) l from fun z hz =>
                ⟨z, by omega, by omega, (X7.out.set 0 _).at rfl, J7.out.set LX.out.1 AX.out LD.out _⟩)
              go_wp2
              all_goals
                go_meet
                exact RR.out _ (by omega)
        case rest =>
          obtain ⟨p', pp0, pp1, hx8, hj8⟩ := hcut
          obtain ⟨w8, hw8⟩ : ∃ w8 : World, w8 = wc := ⟨_, rfl⟩
          rw [← hw8] at hx8 hj8 ⊢
          clear hw8
          have x0 := hx8.cell (i := 0) rfl; have x1 := hx8.cell (i := 1) rfl
          obtain ⟨w9, hw9⟩ : ∃ w9, w9 = w8.alloc (.cells #[.int .i64 p', .int .i64 q] 31) := ⟨_, rfl⟩
          have A9 := Lib.hid (show Below w8.heap.size w8 w9 by rw [hw9]; exact (Below.refl _ _).alloc (Nat.le_refl _) _)
          have N9 := Lib.hid (show Blk w9 w8.heap.size 31 (tcs [(p', q)]) by rw [hw9]; exact Blk.new w8 _ _)
          have J9 := Lib.hid (hj8.call A9.out)
          have HW9 := Lib.hid hw9
          clear hw9 hx8 hj8 J7 X7 J6 X6 J5
          go_wp2_with (at_builtin; rw [← HW9.out]; refine wpList_append_flat rfl (.tmp 42) (.tmp 44) 32 rfl 31 Try.underlying32 info_fr rfl (by decide) (n := m) (by have h := J9.out.own; rw [← HM.out] at h; exact h) rfl J9.out.chg.size ⟨w8.heap.size, 0, none⟩ 1 1 (tcs [(p', q)]) rfl rfl (fun j u hu => by rw [Addr.add_lit, Nat.zero_add]; exact N9.out.cell hu) (by simp [tcs, Value.oneCell']) (by decide) (by omega) (by decide) ?_; intro g cap wA hap; have JA := Lib.hid (J9.out.push HM.out LD.out pp0 pp1 q0 q1 hap.out))
          clear x0 x1
          go_roundw
          case rel => exact ⟨k - 1, _, by go_num, by omega, by rw [List.length_append, ← HM.out]; simp; omega, by rw [List.length_append, ← HM.out]; simp; omega, JA.out⟩
          case measure => simp [intOf]; omega
      · obtain ⟨xa, rfl⟩ : ∃ z, z = a := ⟨a, rfl⟩
        obtain ⟨xc, rfl⟩ : ∃ z, z = c := ⟨c, rfl⟩
        obtain ⟨xm, rfl⟩ : ∃ z, z = m := ⟨m, rfl⟩
        obtain ⟨lx, rfl⟩ : ∃ z, z = l := ⟨l, rfl⟩
        obtain ⟨wz, rfl⟩ : ∃ wz : World, wz = wr := ⟨_, rfl⟩
        have HJX := Lib.hid JR.out
        have HMX := Lib.hid HM.out
        have MR := Lib.hid (M4.out.chg LP.out.1 JR.out.chg)
        have LDZ := Lib.hid (show D < wz.heap.size by have := LD.out; have := HJX.out.chg.size; omega)
        have JZ := Lib.hid (show FrJ D wz wz (.slice none 0 0) [] from ⟨World.ownsRow_nil _ _ _ _, Sml.nil, HJX.out.deck, Chg.refl _⟩)
        have hxm6 : xm ≤ 6 := hl6
        have m1 := MR.out.blk.cell (i := 1) rfl
        go_wp2
        clear m1 hlt hk0 hkl JR hl6
        go_loopw [49, 6] (fun s v wr => ∃ (j : Nat) (l : List (Int × Int)), s = .int .i64 j ∧ j ≤ rn ∧ l.length = j ∧ FrJ D wz wr v l) (fun s _ _ => rn - (intOf s).toNat)
        case atStart => exact ⟨0, [], rfl, Nat.zero_le _, rfl, JZ.out⟩
        case round =>
          obtain ⟨m, l, rfl, hj, hlj, hjj⟩ := hrel
          obtain ⟨a, c, rfl⟩ := flat_form hjj.own
          have JR := Lib.hid hjj
          rw [hlj] at JR ⊢
          have HM := Lib.hid hlj.symm
          clear hjj hlj
          by_cases hlt : m < rn
          · have hm5 : m ≤ 5 := by omega
            have hmr : (m : Int) < (rn : Int) := by omega
            go_wp2_with fail
            refine (frac_any D wr JR.out.deck).mono ?_
            rintro e w5 ⟨p, q, rfl, p0, p1, q0, q1, hg, hd5, hb5⟩
            have J5 := Lib.hid (JR.out.but LDZ.out hb5 hd5)
            have S5 := Lib.hid hb5.size
            clear hd5 hb5 hg
            obtain ⟨w6, hw6⟩ : ∃ w6, w6 = w5.alloc (.cells #[.int .i64 p, .int .i64 q] 31) := ⟨_, rfl⟩
            have A6 := Lib.hid (show Below w5.heap.size w5 w6 by rw [hw6]; exact (Below.refl _ _).alloc (Nat.le_refl _) _)
            have X6 := Lib.hid (show Blk w6 w5.heap.size 31 [.int .i64 p, .int .i64 q] by rw [hw6]; exact Blk.new w5 _ _)
            have J6 := Lib.hid (J5.out.call A6.out)
            have HW6 := Lib.hid hw6
            obtain ⟨X, hX⟩ : ∃ X, X = w5.heap.size := ⟨_, rfl⟩
            have LX := Lib.hid (show wz.heap.size ≤ X ∧ D < X ∧ wr.heap.size ≤ X from ⟨by rw [hX]; exact J5.out.chg.size, by rw [hX]; have := J5.out.chg.size; have := LDZ.out; omega, by rw [hX]; exact S5.out⟩)
            have AX := Lib.hid (show ¬ (Value.slice a m c).ownBlock = some X from JR.out.apart LX.out.2.2)
            rw [← hX] at X6
            have HX := Lib.hid hX
            clear hw6 hX
            go_upto_region 14 with fail
            rw [← HW6.out, ← HX.out]
            go_wp2_with fail
            refine (next_any D 4 (by omega) (by omega) _ J6.out.deck).mono ?_
            rintro e w7 ⟨r, rfl, r0, r1, hd7, hb7⟩
            have J7 := Lib.hid (J6.out.but LDZ.out hb7 hd7)
            have X7 := Lib.hid (X6.out.chg hb7.chg (fun e => by have := LX.out; omega))
            clear hd7 hb7
            go_upto_if 55 with fail
            go_cut [] (fun wx => ∃ p' : Int, -10 ≤ p' ∧ p' ≤ 10 ∧ Blk wx X 31 [.int .i64 p', .int .i64 q] ∧ FrJ D wz wx (.slice a m c) l)
            case first =>
              as_aux_lemma =>
                by_cases hr : 0 < r
                rotate_left
                · have RR := Lib.hid (show ∃ p' : Int, -10 ≤ p' ∧ p' ≤ 10 ∧ Blk w7 X 31 [.int .i64 p', .int .i64 q] ∧ FrJ D wz w7 (.slice a m c) l from ⟨p, p0, p1, X7.out, J7.out⟩)
                  go_wp2
                  go_meet
                  exact RR.out
                · have x0 := X7.out.cell (i := 0) rfl
                  have xf := X7.out.free
                  have wneg : IntKind.i64.wrap (-p) = -p := Go.IntWalk.i64_in _ ⟨by omega, by omega⟩
                  have RR := Lib.hid (show ∀ z, z = max p (-p) → ∃ p' : Int, -10 ≤ p' ∧ p' ≤ 10 ∧ Blk (w7.setCell ⟨X, 0, none⟩ (.int .i64 z)) X 31 [.int .i64 p', .int .i64 q] ∧ FrJ D wz (w7.setCell ⟨X, 0, none⟩ (.int .i64 z)) (.slice a m c) l from fun z hz =>
                    ⟨z, by omega, by omega, (X7.out.set 0 _).at rfl, J7.out.set LX.out.1 AX.out LDZ.out _⟩)
                  go_wp2
                  all_goals
                    go_meet
                    exact RR.out _ (by omega)
            case rest =>
              obtain ⟨p', pp0, pp1, hx8, hj8⟩ := hcut
              obtain ⟨w8, hw8⟩ : ∃ w8 : World, w8 = wc := ⟨_, rfl⟩
              rw [← hw8] at hx8 hj8 ⊢
              clear hw8
              have x0 := hx8.cell (i := 0) rfl; have x1 := hx8.cell (i := 1) rfl
              obtain ⟨w9, hw9⟩ : ∃ w9, w9 = w8.alloc (.cells #[.int .i64 p', .int .i64 q] 31) := ⟨_, rfl⟩
              have A9 := Lib.hid (show Below w8.heap.size w8 w9 by rw [hw9]; exact (Below.refl _ _).alloc (Nat.le_refl _) _)
              have N9 := Lib.hid (show Blk w9 w8.heap.size 31 (tcs [(p', q)]) by rw [hw9]; exact Blk.new w8 _ _)
              have J9 := Lib.hid (hj8.call A9.out)
              have HW9 := Lib.hid hw9
              clear hw9 hx8 hj8 J7 X7 J6 X6 J5
              go_wp2_with (at_builtin; rw [← HW9.out]; refine wpList_append_flat rfl (.tmp 63) (.tmp 65) 32 rfl 31 Try.underlying32 info_fr rfl (by decide) (n := m) (by have h := J9.out.own; rw [← HM.out] at h; exact h) rfl J9.out.chg.size ⟨w8.heap.size, 0, none⟩ 1 1 (tcs [(p', q)]) rfl rfl (fun j u hu => by rw [Addr.add_lit, Nat.zero_add]; exact N9.out.cell hu) (by simp [tcs, Value.oneCell']) (by decide) (by omega) (by decide) ?_; intro g cap wA hap; have JA := Lib.hid (J9.out.push HM.out LDZ.out pp0 pp1 q0 q1 hap.out))
              clear x0 x1
              go_roundw
              case rel => exact ⟨m + 1, _, by go_num, by omega, by rw [List.length_append, ← HM.out]; rfl, JA.out⟩
              case measure => simp [intOf]; omega
          · obtain rfl : m = rn := by omega
            go_wp2_with fail
            refine (next_any D 4 (by omega) (by omega) _ JR.out.deck).mono ?_
            rintro e w5 ⟨r, rfl, r0, r1, hd5, hb5⟩
            have J5 := Lib.hid (JR.out.but LDZ.out hb5 hd5)
            clear hd5 hb5 hlt
            go_upto_if 70 with fail
            go_cut [6] (fun s wx => ∃ (a : Option Addr) (n c : Nat) (l : List (Int × Int)), s = .slice a n c ∧ n = l.length ∧ n ≤ 7 ∧ FrJ D wz wx (.slice a n c) l)
            case first =>
              as_aux_lemma =>
                by_cases hr : r = 0
                rotate_left
                · have hrb : (r == 0) = false := by simpa using hr
                  have RR := Lib.hid (show ∃ (a' : Option Addr) (n' c' : Nat) (l' : List (Int × Int)), Value.slice a m c = .slice a' n' c' ∧ n' = l'.length ∧ n' ≤ 7 ∧ FrJ D wz w5 (.slice a' n' c') l' from ⟨a, m, c, l, rfl, HM.out, by omega, J5.out⟩)
                  clear hr
                  go_wp2
                  go_meet
                  exact RR.out
                · have hrb : (r == 0) = true := by simpa using hr
                  clear hr
                  obtain ⟨w6, hw6⟩ : ∃ w6, w6 = w5.alloc (.cells #[.int .i64 2, .int .i64 4] 31) := ⟨_, rfl⟩
                  have A6 := Lib.hid (show Below w5.heap.size w5 w6 by rw [hw6]; exact (Below.refl _ _).alloc (Nat.le_refl _) _)
                  have N6 := Lib.hid (show Blk w6 w5.heap.size 31 (tcs [(2, 4)]) by rw [hw6]; exact Blk.new w5 _ _)
                  have J6 := Lib.hid (J5.out.call A6.out)
                  have HW6 := Lib.hid hw6
                  clear hw6
                  go_wp2_with (at_builtin; rw [← HW6.out]; refine wpList_append_flat rfl (.tmp 71) (.tmp 73) 32 rfl 31 Try.underlying32 info_fr rfl (by decide) (n := m) (by have h := J6.out.own; rw [← HM.out] at h; exact h) rfl J6.out.chg.size ⟨w5.heap.size, 0, none⟩ 1 1 (tcs [(2, 4)]) rfl rfl (fun j u hu => by rw [Addr.add_lit, Nat.zero_add]; exact N6.out.cell hu) (by simp [tcs, Value.oneCell']) (by decide) (by omega) (by decide) ?_; intro g cap wA hap; have JA := Lib.hid (J6.out.push HM.out LDZ.out (by decide) (by decide) (by decide) (by decide) hap.out))
                  go_meet
                  exact ⟨_, _, _, _, rfl, by rw [List.length_append, ← HM.out]; rfl, by omega, JA.out⟩
            case rest =>
              obtain ⟨ya, yn, yc, ly, rfl, hyn, hy7, hjy⟩ := hcut
              obtain ⟨w6, hw6⟩ : ∃ w5 : World, w5 = wc := ⟨_, rfl⟩
              rw [← hw6] at hjy ⊢
              have JY := Lib.hid hjy
              have HYN := Lib.hid hyn
              clear hw6 hjy hyn JR J5
              have M6 := Lib.hid (MR.out.chg LP.out.1 JY.out.chg)
              have X6 := Lib.hid (show Row RTm 2 (fun k => D < k) w6 xa xm xc lx from by
                have h := flat_of HJX.out.own JY.out.chg (fun k h1 _ e => by have := LD.out; omega)
                rw [← HMX.out] at h
                exact tm_wide (fr_read h HMX.out.symm (by omega)) (fun k hk => by have := LD.out; omega))
              have Y6 := Lib.hid (show Row RTm 2 (fun k => D < k) w6 ya yn yc ly from by
                have h := JY.out.own
                rw [← HYN.out] at h
                exact tm_wide (fr_read h HYN.out.symm (by omega)) (fun k hk => by have := LDZ.out; omega))
              have B6 := Lib.hid (show Below w.heap.size w w6 from B4w.out.trans ((HJX.out.chg.trans JY.out.chg (fun _ _ e => e)).below (fun k hk e => by have := HD.out; omega) B4w.out.size))
              have SP := Lib.hid (sproves_any (fun k => D < k) n rows goal c0 HS.out ly JY.out.sml ra m rc ga gn gc ya yn yc w6 M6.out.rows M6.out.goal Y6.out)
              have m0 := M6.out.blk.cell (i := 0) rfl; have m1 := M6.out.blk.cell (i := 1) rfl; have m2 := M6.out.blk.cell (i := 2) rfl; have m3 := M6.out.blk.cell (i := 3) rfl
              go_wp2_with fail
              refine SP.out.mono ?_
              rintro e w7 ⟨va, ba, rfl, pa, va1, va0, hb7⟩
              have PA := Lib.hid (show (ba = true ↔ _) ∧ (ba = true → _) ∧ (ba = false → _) from ⟨pa, va1, va0⟩)
              obtain ⟨w8, hw8⟩ : ∃ w8, w8 = w7.alloc (.cells #[.int .i64 va.num, .int .i64 (va.den : Int)] 31) := ⟨_, rfl⟩
              have B8 := Lib.hid (show Below w6.heap.size w6 w8 by rw [hw8]; exact hb7.alloc hb7.size _)
              have V8 := Lib.hid (show Blk w8 w7.heap.size 31 (FrC va) by rw [hw8]; exact Blk.new w7 _ _)
              have HW8 := Lib.hid hw8
              obtain ⟨VA, hVA⟩ : ∃ V, V = w7.heap.size := ⟨_, rfl⟩
              rw [← hVA] at V8
              have HVA := Lib.hid hVA
              clear hw8 hVA pa va1 va0 hb7 m0 m1 m2 m3 SP
              go_upto_region 21 with fail
              rw [← HW8.out, ← HVA.out]
              have M8 := Lib.hid (M6.out.chg LP.out.1 (Chg.of_below B8.out))
              have X8 := Lib.hid (X6.out.keeps RTm.stays (fun y _ hl => B8.out.block y hl) B8.out.size)
              have Y8 := Lib.hid (Y6.out.keeps RTm.stays (fun y _ hl => B8.out.block y hl) B8.out.size)
              have RP := Lib.hid (rproves_any (fun k => D < k) n rows goal c0 HS.out ly JY.out.sml ra m rc ga gn gc ya yn yc w8 M8.out.rows M8.out.goal Y8.out)
              have m0 := M8.out.blk.cell (i := 0) rfl; have m1 := M8.out.blk.cell (i := 1) rfl; have m2 := M8.out.blk.cell (i := 2) rfl; have m3 := M8.out.blk.cell (i := 3) rfl
              go_wp2_with fail
              refine RP.out.mono ?_
              rintro e w9 ⟨vb, bb, rfl, pa, va1, va0, hb9⟩
              obtain rfl : ba = bb := by
                have := PA.out.1.trans pa.symm
                cases ba <;> cases bb <;> simp_all
              obtain rfl : va = vb := by
                cases ba
                · rw [PA.out.2.2 rfl, va0 rfl]
                · rw [PA.out.2.1 rfl, va1 rfl]
              obtain ⟨wA, hwA⟩ : ∃ w8, w8 = w9.alloc (.cells #[.int .i64 va.num, .int .i64 (va.den : Int)] 31) := ⟨_, rfl⟩
              have BA := Lib.hid (show Below w8.heap.size w8 wA by rw [hwA]; exact hb9.alloc hb9.size _)
              have UA := Lib.hid (show Blk wA w9.heap.size 31 (FrC va) by rw [hwA]; exact Blk.new w9 _ _)
              have VAA := Lib.hid (V8.out.below BA.out V8.out.lt)
              have HWA := Lib.hid hwA
              obtain ⟨VB, hVB⟩ : ∃ V, V = w9.heap.size := ⟨_, rfl⟩
              rw [← hVB] at UA
              have HVB := Lib.hid hVB
              clear hwA hVB pa va1 va0 hb9 m0 m1 m2 m3 RP PA
              go_upto_region 22 with fail
              rw [← HWA.out, ← HVB.out]
              have MA := Lib.hid (M8.out.chg LP.out.1 (Chg.of_below BA.out))
              have XA := Lib.hid (X8.out.keeps RTm.stays (fun y _ hl => BA.out.block y hl) BA.out.size)
              have BF := Lib.hid (show Below w.heap.size w wA from B6.out.trans ((B8.out.trans (BA.out.mono B8.out.size)).mono B6.out.size))
              obtain ⟨ob, hob⟩ := pbool_of ((xm : Int) = n ∧ GoodP lx ∧ ObeyP rows (lx.map toR))
              have SO := Lib.hid (show ∀ s : BelowW wA, Calls Try.prog 30 #[MdV n (.slice ra m rc) ga gn gc c0, .slice xa xm xc] s.world fun e w' => e = .returned (.bool ob) ∧ Below s.world.heap.size s.world w' from fun s => pyes_fix hob (sobeys_any (fun k => D < k) n rows goal c0 HS.out lx HJX.out.sml ra m rc ga gn gc xa xm xc s.world (MA.out.rows.keeps RRw.stays (fun y _ hl => s.ok.block y hl) s.ok.size) (MA.out.goal.keeps RTm.stays (fun y _ hl => s.ok.block y hl) s.ok.size) (XA.out.keeps RTm.stays (fun y _ hl => s.ok.block y hl) s.ok.size)))
              have RO := Lib.hid (show ∀ s : BelowW wA, Calls Try.prog 14 #[MdV n (.slice ra m rc) ga gn gc c0, .slice xa xm xc] s.world fun e w' => e = .returned (.bool ob) ∧ Below s.world.heap.size s.world w' from fun s => pyes_fix hob (robeys_any (fun k => D < k) n rows goal c0 HS.out lx HJX.out.sml ra m rc ga gn gc xa xm xc s.world (MA.out.rows.keeps RRw.stays (fun y _ hl => s.ok.block y hl) s.ok.size) (XA.out.keeps RTm.stays (fun y _ hl => s.ok.block y hl) s.ok.size)))
              have AW := Lib.hid (show ∀ w : World, Calls Try.prog 13 #[] w fun e w' => e = .returned (.bool true) ∧ Below w.heap.size w w' from fun w => awake_any w)
              have lP := MA.out.blk.lt
              have lV := VAA.out.lt
              have lU := UA.out.lt
              have i0 := fun s : BelowW wA => (s.ok.cell (p := ⟨P, 0, none⟩) lP).trans (MA.out.blk.cell (i := 0) rfl)
              have i1 := fun s : BelowW wA => (s.ok.cell (p := ⟨P, 1, none⟩) lP).trans (MA.out.blk.cell (i := 1) rfl)
              have i2 := fun s : BelowW wA => (s.ok.cell (p := ⟨P, 2, none⟩) lP).trans (MA.out.blk.cell (i := 2) rfl)
              have i3 := fun s : BelowW wA => (s.ok.cell (p := ⟨P, 3, none⟩) lP).trans (MA.out.blk.cell (i := 3) rfl)
              have i4 := fun s : BelowW wA => (s.ok.cell (p := ⟨VA, 0, none⟩) lV).trans (VAA.out.cell (i := 0) rfl)
              have i5 := fun s : BelowW wA => (s.ok.cell (p := ⟨VA, 1, none⟩) lV).trans (VAA.out.cell (i := 1) rfl)
              have i6 := fun s : BelowW wA => (s.ok.cell (p := ⟨VB, 0, none⟩) lU).trans (UA.out.cell (i := 0) rfl)
              have i7 := fun s : BelowW wA => (s.ok.cell (p := ⟨VB, 1, none⟩) lU).trans (UA.out.cell (i := 1) rfl)
              clear hob
              generalize va.num = vn at i4 i6
              generalize va.den = vd at i5 i7
              cases ba <;> cases ob
              all_goals
                refine wp_region_below (by kernel_rfl) (by kernel_rfl) ?_
                repeat (go_big_quiet_step (first | (go_at_call 30; (with_reducible exact calls_below _ (SO.out _))) | (go_at_call 14; (with_reducible exact calls_below _ (RO.out _))) | (go_at_call 13; (with_reducible exact calls_below _ (AW.out _)))))
                refine wpQuiet_nil ?_
                rintro w' ⟨s, rfl⟩
                obtain ⟨w7, ok7⟩ := s
                clear i0 i1 i2 i3 i4 i5 i6 i7
                go_wp2
                go_ret
                exact ⟨rfl, BF.out.trans (ok7.mono BF.out.size)⟩
end Go.Proofs.Ytdegpgonphgbcaa
