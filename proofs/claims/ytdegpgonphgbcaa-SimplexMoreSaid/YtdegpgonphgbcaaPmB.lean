/-
  SimplexMore, walked: for every input the law's function returns true, and nothing that was there changes.
-/
import Derived.Test.YtdegpgonphgbcaaPmA
namespace Go.Proofs.Ytdegpgonphgbcaa
open Go.RowKit

/-- The model in the block P, its lists in blocks of K. -/
structure MdlK (K : Nat → Prop) (P n : Nat) (ra : Option Addr) (rn rc : Nat) (ga : Option Addr) (gn gc : Nat) (c0 : Int) (rows : List MRow) (goal : List (Int × Int)) (w : World) : Prop where
  blk : Blk w P 28 (MdC n (.slice ra rn rc) ga gn gc c0)
  rows : Row RRw 2 K w ra rn rc rows
  goal : Row RTm 2 K w ga gn gc goal
theorem MdlK.chg {K M : Nat → Prop} {P n : Nat} {ra : Option Addr} {rn rc : Nat} {ga : Option Addr} {gn gc : Nat} {c0 : Int} {rows : List MRow} {goal : List (Int × Int)} {w w' : World} (h : MdlK K P n ra rn rc ga gn gc c0 rows goal w) (hP : ¬ M P) (hM : ∀ k, K k → ¬ M k) (hc : Chg M w w') : MdlK K P n ra rn rc ga gn gc c0 rows goal w' :=
  ⟨h.blk.chg hc hP, h.rows.chg RRw.stays hc hM, h.goal.chg RTm.stays hc hM⟩
/-- The rows behind the first one. -/
theorem row_tail {K : Nat → Prop} {w : World} {b o n c : Nat} {rows : List MRow} (h : Row RRw 2 K w (some ⟨b, o, none⟩) (n + 1) (c + 1) rows) : Row RRw 2 K w (some ⟨b, o + 2, none⟩) n c (rows.drop 1) := by
  refine ⟨by rw [List.length_drop, h.hlen]; omega, by have := h.hcap; omega, by have := h.hmax; omega, by have := h.hsz; omega, fun i x hx => ?_⟩
  rw [List.getElem?_drop] at hx
  obtain ⟨b', o', e, h1, h2, h3⟩ := h.row _ x hx
  cases e
  refine ⟨b, o + 2, rfl, h1, h2, ?_⟩
  rw [show o + 2 + i * 2 = o + (1 + i) * 2 by omega]
  exact h3
theorem small_tail {n : Int} {rows : List MRow} {goal : List (Int × Int)} {c0 : Int} (h : SmallP n rows goal c0) : SmallP n (rows.drop 1) goal c0 := by
  obtain ⟨a, b, c, d, e, f, g⟩ := h
  exact ⟨a, b, by rw [List.length_drop]; omega, d, e, f, fun x hx => g x (List.mem_of_mem_drop hx)⟩
set_option maxRecDepth 100000 in
set_option maxHeartbeats 64000000 in
theorem sxMore_top (la : Option Addr) (ln lc : Nat) (zs : List Int) (w : World) (L : IsRow .i64 w la ln lc zs) :
    Calls Try.prog 4 #[.slice la ln lc] w (AwRet w) := by
  have HL := Lib.hid L
  clear L
  go_enter Try.func4, Try.ntmps4
  go_wp2_with fail
  refine (new_any la ln lc zs w HL.out).mono ?_
  rintro e w2 ⟨rfl, hdk, hb⟩
  have B2 := Lib.hid hb
  have DK := Lib.hid hdk
  obtain ⟨D, hD⟩ : ∃ D, D = w.heap.size := ⟨_, rfl⟩
  rw [← hD] at DK ⊢
  have HD := Lib.hid hD
  clear hdk hb hD
  go_wp2_with fail
  refine (mmodel_any D 4 (by omega) w2 DK.out).mono ?_
  rintro e w3 ⟨n, ra, rn, rc, ga, gn, gc, c0, rows, goal, rfl, hR, hG, hs, hn4, hd3, hb3⟩
  obtain ⟨w4, hw4⟩ : ∃ w4, w4 = w3.alloc (.cells (MdC n (.slice ra rn rc) ga gn gc c0).toArray 28) := ⟨_, rfl⟩
  have A4 := Lib.hid (show Below w3.heap.size w3 w4 by rw [hw4]; exact (Below.refl _ _).alloc (Nat.le_refl _) _)
  have lD2 := DK.out.lt
  obtain ⟨P, hP⟩ : ∃ P, P = w3.heap.size := ⟨_, rfl⟩
  have M4 := Lib.hid (show MdlK (fun k => D < k ∧ k < P) P n ra rn rc ga gn gc c0 rows goal w4 from ⟨by rw [hP, hw4]; exact Blk.new w3 _ _, (rw_wide hR (fun k hk => by omega)).keeps RRw.stays (fun y _ hl => A4.out.block y hl) A4.out.size, (tm_wide hG (fun k hk => by omega)).keeps RTm.stays (fun y _ hl => A4.out.block y hl) A4.out.size⟩)
  have D4 := Lib.hid (hd3.below A4.out (Nat.le_refl _))
  have B4 := Lib.hid (show But D w2 w4 from hb3.trans (But.of_below A4.out))
  have B4w := Lib.hid (show Below w.heap.size w w4 by
    refine B2.out.trans ?_
    rw [← HD.out]
    exact B4.out.below (by omega))
  have HS := Lib.hid hs
  have HW4 := Lib.hid hw4
  have LP := Lib.hid (show D < P ∧ P < w4.heap.size from ⟨by rw [hP]; have := hb3.size; omega, M4.out.blk.lt⟩)
  have HP := Lib.hid hP
  have HRL := Lib.hid hR.hlen
  have hrn6 : rn ≤ 6 := by have := hR.hlen; have := hs.2.2.1; omega
  clear hw4 hP hR hG hs hd3 hb3 lD2
  go_upto_region 3 with fail
  rw [← HW4.out, ← HP.out]
  have m1 := M4.out.blk.cell (i := 1) rfl
  have mf := M4.out.blk.free
  go_upto_if 21 with fail
  go_cut [] (fun wx => ∃ (ra : Option Addr) (rn rc : Nat) (rows : List MRow), MdlK (fun k => D < k ∧ k < P) P n ra rn rc ga gn gc c0 rows goal wx ∧ SmallP n rows goal c0 ∧ rn ≤ 5 ∧ Chg (fun k => k = P) w4 wx)
  case first =>
    as_aux_lemma =>
      by_cases h6 : rn = 6
      · subst h6
        obtain ⟨x0, hx0⟩ : ∃ x, rows[0]? = some x := ⟨_, List.getElem?_eq_getElem (by rw [HRL.out]; omega)⟩
        obtain ⟨b, o, rfl, _⟩ := M4.out.rows.row 0 x0 hx0
        obtain ⟨rc', rfl⟩ : ∃ c, rc = c + 1 := ⟨rc - 1, by have := M4.out.rows.hcap; omega⟩
        have hcap := M4.out.rows.hcap
        have hmax := M4.out.rows.hmax
        have RR := Lib.hid (show ∃ (ra : Option Addr) (rn rc : Nat) (rows : List MRow), MdlK (fun k => D < k ∧ k < P) P n ra rn rc ga gn gc c0 rows goal (w4.setCell ⟨P, 1, none⟩ (.slice (some ⟨b, o + 2, none⟩) 5 rc')) ∧ SmallP n rows goal c0 ∧ rn ≤ 5 ∧ Chg (fun k => k = P) w4 (w4.setCell ⟨P, 1, none⟩ (.slice (some ⟨b, o + 2, none⟩) 5 rc')) from by
          have c : Chg (fun k => k = P) w4 (w4.setCell ⟨P, 1, none⟩ (.slice (some ⟨b, o + 2, none⟩) 5 rc')) := Chg.setCell (M := fun k => k = P) (p := ⟨P, 1, none⟩) (Chg.refl w4) (fun _ => rfl) _
          exact ⟨_, _, _, rows.drop 1, ⟨(M4.out.blk.set 1 _).at rfl, (row_tail M4.out.rows).chg RRw.stays c (fun k hk e => by omega), M4.out.goal.chg RTm.stays c (fun k hk e => by omega)⟩, small_tail HS.out, Nat.le_refl _, c⟩)
        clear hx0
        go_wp2
        go_meet
        exact RR.out
      · have RR := Lib.hid (show ∃ (ra : Option Addr) (rn rc : Nat) (rows : List MRow), MdlK (fun k => D < k ∧ k < P) P n ra rn rc ga gn gc c0 rows goal w4 ∧ SmallP n rows goal c0 ∧ rn ≤ 5 ∧ Chg (fun k => k = P) w4 w4 from ⟨_, _, _, _, M4.out, HS.out, by omega, Chg.refl _⟩)
        have h6b : ((rn : Int) == 6) = false := by simp; omega
        clear h6
        go_wp2
        go_meet
        exact RR.out
  case rest =>
    clear m1 mf
    obtain ⟨ra, rn, rc, rows, hm5, hs5, hrn5, hc5⟩ := hcut
    obtain ⟨w5, hw5⟩ : ∃ w5 : World, w5 = wc := ⟨_, rfl⟩
    rw [← hw5] at hm5 hc5 ⊢
    have M5 := Lib.hid hm5; have S5 := Lib.hid hs5
    have D5 := Lib.hid (D4.out.chg hc5 (fun j _ h1 e => by have := LP.out; omega))
    have B5w := Lib.hid (show Below w.heap.size w w5 from B4w.out.trans (hc5.below (fun k hk e => by have := HD.out; have := LP.out; omega) B4w.out.size))
    have LP5 := Lib.hid (show D < P ∧ P < w5.heap.size from ⟨LP.out.1, hm5.blk.lt⟩)
    clear hw5 hm5 hs5 hc5 M4 HS HRL hrn6 D4 B4 B4w LP A4 HW4
    obtain ⟨w6, hw6⟩ : ∃ w6, w6 = w5.alloc (.cells (MdC n (.slice ra rn rc) ga gn gc c0).toArray 28) := ⟨_, rfl⟩
    have A6 := Lib.hid (show Below w5.heap.size w5 w6 by rw [hw6]; exact (Below.refl _ _).alloc (Nat.le_refl _) _)
    obtain ⟨X, hX⟩ : ∃ X, X = w5.heap.size := ⟨_, rfl⟩
    have X6 := Lib.hid (show Blk w6 X 28 (MdC n (.slice ra rn rc) ga gn gc c0) by rw [hw6, hX]; exact Blk.new w5 _ _)
    have M6 := Lib.hid (M5.out.chg (M := Non) (fun h => h) (fun _ _ h => h) (Chg.of_below A6.out))
    have D6 := Lib.hid (D5.out.below A6.out (Nat.le_refl _))
    have LX := Lib.hid (show D < P ∧ P < X ∧ X < w6.heap.size from ⟨LP5.out.1, by rw [hX]; exact LP5.out.2, X6.out.lt⟩)
    have HW6 := Lib.hid hw6; have HX := Lib.hid hX
    have m0 := M5.out.blk.cell (i := 0) rfl; have m1 := M5.out.blk.cell (i := 1) rfl; have m2 := M5.out.blk.cell (i := 2) rfl; have m3 := M5.out.blk.cell (i := 3) rfl
    clear hw6 hX
    go_upto_region 6 with fail
    rw [← HW6.out, ← HX.out]
    clear m0 m1 m2 m3
    go_cut [] (fun wx => ∃ (xa : Option Addr) (xn xc : Nat) (rX : MRow), Blk wx X 28 (MdC n (.slice xa xn xc) ga gn gc c0) ∧ Row RRw 2 (fun k => D < k ∧ k ≠ X) wx xa xn xc (rows ++ [rX]) ∧ TermsOk rX.1 n 9 rX.1.length ∧ 0 ≤ rX.2 ∧ rX.2 < 40 ∧ Deck wx D ∧ Chg (fun k => k = D ∨ k = X) w6 wx)
    case first =>
      as_aux_lemma =>
        have p1 := M6.out.blk.cell (i := 1) rfl; have p0 := M6.out.blk.cell (i := 0) rfl
        have hPD : ¬ P = D := by have := LX.out; omega
        refine hd_start 12 (fun w' => w'.cell? ⟨P, 1, none⟩ = some (.slice ra rn rc) ∧ w'.cell? ⟨P, 0, none⟩ = some (.int .i64 n)) (by kernel_rfl) ⟨by kernel_rfl, by kernel_rfl, by kernel_rfl, by decide⟩ (by refine ⟨p1, p0⟩) (fun ok => ?_)
        refine hd_take_l (i := 0) (v := ?_) ok rfl (by decide) (by kernel_rfl) (by kernel_rfl) (fun _ _ _ h => h) (Or.inl ⟨by kernel_rfl, ?_⟩) ?_
        rotate_left
        · (intro w hSw; (try dsimp only at hSw); (try go_split_ands); go_simp; (try (with_reducible rfl)))
        go_frame
        refine hd_take_l (i := 1) (v := ?_) ok rfl (by decide) (by kernel_rfl) (by kernel_rfl) (fun _ _ _ h => h) (Or.inl ⟨by kernel_rfl, ?_⟩) ?_
        rotate_left
        · (intro w hSw; (try dsimp only at hSw); (try go_split_ands); go_simp; (try (with_reducible rfl)))
        go_frame
        refine hd_take_l (i := 3) (v := ?_) ok rfl (by decide) (by kernel_rfl) (by kernel_rfl) (fun _ _ _ h => h) (Or.inl ⟨by kernel_rfl, ?_⟩) ?_
        rotate_left
        · (intro w hSw; (try dsimp only at hSw); (try go_split_ands); go_simp; (try (with_reducible rfl)))
        go_frame
        refine hd_take_l (i := 4) (v := ?_) ok rfl (by decide) (by kernel_rfl) (by kernel_rfl) (fun _ _ _ h => h) (Or.inl ⟨by kernel_rfl, ?_⟩) ?_
        rotate_left
        · (intro w hSw; (try dsimp only at hSw); (try go_split_ands); go_simp; (try (with_reducible rfl)))
        go_frame
        refine hd_take_l (i := 5) (v := ?_) ok rfl (by decide) (by kernel_rfl) (by kernel_rfl) (fun _ _ _ h => h) (Or.inl ⟨by kernel_rfl, ?_⟩) ?_
        rotate_left
        · (intro w hSw; (try dsimp only at hSw); (try go_split_ands); go_simp; (try (with_reducible rfl)))
        go_frame
        refine hd_take_l (i := 7) (v := ?_) ok rfl (by decide) (by kernel_rfl) (by kernel_rfl) (fun _ _ _ h => h) (Or.inl ⟨by kernel_rfl, ?_⟩) ?_
        rotate_left
        · (intro w hSw; (try dsimp only at hSw); (try go_split_ands); go_simp; (try (with_reducible rfl)))
        go_frame
        refine hd_only_l (c := 2) rfl (by decide) (by kernel_rfl) (fun K hK => ?_)
        refine step_pm rfl (op_copy (M6.out.rows.keeps RRw.stays (fun y _ hl => ((Below.refl w6.heap.size w6).drew).block y hl) (Nat.le_refl _)) (by omega) _ _ _ _ _ _ _ (by simp) ?_)
        intro va vc us w7 hcp
        have OW7 : Hid (w7.ownsRow w6.heap.size 50 2 (.slice va rn vc) rn (rcs us rows)) := Lib.hid hcp.out.1; have TA7 := Lib.hid hcp.out.2.1
        have C7 := Lib.hid (show Chg Non w6 w7 from (Chg.refl w6).drew.trans (Chg.of_below hcp.out.2.2) (fun _ _ h => h))
        have D7 := Lib.hid (D6.out.chg C7.out (fun _ _ _ h => h))
        have q1 := C7.out.cell (fun h => h) p1; have q0 := C7.out.cell (fun h => h) p0
        clear hcp
        (try simp only [])
        refine hK _ _ (by refine ⟨?_, ?_⟩ <;> (first | exact q1 | exact q0)) ?_
        clear hK K
        (try go_frame)

        refine hd_only_l (c := 6) rfl (by decide) (by kernel_rfl) (fun K hK => ?_)
        go_simp
        refine (mterms_any D n (by omega) w7 D7.out).mono ?_
        rintro e' w8 ⟨v8, l8, rfl, ho8, ht8, hl8, hd8, hb8⟩
        obtain ⟨a8, c8, rfl⟩ := flat_form ho8
        have hl8n : l8.length ≤ 4 := by omega
        have C8 := Lib.hid (show Chg (fun k => k = D) w6 w8 from (C7.out.mono (fun _ _ h => h.elim)).trans hb8.chg (fun _ _ h => h))
        have R8 := Lib.hid (show Row RTm 2 (fun k => w7.heap.size ≤ k) w8 a8 l8.length c8 l8 from tm_wide (tm_read ho8 rfl (by omega)) (fun _ h => h.1))
        have OW8 := Lib.hid (ownsRow_of OW7.out (fun k hk => hb8.chg.block k (OW7.out.lt k hk).2 (fun e => by have := (OW7.out.lt k hk).1; have := LX.out; omega)))
        have TA8 := Lib.hid (TA7.out.chg hb8.chg (fun k hk e => by omega))
        have OT8 := Lib.hid ht8
        have hb8s := hb8.size
        have r1 := C8.out.cell hPD p1; have r0 := C8.out.cell hPD p0
        clear q1 q0 hb8 ho8 ht8
        (try simp only [])
        refine hK _ _ (by refine ⟨?_, ?_⟩ <;> (first | exact r1 | exact r0)) ?_
        clear hK K
        (try go_frame)

        refine hd_only_l (c := 8) rfl (by decide) (by kernel_rfl) (fun K hK => ?_)
        go_simp
        refine (next_any D 40 (by omega) (by omega) w8 hd8).mono ?_
        rintro e' w9 ⟨z, rfl, z0, z1, hd9, hb9⟩
        have L8 := Lib.hid (show w6.heap.size ≤ w7.heap.size ∧ w7.heap.size ≤ w8.heap.size ∧ w8.heap.size ≤ w9.heap.size from ⟨C7.out.size, hb8s, hb9.size⟩)
        have C9 := Lib.hid (show Chg (fun k => k = D) w6 w9 from C8.out.trans hb9.chg (fun _ _ h => h))
        have OW9 := Lib.hid (ownsRow_of OW8.out (fun k hk => hb9.chg.block k (OW8.out.lt k hk).2 (fun e => by have := (OW8.out.lt k hk).1; have := LX.out; omega)))
        have R9 := Lib.hid (R8.out.chg RTm.stays hb9.chg (fun k hk e => by have := LX.out; have := L8.out; omega))
        have TA9 := Lib.hid (TA8.out.chg hb9.chg (fun k hk e => by omega))
        have s1 := C9.out.cell hPD p1; have s0 := C9.out.cell hPD p0
        clear r1 r0 hb9
        (try simp only [])
        refine hK _ _ (by refine ⟨?_, ?_⟩ <;> (first | exact s1 | exact s0)) ?_
        clear hK K
        (try go_frame)
        refine hd_take_l (i := 9) (v := ?_) ok rfl (by decide) (by kernel_rfl) (by kernel_rfl) (fun _ _ _ h => h) (Or.inl ⟨by kernel_rfl, ?_⟩) ?_
        rotate_left
        · (intro w hSw; (try dsimp only at hSw); (try go_split_ands); go_simp; (try (with_reducible rfl)))
        go_frame
        refine hd_only_l (c := 10) rfl (by decide) (by kernel_rfl) (fun K hK => ?_)
        go_simp
        obtain ⟨wT, hwT⟩ : ∃ wT, wT = w9.alloc (.cells #[.slice a8 l8.length c8, .int .i64 z] 50) := ⟨_, rfl⟩
        rw [← hwT]
        have AT := Lib.hid (show Below w9.heap.size w9 wT by rw [hwT]; exact (Below.refl _ _).alloc (Nat.le_refl _) _)
        have NT := Lib.hid (show Blk wT w9.heap.size 50 [.slice a8 l8.length c8, .int .i64 z] by rw [hwT]; exact Blk.new w9 _ _)
        have CN := Lib.hid (show Chg Non w9 wT from Chg.of_below AT.out)
        have OWT := Lib.hid (flat_below OW9.out AT.out)
        have RT := Lib.hid (R9.out.chg RTm.stays CN.out (fun k hk e => e))
        have TAT := Lib.hid (TA9.out.chg CN.out (fun k hk e => e))
        have DT := Lib.hid (hd9.below AT.out (Nat.le_refl _))
        have CT := Lib.hid (show Chg (fun k => k = D) w6 wT from C9.out.trans CN.out (fun _ _ h => h.elim))
        have ST := Lib.hid (show w6.heap.size ≤ wT.heap.size from CT.out.size)
        have LO := Lib.hid (fun k (e : (Value.slice va rn vc).ownBlock = some k) => show w6.heap.size ≤ k ∧ k < w7.heap.size from OW7.out.lt k e)
        have t1 := CT.out.cell hPD p1; have t0 := CT.out.cell hPD p0
        clear s1 s0 hwT hd9
        (try simp only [])
        refine hK _ _ (by refine ⟨?_, ?_⟩ <;> (first | exact t1 | exact t0)) ?_
        clear hK K
        (try go_frame)

        refine hd_only_l (c := 11) rfl (by decide) (by kernel_rfl) (fun K hK => ?_)
        refine step_append_flat rfl (.tmp 29) (.tmp 37) 25 rfl 50 Try.underlying25 info_rw rfl (by decide) OWT.out rfl ST.out ⟨w9.heap.size, 0, none⟩ 1 1 [.slice a8 l8.length c8, .int .i64 z] rfl rfl (fun j u hu => by rw [Addr.add_lit, Nat.zero_add]; exact NT.out.cell hu) (by simp [Value.oneCell']) (by decide) (by omega) (by decide) ?_
        intro g cap wA hap
        have RA := Lib.hid (app_row (K := fun k => D < k ∧ k ≠ X) OWT.out (TAT.out.wide (fun k hk => ⟨⟨hk.1, by have := LX.out; omega⟩, fun e => by have := LO.out k e; have := LX.out; omega⟩)) M6.out.rows.hlen (by omega) (fun k hk => by have := LX.out; omega) (tm_wide RT.out (fun k hk => ⟨by have := LX.out; have := L8.out; omega, fun e => by have := LO.out k e; omega⟩)) hap.out)
        have CA := Lib.hid (show Chg (fun k => k = D) w6 wA from CT.out.trans RA.out.2 (fun k hk e => by omega))
        have DA := Lib.hid (DT.out.chg RA.out.2 (fun j _ h e => by have := LX.out; omega))
        have XA := Lib.hid (X6.out.chg CA.out (by have := LX.out; omega))
        have v1 := CA.out.cell hPD p1; have v0 := CA.out.cell hPD p0
        have RR := Lib.hid (show ∃ (xa : Option Addr) (xn xc : Nat) (rX : MRow), Blk (wA.setCell ⟨X, 1, none⟩ (.slice (some ⟨g, 0, none⟩) (rn + 1) cap)) X 28 (MdC n (.slice xa xn xc) ga gn gc c0) ∧ Row RRw 2 (fun k => D < k ∧ k ≠ X) (wA.setCell ⟨X, 1, none⟩ (.slice (some ⟨g, 0, none⟩) (rn + 1) cap)) xa xn xc (rows ++ [rX]) ∧ TermsOk rX.1 n 9 rX.1.length ∧ 0 ≤ rX.2 ∧ rX.2 < 40 ∧ Deck (wA.setCell ⟨X, 1, none⟩ (.slice (some ⟨g, 0, none⟩) (rn + 1) cap)) D ∧ Chg (fun k => k = D ∨ k = X) w6 (wA.setCell ⟨X, 1, none⟩ (.slice (some ⟨g, 0, none⟩) (rn + 1) cap)) from by
          have c : Chg (fun x => x = X) wA (wA.setCell ⟨X, 1, none⟩ (.slice (some ⟨g, 0, none⟩) (rn + 1) cap)) := Chg.setCell (M := fun x => x = X) (p := ⟨X, 1, none⟩) (Chg.refl wA) (fun _ => rfl) _
          exact ⟨_, _, _, (l8, z), (XA.out.set 1 _).at rfl, RA.out.1.chg RRw.stays c (fun k hk e => hk.2 e), OT8.out, z0, z1, DA.out.chg c (fun j _ h e => by have := LX.out; omega), (CA.out.mono (fun k _ e => Or.inl e)).trans c (fun k _ e => Or.inr e)⟩)
        have x1 := XA.out.cell (i := 1) rfl
        have xf := XA.out.free
        clear hap t1 t0
        (try simp only [])
        refine hK _ _ (by refine ⟨?_, ?_⟩ <;> (first | exact v1 | exact v0)) ?_
        clear hK K
        (try go_frame)
        refine hd_done (by kernel_rfl) ?_
        simp only [List.drop_succ_cons, List.drop_zero]
        clear v1 v0 p1 p0
        go_wp2
        go_meet
        exact RR.out
    case rest =>
      obtain ⟨xa, xn, xc, ⟨lX, bX⟩, hx7, hr7, ht7, hz0, hz1, hd7, hc7⟩ := hcut
      obtain ⟨w7, hw7⟩ : ∃ w7 : World, w7 = wc := ⟨_, rfl⟩
      rw [← hw7] at hx7 hr7 hd7 hc7 ⊢
      have X7 := Lib.hid hx7; have R7 := Lib.hid hr7; have T7 := Lib.hid ht7; have Z7 := Lib.hid (show 0 ≤ bX ∧ bX < 40 from ⟨hz0, hz1⟩); have D7 := Lib.hid hd7
      have M7 := Lib.hid (M6.out.chg (M := fun k => k = D ∨ k = X) (by have := LX.out; omega) (fun k hk e => by have := LX.out; omega) hc7)
      have B7w := Lib.hid (show Below w.heap.size w w7 by
        have b6 : Below w.heap.size w w6 := B5w.out.trans ((Chg.of_below (M := Non) A6.out).below (fun _ _ e => e) B5w.out.size)
        exact b6.trans (hc7.below (fun k hk e => by have := HD.out; have := LX.out; omega) b6.size))
      have LX7 := Lib.hid (show D < P ∧ P < X ∧ X < w7.heap.size from ⟨LX.out.1, LX.out.2.1, hx7.lt⟩)
      clear hw7 hx7 hr7 ht7 hz0 hz1 hd7 hc7 X6 M6 D6 A6 B5w LX HW6 HX M5 D5 LP5
      obtain ⟨w8, hw8⟩ : ∃ w8, w8 = w7.alloc (.cells (MdC n (.slice ra rn rc) ga gn gc c0).toArray 28) := ⟨_, rfl⟩
      have A8 := Lib.hid (show Below w7.heap.size w7 w8 by rw [hw8]; exact (Below.refl _ _).alloc (Nat.le_refl _) _)
      have C8 := Lib.hid (show Chg Non w7 w8 from Chg.of_below A8.out)
      obtain ⟨Y, hY⟩ : ∃ Y, Y = w7.heap.size := ⟨_, rfl⟩
      have Y8 := Lib.hid (show Blk w8 Y 28 (MdC n (.slice ra rn rc) ga gn gc c0) by rw [hw8, hY]; exact Blk.new w7 _ _)
      have M8 := Lib.hid (M7.out.chg (M := Non) (fun h => h) (fun _ _ h => h) C8.out)
      have X8 := Lib.hid (X7.out.chg C8.out (fun h => h))
      have R8 := Lib.hid ((show Row RRw 2 (fun k => D < k ∧ k ≠ X ∧ k < Y) w7 xa xn xc (rows ++ [(lX, bX)]) from rw_wide (rw_below R7.out) (fun k hk => ⟨hk.1.1, hk.1.2, by rw [hY]; exact hk.2⟩)).chg RRw.stays C8.out (fun _ _ h => h))
      have D8 := Lib.hid (D7.out.below A8.out (Nat.le_refl _))
      have B8w := Lib.hid (show Below w.heap.size w w8 from B7w.out.trans (C8.out.below (fun _ _ e => e) B7w.out.size))
      have LY := Lib.hid (show D < P ∧ P < X ∧ X < Y ∧ Y < w8.heap.size from ⟨LX7.out.1, LX7.out.2.1, by rw [hY]; exact LX7.out.2.2, Y8.out.lt⟩)
      have HW8 := Lib.hid hw8; have HY := Lib.hid hY
      have m0 := M7.out.blk.cell (i := 0) rfl; have m1 := M7.out.blk.cell (i := 1) rfl; have m2 := M7.out.blk.cell (i := 2) rfl; have m3 := M7.out.blk.cell (i := 3) rfl
      clear hw8 hY
      go_upto_region 8 with fail
      rw [← HW8.out, ← HY.out]
      clear m0 m1 m2 m3 M7 X7 R7 D7 B7w LX7 A8 HW8 HY
      have m1 := M8.out.blk.cell (i := 1) rfl
      go_upto_if 44 with fail
      go_cut [] (fun wx => ∃ (ya : Option Addr) (yn yc : Nat) (rY : List MRow), Blk wx Y 28 (MdC n (.slice ya yn yc) ga gn gc c0) ∧ Row RRw 2 (fun k => D < k ∧ k ≠ Y) wx ya yn yc rY ∧ (rY = rows ∨ ∃ (l : List (Int × Int)) (b b' : Int), (l, b) ∈ rows ∧ rY = rows ++ [(l, b')] ∧ b ≤ b' ∧ b' ≤ 50) ∧ Chg (fun k => k = D ∨ k = Y) w8 wx)
      case first =>
        as_aux_lemma =>
          rcases Nat.eq_zero_or_pos rn with h0 | h0
          · have RR := Lib.hid (show ∃ (ya : Option Addr) (yn yc : Nat) (rY : List MRow), Blk w8 Y 28 (MdC n (.slice ya yn yc) ga gn gc c0) ∧ Row RRw 2 (fun k => D < k ∧ k ≠ Y) w8 ya yn yc rY ∧ (rY = rows ∨ ∃ (l : List (Int × Int)) (b b' : Int), (l, b) ∈ rows ∧ rY = rows ++ [(l, b')] ∧ b ≤ b' ∧ b' ≤ 50) ∧ Chg (fun k => k = D ∨ k = Y) w8 w8 from ⟨_, _, _, _, Y8.out, rw_wide M8.out.rows (fun k hk => by have := LY.out; omega), .inl rfl, Chg.refl _⟩)
            have h6b : ¬ 0 < rn := by omega
            have h6c : decide (0 < rn) = false := by simp; omega
            clear h0
            go_wp2
            go_meet
            exact RR.out
          · obtain ⟨ad, us, had, hts, hcells⟩ := rw_cells M8.out.rows h0
            subst had
            obtain ⟨x0, hx0⟩ : ∃ x, rows[0]? = some x := ⟨_, List.getElem?_eq_getElem (by rw [M8.out.rows.hlen]; exact h0)⟩
            obtain ⟨b, o, e, hb, _⟩ := M8.out.rows.row 0 x0 hx0
            cases e
            have CE := Lib.hid (show CellsAt b o (rcs us rows) w8 from fun j u hj => by have := hcells j u hj; rw [Addr.add_lit] at this; exact this)
            have TE := Lib.hid hts
            have HB := Lib.hid hb
            have hrl := M8.out.rows.hlen
            clear hcells hts hx0 hb
            go_upto_region 9 with fail
            go_cut [7] (fun s wx => ∃ (V : Nat) (l : List (Int × Int)) (c : Int) (a1 : Option Addr) (c1 : Nat), s = .pointer (some ⟨V, 0, none⟩) ∧ (l, c) ∈ rows ∧ Row RTm 2 (fun k => D < k ∧ k < P) wx a1 l.length c1 l ∧ Blk wx V 50 [.slice a1 l.length c1, .int .i64 c] ∧ w8.heap.size ≤ V ∧ Deck wx D ∧ Chg (fun k => k = D) w8 wx)
            case first =>
              as_aux_lemma =>
              have p1 := m1
              have q2 := CE.out
              have hPD : ¬ P = D := by have := LY.out; omega
              have hbD : ¬ b = D := by have := HB.out; omega
              refine hd_start 10 (fun w' => w'.cell? ⟨P, 1, none⟩ = some (.slice (some ⟨b, o, none⟩) rn rc) ∧ CellsAt b o (rcs us rows) w') (by kernel_rfl) ⟨by kernel_rfl, by kernel_rfl, by kernel_rfl, by decide⟩ (by refine ⟨p1, q2⟩) (fun ok => ?_)
              refine hd_take_l (i := 0) (v := ?_) ok rfl (by decide) (by kernel_rfl) (by kernel_rfl) (fun _ _ _ h => h) (Or.inl ⟨by kernel_rfl, ?_⟩) ?_
              rotate_left
              · (intro w hSw; (try dsimp only at hSw); (try go_split_ands); go_simp; (try (with_reducible rfl)))
              go_frame
              refine hd_take_l (i := 1) (v := ?_) ok rfl (by decide) (by kernel_rfl) (by kernel_rfl) (fun _ _ _ h => h) (Or.inl ⟨by kernel_rfl, ?_⟩) ?_
              rotate_left
              · (intro w hSw; (try dsimp only at hSw); (try go_split_ands); go_simp; (try (with_reducible rfl)))
              go_frame
              refine hd_take_l (i := 2) (v := ?_) ok rfl (by decide) (by kernel_rfl) (by kernel_rfl) (fun _ _ _ h => h) (Or.inl ⟨by kernel_rfl, ?_⟩) ?_
              rotate_left
              · (intro w hSw; (try dsimp only at hSw); (try go_split_ands); go_simp; (try (with_reducible rfl)))
              go_frame
              refine hd_take_l (i := 3) (v := ?_) ok rfl (by decide) (by kernel_rfl) (by kernel_rfl) (fun _ _ _ h => h) (Or.inl ⟨by kernel_rfl, ?_⟩) ?_
              rotate_left
              · (intro w hSw; (try dsimp only at hSw); (try go_split_ands); go_simp; (try (with_reducible rfl)))
              go_frame
              refine hd_take_l (i := 4) (v := ?_) ok rfl (by decide) (by kernel_rfl) (by kernel_rfl) (fun _ _ _ h => h) (Or.inl ⟨by kernel_rfl, ?_⟩) ?_
              rotate_left
              · (intro w hSw; (try dsimp only at hSw); (try go_split_ands); go_simp; (try (with_reducible rfl)))
              go_frame
-- R9 begin
              have dk9 : Deck w8.drew D := D8.out.below ((Below.refl _ _).drew) (Nat.le_refl _)
              refine hd_two_l (c := 5) (d := 9) rfl rfl (by decide) (by decide) (by kernel_rfl) (fun K hK => ?_) (fun K hK => ?_)
              · skip
                go_simp
                (try simp only [])
                refine hK _ _ (by refine ⟨?_, ?_⟩ <;> (first | exact p1 | exact q2)) ?_
                clear hK K
                (try go_frame)

                refine hd_two_l (c := 6) (d := 9) rfl rfl (by decide) (by decide) (by kernel_rfl) (fun K hK => ?_) (fun K hK => ?_)
                · skip
                  go_simp

                  refine (next_any D rn (by omega) (by omega) w8.drew dk9).mono ?_
                  rintro e' wB ⟨z, rfl, z0, z1, hdb, hbb⟩
                  obtain ⟨k, rfl⟩ := Int.eq_ofNat_of_zero_le z0
                  obtain ⟨⟨l, c⟩, hx⟩ : ∃ x, rows[k]? = some x := ⟨_, List.getElem?_eq_getElem (by rw [hrl]; omega)⟩
                  obtain ⟨u, hu⟩ : ∃ u, us[k]? = some u := ⟨_, List.getElem?_eq_getElem (by rw [TE.out.1, hrl]; omega)⟩
                  obtain ⟨a1, n1, c1, rfl, hr1⟩ := TE.out.2 k u _ hu hx
                  obtain rfl : n1 = l.length := hr1.hlen.symm
                  have HE := Lib.hid (rcs_get hu hx)
                  have HX := Lib.hid (List.mem_of_getElem? hx)
                  have CB := Lib.hid (show Chg (fun k => k = D) w8 wB from ((Chg.refl w8).drew).trans hbb.chg (fun _ _ h => h))
                  have RB := Lib.hid (hr1.chg RTm.stays CB.out (fun k hk e => by omega))
                  have DB := Lib.hid hdb
                  have pb := CB.out.cell hPD m1
                  have qb := CE.out.chg CB.out hbD
                  have hk1 : (k : Int) < (rn : Int) := z1
                  have hk2 : k < rn := by omega

                  clear hx hu hr1 hbb hdb z0 z1
                  (try simp only [])
                  refine hK _ _ (by refine ⟨?_, ?_⟩ <;> (first | exact pb | exact qb)) ?_
                  clear hK K
                  (try go_frame)
                  refine hd_take_l (i := 7) (v := ?_) ok rfl (by decide) (by kernel_rfl) (by kernel_rfl) (fun _ _ _ h => h) (Or.inl ⟨by kernel_rfl, ?_⟩) ?_
                  rotate_left
                  · (intro w hSw; (try dsimp only at hSw); obtain ⟨k1, k2⟩ := hSw; have e0 := k2 _ _ HE.out.1; have e1 : w.cell? ⟨b, o + k * 2 + 1, none⟩ = some (.int .i64 c) := k2 _ _ HE.out.2; go_simp; (try (with_reducible rfl)))
                  go_frame
                  refine hd_take_l (i := 8) (v := ?_) ok rfl (by decide) (by kernel_rfl) (by kernel_rfl) (fun _ _ _ h => h) (Or.inl ⟨by kernel_rfl, ?_⟩) ?_
                  rotate_left
                  · (intro w hSw; (try dsimp only at hSw); obtain ⟨k1, k2⟩ := hSw; have e0 := k2 _ _ HE.out.1; have e1 : w.cell? ⟨b, o + k * 2 + 1, none⟩ = some (.int .i64 c) := k2 _ _ HE.out.2; go_simp; (try (with_reducible rfl)))
                  go_frame
                  refine hd_only_l (c := 9) rfl (by decide) (by kernel_rfl) (fun K hK => ?_)
                  go_simp

                  obtain ⟨wa, hwa⟩ : ∃ wa, wa = wB.alloc (.cells #[.slice none 0 0, .int .i64 0] 50) := ⟨_, rfl⟩
                  rw [← hwa]
                  have AA := Lib.hid (show Below (wB).heap.size wB wa by rw [hwa]; exact (Below.refl (wB).heap.size (wB)).alloc (Nat.le_refl _) _)
                  have CA := Lib.hid (show Chg (fun k => k = D) w8 wa from (CB.out).trans (Chg.of_below (M := Non) AA.out) (fun _ _ h => h.elim))
                  have VA := Lib.hid (show Blk wa wB.heap.size 50 [.slice none 0 0, .int .i64 0] by rw [hwa]; exact Blk.new (wB) _ _)
                  have pa := CA.out.cell hPD m1
                  have qa := CE.out.chg CA.out hbD
                  clear hwa

                  have LV := Lib.hid (show w8.heap.size ≤ wB.heap.size from CB.out.size)
                  have VB := Lib.hid VA.out
                  have RB2 := Lib.hid (RB.out.keeps RTm.stays (fun y _ hl => AA.out.block y hl) AA.out.size)
                  have DB2 := Lib.hid (DB.out.below AA.out (Nat.le_refl _))
                  have CB2 := CA
                  (try simp only [])
                  refine hK _ _ (by refine ⟨?_, ?_⟩ <;> (first | exact pa | exact qa)) ?_
                  clear hK K
                  (try go_frame)
                  clear pa qa

                  have v0 := VB.out.cell (i := 0) rfl; have v1 := VB.out.cell (i := 1) rfl; have vf := VB.out.free
                  have RR := Lib.hid (show ∃ (V : Nat) (l' : List (Int × Int)) (c' : Int) (a1' : Option Addr) (c1' : Nat), Value.pointer (some ⟨wB.heap.size, 0, none⟩) = .pointer (some ⟨V, 0, none⟩) ∧ (l', c') ∈ rows ∧ Row RTm 2 (fun k => D < k ∧ k < P) ((wa.setCell ⟨wB.heap.size, 0, none⟩ (.slice a1 l.length c1)).setCell ⟨wB.heap.size, 1, none⟩ (.int .i64 c)) a1' l'.length c1' l' ∧ Blk ((wa.setCell ⟨wB.heap.size, 0, none⟩ (.slice a1 l.length c1)).setCell ⟨wB.heap.size, 1, none⟩ (.int .i64 c)) V 50 [.slice a1' l'.length c1', .int .i64 c'] ∧ w8.heap.size ≤ V ∧ Deck ((wa.setCell ⟨wB.heap.size, 0, none⟩ (.slice a1 l.length c1)).setCell ⟨wB.heap.size, 1, none⟩ (.int .i64 c)) D ∧ Chg (fun k => k = D) w8 ((wa.setCell ⟨wB.heap.size, 0, none⟩ (.slice a1 l.length c1)).setCell ⟨wB.heap.size, 1, none⟩ (.int .i64 c)) from by
                    have cc : Chg (fun x => x = wB.heap.size) wa ((wa.setCell ⟨wB.heap.size, 0, none⟩ (.slice a1 l.length c1)).setCell ⟨wB.heap.size, 1, none⟩ (.int .i64 c)) := Chg.setCell (M := fun x => x = wB.heap.size) (p := ⟨wB.heap.size, 1, none⟩) (Chg.setCell (M := fun x => x = wB.heap.size) (p := ⟨wB.heap.size, 0, none⟩) (Chg.refl wa) (fun _ => rfl) _) (fun _ => rfl) _
                    exact ⟨_, _, _, _, _, rfl, HX.out, RB2.out.chg RTm.stays cc (fun k hk e => by have := LY.out; have := LV.out; omega), ((VB.out.set 0 _).set 1 _).at rfl, LV.out, DB2.out.chg cc (fun j _ h e => by have := LY.out; have := LV.out; omega), CB2.out.trans cc (fun k hk e => by have := LV.out; omega)⟩)
                  clear HE
                  refine hd_done (by kernel_rfl) ?_
                  simp only [List.drop_succ_cons, List.drop_zero]
                  go_wp2
                  go_meet
                  exact RR.out
                · skip
                  go_simp

                  obtain ⟨wa, hwa⟩ : ∃ wa, wa = (w8.alloc (.cells #[.slice none 0 0, .int .i64 0] 50)).drew := ⟨_, rfl⟩
                  rw [← hwa]
                  have AA := Lib.hid (show Below (w8.drew).heap.size w8.drew wa by rw [hwa]; exact (Below.refl (w8.drew).heap.size (w8.drew)).alloc (Nat.le_refl _) _)
                  have CA := Lib.hid (show Chg (fun k => k = D) w8 wa from ((Chg.refl w8).drew).trans (Chg.of_below (M := Non) AA.out) (fun _ _ h => h.elim))
                  have VA := Lib.hid (show Blk wa w8.heap.size 50 [.slice none 0 0, .int .i64 0] by rw [hwa]; exact Blk.new (w8.drew) _ _)
                  have pa := CA.out.cell hPD m1
                  have qa := CE.out.chg CA.out hbD
                  clear hwa
                  (try simp only [])
                  refine hK _ _ (by refine ⟨?_, ?_⟩ <;> (first | exact pa | exact qa)) ?_
                  clear hK K
                  (try go_frame)

                  refine hd_only_l (c := 6) rfl (by decide) (by kernel_rfl) (fun K hK => ?_)
                  go_simp

                  refine (next_any D rn (by omega) (by omega) wa (dk9.below AA.out (Nat.le_refl _))).mono ?_
                  rintro e' wB ⟨z, rfl, z0, z1, hdb, hbb⟩
                  obtain ⟨k, rfl⟩ := Int.eq_ofNat_of_zero_le z0
                  obtain ⟨⟨l, c⟩, hx⟩ : ∃ x, rows[k]? = some x := ⟨_, List.getElem?_eq_getElem (by rw [hrl]; omega)⟩
                  obtain ⟨u, hu⟩ : ∃ u, us[k]? = some u := ⟨_, List.getElem?_eq_getElem (by rw [TE.out.1, hrl]; omega)⟩
                  obtain ⟨a1, n1, c1, rfl, hr1⟩ := TE.out.2 k u _ hu hx
                  obtain rfl : n1 = l.length := hr1.hlen.symm
                  have HE := Lib.hid (rcs_get hu hx)
                  have HX := Lib.hid (List.mem_of_getElem? hx)
                  have CB := Lib.hid (show Chg (fun k => k = D) w8 wB from (CA.out).trans hbb.chg (fun _ _ h => h))
                  have RB := Lib.hid (hr1.chg RTm.stays CB.out (fun k hk e => by omega))
                  have DB := Lib.hid hdb
                  have pb := CB.out.cell hPD m1
                  have qb := CE.out.chg CB.out hbD
                  have hk1 : (k : Int) < (rn : Int) := z1
                  have hk2 : k < rn := by omega
                  have LV := Lib.hid (show w8.heap.size ≤ w8.heap.size from Nat.le_refl _)
                  have VB := Lib.hid (VA.out.chg hbb.chg (by have := LY.out; omega))

                  clear hx hu hr1 hbb hdb z0 z1
                  clear pa qa
                  (try simp only [])
                  refine hK _ _ (by refine ⟨?_, ?_⟩ <;> (first | exact pb | exact qb)) ?_
                  clear hK K
                  (try go_frame)
                  refine hd_take_l (i := 7) (v := ?_) ok rfl (by decide) (by kernel_rfl) (by kernel_rfl) (fun _ _ _ h => h) (Or.inl ⟨by kernel_rfl, ?_⟩) ?_
                  rotate_left
                  · (intro w hSw; (try dsimp only at hSw); obtain ⟨k1, k2⟩ := hSw; have e0 := k2 _ _ HE.out.1; have e1 : w.cell? ⟨b, o + k * 2 + 1, none⟩ = some (.int .i64 c) := k2 _ _ HE.out.2; go_simp; (try (with_reducible rfl)))
                  go_frame
                  refine hd_take_l (i := 8) (v := ?_) ok rfl (by decide) (by kernel_rfl) (by kernel_rfl) (fun _ _ _ h => h) (Or.inl ⟨by kernel_rfl, ?_⟩) ?_
                  rotate_left
                  · (intro w hSw; (try dsimp only at hSw); obtain ⟨k1, k2⟩ := hSw; have e0 := k2 _ _ HE.out.1; have e1 : w.cell? ⟨b, o + k * 2 + 1, none⟩ = some (.int .i64 c) := k2 _ _ HE.out.2; go_simp; (try (with_reducible rfl)))
                  go_frame

                  have v0 := VB.out.cell (i := 0) rfl; have v1 := VB.out.cell (i := 1) rfl; have vf := VB.out.free
                  have RR := Lib.hid (show ∃ (V : Nat) (l' : List (Int × Int)) (c' : Int) (a1' : Option Addr) (c1' : Nat), Value.pointer (some ⟨w8.heap.size, 0, none⟩) = .pointer (some ⟨V, 0, none⟩) ∧ (l', c') ∈ rows ∧ Row RTm 2 (fun k => D < k ∧ k < P) ((wB.setCell ⟨w8.heap.size, 0, none⟩ (.slice a1 l.length c1)).setCell ⟨w8.heap.size, 1, none⟩ (.int .i64 c)) a1' l'.length c1' l' ∧ Blk ((wB.setCell ⟨w8.heap.size, 0, none⟩ (.slice a1 l.length c1)).setCell ⟨w8.heap.size, 1, none⟩ (.int .i64 c)) V 50 [.slice a1' l'.length c1', .int .i64 c'] ∧ w8.heap.size ≤ V ∧ Deck ((wB.setCell ⟨w8.heap.size, 0, none⟩ (.slice a1 l.length c1)).setCell ⟨w8.heap.size, 1, none⟩ (.int .i64 c)) D ∧ Chg (fun k => k = D) w8 ((wB.setCell ⟨w8.heap.size, 0, none⟩ (.slice a1 l.length c1)).setCell ⟨w8.heap.size, 1, none⟩ (.int .i64 c)) from by
                    have cc : Chg (fun x => x = w8.heap.size) wB ((wB.setCell ⟨w8.heap.size, 0, none⟩ (.slice a1 l.length c1)).setCell ⟨w8.heap.size, 1, none⟩ (.int .i64 c)) := Chg.setCell (M := fun x => x = w8.heap.size) (p := ⟨w8.heap.size, 1, none⟩) (Chg.setCell (M := fun x => x = w8.heap.size) (p := ⟨w8.heap.size, 0, none⟩) (Chg.refl wB) (fun _ => rfl) _) (fun _ => rfl) _
                    exact ⟨_, _, _, _, _, rfl, HX.out, RB.out.chg RTm.stays cc (fun k hk e => by have := LY.out; have := LV.out; omega), ((VB.out.set 0 _).set 1 _).at rfl, LV.out, DB.out.chg cc (fun j _ h e => by have := LY.out; have := LV.out; omega), CB.out.trans cc (fun k hk e => by have := LV.out; omega)⟩)
                  clear HE qb pb
                  refine hd_done (by kernel_rfl) ?_
                  simp only [List.drop_succ_cons, List.drop_zero]
                  go_wp2
                  go_meet
                  exact RR.out
              · skip
                go_simp

                obtain ⟨wa, hwa⟩ : ∃ wa, wa = (w8.alloc (.cells #[.slice none 0 0, .int .i64 0] 50)).drew := ⟨_, rfl⟩
                rw [← hwa]
                have AA := Lib.hid (show Below (w8.drew).heap.size w8.drew wa by rw [hwa]; exact (Below.refl (w8.drew).heap.size (w8.drew)).alloc (Nat.le_refl _) _)
                have CA := Lib.hid (show Chg (fun k => k = D) w8 wa from ((Chg.refl w8).drew).trans (Chg.of_below (M := Non) AA.out) (fun _ _ h => h.elim))
                have VA := Lib.hid (show Blk wa w8.heap.size 50 [.slice none 0 0, .int .i64 0] by rw [hwa]; exact Blk.new (w8.drew) _ _)
                have pa := CA.out.cell hPD m1
                have qa := CE.out.chg CA.out hbD
                clear hwa
                (try simp only [])
                refine hK _ _ (by refine ⟨?_, ?_⟩ <;> (first | exact pa | exact qa)) ?_
                clear hK K
                (try go_frame)

                refine hd_only_l (c := 5) rfl (by decide) (by kernel_rfl) (fun K hK => ?_)
                go_simp
                (try simp only [])
                refine hK _ _ (by refine ⟨?_, ?_⟩ <;> (first | exact pa | exact qa)) ?_
                clear hK K
                (try go_frame)

                refine hd_only_l (c := 6) rfl (by decide) (by kernel_rfl) (fun K hK => ?_)
                go_simp

                refine (next_any D rn (by omega) (by omega) wa (dk9.below AA.out (Nat.le_refl _))).mono ?_
                rintro e' wB ⟨z, rfl, z0, z1, hdb, hbb⟩
                obtain ⟨k, rfl⟩ := Int.eq_ofNat_of_zero_le z0
                obtain ⟨⟨l, c⟩, hx⟩ : ∃ x, rows[k]? = some x := ⟨_, List.getElem?_eq_getElem (by rw [hrl]; omega)⟩
                obtain ⟨u, hu⟩ : ∃ u, us[k]? = some u := ⟨_, List.getElem?_eq_getElem (by rw [TE.out.1, hrl]; omega)⟩
                obtain ⟨a1, n1, c1, rfl, hr1⟩ := TE.out.2 k u _ hu hx
                obtain rfl : n1 = l.length := hr1.hlen.symm
                have HE := Lib.hid (rcs_get hu hx)
                have HX := Lib.hid (List.mem_of_getElem? hx)
                have CB := Lib.hid (show Chg (fun k => k = D) w8 wB from (CA.out).trans hbb.chg (fun _ _ h => h))
                have RB := Lib.hid (hr1.chg RTm.stays CB.out (fun k hk e => by omega))
                have DB := Lib.hid hdb
                have pb := CB.out.cell hPD m1
                have qb := CE.out.chg CB.out hbD
                have hk1 : (k : Int) < (rn : Int) := z1
                have hk2 : k < rn := by omega
                have LV := Lib.hid (show w8.heap.size ≤ w8.heap.size from Nat.le_refl _)
                have VB := Lib.hid (VA.out.chg hbb.chg (by have := LY.out; omega))

                clear hx hu hr1 hbb hdb z0 z1
                clear pa qa
                (try simp only [])
                refine hK _ _ (by refine ⟨?_, ?_⟩ <;> (first | exact pb | exact qb)) ?_
                clear hK K
                (try go_frame)
                refine hd_take_l (i := 7) (v := ?_) ok rfl (by decide) (by kernel_rfl) (by kernel_rfl) (fun _ _ _ h => h) (Or.inl ⟨by kernel_rfl, ?_⟩) ?_
                rotate_left
                · (intro w hSw; (try dsimp only at hSw); obtain ⟨k1, k2⟩ := hSw; have e0 := k2 _ _ HE.out.1; have e1 : w.cell? ⟨b, o + k * 2 + 1, none⟩ = some (.int .i64 c) := k2 _ _ HE.out.2; go_simp; (try (with_reducible rfl)))
                go_frame
                refine hd_take_l (i := 8) (v := ?_) ok rfl (by decide) (by kernel_rfl) (by kernel_rfl) (fun _ _ _ h => h) (Or.inl ⟨by kernel_rfl, ?_⟩) ?_
                rotate_left
                · (intro w hSw; (try dsimp only at hSw); obtain ⟨k1, k2⟩ := hSw; have e0 := k2 _ _ HE.out.1; have e1 : w.cell? ⟨b, o + k * 2 + 1, none⟩ = some (.int .i64 c) := k2 _ _ HE.out.2; go_simp; (try (with_reducible rfl)))
                go_frame

                have v0 := VB.out.cell (i := 0) rfl; have v1 := VB.out.cell (i := 1) rfl; have vf := VB.out.free
                have RR := Lib.hid (show ∃ (V : Nat) (l' : List (Int × Int)) (c' : Int) (a1' : Option Addr) (c1' : Nat), Value.pointer (some ⟨w8.heap.size, 0, none⟩) = .pointer (some ⟨V, 0, none⟩) ∧ (l', c') ∈ rows ∧ Row RTm 2 (fun k => D < k ∧ k < P) ((wB.setCell ⟨w8.heap.size, 0, none⟩ (.slice a1 l.length c1)).setCell ⟨w8.heap.size, 1, none⟩ (.int .i64 c)) a1' l'.length c1' l' ∧ Blk ((wB.setCell ⟨w8.heap.size, 0, none⟩ (.slice a1 l.length c1)).setCell ⟨w8.heap.size, 1, none⟩ (.int .i64 c)) V 50 [.slice a1' l'.length c1', .int .i64 c'] ∧ w8.heap.size ≤ V ∧ Deck ((wB.setCell ⟨w8.heap.size, 0, none⟩ (.slice a1 l.length c1)).setCell ⟨w8.heap.size, 1, none⟩ (.int .i64 c)) D ∧ Chg (fun k => k = D) w8 ((wB.setCell ⟨w8.heap.size, 0, none⟩ (.slice a1 l.length c1)).setCell ⟨w8.heap.size, 1, none⟩ (.int .i64 c)) from by
                  have cc : Chg (fun x => x = w8.heap.size) wB ((wB.setCell ⟨w8.heap.size, 0, none⟩ (.slice a1 l.length c1)).setCell ⟨w8.heap.size, 1, none⟩ (.int .i64 c)) := Chg.setCell (M := fun x => x = w8.heap.size) (p := ⟨w8.heap.size, 1, none⟩) (Chg.setCell (M := fun x => x = w8.heap.size) (p := ⟨w8.heap.size, 0, none⟩) (Chg.refl wB) (fun _ => rfl) _) (fun _ => rfl) _
                  exact ⟨_, _, _, _, _, rfl, HX.out, RB.out.chg RTm.stays cc (fun k hk e => by have := LY.out; have := LV.out; omega), ((VB.out.set 0 _).set 1 _).at rfl, LV.out, DB.out.chg cc (fun j _ h e => by have := LY.out; have := LV.out; omega), CB.out.trans cc (fun k hk e => by have := LV.out; omega)⟩)
                clear HE qb pb
                refine hd_done (by kernel_rfl) ?_
                simp only [List.drop_succ_cons, List.drop_zero]
                go_wp2
                go_meet
                exact RR.out
-- R9 end
            case rest =>
              obtain ⟨V, l, c, a1, c1, rfl, hmem, hl9, hv9, hV9, hd9, hc9⟩ := hcut
              obtain ⟨w9, hw9⟩ : ∃ w9 : World, w9 = wc := ⟨_, rfl⟩
              rw [← hw9] at hl9 hv9 hd9 hc9 ⊢
              have V9 := Lib.hid hv9; have L9 := Lib.hid hl9; have D9 := Lib.hid hd9; have C9 := Lib.hid hc9; have MEM := Lib.hid hmem
              have LV := Lib.hid (show w8.heap.size ≤ V ∧ V < w9.heap.size from ⟨hV9, hv9.lt⟩)
              have hcb := (S5.out.2.2.2.2.2.2 _ hmem).2
              dsimp only at hcb
              clear hw9 hl9 hv9 hV9 hd9 hc9 hmem
              go_upto_region 10 with fail
              go_cut [] (fun wx => ∃ c' : Int, c ≤ c' ∧ c' ≤ 50 ∧ Blk wx V 50 [.slice a1 l.length c1, .int .i64 c'] ∧ Deck wx D ∧ Chg (fun k => k = D ∨ k = V) w9 wx)
              case first =>
                as_aux_lemma =>
                have p1 := V9.out.cell (i := 1) rfl
                have hVD : ¬ V = D := by have := LV.out; have := LY.out; omega
                refine hd_start 6 (fun w' => w'.cell? ⟨V, 1, none⟩ = some (.int .i64 c)) (by kernel_rfl) ⟨by kernel_rfl, by kernel_rfl, by kernel_rfl, by decide⟩ p1 (fun ok => ?_)
                refine hd_take_l (i := 0) (v := ?_) ok rfl (by decide) (by kernel_rfl) (by kernel_rfl) (fun _ _ _ h => h) (Or.inl ⟨by kernel_rfl, ?_⟩) ?_
                rotate_left
                · (intro w hSw; (try dsimp only at hSw); (try go_split_ands); go_simp; (try (with_reducible rfl)))
                go_frame
                refine hd_take_l (i := 1) (v := ?_) ok rfl (by decide) (by kernel_rfl) (by kernel_rfl) (fun _ _ _ h => h) (Or.inl ⟨by kernel_rfl, ?_⟩) ?_
                rotate_left
                · (intro w hSw; (try dsimp only at hSw); (try go_split_ands); go_simp; (try (with_reducible rfl)))
                go_frame
                refine hd_take_l (i := 2) (v := ?_) ok rfl (by decide) (by kernel_rfl) (by kernel_rfl) (fun _ _ _ h => h) (Or.inl ⟨by kernel_rfl, ?_⟩) ?_
                rotate_left
                · (intro w hSw; (try dsimp only at hSw); (try go_split_ands); go_simp; (try (with_reducible rfl)))
                go_frame
                refine hd_only_l (c := 3) rfl (by decide) (by kernel_rfl) (fun K hK => ?_)
                go_simp
                refine (next_any D 5 (by omega) (by omega) w9.drew (D9.out.below ((Below.refl _ _).drew) (Nat.le_refl _))).mono ?_
                rintro e' wB ⟨z, rfl, z0, z1, hdb, hbb⟩
                have CB := Lib.hid (show Chg (fun k => k = D) w9 wB from (Chg.refl w9).drew.trans hbb.chg (fun _ _ h => h))
                have DB := Lib.hid hdb
                have VB := Lib.hid (V9.out.chg CB.out hVD)
                have pb := CB.out.cell hVD p1
                have wa : IntKind.i64.wrap (c + z) = c + z := Go.IntWalk.i64_in _ ⟨by omega, by omega⟩
                clear hdb hbb
                (try simp only [])
                refine hK _ _ (by first | exact pb) ?_
                clear hK K
                (try go_frame)
                refine hd_take_l (i := 4) (v := ?_) ok rfl (by decide) (by kernel_rfl) (by kernel_rfl) (fun _ _ _ h => h) (Or.inl ⟨by kernel_rfl, ?_⟩) ?_
                rotate_left
                · (intro w hSw; (try dsimp only at hSw); (try go_split_ands); go_simp; (try (with_reducible rfl)))
                go_frame
                have PS := Lib.hid (show ∀ y : Int, (c ≤ y ∧ y ≤ 50) → ∃ c' : Int, c ≤ c' ∧ c' ≤ 50 ∧ Blk (wB.setCell ⟨V, 1, none⟩ (.int .i64 y)) V 50 [.slice a1 l.length c1, .int .i64 c'] ∧ Deck (wB.setCell ⟨V, 1, none⟩ (.int .i64 y)) D ∧ Chg (fun k => k = D ∨ k = V) w9 (wB.setCell ⟨V, 1, none⟩ (.int .i64 y)) from fun y hy => by
                  have cc : Chg (fun x => x = V) wB (wB.setCell ⟨V, 1, none⟩ (.int .i64 y)) := Chg.setCell (M := fun x => x = V) (p := ⟨V, 1, none⟩) (Chg.refl wB) (fun _ => rfl) _
                  exact ⟨y, hy.1, hy.2, (VB.out.set 1 _).at rfl, DB.out.chg cc (fun j _ h e => by have := LV.out; have := LY.out; omega), (CB.out.mono (fun k _ e => Or.inl e)).trans cc (fun k _ e => Or.inr e)⟩)
                refine hd_only_l (c := 5) rfl (by decide) (by kernel_rfl) (fun K hK => ?_)
                go_simp
                all_goals
                  have v1 := VB.out.cell (i := 1) rfl
                  have vf := VB.out.free
                  (try simp only [])
                  refine hK _ _ (by first | exact pb) ?_
                  clear hK K
                  (try go_frame)
                  refine hd_done (by kernel_rfl) ?_
                  simp only [List.drop_succ_cons, List.drop_zero]
                  clear pb p1
                  go_wp2
                  all_goals
                    go_meet
                    exact PS.out _ (by first | omega | (constructor <;> (try simp only [min_def]) <;> split <;> omega))
              case rest =>
                obtain ⟨c', hc1, hc2, hvx, hdx, hcx⟩ := hcut
                obtain ⟨w10, hw10⟩ : ∃ w10 : World, w10 = wc := ⟨_, rfl⟩
                rw [← hw10] at hvx hdx hcx ⊢
                have C10 := Lib.hid (show Chg (fun k => k = D ∨ k = Y) w8 w10 from (C9.out.mono (fun k _ e => Or.inl e)).trans hcx (fun k hk e => by have := LV.out; omega))
                have K10 := Lib.hid (show c ≤ c' ∧ c' ≤ 50 from ⟨hc1, hc2⟩)
                have M10 := Lib.hid ((M8.out.chg (M := fun k => k = D) (by have := LY.out; omega) (fun k hk e => by omega) C9.out).chg (M := fun k => k = D ∨ k = V) (by have := LY.out; have := LV.out; omega) (fun k hk e => by have := LY.out; have := LV.out; omega) hcx)
                have L10 := Lib.hid (L9.out.chg RTm.stays hcx (fun k hk e => by have := LY.out; have := LV.out; omega))
                have Y10 := Lib.hid ((Y8.out.chg C9.out (by have := LY.out; omega)).chg hcx (by have := LY.out; have := LV.out; omega))
                have D10 := Lib.hid hdx
                have LZ := Lib.hid (show w8.heap.size ≤ w10.heap.size from C10.out.size)
                have p1 := M10.out.blk.cell (i := 1) rfl
                have p2 := hvx.cell (i := 0) rfl; have p3 := hvx.cell (i := 1) rfl
                clear hc1 hc2 hvx hdx hcx hw10 m1
                go_upto_region 11 with fail
                refine hd_start 6 (fun w' => w'.cell? ⟨P, 1, none⟩ = some (.slice (some ⟨b, o, none⟩) rn rc) ∧ w'.cell? ⟨V, 0, none⟩ = some (.slice a1 l.length c1) ∧ w'.cell? ⟨V, 1, none⟩ = some (.int .i64 c')) (by kernel_rfl) ⟨by kernel_rfl, by kernel_rfl, by kernel_rfl, by decide⟩ (by refine ⟨p1, p2, p3⟩) (fun ok => ?_)
                refine hd_take_l (i := 0) (v := ?_) ok rfl (by decide) (by kernel_rfl) (by kernel_rfl) (fun _ _ _ h => h) (Or.inl ⟨by kernel_rfl, ?_⟩) ?_
                rotate_left
                · (intro w hSw; (try dsimp only at hSw); (try go_split_ands); go_simp; (try (with_reducible rfl)))
                go_frame
                refine hd_take_l (i := 1) (v := ?_) ok rfl (by decide) (by kernel_rfl) (by kernel_rfl) (fun _ _ _ h => h) (Or.inl ⟨by kernel_rfl, ?_⟩) ?_
                rotate_left
                · (intro w hSw; (try dsimp only at hSw); (try go_split_ands); go_simp; (try (with_reducible rfl)))
                go_frame
                refine hd_take_l (i := 3) (v := ?_) ok rfl (by decide) (by kernel_rfl) (by kernel_rfl) (fun _ _ _ h => h) (Or.inl ⟨by kernel_rfl, ?_⟩) ?_
                rotate_left
                · (intro w hSw; (try dsimp only at hSw); (try go_split_ands); go_simp; (try (with_reducible rfl)))
                go_frame
-- R11 begin
                refine hd_two_l (c := 2) (d := 4) rfl rfl (by decide) (by decide) (by kernel_rfl) (fun K hK => ?_) (fun K hK => ?_)
                · skip

                  refine step_pm rfl (op_copy (M10.out.rows.keeps RRw.stays (fun y _ hl => ((Below.refl w10.heap.size w10).drew).block y hl) (Nat.le_refl _)) (by omega) _ _ _ _ _ _ _ (by simp) ?_)
                  intro va vc us' wA hcp
                  have CA := Lib.hid (show Chg Non w10 wA from ((Chg.refl w10).drew).trans (Chg.of_below hcp.out.2.2) (fun _ _ h => h))
                  have OWA : Hid (wA.ownsRow w10.heap.size 50 2 (.slice va rn vc) rn (rcs us' rows)) := Lib.hid hcp.out.1
                  have TAA := Lib.hid hcp.out.2.1
                  clear hcp
                  have q1 := (CA.out).cell (fun h => h) p1; have q2 := (CA.out).cell (fun h => h) p2; have q3 := (CA.out).cell (fun h => h) p3
                  (try simp only [])
                  refine hK _ _ (by refine ⟨?_, ?_, ?_⟩ <;> (first | exact q1 | exact q2 | exact q3)) ?_
                  clear hK K
                  (try go_frame)

                  refine hd_only_l (c := 4) rfl (by decide) (by kernel_rfl) (fun K hK => ?_)
                  go_simp

                  obtain ⟨wT, hwT⟩ : ∃ wT, wT = wA.alloc (.cells #[.slice a1 l.length c1, .int .i64 c'] 50) := ⟨_, rfl⟩
                  rw [← hwT]
                  have AT := Lib.hid (show Below wA.heap.size wA wT by rw [hwT]; exact (Below.refl wA.heap.size wA).alloc (Nat.le_refl _) _)
                  have NT := Lib.hid (show Blk wT wA.heap.size 50 [.slice a1 l.length c1, .int .i64 c'] by rw [hwT]; exact Blk.new wA _ _)
                  have CT := Lib.hid (show Chg Non w10 wT from CA.out.trans (Chg.of_below AT.out) (fun _ _ h => h))
                  have OWT := Lib.hid (flat_below OWA.out AT.out)
                  have TAT := Lib.hid (TAA.out.chg (Chg.of_below (M := Non) AT.out) (fun k hk e => e))
                  have HSB : w10.heap.size ≤ w10.heap.size := Nat.le_refl _
                  have HSW : w10.heap.size ≤ wT.heap.size := CT.out.size
                  clear hwT q1 q2 q3
                  have r1 := (CT.out).cell (fun h => h) p1; have r2 := (CT.out).cell (fun h => h) p2; have r3 := (CT.out).cell (fun h => h) p3
                  (try simp only [])
                  refine hK _ _ (by refine ⟨?_, ?_, ?_⟩ <;> (first | exact r1 | exact r2 | exact r3)) ?_
                  clear hK K
                  (try go_frame)
                  clear r1 r2 r3

                  refine hd_only_l (c := 5) rfl (by decide) (by kernel_rfl) (fun K hK => ?_)

                  have RT := Lib.hid (L10.out.chg RTm.stays (CT).out (fun k hk e => e))
                  have DT := Lib.hid (D10.out.chg (CT).out (fun _ _ _ h => h))
                  have LO := Lib.hid (fun k (e : (Value.slice va rn vc).ownBlock = some k) => show w10.heap.size ≤ k from (OWT.out.lt k e).1)
                  have SB := Lib.hid (show w10.heap.size ≤ w10.heap.size from HSB)
                  refine step_append_flat rfl (.tmp 63) (.tmp 65) 25 rfl 50 Try.underlying25 info_rw rfl (by decide) OWT.out rfl HSW ⟨wA.heap.size, 0, none⟩ 1 1 [.slice a1 l.length c1, .int .i64 c'] rfl rfl (fun j u hu => by rw [Addr.add_lit, Nat.zero_add]; exact NT.out.cell hu) (by simp [Value.oneCell']) (by decide) (by omega) (by decide) ?_
                  intro g cap wE hap
                  have RA := Lib.hid (app_row (K := fun k => D < k ∧ k ≠ Y) OWT.out (TAT.out.wide (fun k hk => ⟨⟨hk.1, by have := LY.out; omega⟩, fun e => by have := LO.out k e; have := SB.out; have := LZ.out; have := LY.out; omega⟩)) M10.out.rows.hlen (by omega) (fun k hk => by have := SB.out; have := LZ.out; have := LY.out; omega) (tm_wide RT.out (fun k hk => ⟨⟨hk.1, by have := LY.out; omega⟩, fun e => by have := LO.out k e; have := SB.out; have := LZ.out; have := LY.out; omega⟩)) hap.out)
                  have CE' := Lib.hid (show Chg Non w10 wE from (CT).out.trans RA.out.2 (fun k hk e => by have := SB.out; omega))
                  have YE := Lib.hid (Y10.out.chg CE'.out (fun h => h))
                  have v1 := CE'.out.cell (fun h => h) p1; have v2 := CE'.out.cell (fun h => h) p2; have v3 := CE'.out.cell (fun h => h) p3
                  have RR := Lib.hid (show ∃ (ya : Option Addr) (yn yc : Nat) (rY : List MRow), Blk (wE.setCell ⟨Y, 1, none⟩ (.slice (some ⟨g, 0, none⟩) (rn + 1) cap)) Y 28 (MdC n (.slice ya yn yc) ga gn gc c0) ∧ Row RRw 2 (fun k => D < k ∧ k ≠ Y) (wE.setCell ⟨Y, 1, none⟩ (.slice (some ⟨g, 0, none⟩) (rn + 1) cap)) ya yn yc rY ∧ (rY = rows ∨ ∃ (l : List (Int × Int)) (b b' : Int), (l, b) ∈ rows ∧ rY = rows ++ [(l, b')] ∧ b ≤ b' ∧ b' ≤ 50) ∧ Chg (fun k => k = D ∨ k = Y) w8 (wE.setCell ⟨Y, 1, none⟩ (.slice (some ⟨g, 0, none⟩) (rn + 1) cap)) from by
                    have cc : Chg (fun x => x = Y) wE (wE.setCell ⟨Y, 1, none⟩ (.slice (some ⟨g, 0, none⟩) (rn + 1) cap)) := Chg.setCell (M := fun x => x = Y) (p := ⟨Y, 1, none⟩) (Chg.refl wE) (fun _ => rfl) _
                    exact ⟨_, _, _, _, (YE.out.set 1 _).at rfl, RA.out.1.chg RRw.stays cc (fun k hk e => hk.2 e), .inr ⟨l, c, c', MEM.out, rfl, K10.out.1, K10.out.2⟩, (C10.out.trans CE'.out (fun _ _ h => h.elim)).trans cc (fun k _ e => Or.inr e)⟩)
                  have x1 := YE.out.cell (i := 1) rfl
                  have xf := YE.out.free
                  clear hap
                  (try simp only [])
                  refine hK _ _ (by refine ⟨?_, ?_, ?_⟩ <;> (first | exact v1 | exact v2 | exact v3)) ?_
                  clear hK K
                  (try go_frame)
                  refine hd_done (by kernel_rfl) ?_
                  simp only [List.drop_succ_cons, List.drop_zero]
                  clear v1 v2 v3 p1 p2 p3
                  go_wp2
                  go_meet
                  exact RR.out
                · skip
                  go_simp

                  obtain ⟨wq, hwq⟩ : ∃ wq, wq = (w10.alloc (.cells #[.slice a1 l.length c1, .int .i64 c'] 50)).drew := ⟨_, rfl⟩
                  rw [← hwq]
                  have AQ := Lib.hid (show Below w10.heap.size w10 wq by rw [hwq]; exact ((Below.refl w10.heap.size w10).alloc (Nat.le_refl _) _).drew)
                  have NQ := Lib.hid (show Blk wq w10.heap.size 50 [.slice a1 l.length c1, .int .i64 c'] by rw [hwq]; exact Blk.new w10.drew _ _)
                  have CQ := Lib.hid (show Chg Non w10 wq from Chg.of_below AQ.out)
                  clear hwq
                  have q1 := (CQ.out).cell (fun h => h) p1; have q2 := (CQ.out).cell (fun h => h) p2; have q3 := (CQ.out).cell (fun h => h) p3
                  (try simp only [])
                  refine hK _ _ (by refine ⟨?_, ?_, ?_⟩ <;> (first | exact q1 | exact q2 | exact q3)) ?_
                  clear hK K
                  (try go_frame)

                  refine hd_only_l (c := 2) rfl (by decide) (by kernel_rfl) (fun K hK => ?_)

                  refine step_pm rfl (op_copy (M10.out.rows.chg RRw.stays CQ.out (fun k hk e => e)) (by omega) _ _ _ _ _ _ _ (by simp) ?_)
                  intro va vc us' wA hcp
                  have CA := Lib.hid (show Chg Non wq wA from (Chg.refl wq).trans (Chg.of_below hcp.out.2.2) (fun _ _ h => h))
                  have OWA : Hid (wA.ownsRow wq.heap.size 50 2 (.slice va rn vc) rn (rcs us' rows)) := Lib.hid hcp.out.1
                  have TAA := Lib.hid hcp.out.2.1
                  clear hcp

                  have NT := Lib.hid (NQ.out.chg CA.out (fun h => h))
                  have CT := Lib.hid (show Chg Non w10 wA from CQ.out.trans CA.out (fun _ _ h => h))
                  have HSB : w10.heap.size ≤ wq.heap.size := CQ.out.size
                  have HSW : wq.heap.size ≤ wA.heap.size := CA.out.size
                  clear q1 q2 q3
                  have r1 := (CT.out).cell (fun h => h) p1; have r2 := (CT.out).cell (fun h => h) p2; have r3 := (CT.out).cell (fun h => h) p3
                  (try simp only [])
                  refine hK _ _ (by refine ⟨?_, ?_, ?_⟩ <;> (first | exact r1 | exact r2 | exact r3)) ?_
                  clear hK K
                  (try go_frame)
                  clear r1 r2 r3

                  refine hd_only_l (c := 5) rfl (by decide) (by kernel_rfl) (fun K hK => ?_)

                  have RT := Lib.hid (L10.out.chg RTm.stays (CT).out (fun k hk e => e))
                  have DT := Lib.hid (D10.out.chg (CT).out (fun _ _ _ h => h))
                  have LO := Lib.hid (fun k (e : (Value.slice va rn vc).ownBlock = some k) => show wq.heap.size ≤ k from (OWA.out.lt k e).1)
                  have SB := Lib.hid (show w10.heap.size ≤ wq.heap.size from HSB)
                  refine step_append_flat rfl (.tmp 63) (.tmp 65) 25 rfl 50 Try.underlying25 info_rw rfl (by decide) OWA.out rfl HSW ⟨w10.heap.size, 0, none⟩ 1 1 [.slice a1 l.length c1, .int .i64 c'] rfl rfl (fun j u hu => by rw [Addr.add_lit, Nat.zero_add]; exact NT.out.cell hu) (by simp [Value.oneCell']) (by decide) (by omega) (by decide) ?_
                  intro g cap wE hap
                  have RA := Lib.hid (app_row (K := fun k => D < k ∧ k ≠ Y) OWA.out (TAA.out.wide (fun k hk => ⟨⟨hk.1, by have := LY.out; omega⟩, fun e => by have := LO.out k e; have := SB.out; have := LZ.out; have := LY.out; omega⟩)) M10.out.rows.hlen (by omega) (fun k hk => by have := SB.out; have := LZ.out; have := LY.out; omega) (tm_wide RT.out (fun k hk => ⟨⟨hk.1, by have := LY.out; omega⟩, fun e => by have := LO.out k e; have := SB.out; have := LZ.out; have := LY.out; omega⟩)) hap.out)
                  have CE' := Lib.hid (show Chg Non w10 wE from (CT).out.trans RA.out.2 (fun k hk e => by have := SB.out; omega))
                  have YE := Lib.hid (Y10.out.chg CE'.out (fun h => h))
                  have v1 := CE'.out.cell (fun h => h) p1; have v2 := CE'.out.cell (fun h => h) p2; have v3 := CE'.out.cell (fun h => h) p3
                  have RR := Lib.hid (show ∃ (ya : Option Addr) (yn yc : Nat) (rY : List MRow), Blk (wE.setCell ⟨Y, 1, none⟩ (.slice (some ⟨g, 0, none⟩) (rn + 1) cap)) Y 28 (MdC n (.slice ya yn yc) ga gn gc c0) ∧ Row RRw 2 (fun k => D < k ∧ k ≠ Y) (wE.setCell ⟨Y, 1, none⟩ (.slice (some ⟨g, 0, none⟩) (rn + 1) cap)) ya yn yc rY ∧ (rY = rows ∨ ∃ (l : List (Int × Int)) (b b' : Int), (l, b) ∈ rows ∧ rY = rows ++ [(l, b')] ∧ b ≤ b' ∧ b' ≤ 50) ∧ Chg (fun k => k = D ∨ k = Y) w8 (wE.setCell ⟨Y, 1, none⟩ (.slice (some ⟨g, 0, none⟩) (rn + 1) cap)) from by
                    have cc : Chg (fun x => x = Y) wE (wE.setCell ⟨Y, 1, none⟩ (.slice (some ⟨g, 0, none⟩) (rn + 1) cap)) := Chg.setCell (M := fun x => x = Y) (p := ⟨Y, 1, none⟩) (Chg.refl wE) (fun _ => rfl) _
                    exact ⟨_, _, _, _, (YE.out.set 1 _).at rfl, RA.out.1.chg RRw.stays cc (fun k hk e => hk.2 e), .inr ⟨l, c, c', MEM.out, rfl, K10.out.1, K10.out.2⟩, (C10.out.trans CE'.out (fun _ _ h => h.elim)).trans cc (fun k _ e => Or.inr e)⟩)
                  have x1 := YE.out.cell (i := 1) rfl
                  have xf := YE.out.free
                  clear hap
                  (try simp only [])
                  refine hK _ _ (by refine ⟨?_, ?_, ?_⟩ <;> (first | exact v1 | exact v2 | exact v3)) ?_
                  clear hK K
                  (try go_frame)
                  refine hd_done (by kernel_rfl) ?_
                  simp only [List.drop_succ_cons, List.drop_zero]
                  clear v1 v2 v3 p1 p2 p3
                  go_wp2
                  go_meet
                  exact RR.out
-- R11 end
      case rest =>
        obtain ⟨ya, yn, yc, rY, hy9, hr9, hcase9, hc9⟩ := hcut
        obtain ⟨w9, hw9⟩ : ∃ w9 : World, w9 = wc := ⟨_, rfl⟩
        rw [← hw9] at hy9 hr9 hc9 ⊢
        have M9 := Lib.hid (M8.out.chg (M := fun k => k = D ∨ k = Y) (by have := LY.out; omega) (fun k hk e => by have := LY.out; omega) hc9)
        have X9 := Lib.hid (X8.out.chg hc9 (by have := LY.out; omega))
        have Y9 := Lib.hid hy9
        have RX9 := Lib.hid (rw_below (R8.out.chg RRw.stays hc9 (fun k hk e => by have h1 : D < k ∧ k ≠ X ∧ k < Y := hk; omega)))
        have RY9 := Lib.hid (rw_below hr9)
        have BF9 := Lib.hid (show Below w.heap.size w w9 from B8w.out.trans (hc9.below (fun k hk e => by have := HD.out; have := LY.out; have := B8w.out.size; omega) B8w.out.size))
        have G9 := Lib.hid (tm_below M9.out.goal)
        have G9X := Lib.hid (tm_wide G9.out (K' := fun k => (D < k ∧ k ≠ X ∧ k < Y) ∧ k < w9.heap.size) (fun k hk => by have h1 : D < k ∧ k < P := hk.1; have h2 : k < w9.heap.size := hk.2; have := LY.out; show (D < k ∧ k ≠ X ∧ k < Y) ∧ k < w9.heap.size; omega))
        have G9Y := Lib.hid (tm_wide G9.out (K' := fun k => (D < k ∧ k ≠ Y) ∧ k < w9.heap.size) (fun k hk => by have h1 : D < k ∧ k < P := hk.1; have h2 : k < w9.heap.size := hk.2; have := LY.out; show (D < k ∧ k ≠ Y) ∧ k < w9.heap.size; omega))
        have SX := Lib.hid (small_snoc S5.out (r := (lX, bX)) (by have := M8.out.rows.hlen; omega) T7.out (by have := Z7.out; show -50 ≤ bX; omega) (by have := Z7.out; show bX ≤ 50; omega))
        have EY := Lib.hid (show SmallP n rY goal c0 ∧ ∀ z, FeasX n rY z ↔ FeasX n rows z by
          rcases hcase9 with rfl | ⟨l, b, b', hm, rfl, h1, h2⟩
          · exact ⟨S5.out, fun z => Iff.rfl⟩
          · have hg := S5.out.2.2.2.2.2.2 _ hm
            exact ⟨small_snoc S5.out (by have := M8.out.rows.hlen; omega) hg.1 (by have := hg.2; dsimp only at this; show -50 ≤ b'; omega) h2, fun z => feas_again hm h1⟩)
        have SY := Lib.hid EY.out.1
        have MB9 := Lib.hid M9.out.blk
        have hxl := RX9.out.hlen
        have hyl := RY9.out.hlen
        clear hw9 hy9 hr9 hcase9 hc9 M8 X8 Y8 R8 D8 B8w C8 T7 Z7 m1
        have SV1 := Lib.hid (solved_any _ n rows goal c0 S5.out ra rn rc ga gn gc w9 (rw_below M9.out.rows) (G9.out) (fun x hx => hx.2))
        have m0 := MB9.out.cell (i := 0) rfl; have m1 := MB9.out.cell (i := 1) rfl; have m2 := MB9.out.cell (i := 2) rfl; have m3 := MB9.out.cell (i := 3) rfl
        go_wp2_with fail
        refine SV1.out.mono ?_
        rintro e wa1 ⟨ov1, code1, rfl, hb, hsol⟩
        obtain ⟨ox1, oy1, sa1, sn1, sc1, ta1, tn1, tc1, rfl, hcase⟩ := solved_parts S5.out hsol
        have CASE1 := Lib.hid hcase
        obtain ⟨wn1, hwn⟩ : ∃ w6, w6 = wa1.alloc (.cells #[.int .i64 ox1, .int .i64 oy1, .slice sa1 sn1 sc1, .slice ta1 tn1 tc1] 34) := ⟨_, rfl⟩
        have BN1 := Lib.hid (show Below w9.heap.size w9 wn1 by rw [hwn]; exact hb.alloc hb.size _)
        have OB1 := Lib.hid (show Blk wn1 wa1.heap.size 34 [.int .i64 ox1, .int .i64 oy1, .slice sa1 sn1 sc1, .slice ta1 tn1 tc1] by rw [hwn]; exact Blk.new wa1 _ _)
        have HWN := Lib.hid hwn
        obtain ⟨O1, hO⟩ : ∃ O, O = wa1.heap.size := ⟨_, rfl⟩
        rw [← hO] at OB1
        have HO := Lib.hid hO
        clear hwn hO hcase hsol hb m0 m1 m2 m3 SV1
        go_upto_region 13 with fail
        rw [← HWN.out, ← HO.out]
        clear HWN HO
        have X1 := Lib.hid (X9.out.below BN1.out X9.out.lt)
        have Y1 := Lib.hid (Y9.out.below BN1.out Y9.out.lt)
        have C1 := Lib.hid (show Chg Non w9 wn1 from Chg.of_below BN1.out)
        have RX1 := Lib.hid (RX9.out.chg RRw.stays C1.out (fun _ _ h => h))
        have GX1 := Lib.hid (G9X.out.chg RTm.stays C1.out (fun _ _ h => h))
        have SV2 := Lib.hid (solved_any _ n (rows ++ [(lX, bX)]) goal c0 SX.out xa xn xc ga gn gc wn1 (RX1.out) (GX1.out) (fun x hx => Nat.lt_of_lt_of_le hx.2 C1.out.size))
        have m0 := X1.out.cell (i := 0) rfl; have m1 := X1.out.cell (i := 1) rfl; have m2 := X1.out.cell (i := 2) rfl; have m3 := X1.out.cell (i := 3) rfl
        go_wp2_with fail
        refine SV2.out.mono ?_
        rintro e wa2 ⟨ov2, code2, rfl, hb, hsol⟩
        obtain ⟨ox2, oy2, sa2, sn2, sc2, ta2, tn2, tc2, rfl, hcase⟩ := solved_parts SX.out hsol
        have CASE2 := Lib.hid hcase
        obtain ⟨wn2, hwn⟩ : ∃ w6, w6 = wa2.alloc (.cells #[.int .i64 ox2, .int .i64 oy2, .slice sa2 sn2 sc2, .slice ta2 tn2 tc2] 34) := ⟨_, rfl⟩
        have BN2 := Lib.hid (show Below wn1.heap.size wn1 wn2 by rw [hwn]; exact hb.alloc hb.size _)
        have OB2 := Lib.hid (show Blk wn2 wa2.heap.size 34 [.int .i64 ox2, .int .i64 oy2, .slice sa2 sn2 sc2, .slice ta2 tn2 tc2] by rw [hwn]; exact Blk.new wa2 _ _)
        have HWN := Lib.hid hwn
        obtain ⟨O2, hO⟩ : ∃ O, O = wa2.heap.size := ⟨_, rfl⟩
        rw [← hO] at OB2
        have HO := Lib.hid hO
        clear hwn hO hcase hsol hb m0 m1 m2 m3 SV2
        go_upto_region 14 with fail
        rw [← HWN.out, ← HO.out]
        clear HWN HO
        have Y2 := Lib.hid (Y1.out.below BN2.out Y1.out.lt)
        have C2 := Lib.hid (show Chg Non w9 wn2 from C1.out.trans (Chg.of_below BN2.out) (fun _ _ h => h))
        have RY2 := Lib.hid (RY9.out.chg RRw.stays C2.out (fun _ _ h => h))
        have GY2 := Lib.hid (G9Y.out.chg RTm.stays C2.out (fun _ _ h => h))
        have P1 := Lib.hid (OB1.out.below BN2.out OB1.out.lt)
        have SV3 := Lib.hid (solved_any _ n rY goal c0 SY.out ya yn yc ga gn gc wn2 (RY2.out) (GY2.out) (fun x hx => Nat.lt_of_lt_of_le hx.2 C2.out.size))
        have m0 := Y2.out.cell (i := 0) rfl; have m1 := Y2.out.cell (i := 1) rfl; have m2 := Y2.out.cell (i := 2) rfl; have m3 := Y2.out.cell (i := 3) rfl
        go_wp2_with fail
        refine SV3.out.mono ?_
        rintro e wa3 ⟨ov3, code3, rfl, hb, hsol⟩
        obtain ⟨ox3, oy3, sa3, sn3, sc3, ta3, tn3, tc3, rfl, hcase⟩ := solved_parts SY.out hsol
        have CASE3 := Lib.hid hcase
        obtain ⟨wn3, hwn⟩ : ∃ w6, w6 = wa3.alloc (.cells #[.int .i64 ox3, .int .i64 oy3, .slice sa3 sn3 sc3, .slice ta3 tn3 tc3] 34) := ⟨_, rfl⟩
        have BN3 := Lib.hid (show Below wn2.heap.size wn2 wn3 by rw [hwn]; exact hb.alloc hb.size _)
        have OB3 := Lib.hid (show Blk wn3 wa3.heap.size 34 [.int .i64 ox3, .int .i64 oy3, .slice sa3 sn3 sc3, .slice ta3 tn3 tc3] by rw [hwn]; exact Blk.new wa3 _ _)
        have HWN := Lib.hid hwn
        obtain ⟨O3, hO⟩ : ∃ O, O = wa3.heap.size := ⟨_, rfl⟩
        rw [← hO] at OB3
        have HO := Lib.hid hO
        clear hwn hO hcase hsol hb m0 m1 m2 m3 SV3
        go_upto_region 15 with fail
        rw [← HWN.out, ← HO.out]
        clear HWN HO
        have BF3 := Lib.hid (show Below w.heap.size w wn3 from (BF9.out.trans ((C2.out.trans (Chg.of_below (M := Non) BN3.out) (fun _ _ h => h)).below (fun _ _ e => e) BF9.out.size)))
        have Q1 := Lib.hid (P1.out.below BN3.out P1.out.lt)
        have Q2 := Lib.hid (OB2.out.below BN3.out OB2.out.lt)
        have AW := Lib.hid (fun u : World => awake_any u)
        obtain ⟨h3, hx3, hy3⟩ := parts_same EY.out.2 CASE1.out CASE3.out
        have MORE := Lib.hid (parts_more (fun z hz => (feas_snoc.1 hz).1) CASE1.out CASE2.out)
        subst h3 hx3 hy3
        have o0 := Q1.out.cell (i := 0) rfl; have o1 := Q1.out.cell (i := 1) rfl
        have q0 := Q2.out.cell (i := 0) rfl; have q1 := Q2.out.cell (i := 1) rfl
        have r0 := OB3.out.cell (i := 0) rfl; have r1 := OB3.out.cell (i := 1) rfl
        clear MB9 X9 Y9 RX9 RY9 G9 G9X G9Y X1 Y1 RX1 GX1 Y2 RY2 GY2 P1 Q1 Q2 BN1 BN2 BN3 BF9 M9 S5 EY SX SY
        rcases CASE1.out with ⟨hc, hx, hy, _⟩ | ⟨hc, hx, hy, _⟩ | ⟨hc, V, hx, hy, hF, _, hbest⟩
        · have h2 := MORE.out.1 hc
          subst hc hx hy h2
          go_wp2_with fail
          refine (AW.out _).mono ?_
          rintro e wz ⟨rfl, hb⟩
          have BZ := Lib.hid (BF3.out.trans (hb.mono BF3.out.size))
          clear hb
          go_wp2
          go_ret
          exact ⟨rfl, BZ.out⟩
        · subst hc hx hy
          rcases CASE2.out with ⟨hc, hx, hy, _⟩ | ⟨hc, hx, hy, _⟩ | ⟨hc, V2, hx, hy, hF2, _⟩
          · subst hc hx hy
            go_wp2_with fail
            refine (AW.out _).mono ?_
            rintro e wz ⟨rfl, hb⟩
            have BZ := Lib.hid (BF3.out.trans (hb.mono BF3.out.size))
            clear hb
            go_wp2
            go_ret
            exact ⟨rfl, BZ.out⟩
          · subst hc hx hy
            go_wp2_with fail
            refine (AW.out _).mono ?_
            rintro e wz ⟨rfl, hb⟩
            have BZ := Lib.hid (BF3.out.trans (hb.mono BF3.out.size))
            clear hb
            go_wp2
            go_ret
            exact ⟨rfl, BZ.out⟩
          · subst hc hx hy
            go_wp2_with fail
            refine (AW.out _).mono ?_
            rintro e wz ⟨rfl, hb⟩
            have BZ := Lib.hid (BF3.out.trans (hb.mono BF3.out.size))
            clear hb
            go_wp2
            go_ret
            exact ⟨rfl, BZ.out⟩
        · subst hc hx hy
          rcases CASE2.out with ⟨hc, hx, hy, _⟩ | ⟨hc, hx, hy, _⟩ | ⟨hc, V2, hx, hy, hF2, ⟨z2, hz2, hv2⟩, _⟩
          · subst hc hx hy
            go_wp2_with fail
            refine (AW.out _).mono ?_
            rintro e wz ⟨rfl, hb⟩
            have BZ := Lib.hid (BF3.out.trans (hb.mono BF3.out.size))
            clear hb
            go_wp2
            go_ret
            exact ⟨rfl, BZ.out⟩
          · exact absurd (MORE.out.2 hc) (by decide)
          · subst hc hx hy
            have VL := Lib.hid (fit_valid2 hF); have VL2 := Lib.hid (fit_valid2 hF2)
            have CM := Lib.hid (rcmp V2 V hF2 hF)
            have CN := Lib.hid (show ¬ 0 < cmpR V2 V by
              rw [cmpR_gt]
              have := hbest z2 (feas_snoc.1 hz2).1
              rw [hv2] at this
              exact fun h => h this)
            generalize cmpR V2 V = cv at CM CN
            have hcd : decide (cv ≤ 0) = true := by have := CN.out; simp; omega
            clear hF hbest hF2 hz2 hv2
            go_wp2_with fail
            refine (VL.out _).mono ?_
            rintro e wv ⟨rfl, hb⟩
            have BV := Lib.hid (BF3.out.trans (hb.mono BF3.out.size))
            have o0 := cell_later hb o0; have o1 := cell_later hb o1; have q0 := cell_later hb q0; have q1 := cell_later hb q1
            clear hb
            go_wp2_with fail
            refine (VL2.out _).mono ?_
            rintro e wu ⟨rfl, hb⟩
            have BU := Lib.hid (BV.out.trans (hb.mono BV.out.size))
            have o0 := cell_later hb o0; have o1 := cell_later hb o1; have q0 := cell_later hb q0; have q1 := cell_later hb q1
            clear hb
            go_wp2_with fail
            refine (CM.out _).mono ?_
            rintro e wt ⟨rfl, hb⟩
            have BT := Lib.hid (BU.out.trans (hb.mono BU.out.size))
            clear hb o0 o1 q0 q1
            go_wp2_with fail
            refine (AW.out _).mono ?_
            rintro e wz ⟨rfl, hb⟩
            have BZ := Lib.hid (BT.out.trans (hb.mono BT.out.size))
            clear hb
            go_wp2
            go_ret
            exact ⟨rfl, BZ.out⟩
end Go.Proofs.Ytdegpgonphgbcaa
