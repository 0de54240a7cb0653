/-
  simplex.Obeys.
  What multipliers prove (plain).
-/
import Derived.Test.YtdegpgonphgbcaaZPrC
namespace Go.Proofs.Ytdegpgonphgbcaa
open Go.RowKit

theorem termsOk_up {l : List (Int × Int)} {n m n' m' : Int} {k : Nat} (h : TermsOk l n m k) (hn : n ≤ n') (hm : m ≤ m') : TermsOk l n' m' k := fun i t hi ht => by
  obtain ⟨a, b, c, d, e, f⟩ := h i t hi ht
  exact ⟨a, by omega, c, d, by omega, by omega⟩
theorem small_valid {n : Int} {rows : List (List (Int × Int) × Int)} {goal : List (Int × Int)} {c0 : Int} (h : SmallP n rows goal c0) : ValidP n rows goal c0 := by
  obtain ⟨a, b, c, d, e, f, g⟩ := h
  exact ⟨a, by omega, by omega, termsOk_up d (Int.le_refl _) (by decide), by omega, by omega, fun x hx => ⟨termsOk_up (g x hx).1 (Int.le_refl _) (by decide), by have := (g x hx).2; omega, by have := (g x hx).2; omega⟩⟩
set_option maxRecDepth 100000 in
set_option maxHeartbeats 16000000 in
theorem sobeys_any (K : Nat → Prop) (cols : Int) (rows : List (List (Int × Int) × Int)) (goal : List (Int × Int)) (c0 : Int) (hs : SmallP cols rows goal c0) (l : List (Int × Int)) (hsm : Sml l) (ra : Option Addr) (rn rc : Nat) (ga : Option Addr) (gn gc : Nat) (a : Option Addr) (n c : Nat) (w : World) (R : Row RRw 2 K w ra rn rc rows) (G : Row RTm 2 K w ga gn gc goal) (X : Row RTm 2 K w a n c l) :
    Calls Try.prog 30 #[MdV cols (.slice ra rn rc) ga gn gc c0, .slice a n c] w (YesNo ((n : Int) = cols ∧ GoodP l ∧ ObeyP rows (l.map toR)) w) := by
  obtain ⟨wa, hwa⟩ : ∃ wa, wa = w.alloc (.cells (MdC cols (.slice ra rn rc) ga gn gc c0).toArray 28) := ⟨_, rfl⟩
  have BA := Lib.hid (show Below w.heap.size w wa by rw [hwa]; exact (Below.refl _ _).alloc (Nat.le_refl _) _)
  have MA := Lib.hid (show Blk wa w.heap.size 28 (MdC cols (.slice ra rn rc) ga gn gc c0) by rw [hwa]; exact Blk.new w _ _)
  have VA := Lib.hid (valid_any K cols rows goal c0 ra rn rc ga gn gc wa (R.keeps RRw.stays (fun y _ hl => BA.out.block y hl) BA.out.size) (G.keeps RTm.stays (fun y _ hl => BA.out.block y hl) BA.out.size))
  have HV := Lib.hid (small_valid hs)
  have XA := Lib.hid (X.keeps RTm.stays (fun y _ hl => BA.out.block y hl) BA.out.size)
  have HS := Lib.hid hs; have HSM := Lib.hid hsm; have HR := Lib.hid R; have HX := Lib.hid X; have HRL := Lib.hid R.hlen; have hrn6 := R.hsz
  have HWA := Lib.hid hwa
  have m0 := MA.out.cell (i := 0) rfl; have m1 := MA.out.cell (i := 1) rfl; have m2 := MA.out.cell (i := 2) rfl; have m3 := MA.out.cell (i := 3) rfl
  clear hwa R X G hs hsm
  go_enter Try.func30, Try.ntmps30
  go_upto_region 1 with fail
  rw [← HWA.out]
  go_wp2_with fail
  refine VA.out.mono ?_
  rintro e w0 ⟨r, rfl, hr, hb⟩
  obtain rfl : r = true := hr.2 HV.out
  have B0 := Lib.hid (BA.out.trans (hb.mono BA.out.size))
  have M0 := Lib.hid (MA.out.below hb MA.out.lt)
  have GD := Lib.hid (good_any K l HSM.out.in63 a n c cols w0 (XA.out.keeps RTm.stays (fun y _ hl => hb.block y hl) hb.size))
  clear hr hb m0 m1 m2 m3 VA HV XA
  have m0 := M0.out.cell (i := 0) rfl
  go_wp2_with fail
  refine GD.out.mono ?_
  rintro e w1 ⟨r, rfl, hr, hb⟩
  have HRR := Lib.hid hr
  have B1 := Lib.hid (B0.out.trans (hb.mono B0.out.size))
  have M1 := Lib.hid (M0.out.below hb M0.out.lt)
  clear hr hb m0
  cases r with
  | false =>
    have NO := Lib.hid (show ¬ ((n : Int) = cols ∧ GoodP l ∧ ObeyP rows (l.map toR)) from fun h => by have := HRR.out.2 ⟨h.1, h.2.1⟩; cases this)
    go_wp2
    go_ret
    exact no_ret NO.out B1.out rfl
  | true =>
    have HG := Lib.hid (HRR.out.1 rfl)
    have HF := Lib.hid (show Frs l from ⟨HSM.out, HG.out.2⟩)
    have m1 := M1.out.cell (i := 1) rfl
    go_wp2
    clear m1
    go_loopw [23] (fun i wr => ∃ k : Nat, k ≤ rn ∧ i = .int .i64 k ∧ (∀ r, r ∈ rows.take k → dotAt r.1 (l.map toR) r.1.length ≤ (r.2 : Rat)) ∧ Below w.heap.size w wr) (fun i _ => rn - (intOf i).toNat)
    case atStart => exact ⟨0, Nat.zero_le _, rfl, by simp, B1.out⟩
    case round =>
      obtain ⟨k, hk, rfl, hT, hb⟩ := hrel
      obtain ⟨wo, rfl⟩ : ∃ wo : World, wo = wr := ⟨_, rfl⟩
      have HT := Lib.hid hT; have HB := Lib.hid hb
      clear hT hb
      by_cases hlt : k < rn
      · obtain ⟨⟨tm, x⟩, hx⟩ : ∃ t, rows[k]? = some t := ⟨_, List.getElem?_eq_getElem (by have := HRL.out; omega)⟩
        obtain ⟨b, o, rfl, kb, lb, ⟨ta, tn, tc, t0, htm⟩, t1⟩ := (HR.out.keeps RRw.stays (fun y _ hl => HB.out.block y hl) HB.out.size).row k (tm, x) hx
        dsimp only at t0 t1
        have HX0 := Lib.hid hx
        obtain ⟨tok, mx0, mx1⟩ := small_rows HS.out (tm, x) (List.mem_of_getElem? hx)
        dsimp only at tok mx0 mx1
        have hcl : cols = (l.length : Int) := by have := HG.out.1; have := HX.out.hlen; omega
        have tl := terms_len tok HS.out.1
        have hc6 := HS.out.2.1
        have hk1 : (k : Int) < (rn : Int) := by omega
        have TOK := Lib.hid tok; have HTM := Lib.hid htm; have HTL := Lib.hid (show tm.length = tn from htm.hlen); have HCL := Lib.hid hcl
        have MX := Lib.hid (show -50 ≤ x ∧ x ≤ 50 from ⟨mx0, mx1⟩)
        have SMK := Lib.hid (fun k hk => dotAt_sm (tm := tm) HF.out (fun t ht => by obtain ⟨i, hi⟩ := List.getElem?_of_mem ht; exact (tok i t (List.getElem?_eq_some_iff.1 hi).1 hi).2.2.2.2) k hk)
        have L6 := Lib.hid (show tm.length ≤ 6 by omega)
        have htn6 : tn ≤ 6 := by have h : tm.length = tn := htm.hlen; omega
        obtain ⟨wx, hwx⟩ : ∃ wx, wx = wo.alloc (.cells #[.slice ta tn tc, .int .i64 x] 50) := ⟨_, rfl⟩
        have BX := Lib.hid (show Below wo.heap.size wo wx by rw [hwx]; exact (Below.refl _ _).alloc (Nat.le_refl _) _)
        have YX := Lib.hid (show Blk wx wo.heap.size 50 [.slice ta tn tc, .int .i64 x] by rw [hwx]; exact Blk.new wo _ _)
        have HWX := Lib.hid hwx
        clear hx hwx tok htm hcl tl hc6 mx0 mx1 lb kb
        go_upto_region 6 with fail
        rw [← HWX.out]
        obtain ⟨Y, hY⟩ : ∃ Y, Y = wo.heap.size := ⟨_, rfl⟩
        rw [← hY] at YX ⊢
        have HY := Lib.hid hY
        clear t0 t1 hY
        obtain ⟨z0, hz0⟩ : ∃ z0 : Rat, z0 = ((0 : Int) : Rat) := ⟨_, rfl⟩
        have W0 := Lib.hid (fun w => whole_any 0 w)
        rw [← hz0] at W0
        have HZ0 := Lib.hid hz0
        clear hz0
        go_wp2_with fail
        refine (W0.out _).mono ?_
        rintro e w2 ⟨rfl, hb⟩
        have B2 := Lib.hid (BX.out.trans (hb.mono BX.out.size))
        have Y2 := Lib.hid (YX.out.below hb YX.out.lt)
        clear hb
        obtain ⟨w3, hw3⟩ : ∃ w3, w3 = w2.alloc (.cells #[.int .i64 z0.num, .int .i64 (z0.den : Int)] 31) := ⟨_, rfl⟩
        have B3 := Lib.hid (B2.out.trans (show Below wo.heap.size w2 w3 by rw [hw3]; exact (Below.refl _ _).alloc B2.out.size _))
        have Y3 := Lib.hid (show Blk w3 Y 50 [.slice ta tn tc, .int .i64 x] by rw [hw3]; exact Y2.out.old _)
        have S3 := Lib.hid (show Blk w3 w2.heap.size 31 (FrC (dotAt tm (l.map toR) 0)) by
          rw [show dotAt tm (l.map toR) 0 = z0 by rw [HZ0.out]; rfl, hw3]; exact Blk.new w2 _ _)
        have HW3 := Lib.hid hw3
        obtain ⟨S, hS⟩ : ∃ S, S = w2.heap.size := ⟨_, rfl⟩
        have LS := Lib.hid (show Y < S ∧ wo.heap.size ≤ S from ⟨by rw [hS]; exact Y2.out.lt, by rw [hS]; exact B2.out.size⟩)
        rw [← hS] at S3
        have HSS := Lib.hid hS
        clear hw3 hS
        go_upto_region 7 with fail
        rw [← HW3.out, ← HSS.out]
        have y0 := Y3.out.cell (i := 0) rfl
        go_wp2
        clear y0
        go_loopw [31] (fun i wr => ∃ j : Nat, j ≤ tn ∧ i = .int .i64 j ∧ Blk wr S 31 (FrC (dotAt tm (l.map toR) j)) ∧ Chg (fun x => x = S) w3 wr) (fun i _ => tn - (intOf i).toNat)
        case atStart => exact ⟨0, Nat.zero_le _, rfl, S3.out, Chg.refl _⟩
        case round =>
          obtain ⟨j, hj, rfl, hbs, hc⟩ := hrel
          have SB := Lib.hid hbs; have SC := Lib.hid hc
          have BR := Lib.hid (show Below wo.heap.size wo wr from B3.out.trans (SC.out.below (fun x hx e => by have := LS.out; omega) B3.out.size))
          clear hbs hc
          obtain ⟨d, hd⟩ : ∃ d, d = dotAt tm (l.map toR) j := ⟨_, rfl⟩
          rw [← hd] at SB
          have HD := Lib.hid hd
          clear hd
          have YR := Lib.hid (Y3.out.chg SC.out (fun e => by have := LS.out; omega))
          by_cases hltj : j < tn
          · obtain ⟨bt, ot, ⟨of_, co⟩, rfl, ht, t0, t1, _, lbt⟩ := RTm.get (HTM.out.keeps RTm.stays (fun y _ hl => BR.out.block y hl) BR.out.size) hltj
            dsimp only at t0 t1
            have hto := TOK.out j _ (List.getElem?_eq_some_iff.1 ht).1 ht
            obtain ⟨ho0, ho1, _, _, hc0, hc1⟩ := hto
            dsimp only at ho0 ho1 hc0 hc1
            obtain ⟨i, rfl⟩ : ∃ i : Nat, of_ = (i : Int) := ⟨of_.toNat, by omega⟩
            have hin : (i : Int) < (n : Int) := by have := HX.out.hlen; have := HCL.out; omega
            have BR2 := Lib.hid (HB.out.trans (BR.out.mono HB.out.size))
            obtain ⟨b1, o1, x1, rfl, hx1, x10, x11, lb1⟩ := Frs.get HF.out (HX.out.keeps RTm.stays (fun y _ hl => BR2.out.block y hl) BR2.out.size) (i := i) (by omega)
            obtain ⟨m, hm⟩ : ∃ m, m = (co : Rat) * x1 := ⟨_, rfl⟩
            have HSU := Lib.hid (dotAt_succ (xs := l.map toR) ht)
            have smx : Sm 25200 x1 := by rw [hx1]; exact HF.out.sm i
            have smm : Sm (9 * 25200) m := by rw [hm]; exact smx.mul hc0 hc1
            have hlen1 : j < tm.length := (List.getElem?_eq_some_iff.1 ht).1
            have l6 := L6.out
            have smd := SMK.out j (by omega)
            have smd1 := SMK.out (j + 1) (by omega)
            obtain ⟨s, hs⟩ : ∃ s, s = d + m := ⟨_, rfl⟩
            have HN := Lib.hid (show dotAt tm (l.map toR) (j + 1) = s by rw [HSU.out, hs, HD.out, hm, hx1, Int.toNat_natCast])
            have MUL := Lib.hid (smul (co : Rat) x1 ((Sm.int (C := 9) hc0 hc1).fit (by decide)) (smx.fit (by decide)) (by rw [← hm]; exact smm.fit (by decide)))
            rw [← hm] at MUL
            have ADD := Lib.hid (sadd d m (by rw [HD.out]; exact smd.fit (by omega)) (smm.fit (by decide)) (by rw [← hs, ← HN.out]; exact smd1.fit (by omega)))
            rw [← hs] at ADD
            have hkt : (j : Int) < (tn : Int) := by omega
            have hi0 : 0 ≤ (i : Int) := by omega
            clear ht hx1 hm smx smm smd smd1 ho0 ho1 HSU hs hlen1 l6
            go_upto_region 10 with fail
            obtain ⟨w4, hw4⟩ : ∃ w4, w4 = wr.alloc (.cells #[.int .i64 i, .int .i64 co] 56) := ⟨_, rfl⟩
            have B4 := Lib.hid (show Below wr.heap.size wr w4 by rw [hw4]; exact (Below.refl _ _).alloc (Nat.le_refl _) _)
            have X4 := Lib.hid (show Blk w4 wr.heap.size 56 [.int .i64 i, .int .i64 co] by rw [hw4]; exact Blk.new wr _ _)
            rw [← hw4]
            obtain ⟨Z, hZ⟩ : ∃ Z, Z = wr.heap.size := ⟨_, rfl⟩
            have HZS := Lib.hid (show Z ≠ S by have := SB.out.lt; omega)
            rw [← hZ] at X4 ⊢
            have x0 := (B4.out.cell (p := ⟨b1, o1 + i * 2, none⟩) lb1).trans x10
            have x1' := (B4.out.cell (p := ⟨b1, o1 + i * 2 + 1, none⟩) lb1).trans x11
            have S4 := Lib.hid (SB.out.below B4.out SB.out.lt)
            have C4 := Lib.hid (SC.out.tr B4.out)
            have y0 := X4.out.cell (i := 0) rfl; have y1 := X4.out.cell (i := 1) rfl
            have s0 := S4.out.cell (i := 0) rfl; have s1 := S4.out.cell (i := 1) rfl
            clear hw4 hZ t0 t1 x10 x11
            refine hr_start 11 (fun w' => w'.cell? ⟨S, 0, none⟩ = some (.int .i64 d.num) ∧ w'.cell? ⟨S, 1, none⟩ = some (.int .i64 (d.den : Int)) ∧ w'.cell? ⟨Z, 0, none⟩ = some (.int .i64 i) ∧ w'.cell? ⟨Z, 1, none⟩ = some (.int .i64 co) ∧ w'.cell? ⟨b1, o1 + i * 2, none⟩ = some (.int .i64 x1.num) ∧ w'.cell? ⟨b1, o1 + i * 2 + 1, none⟩ = some (.int .i64 (x1.den : Int))) (by kernel_rfl) (by kernel_rfl) (by refine ⟨s0, s1, y0, y1, x0, x1'⟩) (fun ok => ?_)
            refine hr_take (i := 0) (v := ?_) ok rfl (by rfl) (by kernel_rfl) (by kernel_rfl) (by kernel_rfl) (by kernel_rfl) (fun _ _ _ h => h) (Or.inl ⟨by kernel_rfl, ?_⟩) ?_
            rotate_left
            · (intro w hSw; (try dsimp only at hSw); (try go_split_ands); go_simp; (try (with_reducible rfl)))
            go_frame
            refine hr_take (i := 1) (v := ?_) ok rfl (by rfl) (by kernel_rfl) (by kernel_rfl) (by kernel_rfl) (by kernel_rfl) (fun _ _ _ h => h) (Or.inl ⟨by kernel_rfl, ?_⟩) ?_
            rotate_left
            · (intro w hSw; (try dsimp only at hSw); (try go_split_ands); go_simp; (try (with_reducible rfl)))
            go_frame
            refine hr_take (i := 2) (v := ?_) ok rfl (by rfl) (by kernel_rfl) (by kernel_rfl) (by kernel_rfl) (by kernel_rfl) (fun _ _ _ h => h) (Or.inl ⟨by kernel_rfl, ?_⟩) ?_
            rotate_left
            · (intro w hSw; (try dsimp only at hSw); (try go_split_ands); go_simp; (try (with_reducible rfl)))
            go_frame
            refine hr_take (i := 4) (v := ?_) ok rfl (by rfl) (by kernel_rfl) (by kernel_rfl) (by kernel_rfl) (by kernel_rfl) (fun _ _ _ h => h) (Or.inl ⟨by kernel_rfl, ?_⟩) ?_
            rotate_left
            · (intro w hSw; (try dsimp only at hSw); (try go_split_ands); go_simp; (try (with_reducible rfl)))
            go_frame
            refine hr_take (i := 5) (v := ?_) ok rfl (by rfl) (by kernel_rfl) (by kernel_rfl) (by kernel_rfl) (by kernel_rfl) (fun _ _ _ h => h) (Or.inl ⟨by kernel_rfl, ?_⟩) ?_
            rotate_left
            · (intro w hSw; (try dsimp only at hSw); (try go_split_ands); go_simp; (try (with_reducible rfl)))
            go_frame
            refine hr_take (i := 6) (v := ?_) ok rfl (by rfl) (by kernel_rfl) (by kernel_rfl) (by kernel_rfl) (by kernel_rfl) (fun _ _ _ h => h) (Or.inl ⟨by kernel_rfl, ?_⟩) ?_
            rotate_left
            · (intro w hSw; (try dsimp only at hSw); (try go_split_ands); go_simp; (try (with_reducible rfl)))
            go_frame
            refine hr_take (i := 7) (v := ?_) ok rfl (by rfl) (by kernel_rfl) (by kernel_rfl) (by kernel_rfl) (by kernel_rfl) (fun _ _ _ h => h) (Or.inl ⟨by kernel_rfl, ?_⟩) ?_
            rotate_left
            · (intro w hSw; (try dsimp only at hSw); (try go_split_ands); go_simp; (try (with_reducible rfl)))
            go_frame
            refine hr_take (i := 8) (v := ?_) ok rfl (by rfl) (by kernel_rfl) (by kernel_rfl) (by kernel_rfl) (by kernel_rfl) (fun _ _ _ h => h) (Or.inl ⟨by kernel_rfl, ?_⟩) ?_
            rotate_left
            · (intro w hSw; (try dsimp only at hSw); (try go_split_ands); go_simp; (try (with_reducible rfl)))
            go_frame
            refine hr_only (c := 3) rfl (by kernel_rfl) (fun K hK => ?_)
            go_simp
            refine (whole_any co _).mono ?_
            rintro e' w' ⟨rfl, hb⟩
            have FB1 := Lib.hid (S4.out.drew.below hb S4.out.drew.lt)
            have CH1 := Lib.hid (show Chg (fun x => x = S) w3 w' from C4.out.drew.tr hb)
            have s0 := cell_later hb s0; have s1 := cell_later hb s1; have y0 := cell_later hb y0; have y1 := cell_later hb y1; have x0 := cell_later hb x0; have x1' := cell_later hb x1'
            (try simp only [])
            refine hK _ _ (fun _ => by refine ⟨?_, ?_, ?_, ?_, ?_, ?_⟩ <;> (first | exact s0 | exact s1 | exact y0 | exact y1 | exact x0 | exact x1')) ?_
            clear hK K
            (try go_frame)

            clear hb
            refine hr_only (c := 9) rfl (by kernel_rfl) (fun K hK => ?_)
            go_simp
            refine (MUL.out _).mono ?_
            rintro e' w'' ⟨rfl, hb⟩
            have FB2 := Lib.hid (FB1.out.below hb FB1.out.lt)
            have CH2 := Lib.hid (CH1.out.tr hb)
            have s0 := cell_later hb s0; have s1 := cell_later hb s1; have y0 := cell_later hb y0; have y1 := cell_later hb y1; have x0 := cell_later hb x0; have x1' := cell_later hb x1'
            (try simp only [])
            refine hK _ _ (fun _ => by refine ⟨?_, ?_, ?_, ?_, ?_, ?_⟩ <;> (first | exact s0 | exact s1 | exact y0 | exact y1 | exact x0 | exact x1')) ?_
            clear hK K
            (try go_frame)

            clear hb FB1 CH1
            refine hr_only (c := 10) rfl (by kernel_rfl) (fun K hK => ?_)
            go_simp
            refine (ADD.out _).mono ?_
            rintro e' w3' ⟨rfl, hb⟩
            have FB3 := Lib.hid (FB2.out.below hb FB2.out.lt)
            have CH3 := Lib.hid (CH2.out.tr hb)
            (try simp only [])
            refine hK _ _ (fun _ => by refine ⟨?_, ?_, ?_, ?_, ?_, ?_⟩ <;> (first | exact cell_later hb s0 | exact cell_later hb s1 | exact cell_later hb y0 | exact cell_later hb y1 | exact cell_later hb x0 | exact cell_later hb x1')) ?_
            clear hK K
            (try go_frame)

            clear s0 s1 y0 y1 x0 x1' hb FB2 CH2
            have c1 := FB3.out.cell (i := 0) rfl
            have c2 := FB3.out.cell (i := 1) rfl
            have cf := FB3.out.free
            refine hr_only (c := 11) rfl (by kernel_rfl) (fun K hK => ?_)
            go_simp
            (try simp only [])
            refine hK _ _ (pend_no (by kernel_rfl)) ?_
            clear hK K
            (try go_frame)
            refine hr_end (by kernel_rfl) ?_
            have PS := Lib.hid (show Blk ((w3'.setCell ⟨S, 0, none⟩ (.int .i64 s.num)).setCell ⟨S, 1, none⟩ (.int .i64 (s.den : Int))) S 31 (FrC (dotAt tm (l.map toR) (j + 1))) by
              rw [HN.out]
              exact ((FB3.out.set 0 _).set 1 _).at rfl)
            have PC := Lib.hid (show Chg (fun x => x = S) w3 ((w3'.setCell ⟨S, 0, none⟩ (.int .i64 s.num)).setCell ⟨S, 1, none⟩ (.int .i64 (s.den : Int))) from (CH3.out.setCell (p := ⟨S, 0, none⟩) (fun _ => rfl) _).setCell (p := ⟨S, 1, none⟩) (fun _ => rfl) _)
            clear c1 c2 cf FB3 CH3
            go_wp2
            go_roundw
            case rel => exact ⟨j + 1, by omega, by go_num, PS.out, PC.out⟩
            case measure => simp [intOf]; omega
          · obtain rfl : j = tn := by omega
            have hDl : d = dotAt tm (l.map toR) tm.length := by rw [HD.out, HTL.out]
            have l6 := L6.out
            have fD : Fit d := by rw [hDl]; exact (SMK.out _ (Nat.le_refl _)).fit (by omega)
            obtain ⟨z, hz⟩ : ∃ z : Rat, z = (x : Rat) := ⟨_, rfl⟩
            have fz : Fit z := by rw [hz]; have := MX.out; exact fit_int (by omega) (by omega)
            have WH := Lib.hid (show ∀ w : World, Calls Try.prog 58 #[.int .i64 x] w fun e w' => e = .returned (FrV z) ∧ Below w.heap.size w w' from fun w => by rw [hz]; exact whole_any x w)
            have CM := Lib.hid (ncmp d z fD fz)
            have HDX := Lib.hid (show (0 < cmpR d z) ↔ ¬ dotAt tm (l.map toR) tm.length ≤ (x : Rat) by rw [cmpR_gt, hDl, hz])
            generalize cmpR d z = cv at CM HDX
            have yl := YR.out.lt
            have sl := SB.out.lt
            have i0 := fun s : BelowW wr => (s.ok.cell (p := ⟨Y, 1, none⟩) yl).trans (YR.out.cell (i := 1) rfl)
            have i1 := fun s : BelowW wr => (s.ok.cell (p := ⟨S, 0, none⟩) sl).trans (SB.out.cell (i := 0) rfl)
            have i2 := fun s : BelowW wr => (s.ok.cell (p := ⟨S, 1, none⟩) sl).trans (SB.out.cell (i := 1) rfl)
            have BWR := Lib.hid (HB.out.trans (BR.out.mono HB.out.size))
            clear hDl hz fz fD l6
            by_cases hcv : 0 < cv
            · have NO := Lib.hid (show ¬ ((n : Int) = cols ∧ GoodP l ∧ ObeyP rows (l.map toR)) from fun h => (HDX.out.1 hcv) (h.2.2 _ (List.mem_of_getElem? HX0.out)))
              have hcd : decide (cv > 0) = true := decide_eq_true hcv
              go_wp2
              refine wp_region_below (by kernel_rfl) (by kernel_rfl) ?_
              repeat (go_big_quiet_step (first | (go_at_call 58; (with_reducible exact calls_below _ (WH.out _))) | (go_at_call 61; (with_reducible exact calls_below _ (CM.out _)))))
              refine wpQuiet_nil ?_
              rintro w' ⟨s, rfl⟩
              obtain ⟨w7, ok7⟩ := s
              clear i0 i1 i2
              go_wp2
              go_ret
              exact no_ret NO.out (BWR.out.trans (ok7.mono BWR.out.size)) rfl
            · have HT2 := Lib.hid (show ∀ r, r ∈ rows.take (k + 1) → dotAt r.1 (l.map toR) r.1.length ≤ (r.2 : Rat) from fun z hz => by
                rw [List.take_add_one, HX0.out, List.mem_append] at hz
                rcases hz with h | h
                · exact HT.out z h
                · have e : z = (tm, x) := by simpa using h
                  subst e
                  exact Classical.byContradiction fun h => hcv (HDX.out.2 h))
              have hcd : decide (cv > 0) = false := decide_eq_false hcv
              go_wp2
              refine wp_region_below (by kernel_rfl) (by kernel_rfl) ?_
              repeat (go_big_quiet_step (first | (go_at_call 58; (with_reducible exact calls_below _ (WH.out _))) | (go_at_call 61; (with_reducible exact calls_below _ (CM.out _)))))
              refine wpQuiet_nil ?_
              rintro w' ⟨s, rfl⟩
              obtain ⟨w7, ok7⟩ := s
              clear i0 i1 i2
              go_wp2
              go_roundw
              case rel => exact ⟨k + 1, by omega, by go_num, HT2.out, BWR.out.trans (ok7.mono BWR.out.size)⟩
              case measure => simp [intOf]; omega
      · obtain rfl : k = rn := by omega
        have YES := Lib.hid (show ((n : Int) = cols ∧ GoodP l ∧ ObeyP rows (l.map toR)) from ⟨HG.out.1, HG.out.2, fun x hx => HT.out x (by rw [List.take_of_length_le (by rw [HRL.out]; exact Nat.le_refl _)]; exact hx)⟩)
        go_wp2
        go_ret
        exact yes_ret YES.out HB.out rfl
end Go.Proofs.Ytdegpgonphgbcaa
namespace Go.Proofs.Ytdegpgonphgbcaa
open Go.RowKit

abbrev MRow := List (Int × Int) × Int
def rowD (rows : List MRow) (k : Nat) : MRow := rows.getD k ([], 0)
theorem rowD_of {rows : List MRow} {k : Nat} {r : MRow} (h : rows[k]? = some r) : rowD rows k = r := by unfold rowD; rw [List.getD_eq_getElem?_getD, h]; rfl
def valAt (rows : List MRow) (c0 : Int) (ys : List Rat) : Nat → Rat
  | 0 => (c0 : Rat)
  | k + 1 => valAt rows c0 ys k + ((rowD rows k).2 : Rat) * gR ys k
def colAt (rows : List MRow) (ys : List Rat) (c : Int) : Nat → Rat
  | 0 => 0
  | k + 1 => colAt rows ys c k + (coefF (rowD rows k).1 c : Rat) * gR ys k
/-- The multipliers prove a value. -/
def ProveP (cols : Int) (rows : List MRow) (goal : List (Int × Int)) (ys : List Rat) : Prop := ∀ c : Int, 0 ≤ c → c < cols → (coefF goal c : Rat) ≤ colAt rows ys c rows.length
def PvRet (p : Prop) (v : Rat) (w : World) (e : Ending) (w' : World) : Prop := ∃ (x : Rat) (b : Bool), e = .returned (.tuple #[FrV x, .bool b]) ∧ (b = true ↔ p) ∧ (b = true → x = v) ∧ (b = false → x = 0) ∧ Below w.heap.size w w'
theorem pv_no {p : Prop} {v : Rat} {w w' : World} (h : ¬ p) (hb : Below w.heap.size w w') : PvRet p v w (.returned (.tuple #[FrV 0, .bool false])) w' := ⟨0, false, rfl, ⟨(fun h => by cases h), fun k => absurd k h⟩, (fun h => by cases h), fun _ => rfl, hb⟩
theorem pv_yes {p : Prop} {v : Rat} {w w' : World} (h : p) (hb : Below w.heap.size w w') : PvRet p v w (.returned (.tuple #[FrV v, .bool true])) w' := ⟨v, true, rfl, ⟨fun _ => h, fun _ => rfl⟩, fun _ => rfl, (fun h => by cases h), hb⟩
theorem coef_nine {n m : Int} {l : List (Int × Int)} (hm : 0 ≤ m) (h : TermsOk l n m l.length) (c : Int) : -m ≤ coefF l c ∧ coefF l c ≤ m := coefF_le hm (fun t ht => by obtain ⟨i, hi⟩ := List.getElem?_of_mem ht; exact (h i t (List.getElem?_eq_some_iff.1 hi).1 hi).2.2.2.2) c
section
variable {n : Int} {rows : List MRow} {goal : List (Int × Int)} {c0 : Int} (hs : SmallP n rows goal c0) {l : List (Int × Int)} (hf : Frs l)
include hs
theorem small_rowD (k : Nat) : TermsOk (rowD rows k).1 n 9 (rowD rows k).1.length ∧ -50 ≤ (rowD rows k).2 ∧ (rowD rows k).2 ≤ 50 := by
  by_cases hk : k < rows.length
  · rw [rowD_of (List.getElem?_eq_getElem hk)]
    exact small_rows hs _ (List.getElem_mem hk)
  · unfold rowD
    rw [List.getD_eq_getElem?_getD, List.getElem?_eq_none (by omega)]
    exact ⟨fun i t hi => absurd hi (Nat.not_lt_zero _), by decide, by decide⟩
include hf
theorem valAt_sm : ∀ k : Nat, Sm (22680 + 1260000 * k) (valAt rows c0 (l.map toR) k)
  | 0 => by have := hs.2.2.2.2; exact (Sm.int (C := 9) this.1 this.2.1).up (by omega)
  | k + 1 => by
    have := (small_rowD hs k).2
    exact ((valAt_sm k).add ((hf.sm k).mul (C := 50) this.1 this.2)).up (by omega)
theorem colAt_sm (c : Int) : ∀ k : Nat, Sm (226800 * k) (colAt rows (l.map toR) c k)
  | 0 => ⟨0, by show 2520 * (0 : Rat) = _; simp, by omega, by omega⟩
  | k + 1 => by
    have := coef_nine (by decide) (small_rowD hs k).1 c
    exact ((colAt_sm c k).add ((hf.sm k).mul (C := 9) this.1 this.2)).up (by omega)
end
theorem cmpR_lt (x y : Rat) : (cmpR x y < 0) ↔ ¬ y ≤ x := by
  unfold cmpR
  split
  · rename_i h; simp; grind
  · split
    · rename_i h1 h2; subst h2; simp
    · rename_i h1 h2; simp; grind
end Go.Proofs.Ytdegpgonphgbcaa
