/-
  timeboundref32.
  timeboundref32.
-/
import Derived.Test.YtdegpgonphgbcaaZTaN
namespace Go.Proofs.Ytdegpgonphgbcaa
open Go.RowKit
set_option maxRecDepth 100000 in
set_option maxHeartbeats 8000000 in
theorem dotq_any (K : Nat → Prop) (tm l : List (Int × Int)) (cols : Int) (q : Nat) (hf : FrQ q l) (htm : TermsOk tm cols 9 tm.length) (hcl : cols = (l.length : Int)) (h1000 : tm.length ≤ 1000) (ta : Option Addr) (tn tc : Nat) (a : Option Addr) (n c : Nat) (w : World) (T : Row RTm 2 K w ta tn tc tm) (R : Row RTm 2 K w a n c l) :
    Calls Try.prog 17 #[.slice ta tn tc, .slice a n c] w (FrRet (dotAt tm (l.map toR) tm.length) w) := by
  have HR := Lib.hid R; have HL := Lib.hid R.hlen; have HT := Lib.hid T; have HTL := Lib.hid T.hlen; have h6 := T.hsz; have hn6 := R.hsz
  have HF := Lib.hid hf; have HTM := Lib.hid htm
  have HCL := Lib.hid hcl
  have SMK := Lib.hid (fun k hk => dotAt_sq (tm := tm) hf (fun t ht => by obtain ⟨i, hi⟩ := List.getElem?_of_mem ht; exact (htm i t (List.getElem?_eq_some_iff.1 hi).1 hi).2.2.2.2) k hk)
  clear R T hf htm hcl
  obtain ⟨wa, hwa⟩ : ∃ wa, wa = w.alloc (.cells #[.int .i64 0, .int .i64 0] 31) := ⟨_, rfl⟩
  have BA := Lib.hid (show Below w.heap.size w wa by rw [hwa]; exact (Below.refl _ _).alloc (Nat.le_refl _) _)
  have YA := Lib.hid (show Blk wa w.heap.size 31 [.int .i64 0, .int .i64 0] by rw [hwa]; exact Blk.new w _ _)
  have HWA := Lib.hid hwa
  clear hwa
  go_enter Try.func17, Try.ntmps17
  go_upto_region 1 with fail
  rw [← HWA.out]
  obtain ⟨z0, hz0⟩ : ∃ z0 : Rat, z0 = ((0 : Int) : Rat) := ⟨_, rfl⟩
  have W0 := Lib.hid (fun w => rwhole_any 0 w)
  rw [← hz0] at W0
  have HZ0 := Lib.hid hz0
  clear hz0
  go_wp2_with fail
  refine (W0.out _).mono ?_
  rintro e w1 ⟨rfl, hb⟩
  have B1 := Lib.hid (BA.out.trans (hb.mono BA.out.size))
  have Y1 := Lib.hid (YA.out.below hb YA.out.lt)
  clear hb
  obtain ⟨w2, hw2⟩ : ∃ w2, w2 = w1.alloc (.cells #[.int .i64 z0.num, .int .i64 (z0.den : Int)] 31) := ⟨_, rfl⟩
  have B2 := Lib.hid (B1.out.trans (show Below w.heap.size w1 w2 by rw [hw2]; exact (Below.refl _ _).alloc B1.out.size _))
  have Y2 := Lib.hid (show Blk w2 w.heap.size 31 [.int .i64 0, .int .i64 0] by rw [hw2]; exact Y1.out.old _)
  have S2 := Lib.hid (show Blk w2 w1.heap.size 31 (FrC z0) by rw [hw2]; exact Blk.new w1 _ _)
  have HW2 := Lib.hid hw2
  obtain ⟨S, hS⟩ : ∃ S, S = w1.heap.size := ⟨_, rfl⟩
  have LS := Lib.hid (show w.heap.size < S by rw [hS]; exact Y1.out.lt)
  rw [← hS] at S2
  have HS := Lib.hid hS
  clear hw2 hS
  go_upto_region 2 with fail
  rw [← HW2.out, ← HS.out]
  have HL2 := Lib.hid (show n = l.length from HL.out.symm)
  obtain ⟨D0, hD0⟩ : ∃ D, D = dotAt tm (l.map toR) 0 := ⟨_, rfl⟩
  have S0 := Lib.hid (show Blk w2 S 31 (FrC (dotAt tm (l.map toR) 0)) by rw [show dotAt tm (l.map toR) 0 = z0 by rw [HZ0.out]; rfl]; exact S2.out)
  clear hD0 D0 S2
  go_wp2
  go_loopw [13] (fun i wr => ∃ k : Nat, k ≤ tn ∧ i = .int .i64 k ∧ Blk wr S 31 (FrC (dotAt tm (l.map toR) k)) ∧ Chg (fun x => x = S) w2 wr) (fun i _ => tn - (intOf i).toNat)
  case atStart => exact ⟨0, Nat.zero_le _, rfl, S0.out, Chg.refl _⟩
  case round =>
    obtain ⟨k, hk, rfl, hbs, hc⟩ := hrel
    have SB := Lib.hid hbs; have SC := Lib.hid hc
    have BR := Lib.hid (show Below w.heap.size w wr from B2.out.trans (SC.out.below (fun x hx e => by have := LS.out; omega) B2.out.size))
    clear hbs hc
    obtain ⟨wo, rfl⟩ : ∃ wo : World, wo = wr := ⟨_, rfl⟩
    obtain ⟨d, hd⟩ : ∃ d, d = dotAt tm (l.map toR) k := ⟨_, rfl⟩
    rw [← hd] at SB
    have HD := Lib.hid hd
    clear hd
    by_cases hlt : k < tn
    · obtain ⟨bt, ot, ⟨of_, co⟩, rfl, ht, t0, t1, _, lbt⟩ := RTm.get (HT.out.keeps RTm.stays (fun y _ hl => BR.out.block y hl) BR.out.size) hlt
      dsimp only at t0 t1
      have hto := HTM.out k _ (List.getElem?_eq_some_iff.1 ht).1 ht
      obtain ⟨ho0, ho1, _, _, hc0, hc1⟩ := hto
      dsimp only at ho0 ho1 hc0 hc1
      obtain ⟨i, rfl⟩ : ∃ i : Nat, of_ = (i : Int) := ⟨of_.toNat, by omega⟩
      have hin : (i : Int) < (n : Int) := by have := HL2.out; have := HCL.out; omega
      obtain ⟨b, o, x, rfl, hx, x0, x1, lb⟩ := FrQ.get HF.out (HR.out.keeps RTm.stays (fun y _ hl => BR.out.block y hl) BR.out.size) (i := i) (by omega)
      obtain ⟨m, hm⟩ : ∃ m, m = (co : Rat) * x := ⟨_, rfl⟩
      have HSU := Lib.hid (dotAt_succ (xs := l.map toR) ht)
      have smx : Sq q 2200000000 x := by rw [hx]; exact HF.out.sm i
      have smm : Sq q (9 * 2200000000) m := by rw [hm]; exact smx.mul hc0 hc1
      have hlen1 : k < tm.length := (List.getElem?_eq_some_iff.1 ht).1
      have smd := SMK.out k (by omega)
      have smd1 := SMK.out (k + 1) (by omega)
      have HN := Lib.hid (show dotAt tm (l.map toR) (k + 1) = d + m by rw [HSU.out, HD.out, hm, hx, Int.toNat_natCast])
      have MUL := Lib.hid (rmul (co : Rat) x ((Sm.int (C := 9) hc0 hc1).fit (by decide)) (smx.fit (by decide)) (by rw [← hm]; exact smm.fit (by decide)))
      rw [← hm] at MUL
      have ADD := Lib.hid (radd d m (by rw [HD.out]; exact smd.fit (by omega)) (smm.fit (by decide)) (by rw [← HN.out]; exact smd1.fit (by omega)))
      have hkt : (k : Int) < (tn : Int) := by omega
      have hi0 : 0 ≤ (i : Int) := by omega
      clear ht hx hm smx smm smd smd1 ho0 ho1 HSU
      go_upto_region 5 with fail
      obtain ⟨w4, hw4⟩ : ∃ w4, w4 = wo.alloc (.cells #[.int .i64 i, .int .i64 co] 56) := ⟨_, rfl⟩
      have B4 := Lib.hid (show Below wo.heap.size wo w4 by rw [hw4]; exact (Below.refl _ _).alloc (Nat.le_refl _) _)
      have X4 := Lib.hid (show Blk w4 wo.heap.size 56 [.int .i64 i, .int .i64 co] by rw [hw4]; exact Blk.new wo _ _)
      rw [← hw4]
      obtain ⟨X, hX⟩ : ∃ X, X = wo.heap.size := ⟨_, rfl⟩
      rw [← hX] at X4 ⊢
      have x0 := (B4.out.cell (p := ⟨b, o + i * 2, none⟩) lb).trans x0
      have x1 := (B4.out.cell (p := ⟨b, o + i * 2 + 1, none⟩) lb).trans x1
      have S4 := Lib.hid (SB.out.below B4.out SB.out.lt)
      have C4 := Lib.hid (SC.out.tr B4.out)
      have y0 := X4.out.cell (i := 0) rfl; have y1 := X4.out.cell (i := 1) rfl
      clear hw4 hX t0 t1
      have lb0 := World.block_lt_of_cell? _ _ y0
      have lb1 := World.block_lt_of_cell? _ _ y1
      have lb2 := World.block_lt_of_cell? _ _ x0
      have lb3 := World.block_lt_of_cell? _ _ x1
      dsimp only at lb0 lb1 lb2 lb3
      go_cut [8] (fun s wx => ∃ B10 : Nat, s = .pointer (some ⟨B10, 0, none⟩) ∧ w4.heap.size ≤ B10 ∧ Blk wx B10 31 (FrC (m)) ∧ Below w4.heap.size w4 wx)
      case first =>
        as_aux_lemma =>
          refine hd_start_e 15 (fun w' => w'.cell? ⟨X, 0, none⟩ = some (.int .i64 i) ∧ w'.cell? ⟨X, 1, none⟩ = some (.int .i64 co) ∧ w'.cell? ⟨b, o + i * 2, none⟩ = some (.int .i64 x.num) ∧ w'.cell? ⟨b, o + i * 2 + 1, none⟩ = some (.int .i64 (x.den : Int))) (by kernel_rfl) ⟨by kernel_rfl, by rfl⟩ (by refine ⟨y0, y1, x0, x1⟩) (fun ok => ?_)
          refine he_t 0 ok rfl ?_
          go_frame
          refine he_t 1 ok rfl ?_
          go_frame
          refine he_t 3 ok rfl ?_
          go_frame
          refine he_t 4 ok rfl ?_
          go_frame
          refine he_t 5 ok rfl ?_
          go_frame
          refine he_t 6 ok rfl ?_
          go_frame
          refine he_t 7 ok rfl ?_
          go_frame
          refine hd_inv_s [(20, 2), (26, 8), (17, 9), (27, 10), (28, 11), (9, 14), (8, 12)] [13] (fun _ => undef) (fun b v w' => Below w4.heap.size w4 w' ∧ (b 2 = true → v 2 = FrV (co : Rat)) ∧ (b 8 = true → v 8 = .tuple #[FrV m, .int .i64 0]) ∧ (b 9 = true → v 9 = .tuple #[FrV m, .int .i64 0]) ∧ (b 10 = true → v 10 = FrV m) ∧ (b 11 = true → v 11 = .int .i64 0) ∧ (b 14 = true → v 14 = .int .i64 0) ∧ ∃ q7, (b 12 = true → v 12 = .pointer (some ⟨q7, 0, none⟩) ∧ w4.heap.size ≤ q7) ∧ (b 12 = true → b 13 = false → Blk w' q7 31 [.int .i64 0, .int .i64 0]) ∧ (b 13 = true → b 12 = true ∧ Blk w' q7 31 (FrC (m)))) (.inr ok) ⟨by decide, by decide, by kernel_rfl, rfl⟩ (by kernel_rfl) (by kernel_rfl) (by kernel_rfl) (by decide) ⟨(Below.refl _ _).drew, (fun h => by cases h), (fun h => by cases h), (fun h => by cases h), (fun h => by cases h), (fun h => by cases h), (fun h => by cases h), 0, (fun h => by cases h), (fun h => by cases h), (fun h => by cases h)⟩ ?_ ?_
          · intro iA oj hi ho bb vA aA w' hJ hv hr hb hdep hS K hK
            obtain ⟨hB, j2, j8, j9, j10, j11, j14, q7, jal, jz, jst⟩ := hJ
            have hBs := hB.size
            have hi4 : iA = 2 ∨ iA = 8 ∨ iA = 9 ∨ iA = 10 ∨ iA = 11 ∨ iA = 14 ∨ iA = 12 ∨ iA = 13 := by simpa using hi
            try dsimp only at hS
            obtain ⟨s0, s1, s2, s3⟩ := hS
            rcases hi4 with rfl | rfl | rfl | rfl | rfl | rfl | rfl | rfl
            · obtain rfl := Option.some.inj ho
              have e19 : aA.tmps[19]?.getD undef = .int .i64 co := (get_eval aA 19).trans (hr 19 (by decide))
              go_simp
              go_at_call 39
              refine (rwhole_any co _).mono ?_
              rintro e u ⟨rfl, hu⟩
              exact hK _ _ ⟨cell_later hu s0, cell_later hu s1, cell_later hu s2, cell_later hu s3⟩ ⟨hB.trans (hu.mono hBs), fun _ => rfl, j8, j9, j10, j11, j14, q7, jal, fun h1 h2 => (jz h1 h2).below hu (jz h1 h2).lt, fun h => ⟨(jst h).1, (jst h).2.below hu (jst h).2.lt⟩⟩
            · obtain rfl := Option.some.inj ho
              have d2 := hdep 2 (by kernel_rfl)
              have e20 : aA.tmps[20]?.getD undef = FrV (co : Rat) := (get_eval aA 20).trans ((hv 20 2 (by decide) d2).trans (j2 d2))
              have e25 : aA.tmps[25]?.getD undef = FrV x := (get_eval aA 25).trans (hr 25 (by decide))
              go_simp
              go_at_call 23
              refine (MUL.out _).mono ?_
              rintro e u ⟨rfl, hu⟩
              exact hK _ _ ⟨cell_later hu s0, cell_later hu s1, cell_later hu s2, cell_later hu s3⟩ ⟨hB.trans (hu.mono hBs), j2, fun _ => rfl, j9, j10, j11, j14, q7, jal, fun h1 h2 => (jz h1 h2).below hu (jz h1 h2).lt, fun h => ⟨(jst h).1, (jst h).2.below hu (jst h).2.lt⟩⟩
            · obtain rfl := Option.some.inj ho
              have d8 := hdep 8 (by kernel_rfl)
              have e26 : aA.tmps[26]?.getD undef = .tuple #[FrV m, .int .i64 0] := (get_eval aA 26).trans ((hv 26 8 (by decide) d8).trans (j8 d8))
              go_simp
              exact hK _ _ ⟨s0, s1, s2, s3⟩ ⟨hB, j2, j8, fun _ => rfl, j10, j11, j14, q7, jal, jz, jst⟩
            · obtain rfl := Option.some.inj ho
              have d9 := hdep 9 (by kernel_rfl)
              have e17 : aA.tmps[17]?.getD undef = .tuple #[FrV m, .int .i64 0] := (get_eval aA 17).trans ((hv 17 9 (by decide) d9).trans (j9 d9))
              go_simp
              exact hK _ _ ⟨s0, s1, s2, s3⟩ ⟨hB, j2, j8, j9, fun _ => rfl, j11, j14, q7, jal, jz, jst⟩
            · obtain rfl := Option.some.inj ho
              have d9 := hdep 9 (by kernel_rfl)
              have e17 : aA.tmps[17]?.getD undef = .tuple #[FrV m, .int .i64 0] := (get_eval aA 17).trans ((hv 17 9 (by decide) d9).trans (j9 d9))
              go_simp
              exact hK _ _ ⟨s0, s1, s2, s3⟩ ⟨hB, j2, j8, j9, j10, fun _ => rfl, j14, q7, jal, jz, jst⟩
            · obtain rfl := Option.some.inj ho
              have d11 := hdep 11 (by kernel_rfl)
              have e28 : aA.tmps[28]?.getD undef = .int .i64 0 := (get_eval aA 28).trans ((hv 28 11 (by decide) d11).trans (j11 d11))
              go_simp
              exact hK _ _ ⟨s0, s1, s2, s3⟩ ⟨hB, j2, j8, j9, j10, j11, fun _ => rfl, q7, jal, jz, jst⟩
            · obtain rfl := Option.some.inj ho
              go_simp
              have hu : Below w'.heap.size w' (w'.alloc (.cells #[.int .i64 0, .int .i64 0] 31)) := (Below.refl _ _).alloc (Nat.le_refl _) _
              exact hK _ _ ⟨cell_later hu s0, cell_later hu s1, cell_later hu s2, cell_later hu s3⟩ ⟨hB.trans (hu.mono hBs), j2, j8, j9, j10, j11, j14, w'.heap.size, fun _ => ⟨rfl, hBs⟩, fun _ _ => Blk.new w' [.int .i64 0, .int .i64 0] 31, fun h => by have := (jst h).1; rw [hb] at this; cases this⟩
            · obtain rfl := Option.some.inj ho
              have dal := hdep 12 (by kernel_rfl)
              obtain ⟨val, lal⟩ := jal dal
              have bz := jz dal hb
              have e8 : aA.tmps[8]?.getD undef = .pointer (some ⟨q7, 0, none⟩) := (get_eval aA 8).trans ((hv 8 12 (by decide) dal).trans val)
              have d10 := hdep 10 (by kernel_rfl)
              have e27 : aA.tmps[27]?.getD undef = FrV m := (get_eval aA 27).trans ((hv 27 10 (by decide) d10).trans (j10 d10))
              have z0 := bz.cell (i := 0) rfl; have z1 := bz.cell (i := 1) rfl; have zf := bz.free
              go_simp
              have hc2 : Below w4.heap.size w4 ((w'.setCell ⟨q7, 0, none⟩ (.int .i64 (m).num)).setCell ⟨q7, 1, none⟩ (.int .i64 ((m).den : Int))) := (hB.setCell lal _).setCell lal _
              exact hK (.int .i64 0) _ ⟨cell_set (by omega) (cell_set (by omega) s0), cell_set (by omega) (cell_set (by omega) s1), cell_set (by omega) (cell_set (by omega) s2), cell_set (by omega) (cell_set (by omega) s3)⟩ ⟨hc2, j2, j8, j9, j10, j11, j14, q7, jal, (fun _ h => by cases h), fun _ => ⟨dal, ((bz.set 0 _).set 1 _).at rfl⟩⟩
          · intro bb vA w' hall hJ hS
            obtain ⟨hB, j2, j8, j9, j10, j11, j14, q7, jal, jz, jst⟩ := hJ
            have v2 := j2 (hall 2 (by decide))
            have v8 := j8 (hall 8 (by decide))
            have v9 := j9 (hall 9 (by decide))
            have v10 := j10 (hall 10 (by decide))
            have v11 := j11 (hall 11 (by decide))
            have v14 := j14 (hall 14 (by decide))
            obtain ⟨val, lal⟩ := jal (hall 12 (by decide))
            have R := Lib.hid (show ∃ B10 : Nat, Value.pointer (some ⟨q7, 0, none⟩) = .pointer (some ⟨B10, 0, none⟩) ∧ w4.heap.size ≤ B10 ∧ Blk w' B10 31 (FrC (m)) ∧ Below w4.heap.size w4 w' from ⟨q7, rfl, lal, (jst (hall 13 (by decide))).2, hB⟩)
            simp only [putP, v2, v8, v9, v10, v11, v14, val]
            clear hB j2 j8 j9 j10 j11 j14 jal jz jst v2 v8 v9 v10 v11 v14 val lal hS hall ok
            go_frame
            refine hd_end (by kernel_rfl) rfl ?_
            go_wp2_with fail
            go_meet
            exact R.out
      case rest =>
        obtain ⟨B8, rfl, lB8, b8, hB⟩ := hcut
        obtain ⟨w5, hw5⟩ : ∃ w5 : World, w5 = wc := ⟨_, rfl⟩
        rw [← hw5] at b8 hB ⊢
        clear hw5
        have S5 := Lib.hid (S4.out.below hB S4.out.lt)
        have C5 := Lib.hid (C4.out.tr hB)
        have N8 := Lib.hid (show S ≠ B8 by have := S4.out.lt; omega)
        have s0 := S5.out.cell (i := 0) rfl; have s1 := S5.out.cell (i := 1) rfl
        have q0 := b8.cell (i := 0) rfl; have q1 := b8.cell (i := 1) rfl
        clear hB b8 x0 x1 y0 y1 S4 C4 lB8
        go_wp2_with fail
        refine (ADD.out _).mono ?_
        rintro e w6 ⟨rfl, hb⟩
        rw [← HN.out]
        have S6 := Lib.hid (S5.out.below hb S5.out.lt)
        have C6 := Lib.hid (C5.out.tr hb)
        have FIN := Lib.hid (show ∀ z : Rat, Blk ((w6.setCell ⟨S, 0, none⟩ (.int .i64 z.num)).setCell ⟨S, 1, none⟩ (.int .i64 (z.den : Int))) S 31 (FrC z) ∧ Chg (fun x => x = S) w2 ((w6.setCell ⟨S, 0, none⟩ (.int .i64 z.num)).setCell ⟨S, 1, none⟩ (.int .i64 (z.den : Int))) from fun z => ⟨((S6.out.set 0 _).set 1 _).at rfl, (C6.out.setCell (p := ⟨S, 0, none⟩) (fun _ => rfl) _).setCell (p := ⟨S, 1, none⟩) (fun _ => rfl) _⟩)
        clear s0 s1 q0 q1 hb
        have s0 := S6.out.cell (i := 0) rfl; have s1 := S6.out.cell (i := 1) rfl; have sf := S6.out.free
        have FIN2 := Lib.hid (FIN.out (dotAt tm (l.map toR) (k + 1)))
        clear FIN
        obtain ⟨z, hz⟩ : ∃ z, z = dotAt tm (l.map toR) (k + 1) := ⟨_, rfl⟩
        rw [← hz] at FIN2 ⊢
        have HZ := Lib.hid hz
        clear hz
        go_wp2
        go_roundw
        case rel => exact ⟨k + 1, by omega, by go_num, by rw [← HZ.out]; exact FIN2.out.1, FIN2.out.2⟩
        case measure => simp [intOf]; omega
    · obtain rfl : k = tn := by omega
      have HDD := Lib.hid (show d = dotAt tm (l.map toR) tm.length by rw [HD.out, HTL.out])
      have s0 := SB.out.cell (i := 0) rfl; have s1 := SB.out.cell (i := 1) rfl
      have YR := Lib.hid (Y2.out.chg SC.out (fun e => by have := LS.out; omega))
      have y0 := YR.out.cell (i := 0) rfl; have y1 := YR.out.cell (i := 1) rfl; have yf := YR.out.free
      have BF := Lib.hid (show Below w.heap.size w ((wo.setCell ⟨w.heap.size, 0, none⟩ (.int .i64 d.num)).setCell ⟨w.heap.size, 1, none⟩ (.int .i64 (d.den : Int))) from (BR.out.setCell (Nat.le_refl _) _).setCell (Nat.le_refl _) _)
      have YF := Lib.hid ((YR.out.set 0 (.int .i64 d.num)).set 1 (.int .i64 (d.den : Int)))
      go_wp2
      have r0 := YF.out.cell (i := 0) rfl; have r1 := YF.out.cell (i := 1) rfl
      refine bodyPost_ret (v := FrV d) (by simp [results, Try.results17, go_sem, r0, r1]) rfl ⟨by rw [← HDD.out], BF.out⟩
set_option maxRecDepth 100000 in
set_option maxHeartbeats 8000000 in
theorem robeysq_any (K : Nat → Prop) (cols : Int) (rows : List (List (Int × Int) × Int)) (goal : List (Int × Int)) (c0 : Int) (hs : SmallP cols rows goal c0) (l : List (Int × Int)) (q : Nat) (hsm : FrQ q l) (ra : Option Addr) (rn rc : Nat) (ga : Option Addr) (gn gc : Nat) (a : Option Addr) (n c : Nat) (w : World) (R : Row RRw 2 K w ra rn rc rows) (X : Row RTm 2 K w a n c l) :
    Calls Try.prog 14 #[MdV cols (.slice ra rn rc) ga gn gc c0, .slice a n c] w (YesNo ((n : Int) = cols ∧ GoodP l ∧ ObeyP rows (l.map toR)) w) := by
  obtain ⟨wa, hwa⟩ : ∃ wa, wa = w.alloc (.cells (MdC cols (.slice ra rn rc) ga gn gc c0).toArray 28) := ⟨_, rfl⟩
  have BA := Lib.hid (show Below w.heap.size w wa by rw [hwa]; exact (Below.refl _ _).alloc (Nat.le_refl _) _)
  have MA := Lib.hid (show Blk wa w.heap.size 28 (MdC cols (.slice ra rn rc) ga gn gc c0) by rw [hwa]; exact Blk.new w _ _)
  have XA := X.keeps RTm.stays (fun y _ hl => BA.out.block y hl) BA.out.size
  have NAT := Lib.hid (natural_any K l hsm.in63 a n c cols wa XA)
  have HS := Lib.hid hs; have HSM := Lib.hid hsm; have HR := Lib.hid R; have HX := Lib.hid X; have HRL := Lib.hid R.hlen; have hrn6 := R.hsz
  have HWA := Lib.hid hwa
  have m0 := MA.out.cell (i := 0) rfl; have m1 := MA.out.cell (i := 1) rfl
  clear hwa R X XA hs hsm
  go_enter Try.func14, Try.ntmps14
  go_upto_region 1 with fail
  rw [← HWA.out]
  go_wp2_with fail
  refine NAT.out.mono ?_
  rintro e w1 ⟨r, rfl, hr, hb⟩
  have HRR := Lib.hid hr
  have B1 := Lib.hid (BA.out.trans (hb.mono BA.out.size))
  have M1 := Lib.hid (MA.out.below hb MA.out.lt)
  clear hr hb m0 m1
  cases r with
  | false =>
    have NO := Lib.hid (show ¬ ((n : Int) = cols ∧ GoodP l ∧ ObeyP rows (l.map toR)) from fun h => by have := HRR.out.2 ⟨h.1, h.2.1⟩; cases this)
    go_wp2
    go_ret
    exact no_ret NO.out B1.out rfl
  | true =>
    have HG := Lib.hid (HRR.out.1 rfl)
    have HF := Lib.hid (show FrQ q l from HSM.out)
    have m1 := M1.out.cell (i := 1) rfl
    go_wp2
    clear m1
    go_loopw [15] (fun i wr => ∃ k : Nat, k ≤ rn ∧ i = .int .i64 k ∧ (∀ r, r ∈ rows.take k → dotAt r.1 (l.map toR) r.1.length ≤ (r.2 : Rat)) ∧ Below w.heap.size w wr) (fun i _ => rn - (intOf i).toNat)
    case atStart => exact ⟨0, Nat.zero_le _, rfl, by simp, B1.out⟩
    case round =>
      obtain ⟨k, hk, rfl, hT, hb⟩ := hrel
      have HT := Lib.hid hT; have HB := Lib.hid hb
      clear hT hb
      by_cases hlt : k < rn
      · obtain ⟨⟨tm, x⟩, hx⟩ : ∃ t, rows[k]? = some t := ⟨_, List.getElem?_eq_getElem (by have := HRL.out; omega)⟩
        obtain ⟨b, o, rfl, kb, lb, ⟨ta, tn, tc, t0, htm⟩, t1⟩ := (HR.out.keeps RRw.stays (fun y _ hl => HB.out.block y hl) HB.out.size).row k (tm, x) hx
        dsimp only at t0 t1
        have HX0 := Lib.hid hx
        obtain ⟨tok, mx0, mx1⟩ := small_rows HS.out (tm, x) (List.mem_of_getElem? hx)
        dsimp only at tok mx0 mx1
        have hcl : cols = (l.length : Int) := by have := HG.out.1; have := HX.out.hlen; omega
        have tl := terms_len tok HS.out.1
        have hc6 := HS.out.2.1
        have hk1 : (k : Int) < (rn : Int) := by omega
        obtain ⟨wx, hwx⟩ : ∃ wx, wx = wr.alloc (.cells #[.slice ta tn tc, .int .i64 x] 50) := ⟨_, rfl⟩
        have BX := Lib.hid (show Below wr.heap.size wr wx by rw [hwx]; exact (Below.refl _ _).alloc (Nat.le_refl _) _)
        have YX := Lib.hid (show Blk wx wr.heap.size 50 [.slice ta tn tc, .int .i64 x] by rw [hwx]; exact Blk.new wr _ _)
        have BWX := Lib.hid (HB.out.trans (BX.out.mono HB.out.size))
        obtain ⟨D, hD⟩ : ∃ D, D = dotAt tm (l.map toR) tm.length := ⟨_, rfl⟩
        have TX := htm.keeps RTm.stays (fun y _ hl => BX.out.block y hl) BX.out.size
        have XX := HX.out.keeps RTm.stays (fun y _ hl => BWX.out.block y hl) BWX.out.size
        have smD : Sq q (19800000000 * tm.length) D := by rw [hD]; exact dotAt_sq HF.out (fun t ht => by obtain ⟨i, hi⟩ := List.getElem?_of_mem ht; exact (tok i t (List.getElem?_eq_some_iff.1 hi).1 hi).2.2.2.2) _ (Nat.le_refl _)
        have fD : Fit D := smD.fit (by omega)
        have DOT := Lib.hid (show ∀ s : BelowW wx, Calls Try.prog 17 #[.slice ta tn tc, .slice a n c] s.world fun e w' => e = .returned (FrV D) ∧ Below s.world.heap.size s.world w' from fun s => by
          have h := dotq_any K tm l cols q HF.out tok hcl (by omega) ta tn tc a n c s.world (TX.keeps RTm.stays (fun y _ hl => s.ok.block y hl) s.ok.size) (XX.keeps RTm.stays (fun y _ hl => s.ok.block y hl) s.ok.size)
          rw [← hD] at h
          exact h)
        obtain ⟨z, hz⟩ : ∃ z : Rat, z = (x : Rat) := ⟨_, rfl⟩
        have fz : Fit z := by rw [hz]; exact fit_int (by omega) (by omega)
        have WH := Lib.hid (show ∀ w : World, Calls Try.prog 39 #[.int .i64 x] w fun e w' => e = .returned (FrV z) ∧ Below w.heap.size w w' from fun w => by rw [hz]; exact rwhole_any x w)
        have CM := Lib.hid (rcmp D z fD fz)
        have HDX := Lib.hid (show (0 < cmpR D z) ↔ ¬ dotAt tm (l.map toR) tm.length ≤ (x : Rat) by rw [cmpR_gt, hD, hz])
        generalize cmpR D z = cv at CM HDX
        have HWX := Lib.hid hwx
        clear hx hwx TX XX smD hD hz tok htm hcl tl hc6 mx0 mx1 lb kb fD fz
        go_upto_region 6 with fail
        rw [← HWX.out]
        clear t0 t1
        have yl := YX.out.lt
        have i0 := fun s : BelowW wx => (s.ok.cell (p := ⟨wr.heap.size, 0, none⟩) yl).trans (YX.out.cell (i := 0) rfl)
        have i1 := fun s : BelowW wx => (s.ok.cell (p := ⟨wr.heap.size, 1, none⟩) yl).trans (YX.out.cell (i := 1) rfl)
        by_cases hcv : 0 < cv
        · have NO := Lib.hid (show ¬ ((n : Int) = cols ∧ GoodP l ∧ ObeyP rows (l.map toR)) from fun h => (HDX.out.1 hcv) (h.2.2 _ (List.mem_of_getElem? HX0.out)))
          have hcd : decide (cv > 0) = true := decide_eq_true hcv
          go_wp2
          refine wp_region_below (by kernel_rfl) (by kernel_rfl) ?_
          repeat (go_big_quiet_step (first | (go_at_call 17; (with_reducible exact calls_below _ (DOT.out _))) | (go_at_call 39; (with_reducible exact calls_below _ (WH.out _))) | (go_at_call 21; (with_reducible exact calls_below _ (CM.out _)))))
          refine wpQuiet_nil ?_
          rintro w' ⟨s, rfl⟩
          obtain ⟨w7, ok7⟩ := s
          clear i0 i1
          go_wp2
          go_ret
          exact no_ret NO.out (BWX.out.trans (ok7.mono BWX.out.size)) rfl
        · have HT2 := Lib.hid (show ∀ r, r ∈ rows.take (k + 1) → dotAt r.1 (l.map toR) r.1.length ≤ (r.2 : Rat) from fun z hz => by
            rw [List.take_add_one, HX0.out, List.mem_append] at hz
            rcases hz with h | h
            · exact HT.out z h
            · have e : z = (tm, x) := by simpa using h
              subst e
              exact Classical.byContradiction fun h => hcv (HDX.out.2 h))
          have hcd : decide (cv > 0) = false := decide_eq_false hcv
          go_wp2
          refine wp_region_below (by kernel_rfl) (by kernel_rfl) ?_
          repeat (go_big_quiet_step (first | (go_at_call 17; (with_reducible exact calls_below _ (DOT.out _))) | (go_at_call 39; (with_reducible exact calls_below _ (WH.out _))) | (go_at_call 21; (with_reducible exact calls_below _ (CM.out _)))))
          refine wpQuiet_nil ?_
          rintro w' ⟨s, rfl⟩
          obtain ⟨w7, ok7⟩ := s
          clear i0 i1
          go_wp2
          go_roundw
          case rel => exact ⟨k + 1, by omega, by go_num, HT2.out, BWX.out.trans (ok7.mono BWX.out.size)⟩
          case measure => simp [intOf]; omega
      · obtain rfl : k = rn := by omega
        have YES := Lib.hid (show ((n : Int) = cols ∧ GoodP l ∧ ObeyP rows (l.map toR)) from ⟨HG.out.1, HG.out.2, fun x hx => HT.out x (by rw [List.take_of_length_le (by rw [HRL.out]; exact Nat.le_refl _)]; exact hx)⟩)
        go_wp2
        go_ret
        exact yes_ret YES.out HB.out rfl
end Go.Proofs.Ytdegpgonphgbcaa
