/-
  The document's Sub and Cmp.
-/
import Derived.Test.YtaokenpdaiabgaaDk
namespace Go.Proofs.Ytaokenpdaiabgaa
open Go.RowKit


theorem cmp_law (xn yn : Int) (xd yd : Nat) (hs : decide (xn < 0) = decide (yn < 0)) : cmpI (xn * (yd : Int)) (yn * (xd : Int)) = if xn < 0 then cmpI ((yn.natAbs * xd : Nat) : Int) ((xn.natAbs * yd : Nat) : Int) else cmpI ((xn.natAbs * yd : Nat) : Int) ((yn.natAbs * xd : Nat) : Int) := by
  have e1 := sv_scale xn.natAbs yd (decide (xn < 0))
  have e2 := sv_scale yn.natAbs xd (decide (yn < 0))
  rw [sv_abs] at e1 e2
  rw [← e1, ← e2, ← hs]
  generalize xn.natAbs * yd = A
  generalize yn.natAbs * xd = B
  unfold sv cmpI
  by_cases h : xn < 0 <;> simp [h] <;> (repeat' split) <;> omega
theorem wd_eq {A B : Nat} (h1 : wh A = wh B) (h2 : wl A = wl B) : A = B := by unfold wh wl at *; omega
theorem cmpI_lt {A B : Nat} (h : A < B) : cmpI (A : Int) (B : Int) = -1 := by unfold cmpI; rw [if_pos (by omega)]
theorem cmpI_eq {A B : Nat} (h : A = B) : cmpI (A : Int) (B : Int) = 0 := by subst h; unfold cmpI; rw [if_neg (by omega), if_pos rfl]
theorem cmpI_gt {A B : Nat} (h : ¬ A < B) (h' : A ≠ B) : cmpI (A : Int) (B : Int) = 1 := by unfold cmpI; rw [if_neg (by omega), if_neg (by omega)]
set_option maxHeartbeats 16000000 in
theorem rcmp_same (xn yn : Int) (xd yd : Nat) (hx : -1152921504606846976 ≤ xn) (hx1 : xn ≤ 1152921504606846976) (hy : -1152921504606846976 ≤ yn) (hy1 : yn ≤ 1152921504606846976) (kx : 1 ≤ xd) (kx1 : xd ≤ 1152921504606846976) (ky : 1 ≤ yd) (ky1 : yd ≤ 1152921504606846976) (hs : decide (xn < 0) = decide (yn < 0)) (w : World) :
    Calls Try.prog 28 #[.agg #[.int .i64 xn, .int .i64 (xd : Int)], .agg #[.int .i64 yn, .int .i64 (yd : Int)]] w fun e w' => e = .returned (.int .i64 (cmpI (xn * (yd : Int)) (yn * (xd : Int)))) ∧ Below w.heap.size w w' := by
  have m1 := Lib.hid (fun w => mul_any xn.natAbs yd (by omega) (by omega) w); have m2 := Lib.hid (fun w => mul_any yn.natAbs xd (by omega) (by omega) w)
  have b1 := big_mul (A := xn.natAbs) (B := yd) (by omega) ky1
  have b2 := big_mul (A := yn.natAbs) (B := xd) (by omega) kx1
  have LS := Lib.hid (fun w => less_any (xn.natAbs * yd) (yn.natAbs * xd) (by omega) (by omega) w)
  have LT := Lib.hid (fun w => less_any (yn.natAbs * xd) (xn.natAbs * yd) (by omega) (by omega) w)
  clear b1 b2
  have hsb : (decide (xn < 0) == decide (yn < 0)) = true := by simp [hs]
  have CL := Lib.hid (cmp_law xn yn xd yd hs)
  have HS := Lib.hid hs
  clear hs
  have q1 : IntKind.u64.wrap (xd : Int) = (xd : Int) := IntWalk.u64_in _ (by omega)
  have q2 : IntKind.u64.wrap (yd : Int) = (yd : Int) := IntWalk.u64_in _ (by omega)
  have F0 := Lib.hid (Fr.new (Fr.new (Fr.refl w) rfl [.int .i64 xn, .int .i64 (xd : Int)] 24) (by simp) [.int .i64 yn, .int .i64 (yd : Int)] 24)
  go_enter Try.func28, Try.ntmps28
  go_upto_region 5 with fail
  obtain ⟨w0, hw0⟩ : ∃ w0, w0 = (w.alloc (.cells #[.int .i64 xn, .int .i64 (xd : Int)] 24)).alloc (.cells #[.int .i64 yn, .int .i64 (yd : Int)] 24) := ⟨_, rfl⟩
  have F1 := Lib.hid (show Fr w w0 [[.int .i64 xn, .int .i64 (xd : Int)], [.int .i64 yn, .int .i64 (yd : Int)]] from by rw [hw0]; exact F0.out)
  rw [← hw0]
  clear hw0 F0
  have c0 := F1.out.h0.cell 0 _ rfl; have c1 := F1.out.h0.cell 1 _ rfl; have d0 := F1.out.h1.cell 0 _ rfl; have d1 := F1.out.h1.cell 1 _ rfl
  have FF := Lib.hid F1.out.drew
  have g0 := FF.out.h0.cell 0 _ rfl; have g1 := FF.out.h0.cell 1 _ rfl; have g2 := FF.out.h1.cell 0 _ rfl; have g3 := FF.out.h1.cell 1 _ rfl
  have hw0 : w.heap.size + 2 ≤ w0.heap.size := by have := F1.out.size; simpa using this
  go_cut [5, 6] (fun s6 s7 wx => TwoW w [[.int .i64 xn, .int .i64 (xd : Int)], [.int .i64 yn, .int .i64 (yd : Int)]] (xn.natAbs * yd) (yn.natAbs * xd) s6 s7 wx)
  case first => as_aux_lemma =>
    have k0 : w.heap.size < w0.heap.size := by omega
    have k1 : w.heap.size + 1 < w0.heap.size := by omega
    go_region_held3 (fun w' => w'.cell? ⟨w.heap.size, 0, none⟩ = some (.int .i64 xn) ∧ w'.cell? ⟨w.heap.size, 1, none⟩ = some (.int .i64 (xd : Int)) ∧ w'.cell? ⟨w.heap.size + 1, 0, none⟩ = some (.int .i64 yn) ∧ w'.cell? ⟨w.heap.size + 1, 1, none⟩ = some (.int .i64 (yd : Int))) (((try dsimp only); (try go_split_ands); (repeat' apply And.intro); all_goals (repeat (first | (with_reducible assumption) | (with_reducible refine cell_alloc (by first | assumption | omega | (simp; omega)) ?_) | (with_reducible refine cell_set (by omega) ?_) | (with_reducible refine cell_drew ?_)))))
     (first
      | (go_at_call 36; refine (size_any _ (by omega) (by omega) _).mono ?_; rintro e w' ⟨rfl, rfl⟩)
      | (go_at_call 47; with_reducible refine (m1.out _).mono ?_; rintro e w8 ⟨rfl, hb8⟩; have FA := Lib.hid (show Fr w w8 [[.int .i64 xn, .int .i64 (xd : Int)], [.int .i64 yn, .int .i64 (yd : Int)]] from Fr.call hb8 (by repeat (first | (with_reducible exact F1.out) | (with_reducible refine Fr.drew ?_) | (with_reducible refine Fr.k_alloc ?_)))); have s8 := hb8.size; simp only [World.size_alloc, World.size_drew] at s8; have g0 := FA.out.h0.cell 0 _ rfl; have g1 := FA.out.h0.cell 1 _ rfl; have g2 := FA.out.h1.cell 0 _ rfl; have g3 := FA.out.h1.cell 1 _ rfl; have l0 := FA.out.h0.lt (by simp); have l1 := FA.out.h1.lt (by simp); (try ((with_reducible (have p1 := ((Has.new w0.drew [.int .u64 0, .int .u64 0] 48).below hb8 (by first | (simp; done) | (simp; omega))).at' (show _ = w0.heap.size from by simp))); have p1a := p1.cell 0 _ rfl; have p1b := p1.cell 1 _ rfl; have p1f := p1.free; have p1l := p1.lt (by simp))); (try ((with_reducible (have p1 := (((Has.new w0 [.int .u64 0, .int .u64 0] 48).drew).below hb8 (by first | (simp; done) | (simp; omega))).at' (show _ = w0.heap.size from by simp))); have p1a := p1.cell 0 _ rfl; have p1b := p1.cell 1 _ rfl; have p1f := p1.free; have p1l := p1.lt (by simp))); (try ((with_reducible (have p1 := ((((Has.new w0 [.int .u64 0, .int .u64 0] 48).old (o := zz) (by simp)).drew).below hb8 (by first | (simp; done) | (simp; omega))).at' (show _ = w0.heap.size from by simp))); have p1a := p1.cell 0 _ rfl; have p1b := p1.cell 1 _ rfl; have p1f := p1.free; have p1l := p1.lt (by simp))); (try ((with_reducible (have p1 := (((Has.new w0 [.int .u64 0, .int .u64 0] 48).drew.old (o := zz) (by simp)).below hb8 (by first | (simp; done) | (simp; omega))).at' (show _ = w0.heap.size from by simp))); have p1a := p1.cell 0 _ rfl; have p1b := p1.cell 1 _ rfl; have p1f := p1.free; have p1l := p1.lt (by simp))); (try ((with_reducible (have p1 := (((Has.new w0.drew [.int .u64 0, .int .u64 0] 48).old (o := zz) (by simp)).below hb8 (by first | (simp; done) | (simp; omega))).at' (show _ = w0.heap.size from by simp))); have p1a := p1.cell 0 _ rfl; have p1b := p1.cell 1 _ rfl; have p1f := p1.free; have p1l := p1.lt (by simp))); (try ((with_reducible (have p2 := (((Has.new (w0.alloc zz) [.int .u64 0, .int .u64 0] 48).drew).below hb8 (by first | (simp; done) | (simp; omega))).at' (show _ = w0.heap.size + 1 from by simp))); have p2a := p2.cell 0 _ rfl; have p2b := p2.cell 1 _ rfl; have p2f := p2.free; have p2l := p2.lt (by simp))); (try ((with_reducible (have p2 := ((Has.new (w0.alloc zz).drew [.int .u64 0, .int .u64 0] 48).below hb8 (by first | (simp; done) | (simp; omega))).at' (show _ = w0.heap.size + 1 from by simp))); have p2a := p2.cell 0 _ rfl; have p2b := p2.cell 1 _ rfl; have p2f := p2.free; have p2l := p2.lt (by simp))); (try ((with_reducible (have p2 := ((Has.new (w0.drew.alloc zz) [.int .u64 0, .int .u64 0] 48).below hb8 (by first | (simp; done) | (simp; omega))).at' (show _ = w0.heap.size + 1 from by simp))); have p2a := p2.cell 0 _ rfl; have p2b := p2.cell 1 _ rfl; have p2f := p2.free; have p2l := p2.lt (by simp))))
      | (go_at_call 47; with_reducible refine (m2.out _).mono ?_; rintro e w9 ⟨rfl, hb9⟩; have FB := Lib.hid (show Fr w w9 [[.int .i64 xn, .int .i64 (xd : Int)], [.int .i64 yn, .int .i64 (yd : Int)]] from Fr.call hb9 (by repeat (first | (with_reducible exact FA.out) | (with_reducible refine Fr.drew ?_) | (with_reducible refine Fr.k_alloc ?_)))); have h0 := FB.out.h0.cell 0 _ rfl; have h1 := FB.out.h0.cell 1 _ rfl; have h2 := FB.out.h1.cell 0 _ rfl; have h3 := FB.out.h1.cell 1 _ rfl; have n0 := FB.out.h0.lt (by simp); have n1 := FB.out.h1.lt (by simp); have s9 := hb9.size; (try simp only [World.size_alloc, World.size_drew] at s9); (try ((with_reducible (have r1 := p1.below hb9 p1l)); have r1a := r1.cell 0 _ rfl; have r1b := r1.cell 1 _ rfl; have r1f := r1.free; have r1l := r1.lt (by simp))); (try ((with_reducible (have r1 := (p1.old (o := zz) p1l).below hb9 (by first | (simp; done) | (simp; omega)))); have r1a := r1.cell 0 _ rfl; have r1b := r1.cell 1 _ rfl; have r1f := r1.free; have r1l := r1.lt (by simp))); (try ((with_reducible (have r2 := p2.below hb9 p2l)); have r2a := r2.cell 0 _ rfl; have r2b := r2.cell 1 _ rfl; have r2f := r2.free; have r2l := r2.lt (by simp))); (try ((with_reducible (have r3 := ((Has.new w8 [.int .u64 0, .int .u64 0] 48).below hb9 (by first | (simp; done) | (simp; omega))))); have r3a := r3.cell 0 _ rfl; have r3b := r3.cell 1 _ rfl; have r3f := r3.free; have r3l := r3.lt (by simp))); (try ((with_reducible (have r3 := (((Has.new w8 [.int .u64 0, .int .u64 0] 48).old (o := zz) (by simp)).below hb9 (by first | (simp; done) | (simp; omega))))); have r3a := r3.cell 0 _ rfl; have r3b := r3.cell 1 _ rfl; have r3f := r3.free; have r3l := r3.lt (by simp))); (try ((with_reducible (have r4 := ((Has.new (w8.alloc zz) [.int .u64 0, .int .u64 0] 48).below hb9 (by first | (simp; done) | (simp; omega))).at' (show _ = w8.heap.size + 1 from by simp))); have r4a := r4.cell 0 _ rfl; have r4b := r4.cell 1 _ rfl; have r4f := r4.free; have r4l := r4.lt (by simp)))))
    all_goals
      go_wp2_with fail
      go_meet
      refine ⟨_, _, rfl, rfl, ?_, ?_, ?_, by first | omega | (simp; omega), by first | omega | (simp; omega), by first | omega | (simp; omega)⟩
      · repeat (first | (with_reducible refine Has.k_new2 (by first | (simp; done) | (with_reducible rfl))) | (with_reducible refine Has.k_set2 (u := .int .u64 0) (v := .int .u64 0) ?_) | (with_reducible refine Has.k_set (by omega) ?_) | (with_reducible exact r1) | (with_reducible exact r2) | (with_reducible exact r3) | (with_reducible exact r4) | (with_reducible refine Has.old ?_ (by first | omega | (simp; done) | (simp; omega))))
      · repeat (first | (with_reducible refine Has.k_new2 (by first | (simp; done) | (with_reducible rfl))) | (with_reducible refine Has.k_set2 (u := .int .u64 0) (v := .int .u64 0) ?_) | (with_reducible refine Has.k_set (by omega) ?_) | (with_reducible exact r1) | (with_reducible exact r2) | (with_reducible exact r3) | (with_reducible exact r4) | (with_reducible refine Has.old ?_ (by first | omega | (simp; done) | (simp; omega))))
      · repeat (first | (with_reducible exact FB.out) | (with_reducible refine Fr.k_alloc ?_) | (with_reducible refine Fr.k_set (by simp; omega) ?_))
  case rest =>
    obtain ⟨bx, by_, rfl, rfl, hX, hY, fr, hbx, hby, hne⟩ := hcut
    simp only [List.length_cons, List.length_nil, Nat.zero_add] at hbx hby
    clear c0 c1 d0 d1 g0 g1 g2 g3 FF F1 m1 m2
    have c0 := fr.h0.cell 0 _ rfl
    have x0 := hX.cell 0 _ rfl; have x1 := hX.cell 1 _ rfl; have y0 := hY.cell 0 _ rfl; have y1 := hY.cell 1 _ rfl
    have xf := hX.free; have yf := hY.free
    have hbel := Lib.hid fr.below
    have k0 : bx ≠ w.heap.size := by omega
    have k1 : by_ ≠ w.heap.size := by omega
    have hne' : by_ ≠ bx := Ne.symm hne
    generalize xn.natAbs * yd = A at *
    generalize yn.natAbs * xd = B at *
    have xl := hX.lt (by simp); have yl := hY.lt (by simp)
    by_cases hn : xn < 0
    · have CL' := CL.out
      rw [if_pos hn] at CL'
      have CL := Lib.hid CL'
      clear CL'
      have HX2 : Has ((((wc.setCell ⟨bx, 0, none⟩ (.int .u64 (wh B))).setCell ⟨bx, 1, none⟩ (.int .u64 (wl B))).setCell ⟨by_, 0, none⟩ (.int .u64 (wh A))).setCell ⟨by_, 1, none⟩ (.int .u64 (wl A))) bx [.int .u64 (wh B), .int .u64 (wl B)] := by refine Has.other (Has.other ((hX.set0 _).set1 _) ?_) ?_ <;> simpa using hne
      have HY2 : Has ((((wc.setCell ⟨bx, 0, none⟩ (.int .u64 (wh B))).setCell ⟨bx, 1, none⟩ (.int .u64 (wl B))).setCell ⟨by_, 0, none⟩ (.int .u64 (wh A))).setCell ⟨by_, 1, none⟩ (.int .u64 (wl A))) by_ [.int .u64 (wh A), .int .u64 (wl A)] := by refine Has.set1 (Has.set0 (Has.other (Has.other hY ?_) ?_) _) _ <;> simpa using hne'
      have X0 := Lib.hid (HX2.cell 0 _ rfl); have X1 := Lib.hid (HX2.cell 1 _ rfl); have Y0 := Lib.hid (HY2.cell 0 _ rfl); have Y1 := Lib.hid (HY2.cell 1 _ rfl)
      clear HX2 HY2
      have HB := Lib.hid (show ∀ w9, Below ((((wc.setCell ⟨bx, 0, none⟩ (.int .u64 (wh B))).setCell ⟨bx, 1, none⟩ (.int .u64 (wl B))).setCell ⟨by_, 0, none⟩ (.int .u64 (wh A))).setCell ⟨by_, 1, none⟩ (.int .u64 (wl A))).heap.size ((((wc.setCell ⟨bx, 0, none⟩ (.int .u64 (wh B))).setCell ⟨bx, 1, none⟩ (.int .u64 (wl B))).setCell ⟨by_, 0, none⟩ (.int .u64 (wh A))).setCell ⟨by_, 1, none⟩ (.int .u64 (wl A))) w9 → Below w.heap.size w w9 from fun w9 hb => ((((hbel.out.setCell (by simp; omega) _).setCell (by simp; omega) _).setCell (by simp; omega) _).setCell (by simp; omega) _).trans (hb.mono (by simpa using hbel.out.size)))
      by_cases hl : B < A
      · have hd : decide (B < A) = true := by simpa using hl
        rw [hd] at LT
        have HL := Lib.hid hl; clear hl hd
        go_wp2_with fail
        refine (LT.out _).mono ?_
        rintro e w9 ⟨rfl, hb9⟩
        go_wp2
        go_ret
        exact ⟨ret_int (by rw [CL.out, cmpI_lt HL.out]), HB.out _ hb9⟩
      · have hd : decide (B < A) = false := by simpa using hl
        rw [hd] at LT
        have HL := Lib.hid hl; clear hl hd
        go_wp2_with fail
        refine (LT.out _).mono ?_
        rintro e w9 ⟨rfl, hb9⟩
        have x0 := cell_later hb9 X0.out; have x1 := cell_later hb9 X1.out; have y0 := cell_later hb9 Y0.out; have y1 := cell_later hb9 Y1.out
        go_wp2
        all_goals go_ret
        all_goals refine ⟨ret_int ?_, HB.out _ hb9⟩
        · rw [CL.out, cmpI_eq (wd_eq (by assumption) (by assumption))]
        · rw [CL.out, cmpI_gt HL.out (fun h => (by assumption : ¬ wl B = wl A) (by rw [h]))]
        · rw [CL.out, cmpI_gt HL.out (fun h => (by assumption : ¬ wh B = wh A) (by rw [h]))]
    · have CL' := CL.out
      rw [if_neg hn] at CL'
      have CL := Lib.hid CL'
      clear CL'
      have X0 := Lib.hid x0; have X1 := Lib.hid x1; have Y0 := Lib.hid y0; have Y1 := Lib.hid y1
      have HB := Lib.hid (show ∀ w9, Below wc.heap.size wc w9 → Below w.heap.size w w9 from fun w9 hb => hbel.out.trans (hb.mono hbel.out.size))
      by_cases hl : A < B
      · have hd : decide (A < B) = true := by simpa using hl
        rw [hd] at LS
        have HL := Lib.hid hl; clear hl hd
        go_wp2_with fail
        refine (LS.out _).mono ?_
        rintro e w9 ⟨rfl, hb9⟩
        go_wp2
        go_ret
        exact ⟨ret_int (by rw [CL.out, cmpI_lt HL.out]), HB.out _ hb9⟩
      · have hd : decide (A < B) = false := by simpa using hl
        rw [hd] at LS
        have HL := Lib.hid hl; clear hl hd
        go_wp2_with fail
        refine (LS.out _).mono ?_
        rintro e w9 ⟨rfl, hb9⟩
        have x0 := cell_later hb9 X0.out; have x1 := cell_later hb9 X1.out; have y0 := cell_later hb9 Y0.out; have y1 := cell_later hb9 Y1.out
        go_wp2
        all_goals go_ret
        all_goals refine ⟨ret_int ?_, HB.out _ hb9⟩
        · rw [CL.out, cmpI_eq (wd_eq (by assumption) (by assumption))]
        · rw [CL.out, cmpI_gt HL.out (fun h => (by assumption : ¬ wl A = wl B) (by rw [h]))]
        · rw [CL.out, cmpI_gt HL.out (fun h => (by assumption : ¬ wh A = wh B) (by rw [h]))]
end Go.Proofs.Ytaokenpdaiabgaa
