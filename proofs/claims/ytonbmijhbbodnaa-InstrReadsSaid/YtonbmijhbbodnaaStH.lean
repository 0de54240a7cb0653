/-
  The law's image of an instruction. (printed by mkStH.py)
-/
import Derived.Test.YtonbmijhbbodnaaZInW
namespace Go.Proofs.Ytonbmijhbbodnaa
open Go.RowKit

set_option maxRecDepth 100000 in
set_option maxHeartbeats 16000000 in
theorem image_o (xk xa xb xc xo xi : Int) (w : World) (h4 : xk ≠ 4) (h5 : xk ≠ 5) (h6 : xk ≠ 6) (h7 : xk ≠ 7) (hch : chkI ⟨xk, xa, xb, xc, xo, xi⟩ = 0) :
    Calls Try.prog 26 #[IV ⟨xk, xa, xb, xc, xo, xi⟩] w (ImgRet ⟨xk, xa, xb, xc, xo, xi⟩ w) := by
  have HI := Lib.hid (show imI ⟨xk, xa, xb, xc, xo, xi⟩ = ⟨xk, xa, xb, xc, xo, xi⟩ by simp [imI, h4, h5, h6, h7])
  have HN := Lib.hid (show imN ⟨xk, xa, xb, xc, xo, xi⟩ = [1] by simp [imN, h7])
  have HA := Lib.hid (show imA ⟨xk, xa, xb, xc, xo, xi⟩ = [] by simp [imA, h4, h5])
  have HX := Lib.hid (small_in (imI_ok hch))
  clear hch
  have e4 : (xk == 4) = false := by simpa using h4
  have e5 : (xk == 5) = false := by simpa using h5
  have e6 : (xk == 6) = false := by simpa using h6
  have e7 : (xk == 7) = false := by simpa using h7
  clear h4 h5 h6 h7
  have F0 := Lib.hid (Fm.new (Fm.new (Fm.start Non w) rfl (ICells ⟨xk, xa, xb, xc, xo, xi⟩) 50) (by simp) [NIL, .int .i64 0, NIL, NIL] 31)
  go_enter Try.func26, Try.ntmps26
  go_upto_region 2 with fail
  obtain ⟨w1, hw1⟩ : ∃ w1, w1 = (((w.alloc (.cells #[.int .i64 xk, .int .i64 xa, .int .i64 xb, .int .i64 xc, .int .i64 xo, .int .i64 xi] 50)).alloc (.cells #[NIL, .int .i64 0, NIL, NIL] 31)).alloc (.cells #[.int .i64 1] 3)).alloc (.cells #[.int .i64 0, .int .i64 1, .slice (some ⟨w.heap.size + 1 + 1, 0, none⟩) 1 1, NIL] 70) := ⟨_, rfl⟩
  rw [← hw1]
  have F1 := Lib.hid (show Fm Non w w1 [ICells ⟨xk, xa, xb, xc, xo, xi⟩, [NIL, .int .i64 0, NIL, NIL], [.int .i64 1], [.int .i64 0, .int .i64 1, .slice (some ⟨w.heap.size + 1 + 1, 0, none⟩) 1 1, NIL]] by rw [hw1]; exact Fm.new (Fm.new F0.out (by simp) [.int .i64 1] 3) (by simp) [.int .i64 0, .int .i64 1, .slice (some ⟨w.heap.size + 1 + 1, 0, none⟩) 1 1, NIL] 70)
  have S1 : w1.heap.size = w.heap.size + 4 := by rw [hw1]; simp
  have SZ := Lib.hid S1
  clear hw1 S1 F0
  have y0 := F1.out.h0.cell 0 _ rfl; have y1 := F1.out.h0.cell 1 _ rfl; have y2 := F1.out.h0.cell 2 _ rfl; have y3 := F1.out.h0.cell 3 _ rfl; have y4 := F1.out.h0.cell 4 _ rfl; have y5 := F1.out.h0.cell 5 _ rfl; have yf := F1.out.h0.free
  have z0 := F1.out.h1.cell 0 _ rfl; have z1 := F1.out.h1.cell 1 _ rfl; have z2 := F1.out.h1.cell 2 _ rfl; have z3 := F1.out.h1.cell 3 _ rfl; have zf := F1.out.h1.free
  have n0 := F1.out.h3.cell 0 _ rfl; have n1 := F1.out.h3.cell 1 _ rfl; have n2 := F1.out.h3.cell 2 _ rfl; have n3 := F1.out.h3.cell 3 _ rfl; have nf := F1.out.h3.free
  have ZW := Lib.hid (show w.heap.size + 4 ≤ w1.heap.size by have := F1.out.size; simp at this; omega)
  have AT := Lib.hid SZ.out
  have l0 : w.heap.size < w1.heap.size := by have := ZW.out; omega
  have l1 : w.heap.size + 1 < w1.heap.size := by have := ZW.out; omega
  have l3 : w.heap.size + 1 + 1 + 1 < w1.heap.size := by have := ZW.out; omega
  go_wp2
  have zw := ZW.out
  have l1a : w.heap.size + 1 < w1.heap.size + 1 := by omega
  have l1b : w.heap.size + 1 < w1.heap.size + 1 + 1 := by omega
  refine bodyPost_ret (v := MV (some ⟨w1.heap.size, 0, none⟩) 2 2 4 (some ⟨w1.heap.size + 2, 0, none⟩) 1 1) (by simp [results, Try.results26, go_sem, z0, z1, z2, z3, l1, l1a, l1b]) rfl ⟨w1.heap.size, w1.heap.size + 2, rfl, ?_, ?_⟩
  · refine img_of (K := Ge w.heap.size) (bn := w1.heap.size + 1) (n1 := w.heap.size + 1 + 1) (na := NIL) HX.out (by simp <;> omega) (by unfold Ge; omega) ?_ ?_ ?_ ?_ ?_
    · rw [HI.out]
      exact (((Has.new _ (ICells ⟨xk, xa, xb, xc, xo, xi⟩ ++ ICells iEnd) 50).old (by simp <;> omega)).old (by simp <;> omega)).at' (by simp)
    · rw [HN.out]
      exact ((Has.new _ [.int .i64 0, .int .i64 1, .slice (some ⟨w.heap.size + 1 + 1, 0, none⟩) 1 1, NIL, .int .i64 1, .int .i64 1, NIL, NIL] 70).old (by simp <;> omega)).at' (by simp)
    · exact (Has.new _ (.string ⟨#[]⟩ :: .slice (some ⟨w1.heap.size + 1, 0, none⟩) 2 2 :: List.replicate 8 NIL) 79).at' (by simp)
    · rw [HN.out]
      refine ints_has ?_ (by have := AT.out; simp <;> omega) (by have := AT.out; unfold Ge; omega) rfl (by intro z hz; simp at hz; subst hz; unfold I64; omega) (by simp)
      refine Has.old (Has.old (Has.old (Has.other (Has.other (Has.other (Has.other ((F1.out.h2).at' (by have := AT.out; omega)) ?_) ?_) ?_) ?_) ?_) ?_) ?_
      all_goals (have := AT.out; simp <;> omega)
    · rw [HA.out]
      exact ⟨_, _, _, rfl, Row.nil _ _ _ _ _ (by omega)⟩
  · refine Below.alloc (Below.alloc (Below.alloc (Below.setCell (Below.setCell (Below.setCell (Below.setCell F1.out.below ?_ _) ?_ _) ?_ _) ?_ _) ?_ _) ?_ _) ?_ _
    all_goals (simp <;> omega)
set_option maxRecDepth 100000 in
set_option maxHeartbeats 16000000 in
theorem image_4 (xa xb xc xo xi : Int) (w : World) (hch : chkI ⟨4, xa, xb, xc, xo, xi⟩ = 0) :
    Calls Try.prog 26 #[IV ⟨4, xa, xb, xc, xo, xi⟩] w (ImgRet ⟨4, xa, xb, xc, xo, xi⟩ w) := by
  have HI := Lib.hid (show imI ⟨4, xa, xb, xc, xo, xi⟩ = ⟨4, xa, xb, xc, xo, (xi % 4)⟩ by simp [imI])
  have HN := Lib.hid (show imN ⟨4, xa, xb, xc, xo, xi⟩ = [1] by simp [imN])
  have HA := Lib.hid (show imA ⟨4, xa, xb, xc, xo, xi⟩ = [⟨0, 0, 3⟩] by simp [imA])
  have HX := Lib.hid (small_in (imI_ok hch))
  have im := imm_of hch
  simp [fldOf] at im
  have xi0 : 0 ≤ xi := im.1
  have xi1 : xi ≤ 1023 := im.2
  clear im
  clear hch
  have F0 := Lib.hid (Fm.new (Fm.new (Fm.start Non w) rfl (ICells ⟨4, xa, xb, xc, xo, xi⟩) 50) (by simp) [NIL, .int .i64 0, NIL, NIL] 31)
  go_enter Try.func26, Try.ntmps26
  go_upto_region 2 with fail
  obtain ⟨w1, hw1⟩ : ∃ w1, w1 = (((w.alloc (.cells #[.int .i64 4, .int .i64 xa, .int .i64 xb, .int .i64 xc, .int .i64 xo, .int .i64 xi] 50)).alloc (.cells #[NIL, .int .i64 0, NIL, NIL] 31)).alloc (.cells #[.int .i64 1] 3)).alloc (.cells #[.int .i64 0, .int .i64 1, .slice (some ⟨w.heap.size + 1 + 1, 0, none⟩) 1 1, NIL] 70) := ⟨_, rfl⟩
  rw [← hw1]
  have F1 := Lib.hid (show Fm Non w w1 [ICells ⟨4, xa, xb, xc, xo, xi⟩, [NIL, .int .i64 0, NIL, NIL], [.int .i64 1], [.int .i64 0, .int .i64 1, .slice (some ⟨w.heap.size + 1 + 1, 0, none⟩) 1 1, NIL]] by rw [hw1]; exact Fm.new (Fm.new F0.out (by simp) [.int .i64 1] 3) (by simp) [.int .i64 0, .int .i64 1, .slice (some ⟨w.heap.size + 1 + 1, 0, none⟩) 1 1, NIL] 70)
  have S1 : w1.heap.size = w.heap.size + 4 := by rw [hw1]; simp
  have SZ := Lib.hid S1
  clear hw1 S1 F0
  have y0 := F1.out.h0.cell 0 _ rfl; have y1 := F1.out.h0.cell 1 _ rfl; have y2 := F1.out.h0.cell 2 _ rfl; have y3 := F1.out.h0.cell 3 _ rfl; have y4 := F1.out.h0.cell 4 _ rfl; have y5 := F1.out.h0.cell 5 _ rfl; have yf := F1.out.h0.free
  have z0 := F1.out.h1.cell 0 _ rfl; have z1 := F1.out.h1.cell 1 _ rfl; have z2 := F1.out.h1.cell 2 _ rfl; have z3 := F1.out.h1.cell 3 _ rfl; have zf := F1.out.h1.free
  have n0 := F1.out.h3.cell 0 _ rfl; have n1 := F1.out.h3.cell 1 _ rfl; have n2 := F1.out.h3.cell 2 _ rfl; have n3 := F1.out.h3.cell 3 _ rfl; have nf := F1.out.h3.free
  have l0 : w.heap.size < w1.heap.size := by have := SZ.out; omega
  have l1 : w.heap.size + 1 < w1.heap.size := by have := SZ.out; omega
  have l3 : w.heap.size + 1 + 1 + 1 < w1.heap.size := by have := SZ.out; omega
  go_upto_region 12 with fail
  obtain ⟨w2, hw2⟩ : ∃ w2, w2 = (((w1.setCell ⟨w.heap.size, 5, none⟩ (.int .i64 (xi % 4))).setCell ⟨w.heap.size + 1 + 1 + 1, 3, none⟩ (.slice (some ⟨w1.heap.size, 0, none⟩) 1 1)).alloc (.cells #[.int .i64 0, .int .i64 0, .int .i64 3] 89)) := ⟨_, rfl⟩
  rw [← hw2]
  have F2 := Lib.hid (show Fm Non w w2 [ICells ⟨4, xa, xb, xc, xo, (xi % 4)⟩, [NIL, .int .i64 0, NIL, NIL], [.int .i64 1], [.int .i64 0, .int .i64 1, .slice (some ⟨w.heap.size + 1 + 1, 0, none⟩) 1 1, .slice (some ⟨w1.heap.size, 0, none⟩) 1 1], [.int .i64 0, .int .i64 0, .int .i64 3]] by rw [hw2]; exact Fm.new ((F1.out.set 0 5 _ rfl (by simp) (.int .i64 (xi % 4))).set 3 3 _ rfl (by simp) (.slice (some ⟨w1.heap.size, 0, none⟩) 1 1)) (by simp; exact SZ.out) [.int .i64 0, .int .i64 0, .int .i64 3] 89)
  have Z2 := Lib.hid (show w2.heap.size = w1.heap.size + 1 by rw [hw2]; simp)
  clear hw2 l0 l1 l3 y0 y1 y2 y3 y4 y5 yf z0 z1 z2 z3 zf n0 n1 n2 n3 nf
  have y0 := F2.out.h0.cell 0 _ rfl; have y1 := F2.out.h0.cell 1 _ rfl; have y2 := F2.out.h0.cell 2 _ rfl; have y3 := F2.out.h0.cell 3 _ rfl; have y4 := F2.out.h0.cell 4 _ rfl; have y5 := F2.out.h0.cell 5 _ rfl; have yf := F2.out.h0.free
  have z0 := F2.out.h1.cell 0 _ rfl; have z1 := F2.out.h1.cell 1 _ rfl; have z2 := F2.out.h1.cell 2 _ rfl; have z3 := F2.out.h1.cell 3 _ rfl; have zf := F2.out.h1.free
  have n0 := F2.out.h3.cell 0 _ rfl; have n1 := F2.out.h3.cell 1 _ rfl; have n2 := F2.out.h3.cell 2 _ rfl; have n3 := F2.out.h3.cell 3 _ rfl; have nf := F2.out.h3.free
  have ZW := Lib.hid (show w.heap.size + 4 ≤ w2.heap.size by have := F2.out.size; simp at this; omega)
  have AT := Lib.hid SZ.out
  have l0 : w.heap.size < w2.heap.size := by have := ZW.out; omega
  have l1 : w.heap.size + 1 < w2.heap.size := by have := ZW.out; omega
  have l3 : w.heap.size + 1 + 1 + 1 < w2.heap.size := by have := ZW.out; omega
  go_wp2
  have zw := ZW.out
  have l1a : w.heap.size + 1 < w2.heap.size + 1 := by omega
  have l1b : w.heap.size + 1 < w2.heap.size + 1 + 1 := by omega
  refine bodyPost_ret (v := MV (some ⟨w2.heap.size, 0, none⟩) 2 2 4 (some ⟨w2.heap.size + 2, 0, none⟩) 1 1) (by simp [results, Try.results26, go_sem, z0, z1, z2, z3, l1, l1a, l1b]) rfl ⟨w2.heap.size, w2.heap.size + 2, rfl, ?_, ?_⟩
  · refine img_of (K := Ge w.heap.size) (bn := w2.heap.size + 1) (n1 := w.heap.size + 1 + 1) (na := .slice (some ⟨w1.heap.size, 0, none⟩) 1 1) HX.out (by simp <;> omega) (by unfold Ge; omega) ?_ ?_ ?_ ?_ ?_
    · rw [HI.out]
      exact (((Has.new _ (ICells ⟨4, xa, xb, xc, xo, (xi % 4)⟩ ++ ICells iEnd) 50).old (by simp <;> omega)).old (by simp <;> omega)).at' (by simp)
    · rw [HN.out]
      exact ((Has.new _ [.int .i64 0, .int .i64 1, .slice (some ⟨w.heap.size + 1 + 1, 0, none⟩) 1 1, .slice (some ⟨w1.heap.size, 0, none⟩) 1 1, .int .i64 1, .int .i64 1, NIL, NIL] 70).old (by simp <;> omega)).at' (by simp)
    · exact (Has.new _ (.string ⟨#[]⟩ :: .slice (some ⟨w2.heap.size + 1, 0, none⟩) 2 2 :: List.replicate 8 NIL) 79).at' (by simp)
    · rw [HN.out]
      refine ints_has ?_ (by have := AT.out; have := Z2.out; simp <;> omega) (by have := AT.out; unfold Ge; omega) rfl (by intro z hz; simp at hz; subst hz; unfold I64; omega) (by simp)
      refine Has.old (Has.old (Has.old (Has.other (Has.other (Has.other (Has.other ((F2.out.h2).at' (by have := AT.out; omega)) ?_) ?_) ?_) ?_) ?_) ?_) ?_
      all_goals (have := AT.out; have := Z2.out; simp <;> omega)
    · rw [HA.out]
      refine ⟨_, _, _, rfl, acc_has ?_ (by have := AT.out; have := Z2.out; simp <;> omega) (by have := AT.out; unfold Ge; omega)⟩
      refine Has.old (Has.old (Has.old (Has.other (Has.other (Has.other (Has.other ((F2.out.h4).at' (by have := AT.out; omega)) ?_) ?_) ?_) ?_) ?_) ?_) ?_
      all_goals (have := AT.out; have := Z2.out; simp <;> omega)
  · refine Below.alloc (Below.alloc (Below.alloc (Below.setCell (Below.setCell (Below.setCell (Below.setCell F2.out.below ?_ _) ?_ _) ?_ _) ?_ _) ?_ _) ?_ _) ?_ _
    all_goals (simp <;> omega)
set_option maxRecDepth 100000 in
set_option maxHeartbeats 16000000 in
theorem image_5 (xa xb xc xo xi : Int) (w : World) (hch : chkI ⟨5, xa, xb, xc, xo, xi⟩ = 0) :
    Calls Try.prog 26 #[IV ⟨5, xa, xb, xc, xo, xi⟩] w (ImgRet ⟨5, xa, xb, xc, xo, xi⟩ w) := by
  have HI := Lib.hid (show imI ⟨5, xa, xb, xc, xo, xi⟩ = ⟨5, xa, xb, xc, xo, (xi % 4)⟩ by simp [imI])
  have HN := Lib.hid (show imN ⟨5, xa, xb, xc, xo, xi⟩ = [1] by simp [imN])
  have HA := Lib.hid (show imA ⟨5, xa, xb, xc, xo, xi⟩ = [⟨0, 0, 3⟩] by simp [imA])
  have HX := Lib.hid (small_in (imI_ok hch))
  have im := imm_of hch
  simp [fldOf] at im
  have xi0 : 0 ≤ xi := im.1
  have xi1 : xi ≤ 1023 := im.2
  clear im
  clear hch
  have F0 := Lib.hid (Fm.new (Fm.new (Fm.start Non w) rfl (ICells ⟨5, xa, xb, xc, xo, xi⟩) 50) (by simp) [NIL, .int .i64 0, NIL, NIL] 31)
  go_enter Try.func26, Try.ntmps26
  go_upto_region 2 with fail
  obtain ⟨w1, hw1⟩ : ∃ w1, w1 = (((w.alloc (.cells #[.int .i64 5, .int .i64 xa, .int .i64 xb, .int .i64 xc, .int .i64 xo, .int .i64 xi] 50)).alloc (.cells #[NIL, .int .i64 0, NIL, NIL] 31)).alloc (.cells #[.int .i64 1] 3)).alloc (.cells #[.int .i64 0, .int .i64 1, .slice (some ⟨w.heap.size + 1 + 1, 0, none⟩) 1 1, NIL] 70) := ⟨_, rfl⟩
  rw [← hw1]
  have F1 := Lib.hid (show Fm Non w w1 [ICells ⟨5, xa, xb, xc, xo, xi⟩, [NIL, .int .i64 0, NIL, NIL], [.int .i64 1], [.int .i64 0, .int .i64 1, .slice (some ⟨w.heap.size + 1 + 1, 0, none⟩) 1 1, NIL]] by rw [hw1]; exact Fm.new (Fm.new F0.out (by simp) [.int .i64 1] 3) (by simp) [.int .i64 0, .int .i64 1, .slice (some ⟨w.heap.size + 1 + 1, 0, none⟩) 1 1, NIL] 70)
  have S1 : w1.heap.size = w.heap.size + 4 := by rw [hw1]; simp
  have SZ := Lib.hid S1
  clear hw1 S1 F0
  have y0 := F1.out.h0.cell 0 _ rfl; have y1 := F1.out.h0.cell 1 _ rfl; have y2 := F1.out.h0.cell 2 _ rfl; have y3 := F1.out.h0.cell 3 _ rfl; have y4 := F1.out.h0.cell 4 _ rfl; have y5 := F1.out.h0.cell 5 _ rfl; have yf := F1.out.h0.free
  have z0 := F1.out.h1.cell 0 _ rfl; have z1 := F1.out.h1.cell 1 _ rfl; have z2 := F1.out.h1.cell 2 _ rfl; have z3 := F1.out.h1.cell 3 _ rfl; have zf := F1.out.h1.free
  have n0 := F1.out.h3.cell 0 _ rfl; have n1 := F1.out.h3.cell 1 _ rfl; have n2 := F1.out.h3.cell 2 _ rfl; have n3 := F1.out.h3.cell 3 _ rfl; have nf := F1.out.h3.free
  have l0 : w.heap.size < w1.heap.size := by have := SZ.out; omega
  have l1 : w.heap.size + 1 < w1.heap.size := by have := SZ.out; omega
  have l3 : w.heap.size + 1 + 1 + 1 < w1.heap.size := by have := SZ.out; omega
  go_upto_region 12 with fail
  obtain ⟨w2, hw2⟩ : ∃ w2, w2 = (((w1.setCell ⟨w.heap.size, 5, none⟩ (.int .i64 (xi % 4))).setCell ⟨w.heap.size + 1 + 1 + 1, 3, none⟩ (.slice (some ⟨w1.heap.size, 0, none⟩) 1 1)).alloc (.cells #[.int .i64 0, .int .i64 0, .int .i64 3] 89)) := ⟨_, rfl⟩
  rw [← hw2]
  have F2 := Lib.hid (show Fm Non w w2 [ICells ⟨5, xa, xb, xc, xo, (xi % 4)⟩, [NIL, .int .i64 0, NIL, NIL], [.int .i64 1], [.int .i64 0, .int .i64 1, .slice (some ⟨w.heap.size + 1 + 1, 0, none⟩) 1 1, .slice (some ⟨w1.heap.size, 0, none⟩) 1 1], [.int .i64 0, .int .i64 0, .int .i64 3]] by rw [hw2]; exact Fm.new ((F1.out.set 0 5 _ rfl (by simp) (.int .i64 (xi % 4))).set 3 3 _ rfl (by simp) (.slice (some ⟨w1.heap.size, 0, none⟩) 1 1)) (by simp; exact SZ.out) [.int .i64 0, .int .i64 0, .int .i64 3] 89)
  have Z2 := Lib.hid (show w2.heap.size = w1.heap.size + 1 by rw [hw2]; simp)
  clear hw2 l0 l1 l3 y0 y1 y2 y3 y4 y5 yf z0 z1 z2 z3 zf n0 n1 n2 n3 nf
  have y0 := F2.out.h0.cell 0 _ rfl; have y1 := F2.out.h0.cell 1 _ rfl; have y2 := F2.out.h0.cell 2 _ rfl; have y3 := F2.out.h0.cell 3 _ rfl; have y4 := F2.out.h0.cell 4 _ rfl; have y5 := F2.out.h0.cell 5 _ rfl; have yf := F2.out.h0.free
  have z0 := F2.out.h1.cell 0 _ rfl; have z1 := F2.out.h1.cell 1 _ rfl; have z2 := F2.out.h1.cell 2 _ rfl; have z3 := F2.out.h1.cell 3 _ rfl; have zf := F2.out.h1.free
  have n0 := F2.out.h3.cell 0 _ rfl; have n1 := F2.out.h3.cell 1 _ rfl; have n2 := F2.out.h3.cell 2 _ rfl; have n3 := F2.out.h3.cell 3 _ rfl; have nf := F2.out.h3.free
  have ZW := Lib.hid (show w.heap.size + 4 ≤ w2.heap.size by have := F2.out.size; simp at this; omega)
  have AT := Lib.hid SZ.out
  have l0 : w.heap.size < w2.heap.size := by have := ZW.out; omega
  have l1 : w.heap.size + 1 < w2.heap.size := by have := ZW.out; omega
  have l3 : w.heap.size + 1 + 1 + 1 < w2.heap.size := by have := ZW.out; omega
  go_wp2
  have zw := ZW.out
  have l1a : w.heap.size + 1 < w2.heap.size + 1 := by omega
  have l1b : w.heap.size + 1 < w2.heap.size + 1 + 1 := by omega
  refine bodyPost_ret (v := MV (some ⟨w2.heap.size, 0, none⟩) 2 2 4 (some ⟨w2.heap.size + 2, 0, none⟩) 1 1) (by simp [results, Try.results26, go_sem, z0, z1, z2, z3, l1, l1a, l1b]) rfl ⟨w2.heap.size, w2.heap.size + 2, rfl, ?_, ?_⟩
  · refine img_of (K := Ge w.heap.size) (bn := w2.heap.size + 1) (n1 := w.heap.size + 1 + 1) (na := .slice (some ⟨w1.heap.size, 0, none⟩) 1 1) HX.out (by simp <;> omega) (by unfold Ge; omega) ?_ ?_ ?_ ?_ ?_
    · rw [HI.out]
      exact (((Has.new _ (ICells ⟨5, xa, xb, xc, xo, (xi % 4)⟩ ++ ICells iEnd) 50).old (by simp <;> omega)).old (by simp <;> omega)).at' (by simp)
    · rw [HN.out]
      exact ((Has.new _ [.int .i64 0, .int .i64 1, .slice (some ⟨w.heap.size + 1 + 1, 0, none⟩) 1 1, .slice (some ⟨w1.heap.size, 0, none⟩) 1 1, .int .i64 1, .int .i64 1, NIL, NIL] 70).old (by simp <;> omega)).at' (by simp)
    · exact (Has.new _ (.string ⟨#[]⟩ :: .slice (some ⟨w2.heap.size + 1, 0, none⟩) 2 2 :: List.replicate 8 NIL) 79).at' (by simp)
    · rw [HN.out]
      refine ints_has ?_ (by have := AT.out; have := Z2.out; simp <;> omega) (by have := AT.out; unfold Ge; omega) rfl (by intro z hz; simp at hz; subst hz; unfold I64; omega) (by simp)
      refine Has.old (Has.old (Has.old (Has.other (Has.other (Has.other (Has.other ((F2.out.h2).at' (by have := AT.out; omega)) ?_) ?_) ?_) ?_) ?_) ?_) ?_
      all_goals (have := AT.out; have := Z2.out; simp <;> omega)
    · rw [HA.out]
      refine ⟨_, _, _, rfl, acc_has ?_ (by have := AT.out; have := Z2.out; simp <;> omega) (by have := AT.out; unfold Ge; omega)⟩
      refine Has.old (Has.old (Has.old (Has.other (Has.other (Has.other (Has.other ((F2.out.h4).at' (by have := AT.out; omega)) ?_) ?_) ?_) ?_) ?_) ?_) ?_
      all_goals (have := AT.out; have := Z2.out; simp <;> omega)
  · refine Below.alloc (Below.alloc (Below.alloc (Below.setCell (Below.setCell (Below.setCell (Below.setCell F2.out.below ?_ _) ?_ _) ?_ _) ?_ _) ?_ _) ?_ _) ?_ _
    all_goals (simp <;> omega)
set_option maxRecDepth 100000 in
set_option maxHeartbeats 16000000 in
theorem image_6 (xa xb xc xo xi : Int) (w : World) (hch : chkI ⟨6, xa, xb, xc, xo, xi⟩ = 0) :
    Calls Try.prog 26 #[IV ⟨6, xa, xb, xc, xo, xi⟩] w (ImgRet ⟨6, xa, xb, xc, xo, xi⟩ w) := by
  have HI := Lib.hid (show imI ⟨6, xa, xb, xc, xo, xi⟩ = ⟨6, xa, xb, xc, xo, 1⟩ by simp [imI])
  have HN := Lib.hid (show imN ⟨6, xa, xb, xc, xo, xi⟩ = [1] by simp [imN])
  have HA := Lib.hid (show imA ⟨6, xa, xb, xc, xo, xi⟩ = [] by simp [imA])
  have HX := Lib.hid (small_in (imI_ok hch))
  clear hch
  have F0 := Lib.hid (Fm.new (Fm.new (Fm.start Non w) rfl (ICells ⟨6, xa, xb, xc, xo, xi⟩) 50) (by simp) [NIL, .int .i64 0, NIL, NIL] 31)
  go_enter Try.func26, Try.ntmps26
  go_upto_region 2 with fail
  obtain ⟨w1, hw1⟩ : ∃ w1, w1 = (((w.alloc (.cells #[.int .i64 6, .int .i64 xa, .int .i64 xb, .int .i64 xc, .int .i64 xo, .int .i64 xi] 50)).alloc (.cells #[NIL, .int .i64 0, NIL, NIL] 31)).alloc (.cells #[.int .i64 1] 3)).alloc (.cells #[.int .i64 0, .int .i64 1, .slice (some ⟨w.heap.size + 1 + 1, 0, none⟩) 1 1, NIL] 70) := ⟨_, rfl⟩
  rw [← hw1]
  have F1 := Lib.hid (show Fm Non w w1 [ICells ⟨6, xa, xb, xc, xo, xi⟩, [NIL, .int .i64 0, NIL, NIL], [.int .i64 1], [.int .i64 0, .int .i64 1, .slice (some ⟨w.heap.size + 1 + 1, 0, none⟩) 1 1, NIL]] by rw [hw1]; exact Fm.new (Fm.new F0.out (by simp) [.int .i64 1] 3) (by simp) [.int .i64 0, .int .i64 1, .slice (some ⟨w.heap.size + 1 + 1, 0, none⟩) 1 1, NIL] 70)
  have S1 : w1.heap.size = w.heap.size + 4 := by rw [hw1]; simp
  have SZ := Lib.hid S1
  clear hw1 S1 F0
  have y0 := F1.out.h0.cell 0 _ rfl; have y1 := F1.out.h0.cell 1 _ rfl; have y2 := F1.out.h0.cell 2 _ rfl; have y3 := F1.out.h0.cell 3 _ rfl; have y4 := F1.out.h0.cell 4 _ rfl; have y5 := F1.out.h0.cell 5 _ rfl; have yf := F1.out.h0.free
  have z0 := F1.out.h1.cell 0 _ rfl; have z1 := F1.out.h1.cell 1 _ rfl; have z2 := F1.out.h1.cell 2 _ rfl; have z3 := F1.out.h1.cell 3 _ rfl; have zf := F1.out.h1.free
  have n0 := F1.out.h3.cell 0 _ rfl; have n1 := F1.out.h3.cell 1 _ rfl; have n2 := F1.out.h3.cell 2 _ rfl; have n3 := F1.out.h3.cell 3 _ rfl; have nf := F1.out.h3.free
  have l0 : w.heap.size < w1.heap.size := by have := SZ.out; omega
  have l1 : w.heap.size + 1 < w1.heap.size := by have := SZ.out; omega
  have l3 : w.heap.size + 1 + 1 + 1 < w1.heap.size := by have := SZ.out; omega
  go_upto_region 12 with fail
  obtain ⟨w2, hw2⟩ : ∃ w2, w2 = w1.setCell ⟨w.heap.size, 5, none⟩ (.int .i64 1) := ⟨_, rfl⟩
  rw [← hw2]
  have F2 := Lib.hid (show Fm Non w w2 [ICells ⟨6, xa, xb, xc, xo, 1⟩, [NIL, .int .i64 0, NIL, NIL], [.int .i64 1], [.int .i64 0, .int .i64 1, .slice (some ⟨w.heap.size + 1 + 1, 0, none⟩) 1 1, NIL]] by rw [hw2]; exact F1.out.set 0 5 _ rfl (by simp) (.int .i64 1))
  have Z2 := Lib.hid (show w2.heap.size = w1.heap.size by rw [hw2]; simp)
  clear hw2 l0 l1 l3 y0 y1 y2 y3 y4 y5 yf z0 z1 z2 z3 zf n0 n1 n2 n3 nf
  have y0 := F2.out.h0.cell 0 _ rfl; have y1 := F2.out.h0.cell 1 _ rfl; have y2 := F2.out.h0.cell 2 _ rfl; have y3 := F2.out.h0.cell 3 _ rfl; have y4 := F2.out.h0.cell 4 _ rfl; have y5 := F2.out.h0.cell 5 _ rfl; have yf := F2.out.h0.free
  have z0 := F2.out.h1.cell 0 _ rfl; have z1 := F2.out.h1.cell 1 _ rfl; have z2 := F2.out.h1.cell 2 _ rfl; have z3 := F2.out.h1.cell 3 _ rfl; have zf := F2.out.h1.free
  have n0 := F2.out.h3.cell 0 _ rfl; have n1 := F2.out.h3.cell 1 _ rfl; have n2 := F2.out.h3.cell 2 _ rfl; have n3 := F2.out.h3.cell 3 _ rfl; have nf := F2.out.h3.free
  have ZW := Lib.hid (show w.heap.size + 4 ≤ w2.heap.size by have := F2.out.size; simp at this; omega)
  have AT := Lib.hid SZ.out
  have l0 : w.heap.size < w2.heap.size := by have := ZW.out; omega
  have l1 : w.heap.size + 1 < w2.heap.size := by have := ZW.out; omega
  have l3 : w.heap.size + 1 + 1 + 1 < w2.heap.size := by have := ZW.out; omega
  go_wp2
  have zw := ZW.out
  have l1a : w.heap.size + 1 < w2.heap.size + 1 := by omega
  have l1b : w.heap.size + 1 < w2.heap.size + 1 + 1 := by omega
  refine bodyPost_ret (v := MV (some ⟨w2.heap.size, 0, none⟩) 2 2 4 (some ⟨w2.heap.size + 2, 0, none⟩) 1 1) (by simp [results, Try.results26, go_sem, z0, z1, z2, z3, l1, l1a, l1b]) rfl ⟨w2.heap.size, w2.heap.size + 2, rfl, ?_, ?_⟩
  · refine img_of (K := Ge w.heap.size) (bn := w2.heap.size + 1) (n1 := w.heap.size + 1 + 1) (na := NIL) HX.out (by simp <;> omega) (by unfold Ge; omega) ?_ ?_ ?_ ?_ ?_
    · rw [HI.out]
      exact (((Has.new _ (ICells ⟨6, xa, xb, xc, xo, 1⟩ ++ ICells iEnd) 50).old (by simp <;> omega)).old (by simp <;> omega)).at' (by simp)
    · rw [HN.out]
      exact ((Has.new _ [.int .i64 0, .int .i64 1, .slice (some ⟨w.heap.size + 1 + 1, 0, none⟩) 1 1, NIL, .int .i64 1, .int .i64 1, NIL, NIL] 70).old (by simp <;> omega)).at' (by simp)
    · exact (Has.new _ (.string ⟨#[]⟩ :: .slice (some ⟨w2.heap.size + 1, 0, none⟩) 2 2 :: List.replicate 8 NIL) 79).at' (by simp)
    · rw [HN.out]
      refine ints_has ?_ (by have := AT.out; have := Z2.out; simp <;> omega) (by have := AT.out; unfold Ge; omega) rfl (by intro z hz; simp at hz; subst hz; unfold I64; omega) (by simp)
      refine Has.old (Has.old (Has.old (Has.other (Has.other (Has.other (Has.other ((F2.out.h2).at' (by have := AT.out; omega)) ?_) ?_) ?_) ?_) ?_) ?_) ?_
      all_goals (have := AT.out; have := Z2.out; simp <;> omega)
    · rw [HA.out]
      exact ⟨_, _, _, rfl, Row.nil _ _ _ _ _ (by omega)⟩
  · refine Below.alloc (Below.alloc (Below.alloc (Below.setCell (Below.setCell (Below.setCell (Below.setCell F2.out.below ?_ _) ?_ _) ?_ _) ?_ _) ?_ _) ?_ _) ?_ _
    all_goals (simp <;> omega)
set_option maxRecDepth 100000 in
set_option maxHeartbeats 16000000 in
theorem image_7 (xa xb xc xo xi : Int) (w : World) (hch : chkI ⟨7, xa, xb, xc, xo, xi⟩ = 0) :
    Calls Try.prog 26 #[IV ⟨7, xa, xb, xc, xo, xi⟩] w (ImgRet ⟨7, xa, xb, xc, xo, xi⟩ w) := by
  have HI := Lib.hid (show imI ⟨7, xa, xb, xc, xo, xi⟩ = ⟨7, xa, xb, xc, xo, 1⟩ by simp [imI])
  have HN := Lib.hid (show imN ⟨7, xa, xb, xc, xo, xi⟩ = [1, 1] by simp [imN])
  have HA := Lib.hid (show imA ⟨7, xa, xb, xc, xo, xi⟩ = [] by simp [imA])
  have HX := Lib.hid (small_in (imI_ok hch))
  clear hch
  have F0 := Lib.hid (Fm.new (Fm.new (Fm.start Non w) rfl (ICells ⟨7, xa, xb, xc, xo, xi⟩) 50) (by simp) [NIL, .int .i64 0, NIL, NIL] 31)
  go_enter Try.func26, Try.ntmps26
  go_upto_region 2 with fail
  obtain ⟨w1, hw1⟩ : ∃ w1, w1 = (((w.alloc (.cells #[.int .i64 7, .int .i64 xa, .int .i64 xb, .int .i64 xc, .int .i64 xo, .int .i64 xi] 50)).alloc (.cells #[NIL, .int .i64 0, NIL, NIL] 31)).alloc (.cells #[.int .i64 1] 3)).alloc (.cells #[.int .i64 0, .int .i64 1, .slice (some ⟨w.heap.size + 1 + 1, 0, none⟩) 1 1, NIL] 70) := ⟨_, rfl⟩
  rw [← hw1]
  have F1 := Lib.hid (show Fm Non w w1 [ICells ⟨7, xa, xb, xc, xo, xi⟩, [NIL, .int .i64 0, NIL, NIL], [.int .i64 1], [.int .i64 0, .int .i64 1, .slice (some ⟨w.heap.size + 1 + 1, 0, none⟩) 1 1, NIL]] by rw [hw1]; exact Fm.new (Fm.new F0.out (by simp) [.int .i64 1] 3) (by simp) [.int .i64 0, .int .i64 1, .slice (some ⟨w.heap.size + 1 + 1, 0, none⟩) 1 1, NIL] 70)
  have S1 : w1.heap.size = w.heap.size + 4 := by rw [hw1]; simp
  have SZ := Lib.hid S1
  clear hw1 S1 F0
  have y0 := F1.out.h0.cell 0 _ rfl; have y1 := F1.out.h0.cell 1 _ rfl; have y2 := F1.out.h0.cell 2 _ rfl; have y3 := F1.out.h0.cell 3 _ rfl; have y4 := F1.out.h0.cell 4 _ rfl; have y5 := F1.out.h0.cell 5 _ rfl; have yf := F1.out.h0.free
  have z0 := F1.out.h1.cell 0 _ rfl; have z1 := F1.out.h1.cell 1 _ rfl; have z2 := F1.out.h1.cell 2 _ rfl; have z3 := F1.out.h1.cell 3 _ rfl; have zf := F1.out.h1.free
  have n0 := F1.out.h3.cell 0 _ rfl; have n1 := F1.out.h3.cell 1 _ rfl; have n2 := F1.out.h3.cell 2 _ rfl; have n3 := F1.out.h3.cell 3 _ rfl; have nf := F1.out.h3.free
  have l0 : w.heap.size < w1.heap.size := by have := SZ.out; omega
  have l1 : w.heap.size + 1 < w1.heap.size := by have := SZ.out; omega
  have l3 : w.heap.size + 1 + 1 + 1 < w1.heap.size := by have := SZ.out; omega
  go_upto_region 12 with fail
  obtain ⟨w2, hw2⟩ : ∃ w2, w2 = (((w1.setCell ⟨w.heap.size, 5, none⟩ (.int .i64 1)).setCell ⟨w.heap.size + 1 + 1 + 1, 2, none⟩ (.slice (some ⟨w1.heap.size, 0, none⟩) 2 2)).alloc (.cells #[.int .i64 1, .int .i64 1] 3)) := ⟨_, rfl⟩
  rw [← hw2]
  have F2 := Lib.hid (show Fm Non w w2 [ICells ⟨7, xa, xb, xc, xo, 1⟩, [NIL, .int .i64 0, NIL, NIL], [.int .i64 1], [.int .i64 0, .int .i64 1, .slice (some ⟨w1.heap.size, 0, none⟩) 2 2, NIL], [.int .i64 1, .int .i64 1]] by rw [hw2]; exact Fm.new ((F1.out.set 0 5 _ rfl (by simp) (.int .i64 1)).set 3 2 _ rfl (by simp) (.slice (some ⟨w1.heap.size, 0, none⟩) 2 2)) (by simp; exact SZ.out) [.int .i64 1, .int .i64 1] 3)
  have Z2 := Lib.hid (show w2.heap.size = w1.heap.size + 1 by rw [hw2]; simp)
  clear hw2 l0 l1 l3 y0 y1 y2 y3 y4 y5 yf z0 z1 z2 z3 zf n0 n1 n2 n3 nf
  have y0 := F2.out.h0.cell 0 _ rfl; have y1 := F2.out.h0.cell 1 _ rfl; have y2 := F2.out.h0.cell 2 _ rfl; have y3 := F2.out.h0.cell 3 _ rfl; have y4 := F2.out.h0.cell 4 _ rfl; have y5 := F2.out.h0.cell 5 _ rfl; have yf := F2.out.h0.free
  have z0 := F2.out.h1.cell 0 _ rfl; have z1 := F2.out.h1.cell 1 _ rfl; have z2 := F2.out.h1.cell 2 _ rfl; have z3 := F2.out.h1.cell 3 _ rfl; have zf := F2.out.h1.free
  have n0 := F2.out.h3.cell 0 _ rfl; have n1 := F2.out.h3.cell 1 _ rfl; have n2 := F2.out.h3.cell 2 _ rfl; have n3 := F2.out.h3.cell 3 _ rfl; have nf := F2.out.h3.free
  have ZW := Lib.hid (show w.heap.size + 4 ≤ w2.heap.size by have := F2.out.size; simp at this; omega)
  have AT := Lib.hid SZ.out
  have l0 : w.heap.size < w2.heap.size := by have := ZW.out; omega
  have l1 : w.heap.size + 1 < w2.heap.size := by have := ZW.out; omega
  have l3 : w.heap.size + 1 + 1 + 1 < w2.heap.size := by have := ZW.out; omega
  go_wp2
  have zw := ZW.out
  have l1a : w.heap.size + 1 < w2.heap.size + 1 := by omega
  have l1b : w.heap.size + 1 < w2.heap.size + 1 + 1 := by omega
  refine bodyPost_ret (v := MV (some ⟨w2.heap.size, 0, none⟩) 2 2 4 (some ⟨w2.heap.size + 2, 0, none⟩) 1 1) (by simp [results, Try.results26, go_sem, z0, z1, z2, z3, l1, l1a, l1b]) rfl ⟨w2.heap.size, w2.heap.size + 2, rfl, ?_, ?_⟩
  · refine img_of (K := Ge w.heap.size) (bn := w2.heap.size + 1) (n1 := w1.heap.size) (na := NIL) HX.out (by simp <;> omega) (by unfold Ge; omega) ?_ ?_ ?_ ?_ ?_
    · rw [HI.out]
      exact (((Has.new _ (ICells ⟨7, xa, xb, xc, xo, 1⟩ ++ ICells iEnd) 50).old (by simp <;> omega)).old (by simp <;> omega)).at' (by simp)
    · rw [HN.out]
      exact ((Has.new _ [.int .i64 0, .int .i64 1, .slice (some ⟨w1.heap.size, 0, none⟩) 2 2, NIL, .int .i64 1, .int .i64 1, NIL, NIL] 70).old (by simp <;> omega)).at' (by simp)
    · exact (Has.new _ (.string ⟨#[]⟩ :: .slice (some ⟨w2.heap.size + 1, 0, none⟩) 2 2 :: List.replicate 8 NIL) 79).at' (by simp)
    · rw [HN.out]
      refine ints_has ?_ (by have := AT.out; have := Z2.out; simp <;> omega) (by have := AT.out; unfold Ge; omega) rfl (by intro z hz; simp at hz; subst hz; unfold I64; omega) (by simp)
      refine Has.old (Has.old (Has.old (Has.other (Has.other (Has.other (Has.other ((F2.out.h4).at' (by have := AT.out; omega)) ?_) ?_) ?_) ?_) ?_) ?_) ?_
      all_goals (have := AT.out; have := Z2.out; simp <;> omega)
    · rw [HA.out]
      exact ⟨_, _, _, rfl, Row.nil _ _ _ _ _ (by omega)⟩
  · refine Below.alloc (Below.alloc (Below.alloc (Below.setCell (Below.setCell (Below.setCell (Below.setCell F2.out.below ?_ _) ?_ _) ?_ _) ?_ _) ?_ _) ?_ _) ?_ _
    all_goals (simp <;> omega)
theorem image_any (x : Ins) (w : World) (hch : chkI x = 0) : Calls Try.prog 26 #[IV x] w (ImgRet x w) := by
  obtain ⟨xk, xa, xb, xc, xo, xi⟩ := x
  by_cases h4 : xk = 4
  · subst h4; exact image_4 xa xb xc xo xi w hch
  by_cases h5 : xk = 5
  · subst h5; exact image_5 xa xb xc xo xi w hch
  by_cases h6 : xk = 6
  · subst h6; exact image_6 xa xb xc xo xi w hch
  by_cases h7 : xk = 7
  · subst h7; exact image_7 xa xb xc xo xi w hch
  exact image_o xk xa xb xc xo xi w h4 h5 h6 h7 hch
end Go.Proofs.Ytonbmijhbbodnaa
