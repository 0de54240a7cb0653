/-
  The instructions that the law makes are right ones, and are decoded from their bytes (plain).
-/
import Derived.Test.YtonbmijhbbodnaaInK
import Derived.Test.YtonbmijhbbodnaaInW
namespace Go.Proofs.Ytonbmijhbbodnaa
open Go.RowKit

theorem zI_ok {K A B C O N M L : Int} (h1 : 0 ≤ K ∧ K ≤ 10) (h2 : 0 ≤ A ∧ A < 8) (h3 : 0 ≤ B ∧ B < 8) (h4 : 0 ≤ C ∧ C < 8) (h5 : 1 ≤ O ∧ O ≤ 14) (h6 : -2147483648 ≤ N ∧ N ≤ 2147483647) (h7 : 0 ≤ M ∧ M < 1000) (h8 : 0 ≤ L ∧ L < 4) : chkI (zI K A B C O N M L) = 0 := by
  have hK : K = 0 ∨ K = 1 ∨ K = 2 ∨ K = 3 ∨ K = 4 ∨ K = 5 ∨ K = 6 ∨ K = 7 ∨ K = 8 ∨ K = 9 ∨ K = 10 := by omega
  rcases hK with rfl | rfl | rfl | rfl | rfl | rfl | rfl | rfl | rfl | rfl | rfl
  all_goals
    simp [zI, chkI, kn, fldOf, goodI, regB, opB]
    try omega
theorem ofB_ok {k a b c n : Int} (hn : -2147483648 ≤ n ∧ n ≤ 2147483647) : chkI (ofB k a b c n) = 0 := by
  unfold ofB
  exact zI_ok (by omega) (by omega) (by omega) (by omega) (by omega) hn (by omega) (by omega)
/-- A right instruction is decoded from its bytes. -/
theorem mkI_enc {x : Ins} (h : chkI x = 0) : mkI x.k (16 * x.a + x.b) x.c x.op (x.imm / 16777216 % 256) (x.imm / 65536 % 256) (x.imm / 256 % 256) (x.imm % 256) = x := by
  obtain ⟨k0, k1, a0, a1, b0, b1, c0, c1, o0, o1, i0, i1⟩ := small_of h
  obtain ⟨k, a, b, c, o, i⟩ := x
  simp only [mkI, w32] at *
  have e1 : (16 * a + b) / 16 = a := by omega
  have e2 : (16 * a + b) % 16 = b := by omega
  have e3 : i / 16777216 % 256 * 16777216 + i / 65536 % 256 * 65536 + i / 256 % 256 * 256 + i % 256 = i % 4294967296 := by omega
  rw [e1, e2, e3]
  have e4 : (i % 4294967296 + 2147483648) % 4294967296 - 2147483648 = i := by omega
  rw [e4]
theorem insAt_pre {bs rest pre : List Int} {x : Ins} (h : chkI x = 0) (hb : bs = pre ++ enc8 x ++ rest) : insAt bs pre.length = x := by
  have hx := enc8_small h
  subst hb
  have g : ∀ j z, (enc8s x)[j]? = some z → (pre ++ enc8 x ++ rest)[pre.length + j]? = some z := fun j z hz => by
    rw [hx, List.append_assoc, List.getElem?_append_right (by omega), Nat.add_sub_cancel_left, List.getElem?_append_left (List.getElem?_eq_some_iff.1 hz).1]
    exact hz
  rw [insAt_of (k := pre.length) (g 0 _ rfl) (g 1 _ rfl) (g 2 _ rfl) (g 3 _ rfl) (g 4 _ rfl) (g 5 _ rfl) (g 6 _ rfl) (g 7 _ rfl)]
  exact mkI_enc h
theorem dec_two {x y : Ins} (hx : chkI x = 0) (hy : chkI y = 0) : decE (enc8 x ++ enc8 y) = 0 ∧ decO (enc8 x ++ enc8 y) = [x, y] := by
  have hl : (enc8 x ++ enc8 y).length = 16 := by simp [enc8]
  have h0 : insAt (enc8 x ++ enc8 y) 0 = x := insAt_pre (pre := []) (rest := enc8 y) hx rfl
  have h1 : insAt (enc8 x ++ enc8 y) 8 = y := insAt_pre (pre := enc8 x) (rest := []) hy (by simp)
  have hd : decL (enc8 x ++ enc8 y) = [x, y] := by
    unfold decL
    rw [hl]
    show decP _ 2 = _
    simp [decP, List.range, List.range.loop, h0, h1]
  have hn : ¬ decBad (enc8 x ++ enc8 y) := by unfold decBad; rw [hl]; omega
  have hg : Good (decL (enc8 x ++ enc8 y)) := by rw [hd]; intro z hz; simp at hz; rcases hz with rfl | rfl <;> assumption
  have := decE_good hn hg
  rw [hd] at this
  exact this
theorem enc8_inj {x y : Ins} (hx : chkI x = 0) (hy : chkI y = 0) (h : enc8 x = enc8 y) : x = y := by
  have h0 : insAt (enc8 x) 0 = x := insAt_pre (pre := []) (rest := []) hx (by simp)
  have h1 : insAt (enc8 y) 0 = y := insAt_pre (pre := []) (rest := []) hy (by simp)
  rw [← h0, ← h1, h]
theorem enc_list {l : List Ins} (hl : l.length ≤ 1024) (h : Good l) : encE l = 0 ∧ encB l = encs l := encE_good (by omega) h
end Go.Proofs.Ytonbmijhbbodnaa
