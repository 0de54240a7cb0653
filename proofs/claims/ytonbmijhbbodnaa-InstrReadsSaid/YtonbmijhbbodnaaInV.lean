/-
  timeboundlaw19.of. (printed by mkInV.py)
-/
import Derived.Deep.RegionHeld3
import Derived.Deep.CutBlock
import Derived.Deep.DeepCutAuto
import Derived.Laws.BitsLemmas
import Derived.Test.YtonbmijhbbodnaaZInA
import Derived.Test.YtonbmijhbbodnaaZDeck
import Derived.Test.YtonbmijhbbodnaaZInB
namespace Go.Proofs.Ytonbmijhbbodnaa
open Go.RowKit

/-- The instruction that the law makes of a kind, registers, an operator and numbers. -/
def zI (K A B C O N M L : Int) : Ins :=
  if K = 1 then ⟨1, A, 0, 0, 0, N⟩ else
  if K = 2 then ⟨2, A, B, 0, 0, 0⟩ else
  if K = 3 then ⟨3, A, B, C, O, 0⟩ else
  if K = 4 then ⟨4, A, B, 0, 0, M⟩ else
  if K = 5 then ⟨5, A, B, 0, 0, M⟩ else
  if K = 6 then ⟨6, 0, 0, 0, 0, M⟩ else
  if K = 7 then ⟨7, A, 0, 0, 0, M⟩ else
  if K = 8 then ⟨8, 0, 0, 0, 0, L⟩ else
  if K = 9 then ⟨9, 0, 0, 0, 0, L⟩ else
  ⟨K, 0, 0, 0, 0, 0⟩
/-- .. of five numbers. -/
def ofB (k a b c n : Int) : Ins := zI (k % 11) (a % 8) (b % 8) (c % 8) (1 + c % 14) n ((n % 4294967296) % 1000) ((n % 4294967296) % 4)
def ofI (k a b c n : Int) : Ins := if 230 < k then ⟨(ofB k a b c n).k, (ofB k a b c n).a, (ofB k a b c n).b, (ofB k a b c n).c + 1, (ofB k a b c n).op, (ofB k a b c n).imm⟩ else ofB k a b c n
def OfRet (x : Ins) (w : World) (e : Ending) (w' : World) : Prop := e = .returned (IV x) ∧ Below w.heap.size w w'
theorem zI_c {K A B C O N M L : Int} (h : 0 ≤ C ∧ C < 8) : 0 ≤ (zI K A B C O N M L).c ∧ (zI K A B C O N M L).c < 8 := by
  unfold zI
  repeat' split
  all_goals (dsimp only; omega)
set_option maxRecDepth 100000 in
set_option maxHeartbeats 8000000 in
theorem of_any (k a b c n : Int) (w : World) (hk : 0 ≤ k ∧ k ≤ 255) (ha : 0 ≤ a ∧ a ≤ 255) (hb : 0 ≤ b ∧ b ≤ 255) (hc : 0 ≤ c ∧ c ≤ 255) (hn : -2147483648 ≤ n ∧ n ≤ 2147483647) :
    Calls Try.prog 19 #[.int .u8 k, .int .u8 a, .int .u8 b, .int .u8 c, .int .i32 n] w (OfRet (ofI k a b c n) w) := by
  obtain ⟨K, hK⟩ : ∃ K, K = k % 11 := ⟨_, rfl⟩
  obtain ⟨A, hA⟩ : ∃ A, A = a % 8 := ⟨_, rfl⟩
  obtain ⟨B, hB⟩ : ∃ B, B = b % 8 := ⟨_, rfl⟩
  obtain ⟨C, hC⟩ : ∃ C, C = c % 8 := ⟨_, rfl⟩
  obtain ⟨O, hO⟩ : ∃ O, O = 1 + c % 14 := ⟨_, rfl⟩
  obtain ⟨M, hM⟩ : ∃ M, M = (n % 4294967296) % 1000 := ⟨_, rfl⟩
  obtain ⟨L, hL⟩ : ∃ L, L = (n % 4294967296) % 4 := ⟨_, rfl⟩
  have HOB := Lib.hid (show ofB k a b c n = zI K A B C O n M L by unfold ofB; rw [hK, hA, hB, hC, hO, hM, hL])
  have K0 : 0 ≤ K ∧ K ≤ 10 := by omega
  have C0 : 0 ≤ C ∧ C < 8 := by omega
  have F0 := Lib.hid (Fm.new (Fm.new (Fm.new (Fm.start Non w) rfl (ICells ⟨0, 0, 0, 0, 0, 0⟩) 50) (by simp) (ICells ⟨K, A, B, C, O, n⟩) 50) (by simp) (ICells ⟨K, 0, 0, 0, 0, 0⟩) 50)
  obtain ⟨w1, hw1⟩ : ∃ w1, w1 = ((w.alloc (.cells (ICells ⟨0, 0, 0, 0, 0, 0⟩).toArray 50)).alloc (.cells (ICells ⟨K, A, B, C, O, n⟩).toArray 50)).alloc (.cells (ICells ⟨K, 0, 0, 0, 0, 0⟩).toArray 50) := ⟨_, rfl⟩
  have F1 := Lib.hid (show Fm Non w w1 [ICells ⟨0, 0, 0, 0, 0, 0⟩, ICells ⟨K, A, B, C, O, n⟩, ICells ⟨K, 0, 0, 0, 0, 0⟩] by rw [hw1]; exact F0.out)
  go_enter Try.func19, Try.ntmps19
  go_upto_block 0 with fail
  rw [← hK, ← hA, ← hB, ← hC, ← hO]
  have hw2 : ((w.alloc (.cells #[.int .i64 0, .int .i64 0, .int .i64 0, .int .i64 0, .int .i64 0, .int .i64 0] 50)).alloc (.cells #[.int .i64 K, .int .i64 A, .int .i64 B, .int .i64 C, .int .i64 O, .int .i64 n] 50)).alloc (.cells #[.int .i64 K, .int .i64 0, .int .i64 0, .int .i64 0, .int .i64 0, .int .i64 0] 50) = w1 := hw1.symm
  rw [hw2]
  clear hw1 hw2 F0
  have HK := Lib.hid hK
  clear hK hA hB hC hO
  have x := F1.out.h1; have z := F1.out.h2
  have a0 := x.cell 0 _ rfl; have a1 := x.cell 1 _ rfl; have a2 := x.cell 2 _ rfl; have a3 := x.cell 3 _ rfl; have a4 := x.cell 4 _ rfl; have a5 := x.cell 5 _ rfl
  have z0 := z.cell 0 _ rfl; have z1 := z.cell 1 _ rfl; have z2 := z.cell 2 _ rfl; have z3 := z.cell 3 _ rfl; have z4 := z.cell 4 _ rfl; have z5 := z.cell 5 _ rfl; have zf := z.free; have zl := z.lt (by simp)
  clear x z
  have HM := Lib.hid hM; have HL := Lib.hid hL
  go_cut [37, 45, 53, 67, 81, 88, 98] (fun _ _ _ _ _ _ _ wx => Fm Non w wx [ICells ⟨0, 0, 0, 0, 0, 0⟩, ICells ⟨K, A, B, C, O, n⟩, ICells (zI K A B C O n M L)])
  case first =>
    have hKs : K = 0 ∨ K = 1 ∨ K = 2 ∨ K = 3 ∨ K = 4 ∨ K = 5 ∨ K = 6 ∨ K = 7 ∨ K = 8 ∨ K = 9 ∨ K = 10 := by omega
    clear K0
    rcases hKs with rfl | rfl | rfl | rfl | rfl | rfl | rfl | rfl | rfl | rfl | rfl
    · have HZ := Lib.hid (show zI 0 A B C O n M L = ⟨0, 0, 0, 0, 0, 0⟩ by simp [zI])
      have FW := Lib.hid (F1.out)
      clear hM hL
      go_wp2
      go_meet
      rw [HZ.out]
      exact FW.out
    · have HZ := Lib.hid (show zI 1 A B C O n M L = ⟨1, A, 0, 0, 0, n⟩ by simp [zI])
      have FW := Lib.hid (((F1.out.drew).set 2 1 _ rfl (by simp) (.int .i64 A)).set 2 5 _ rfl (by simp) (.int .i64 n))
      clear hM hL
      go_wp2
      have q1 := ((F1.out.drew).set 2 1 _ rfl (by simp) (.int .i64 A)).h2; have y1 := q1.cell 5 _ rfl; have yf1 := q1.free; clear q1
      go_region_held3 (fun w' => w'.cell? ⟨w.heap.size + 1, 1, none⟩ = some (.int .i64 A) ∧ w'.cell? ⟨w.heap.size + 1, 5, none⟩ = some (.int .i64 n)) (((try dsimp only); (try go_split_ands); (repeat' apply And.intro); all_goals (repeat (first | with_reducible assumption | (with_reducible refine cell_set (by omega) ?_) | (with_reducible refine cell_drew ?_))))) (fail)
      go_wp2
      go_meet
      rw [HZ.out]
      exact FW.out
    · have HZ := Lib.hid (show zI 2 A B C O n M L = ⟨2, A, B, 0, 0, 0⟩ by simp [zI])
      have FW := Lib.hid (((F1.out.drew).set 2 1 _ rfl (by simp) (.int .i64 A)).set 2 2 _ rfl (by simp) (.int .i64 B))
      clear hM hL
      go_wp2
      have q1 := ((F1.out.drew).set 2 1 _ rfl (by simp) (.int .i64 A)).h2; have y1 := q1.cell 2 _ rfl; have yf1 := q1.free; clear q1
      go_region_held3 (fun w' => w'.cell? ⟨w.heap.size + 1, 1, none⟩ = some (.int .i64 A) ∧ w'.cell? ⟨w.heap.size + 1, 2, none⟩ = some (.int .i64 B)) (((try dsimp only); (try go_split_ands); (repeat' apply And.intro); all_goals (repeat (first | with_reducible assumption | (with_reducible refine cell_set (by omega) ?_) | (with_reducible refine cell_drew ?_))))) (fail)
      go_wp2
      go_meet
      rw [HZ.out]
      exact FW.out
    · have HZ := Lib.hid (show zI 3 A B C O n M L = ⟨3, A, B, C, O, 0⟩ by simp [zI])
      have FW := Lib.hid (((((F1.out.drew).set 2 1 _ rfl (by simp) (.int .i64 A)).set 2 2 _ rfl (by simp) (.int .i64 B)).set 2 3 _ rfl (by simp) (.int .i64 C)).set 2 4 _ rfl (by simp) (.int .i64 O))
      clear hM hL
      go_wp2
      have q1 := ((F1.out.drew).set 2 1 _ rfl (by simp) (.int .i64 A)).h2; have y1 := q1.cell 2 _ rfl; have yf1 := q1.free; clear q1
      have q2 := (((F1.out.drew).set 2 1 _ rfl (by simp) (.int .i64 A)).set 2 2 _ rfl (by simp) (.int .i64 B)).h2; have y2 := q2.cell 3 _ rfl; have yf2 := q2.free; clear q2
      have q3 := ((((F1.out.drew).set 2 1 _ rfl (by simp) (.int .i64 A)).set 2 2 _ rfl (by simp) (.int .i64 B)).set 2 3 _ rfl (by simp) (.int .i64 C)).h2; have y3 := q3.cell 4 _ rfl; have yf3 := q3.free; clear q3
      go_region_held3 (fun w' => w'.cell? ⟨w.heap.size + 1, 1, none⟩ = some (.int .i64 A) ∧ w'.cell? ⟨w.heap.size + 1, 2, none⟩ = some (.int .i64 B) ∧ w'.cell? ⟨w.heap.size + 1, 3, none⟩ = some (.int .i64 C) ∧ w'.cell? ⟨w.heap.size + 1, 4, none⟩ = some (.int .i64 O)) (((try dsimp only); (try go_split_ands); (repeat' apply And.intro); all_goals (repeat (first | with_reducible assumption | (with_reducible refine cell_set (by omega) ?_) | (with_reducible refine cell_drew ?_))))) (fail)
      go_wp2
      go_meet
      rw [HZ.out]
      exact FW.out
    · have HZ := Lib.hid (show zI 4 A B C O n M L = ⟨4, A, B, 0, 0, M⟩ by simp [zI])
      have FW := Lib.hid ((((F1.out.drew).set 2 1 _ rfl (by simp) (.int .i64 A)).set 2 2 _ rfl (by simp) (.int .i64 B)).set 2 5 _ rfl (by simp) (.int .i64 M))
      have hM2 := hM.symm
      have hM3 : IntKind.i64.wrap ((IntKind.u32.wrap n).tmod 1000) = M := by rw [IntKind.wrap_u32, Int.tmod_eq_emod_of_nonneg (by omega), Go.IntWalk.i64_in _ ⟨by omega, by omega⟩, hM2]
      clear hM hL
      go_wp2
      have q1 := ((F1.out.drew).set 2 1 _ rfl (by simp) (.int .i64 A)).h2; have y1 := q1.cell 2 _ rfl; have yf1 := q1.free; clear q1
      have q2 := (((F1.out.drew).set 2 1 _ rfl (by simp) (.int .i64 A)).set 2 2 _ rfl (by simp) (.int .i64 B)).h2; have y2 := q2.cell 5 _ rfl; have yf2 := q2.free; clear q2
      go_region_held3 (fun w' => w'.cell? ⟨w.heap.size + 1, 1, none⟩ = some (.int .i64 A) ∧ w'.cell? ⟨w.heap.size + 1, 2, none⟩ = some (.int .i64 B)) (((try dsimp only); (try go_split_ands); (repeat' apply And.intro); all_goals (repeat (first | with_reducible assumption | (with_reducible refine cell_set (by omega) ?_) | (with_reducible refine cell_drew ?_))))) (fail)
      go_wp2
      go_meet
      rw [HZ.out]
      exact FW.out
    · have HZ := Lib.hid (show zI 5 A B C O n M L = ⟨5, A, B, 0, 0, M⟩ by simp [zI])
      have FW := Lib.hid ((((F1.out.drew).set 2 1 _ rfl (by simp) (.int .i64 A)).set 2 2 _ rfl (by simp) (.int .i64 B)).set 2 5 _ rfl (by simp) (.int .i64 M))
      have hM2 := hM.symm
      have hM3 : IntKind.i64.wrap ((IntKind.u32.wrap n).tmod 1000) = M := by rw [IntKind.wrap_u32, Int.tmod_eq_emod_of_nonneg (by omega), Go.IntWalk.i64_in _ ⟨by omega, by omega⟩, hM2]
      clear hM hL
      go_wp2
      have q1 := ((F1.out.drew).set 2 1 _ rfl (by simp) (.int .i64 A)).h2; have y1 := q1.cell 2 _ rfl; have yf1 := q1.free; clear q1
      have q2 := (((F1.out.drew).set 2 1 _ rfl (by simp) (.int .i64 A)).set 2 2 _ rfl (by simp) (.int .i64 B)).h2; have y2 := q2.cell 5 _ rfl; have yf2 := q2.free; clear q2
      go_region_held3 (fun w' => w'.cell? ⟨w.heap.size + 1, 1, none⟩ = some (.int .i64 A) ∧ w'.cell? ⟨w.heap.size + 1, 2, none⟩ = some (.int .i64 B)) (((try dsimp only); (try go_split_ands); (repeat' apply And.intro); all_goals (repeat (first | with_reducible assumption | (with_reducible refine cell_set (by omega) ?_) | (with_reducible refine cell_drew ?_))))) (fail)
      go_wp2
      go_meet
      rw [HZ.out]
      exact FW.out
    · have HZ := Lib.hid (show zI 6 A B C O n M L = ⟨6, 0, 0, 0, 0, M⟩ by simp [zI])
      have FW := Lib.hid ((F1.out).set 2 5 _ rfl (by simp) (.int .i64 M))
      have hM2 := hM.symm
      clear hM hL
      go_wp2
      go_meet
      rw [HZ.out]
      exact FW.out
    · have HZ := Lib.hid (show zI 7 A B C O n M L = ⟨7, A, 0, 0, 0, M⟩ by simp [zI])
      have FW := Lib.hid (((F1.out).set 2 1 _ rfl (by simp) (.int .i64 A)).set 2 5 _ rfl (by simp) (.int .i64 M))
      have hM2 := hM.symm
      clear hM hL
      go_wp2
      go_meet
      rw [HZ.out]
      exact FW.out
    · have HZ := Lib.hid (show zI 8 A B C O n M L = ⟨8, 0, 0, 0, 0, L⟩ by simp [zI])
      have FW := Lib.hid ((F1.out).set 2 5 _ rfl (by simp) (.int .i64 L))
      have hL2 := hL.symm
      clear hM hL
      go_wp2
      go_meet
      rw [HZ.out]
      exact FW.out
    · have HZ := Lib.hid (show zI 9 A B C O n M L = ⟨9, 0, 0, 0, 0, L⟩ by simp [zI])
      have FW := Lib.hid ((F1.out).set 2 5 _ rfl (by simp) (.int .i64 L))
      have hL2 := hL.symm
      clear hM hL
      go_wp2
      go_meet
      rw [HZ.out]
      exact FW.out
    · have HZ := Lib.hid (show zI 10 A B C O n M L = ⟨10, 0, 0, 0, 0, 0⟩ by simp [zI])
      have FW := Lib.hid (F1.out)
      clear hM hL
      go_wp2
      go_meet
      rw [HZ.out]
      exact FW.out
  case rest =>
    obtain ⟨Z, hZ⟩ : ∃ Z, Z = zI K A B C O n M L := ⟨_, rfl⟩
    have ZC := Lib.hid (show 0 ≤ Z.c ∧ Z.c < 8 by rw [hZ]; exact zI_c C0)
    rw [← hZ] at hcut
    have HZ := Lib.hid hZ
    have FC := Lib.hid hcut
    clear hZ hcut a0 a1 a2 a3 a4 a5 z0 z1 z2 z3 z4 z5 zf zl
    have t0 := FC.out.h0; have t2 := FC.out.h2
    have z0 := t2.cell 0 _ rfl; have z1 := t2.cell 1 _ rfl; have z2 := t2.cell 2 _ rfl; have z3 := t2.cell 3 _ rfl; have z4 := t2.cell 4 _ rfl; have z5 := t2.cell 5 _ rfl; have zf := t2.free
    have r0 := t0.cell 0 _ rfl; have r1 := t0.cell 1 _ rfl; have r2 := t0.cell 2 _ rfl; have r3 := t0.cell 3 _ rfl; have r4 := t0.cell 4 _ rfl; have r5 := t0.cell 5 _ rfl; have rf := t0.free
    clear t0 t2
    have c0 := ZC.out.1
    have c1 := ZC.out.2
    by_cases h230 : 230 < k
    · have HR := Lib.hid (show ofI k a b c n = ⟨Z.k, Z.a, Z.b, Z.c + 1, Z.op, Z.imm⟩ by unfold ofI; rw [if_pos h230, HOB.out, HZ.out])
      go_wp2
      refine bodyPost_ret (v := IV ⟨Z.k, Z.a, Z.b, Z.c + 1, Z.op, Z.imm⟩) (by simp [results, Try.results19, go_sem, r0, r1, r2, r3, r4, r5]) rfl ⟨by rw [HR.out], ?_⟩
      repeat (first | with_reducible exact FC.out.below | (refine Below.setCell ?_ (by dsimp only; omega) _))
    · have HR := Lib.hid (show ofI k a b c n = Z by unfold ofI; rw [if_neg h230, HOB.out, HZ.out])
      go_wp2
      refine bodyPost_ret (v := IV Z) (by simp [results, Try.results19, go_sem, r0, r1, r2, r3, r4, r5]) rfl ⟨by rw [HR.out], ?_⟩
      repeat (first | with_reducible exact FC.out.below | (refine Below.setCell ?_ (by dsimp only; omega) _))
end Go.Proofs.Ytonbmijhbbodnaa
