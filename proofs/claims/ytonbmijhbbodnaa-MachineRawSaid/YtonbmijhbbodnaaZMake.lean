/-
  timeboundmake: Few, and what a deck needs to stay.
  timeboundlaw19.of. (printed by mkInV.py)
  A node that fits its code (plain); lists of numbers compared; accesses under construction.
  What the document's Check of an image gives (plain).
  Cores in memory; the document's words and Valid.
-/
import Derived.Deep.RegionHeld3
import Derived.Deep.CutBlock
import Derived.Deep.DeepCutAuto
import Derived.Laws.BitsLemmas
import Derived.Test.YtonbmijhbbodnaaMem
import Derived.Test.YtonbmijhbbodnaaDeck
import Derived.Test.YtonbmijhbbodnaaZInA
import Derived.Test.YtonbmijhbbodnaaZImA
import Derived.Test.YtonbmijhbbodnaaZImG
namespace Go.Proofs.Ytonbmijhbbodnaa
open Go.RowKit

theorem ret_b' {a b : Bool} (h : a = b) : Ending.returned (.bool a) = .returned (.bool b) := by rw [h]
theorem But.chg {d : Nat} {w w' : World} (h : But d w w') : Chg (fun k => k = d) w w' := ⟨h.os, h.tape, h.output, h.size, fun k hk hm => h.block k hk hm⟩
theorem Chg.but {d : Nat} {w w' : World} (h : Chg (fun k => k = d) w w') : But d w w' := ⟨h.os, h.tape, h.output, h.size, fun k hk hm => h.block k hk hm⟩
theorem Deck.chg {M : Nat → Prop} {w w' : World} {d : Nat} (h : Deck w d) (k : Chg M w w') (hM : ∀ j, j < w.heap.size → j ≤ d → ¬ M j) : Deck w' d := by
  have hd := h.lt
  obtain ⟨a, len, cap, zs, i, h1, h2, h3, h4⟩ := h
  refine ⟨a, len, cap, zs, i, ?_, h2, k.has h3 hd (hM d hd (Nat.le_refl _)), h4⟩
  rcases h1 with h1 | ⟨x, rfl, k1, k2, k3, k4, k5⟩
  · exact .inl h1
  · refine .inr ⟨x, rfl, k1, k2, k3, fun j hj => ?_, k5⟩
    have hx := h2 x rfl (by omega)
    exact (World.cell?_of_block (w := w) (a := x.add j) (by rw [add_block]; exact k.block _ (by omega) (hM _ (by omega) (by omega)))).trans (k4 j hj)

set_option maxHeartbeats 1000000 in
theorem few_any (a : Option Addr) (len cap : Nat) (w : World) (h : len ≤ 9223372036854775807) :
    (len ≤ 400 → Calls Try.prog 8 #[.slice a len cap] w fun e w' => e = .returned (.bool true) ∧ w' = w) ∧
    (¬ len ≤ 400 → Calls Try.prog 8 #[.slice a len cap] w fun e w' => e = .returned (.bool false) ∧ w' = w) := by
  constructor
  all_goals
    intro hl
    go_enter Try.func8, Try.ntmps8
    go_wp2
    go_ret
    exact ⟨ret_b' (by simp; omega), rfl⟩

/-- The instruction that the law makes of a kind, registers, an operator and numbers. -/
def zI (K A B C O N M L : Int) : Ins :=
  if K = 1 then ⟨1, A, 0, 0, 0, N⟩ else
  if K = 2 then ⟨2, A, B, 0, 0, 0⟩ else
  if K = 3 then ⟨3, A, B, C, O, 0⟩ else
  if K = 4 then ⟨4, A, B, 0, 0, M⟩ else
  if K = 5 then ⟨5, A, B, 0, 0, M⟩ else
  if K = 6 then ⟨6, 0, 0, 0, 0, M⟩ else
  if K = 7 then ⟨7, A, 0, 0, 0, M⟩ else
  if K = 8 then ⟨8, 0, 0, 0, 0, L⟩ else
  if K = 9 then ⟨9, 0, 0, 0, 0, L⟩ else
  ⟨K, 0, 0, 0, 0, 0⟩
/-- .. of five numbers. -/
def ofB (k a b c n : Int) : Ins := zI (k % 11) (a % 8) (b % 8) (c % 8) (1 + c % 14) n ((n % 4294967296) % 1000) ((n % 4294967296) % 4)
def ofI (k a b c n : Int) : Ins := if 230 < k then ⟨(ofB k a b c n).k, (ofB k a b c n).a, (ofB k a b c n).b, (ofB k a b c n).c + 1, (ofB k a b c n).op, (ofB k a b c n).imm⟩ else ofB k a b c n
def OfRet (x : Ins) (w : World) (e : Ending) (w' : World) : Prop := e = .returned (IV x) ∧ Below w.heap.size w w'
theorem zI_c {K A B C O N M L : Int} (h : 0 ≤ C ∧ C < 8) : 0 ≤ (zI K A B C O N M L).c ∧ (zI K A B C O N M L).c < 8 := by
  unfold zI
  repeat' split
  all_goals (dsimp only; omega)
set_option maxRecDepth 100000 in
set_option maxHeartbeats 8000000 in
theorem of_any (k a b c n : Int) (w : World) (hk : 0 ≤ k ∧ k ≤ 255) (ha : 0 ≤ a ∧ a ≤ 255) (hb : 0 ≤ b ∧ b ≤ 255) (hc : 0 ≤ c ∧ c ≤ 255) (hn : -2147483648 ≤ n ∧ n ≤ 2147483647) :
    Calls Try.prog 19 #[.int .u8 k, .int .u8 a, .int .u8 b, .int .u8 c, .int .i32 n] w (OfRet (ofI k a b c n) w) := by
  obtain ⟨K, hK⟩ : ∃ K, K = k % 11 := ⟨_, rfl⟩
  obtain ⟨A, hA⟩ : ∃ A, A = a % 8 := ⟨_, rfl⟩
  obtain ⟨B, hB⟩ : ∃ B, B = b % 8 := ⟨_, rfl⟩
  obtain ⟨C, hC⟩ : ∃ C, C = c % 8 := ⟨_, rfl⟩
  obtain ⟨O, hO⟩ : ∃ O, O = 1 + c % 14 := ⟨_, rfl⟩
  obtain ⟨M, hM⟩ : ∃ M, M = (n % 4294967296) % 1000 := ⟨_, rfl⟩
  obtain ⟨L, hL⟩ : ∃ L, L = (n % 4294967296) % 4 := ⟨_, rfl⟩
  have HOB := Lib.hid (show ofB k a b c n = zI K A B C O n M L by unfold ofB; rw [hK, hA, hB, hC, hO, hM, hL])
  have K0 : 0 ≤ K ∧ K ≤ 10 := by omega
  have C0 : 0 ≤ C ∧ C < 8 := by omega
  have F0 := Lib.hid (Fm.new (Fm.new (Fm.new (Fm.start Non w) rfl (ICells ⟨0, 0, 0, 0, 0, 0⟩) 50) (by simp) (ICells ⟨K, A, B, C, O, n⟩) 50) (by simp) (ICells ⟨K, 0, 0, 0, 0, 0⟩) 50)
  obtain ⟨w1, hw1⟩ : ∃ w1, w1 = ((w.alloc (.cells (ICells ⟨0, 0, 0, 0, 0, 0⟩).toArray 50)).alloc (.cells (ICells ⟨K, A, B, C, O, n⟩).toArray 50)).alloc (.cells (ICells ⟨K, 0, 0, 0, 0, 0⟩).toArray 50) := ⟨_, rfl⟩
  have F1 := Lib.hid (show Fm Non w w1 [ICells ⟨0, 0, 0, 0, 0, 0⟩, ICells ⟨K, A, B, C, O, n⟩, ICells ⟨K, 0, 0, 0, 0, 0⟩] by rw [hw1]; exact F0.out)
  go_enter Try.func19, Try.ntmps19
  go_upto_block 0 with fail
  rw [← hK, ← hA, ← hB, ← hC, ← hO]
  have hw2 : ((w.alloc (.cells #[.int .i64 0, .int .i64 0, .int .i64 0, .int .i64 0, .int .i64 0, .int .i64 0] 50)).alloc (.cells #[.int .i64 K, .int .i64 A, .int .i64 B, .int .i64 C, .int .i64 O, .int .i64 n] 50)).alloc (.cells #[.int .i64 K, .int .i64 0, .int .i64 0, .int .i64 0, .int .i64 0, .int .i64 0] 50) = w1 := hw1.symm
  rw [hw2]
  clear hw1 hw2 F0
  have HK := Lib.hid hK
  clear hK hA hB hC hO
  have x := F1.out.h1; have z := F1.out.h2
  have a0 := x.cell 0 _ rfl; have a1 := x.cell 1 _ rfl; have a2 := x.cell 2 _ rfl; have a3 := x.cell 3 _ rfl; have a4 := x.cell 4 _ rfl; have a5 := x.cell 5 _ rfl
  have z0 := z.cell 0 _ rfl; have z1 := z.cell 1 _ rfl; have z2 := z.cell 2 _ rfl; have z3 := z.cell 3 _ rfl; have z4 := z.cell 4 _ rfl; have z5 := z.cell 5 _ rfl; have zf := z.free; have zl := z.lt (by simp)
  clear x z
  have HM := Lib.hid hM; have HL := Lib.hid hL
  go_cut [37, 45, 53, 67, 81, 88, 98] (fun _ _ _ _ _ _ _ wx => Fm Non w wx [ICells ⟨0, 0, 0, 0, 0, 0⟩, ICells ⟨K, A, B, C, O, n⟩, ICells (zI K A B C O n M L)])
  case first =>
    have hKs : K = 0 ∨ K = 1 ∨ K = 2 ∨ K = 3 ∨ K = 4 ∨ K = 5 ∨ K = 6 ∨ K = 7 ∨ K = 8 ∨ K = 9 ∨ K = 10 := by omega
    clear K0
    rcases hKs with rfl | rfl | rfl | rfl | rfl | rfl | rfl | rfl | rfl | rfl | rfl
    · have HZ := Lib.hid (show zI 0 A B C O n M L = ⟨0, 0, 0, 0, 0, 0⟩ by simp [zI])
      have FW := Lib.hid (F1.out)
      clear hM hL
      go_wp2
      go_meet
      rw [HZ.out]
      exact FW.out
    · have HZ := Lib.hid (show zI 1 A B C O n M L = ⟨1, A, 0, 0, 0, n⟩ by simp [zI])
      have FW := Lib.hid (((F1.out.drew).set 2 1 _ rfl (by simp) (.int .i64 A)).set 2 5 _ rfl (by simp) (.int .i64 n))
      clear hM hL
      go_wp2
      have q1 := ((F1.out.drew).set 2 1 _ rfl (by simp) (.int .i64 A)).h2; have y1 := q1.cell 5 _ rfl; have yf1 := q1.free; clear q1
      go_region_held3 (fun w' => w'.cell? ⟨w.heap.size + 1, 1, none⟩ = some (.int .i64 A) ∧ w'.cell? ⟨w.heap.size + 1, 5, none⟩ = some (.int .i64 n)) (((try dsimp only); (try go_split_ands); (repeat' apply And.intro); all_goals (repeat (first | with_reducible assumption | (with_reducible refine cell_set (by omega) ?_) | (with_reducible refine cell_drew ?_))))) (fail)
      go_wp2
      go_meet
      rw [HZ.out]
      exact FW.out
    · have HZ := Lib.hid (show zI 2 A B C O n M L = ⟨2, A, B, 0, 0, 0⟩ by simp [zI])
      have FW := Lib.hid (((F1.out.drew).set 2 1 _ rfl (by simp) (.int .i64 A)).set 2 2 _ rfl (by simp) (.int .i64 B))
      clear hM hL
      go_wp2
      have q1 := ((F1.out.drew).set 2 1 _ rfl (by simp) (.int .i64 A)).h2; have y1 := q1.cell 2 _ rfl; have yf1 := q1.free; clear q1
      go_region_held3 (fun w' => w'.cell? ⟨w.heap.size + 1, 1, none⟩ = some (.int .i64 A) ∧ w'.cell? ⟨w.heap.size + 1, 2, none⟩ = some (.int .i64 B)) (((try dsimp only); (try go_split_ands); (repeat' apply And.intro); all_goals (repeat (first | with_reducible assumption | (with_reducible refine cell_set (by omega) ?_) | (with_reducible refine cell_drew ?_))))) (fail)
      go_wp2
      go_meet
      rw [HZ.out]
      exact FW.out
    · have HZ := Lib.hid (show zI 3 A B C O n M L = ⟨3, A, B, C, O, 0⟩ by simp [zI])
      have FW := Lib.hid (((((F1.out.drew).set 2 1 _ rfl (by simp) (.int .i64 A)).set 2 2 _ rfl (by simp) (.int .i64 B)).set 2 3 _ rfl (by simp) (.int .i64 C)).set 2 4 _ rfl (by simp) (.int .i64 O))
      clear hM hL
      go_wp2
      have q1 := ((F1.out.drew).set 2 1 _ rfl (by simp) (.int .i64 A)).h2; have y1 := q1.cell 2 _ rfl; have yf1 := q1.free; clear q1
      have q2 := (((F1.out.drew).set 2 1 _ rfl (by simp) (.int .i64 A)).set 2 2 _ rfl (by simp) (.int .i64 B)).h2; have y2 := q2.cell 3 _ rfl; have yf2 := q2.free; clear q2
      have q3 := ((((F1.out.drew).set 2 1 _ rfl (by simp) (.int .i64 A)).set 2 2 _ rfl (by simp) (.int .i64 B)).set 2 3 _ rfl (by simp) (.int .i64 C)).h2; have y3 := q3.cell 4 _ rfl; have yf3 := q3.free; clear q3
      go_region_held3 (fun w' => w'.cell? ⟨w.heap.size + 1, 1, none⟩ = some (.int .i64 A) ∧ w'.cell? ⟨w.heap.size + 1, 2, none⟩ = some (.int .i64 B) ∧ w'.cell? ⟨w.heap.size + 1, 3, none⟩ = some (.int .i64 C) ∧ w'.cell? ⟨w.heap.size + 1, 4, none⟩ = some (.int .i64 O)) (((try dsimp only); (try go_split_ands); (repeat' apply And.intro); all_goals (repeat (first | with_reducible assumption | (with_reducible refine cell_set (by omega) ?_) | (with_reducible refine cell_drew ?_))))) (fail)
      go_wp2
      go_meet
      rw [HZ.out]
      exact FW.out
    · have HZ := Lib.hid (show zI 4 A B C O n M L = ⟨4, A, B, 0, 0, M⟩ by simp [zI])
      have FW := Lib.hid ((((F1.out.drew).set 2 1 _ rfl (by simp) (.int .i64 A)).set 2 2 _ rfl (by simp) (.int .i64 B)).set 2 5 _ rfl (by simp) (.int .i64 M))
      have hM2 := hM.symm
      have hM3 : IntKind.i64.wrap ((IntKind.u32.wrap n).tmod 1000) = M := by rw [IntKind.wrap_u32, Int.tmod_eq_emod_of_nonneg (by omega), Go.IntWalk.i64_in _ ⟨by omega, by omega⟩, hM2]
      clear hM hL
      go_wp2
      have q1 := ((F1.out.drew).set 2 1 _ rfl (by simp) (.int .i64 A)).h2; have y1 := q1.cell 2 _ rfl; have yf1 := q1.free; clear q1
      have q2 := (((F1.out.drew).set 2 1 _ rfl (by simp) (.int .i64 A)).set 2 2 _ rfl (by simp) (.int .i64 B)).h2; have y2 := q2.cell 5 _ rfl; have yf2 := q2.free; clear q2
      go_region_held3 (fun w' => w'.cell? ⟨w.heap.size + 1, 1, none⟩ = some (.int .i64 A) ∧ w'.cell? ⟨w.heap.size + 1, 2, none⟩ = some (.int .i64 B)) (((try dsimp only); (try go_split_ands); (repeat' apply And.intro); all_goals (repeat (first | with_reducible assumption | (with_reducible refine cell_set (by omega) ?_) | (with_reducible refine cell_drew ?_))))) (fail)
      go_wp2
      go_meet
      rw [HZ.out]
      exact FW.out
    · have HZ := Lib.hid (show zI 5 A B C O n M L = ⟨5, A, B, 0, 0, M⟩ by simp [zI])
      have FW := Lib.hid ((((F1.out.drew).set 2 1 _ rfl (by simp) (.int .i64 A)).set 2 2 _ rfl (by simp) (.int .i64 B)).set 2 5 _ rfl (by simp) (.int .i64 M))
      have hM2 := hM.symm
      have hM3 : IntKind.i64.wrap ((IntKind.u32.wrap n).tmod 1000) = M := by rw [IntKind.wrap_u32, Int.tmod_eq_emod_of_nonneg (by omega), Go.IntWalk.i64_in _ ⟨by omega, by omega⟩, hM2]
      clear hM hL
      go_wp2
      have q1 := ((F1.out.drew).set 2 1 _ rfl (by simp) (.int .i64 A)).h2; have y1 := q1.cell 2 _ rfl; have yf1 := q1.free; clear q1
      have q2 := (((F1.out.drew).set 2 1 _ rfl (by simp) (.int .i64 A)).set 2 2 _ rfl (by simp) (.int .i64 B)).h2; have y2 := q2.cell 5 _ rfl; have yf2 := q2.free; clear q2
      go_region_held3 (fun w' => w'.cell? ⟨w.heap.size + 1, 1, none⟩ = some (.int .i64 A) ∧ w'.cell? ⟨w.heap.size + 1, 2, none⟩ = some (.int .i64 B)) (((try dsimp only); (try go_split_ands); (repeat' apply And.intro); all_goals (repeat (first | with_reducible assumption | (with_reducible refine cell_set (by omega) ?_) | (with_reducible refine cell_drew ?_))))) (fail)
      go_wp2
      go_meet
      rw [HZ.out]
      exact FW.out
    · have HZ := Lib.hid (show zI 6 A B C O n M L = ⟨6, 0, 0, 0, 0, M⟩ by simp [zI])
      have FW := Lib.hid ((F1.out).set 2 5 _ rfl (by simp) (.int .i64 M))
      have hM2 := hM.symm
      clear hM hL
      go_wp2
      go_meet
      rw [HZ.out]
      exact FW.out
    · have HZ := Lib.hid (show zI 7 A B C O n M L = ⟨7, A, 0, 0, 0, M⟩ by simp [zI])
      have FW := Lib.hid (((F1.out).set 2 1 _ rfl (by simp) (.int .i64 A)).set 2 5 _ rfl (by simp) (.int .i64 M))
      have hM2 := hM.symm
      clear hM hL
      go_wp2
      go_meet
      rw [HZ.out]
      exact FW.out
    · have HZ := Lib.hid (show zI 8 A B C O n M L = ⟨8, 0, 0, 0, 0, L⟩ by simp [zI])
      have FW := Lib.hid ((F1.out).set 2 5 _ rfl (by simp) (.int .i64 L))
      have hL2 := hL.symm
      clear hM hL
      go_wp2
      go_meet
      rw [HZ.out]
      exact FW.out
    · have HZ := Lib.hid (show zI 9 A B C O n M L = ⟨9, 0, 0, 0, 0, L⟩ by simp [zI])
      have FW := Lib.hid ((F1.out).set 2 5 _ rfl (by simp) (.int .i64 L))
      have hL2 := hL.symm
      clear hM hL
      go_wp2
      go_meet
      rw [HZ.out]
      exact FW.out
    · have HZ := Lib.hid (show zI 10 A B C O n M L = ⟨10, 0, 0, 0, 0, 0⟩ by simp [zI])
      have FW := Lib.hid (F1.out)
      clear hM hL
      go_wp2
      go_meet
      rw [HZ.out]
      exact FW.out
  case rest =>
    obtain ⟨Z, hZ⟩ : ∃ Z, Z = zI K A B C O n M L := ⟨_, rfl⟩
    have ZC := Lib.hid (show 0 ≤ Z.c ∧ Z.c < 8 by rw [hZ]; exact zI_c C0)
    rw [← hZ] at hcut
    have HZ := Lib.hid hZ
    have FC := Lib.hid hcut
    clear hZ hcut a0 a1 a2 a3 a4 a5 z0 z1 z2 z3 z4 z5 zf zl
    have t0 := FC.out.h0; have t2 := FC.out.h2
    have z0 := t2.cell 0 _ rfl; have z1 := t2.cell 1 _ rfl; have z2 := t2.cell 2 _ rfl; have z3 := t2.cell 3 _ rfl; have z4 := t2.cell 4 _ rfl; have z5 := t2.cell 5 _ rfl; have zf := t2.free
    have r0 := t0.cell 0 _ rfl; have r1 := t0.cell 1 _ rfl; have r2 := t0.cell 2 _ rfl; have r3 := t0.cell 3 _ rfl; have r4 := t0.cell 4 _ rfl; have r5 := t0.cell 5 _ rfl; have rf := t0.free
    clear t0 t2
    have c0 := ZC.out.1
    have c1 := ZC.out.2
    by_cases h230 : 230 < k
    · have HR := Lib.hid (show ofI k a b c n = ⟨Z.k, Z.a, Z.b, Z.c + 1, Z.op, Z.imm⟩ by unfold ofI; rw [if_pos h230, HOB.out, HZ.out])
      go_wp2
      refine bodyPost_ret (v := IV ⟨Z.k, Z.a, Z.b, Z.c + 1, Z.op, Z.imm⟩) (by simp [results, Try.results19, go_sem, r0, r1, r2, r3, r4, r5]) rfl ⟨by rw [HR.out], ?_⟩
      repeat (first | with_reducible exact FC.out.below | (refine Below.setCell ?_ (by dsimp only; omega) _))
    · have HR := Lib.hid (show ofI k a b c n = Z by unfold ofI; rw [if_neg h230, HOB.out, HZ.out])
      go_wp2
      refine bodyPost_ret (v := IV Z) (by simp [results, Try.results19, go_sem, r0, r1, r2, r3, r4, r5]) rfl ⟨by rw [HR.out], ?_⟩
      repeat (first | with_reducible exact FC.out.below | (refine Below.setCell ?_ (by dsimp only; omega) _))

set_option maxHeartbeats 4000000 in
theorem sameints_any (K K' : Nat → Prop) (a a' : Option Addr) (n n' c c' : Nat) (xs ys : List Int) (w : World) (r : Ints K w a n c xs) (r' : Ints K' w a' n' c' ys) :
    Calls Try.prog 31 #[.slice a n c, .slice a' n' c'] w fun e w' => e = .returned (.bool (decide (xs = ys))) ∧ Below w.heap.size w w' := by
  have R := Lib.hid r; have R' := Lib.hid r'
  have hsz := r.hsz; have hsz' := r'.hsz
  have hl := r.hlen; have hl' := r'.hlen
  clear r r'
  go_enter Try.func31, Try.ntmps31
  by_cases hn : n = n'
  · subst hn
    go_wp2
    go_loopw [5] (fun i wr => ∃ k : Nat, k ≤ n ∧ i = .int .i64 k ∧ xs.take k = ys.take k ∧ Below w.heap.size w wr) (fun i _ => n - (intOf i).toNat)
    case atStart => exact ⟨0, Nat.zero_le _, rfl, rfl, Below.refl _ _⟩
    case round =>
      obtain ⟨k, hk, rfl, ht, hb⟩ := hrel
      have B := Lib.hid hb; have HT := Lib.hid ht
      clear hb ht
      by_cases hlt : k < n
      · obtain ⟨b1, o1, z, rfl, hz, c1, _, _, _, l1⟩ := Ints.get R.out hlt
        obtain ⟨b2, o2, z', rfl, hz', c2, _, _, _, l2⟩ := Ints.get R'.out hlt
        have d1 := (B.out.cell (p := ⟨b1, o1 + k, none⟩) l1).trans c1
        have d2 := (B.out.cell (p := ⟨b2, o2 + k, none⟩) l2).trans c2
        have HZ := Lib.hid hz; have HZ' := Lib.hid hz'
        clear c1 c2 hz hz'
        by_cases he : z = z'
        · subst he
          have HT2 := Lib.hid (show xs.take (k + 1) = ys.take (k + 1) by rw [List.take_add_one, List.take_add_one, HT.out, HZ.out, HZ'.out])
          go_wp2
          go_quiet (fail)
          go_wp2
          go_roundw
          case rel => exact ⟨k + 1, by omega, by go_num, HT2.out, below_drewN B.out nq⟩
          case measure => simp [intOf]; omega
        · have HF := Lib.hid (show decide (xs = ys) = false from decide_eq_false (fun e => he (by have h1 := HZ.out; have h2 := HZ'.out; rw [e, h2] at h1; exact (Option.some.inj h1).symm)))
          have he' : (z != z') = true := by simpa using he
          go_wp2
          go_quiet (fail)
          go_wp2
          go_ret
          exact ⟨ret_b HF.out.symm, below_drewN B.out nq⟩
      · have e1 : xs.take k = xs := List.take_of_length_le (by omega)
        have e2 : ys.take k = ys := List.take_of_length_le (by omega)
        have HE := Lib.hid (show decide (xs = ys) = true from decide_eq_true (by rw [← e1, ← e2]; exact HT.out))
        clear e1 e2
        go_wp2
        go_ret
        exact ⟨ret_b HE.out.symm, B.out⟩
  · have HF := Lib.hid (show decide (xs = ys) = false from decide_eq_false (fun e => hn (by rw [← hl, ← hl', e])))
    go_wp2
    go_ret
    exact ⟨ret_b HF.out.symm, Below.refl _ _⟩

def cAt (c : List Ins) (i : Nat) : Ins := c.getD i ⟨0, 0, 0, 0, 0, 0⟩
theorem cAt_of {c : List Ins} {i : Nat} {x : Ins} (h : c[i]? = some x) : cAt c i = x := by unfold cAt; rw [List.getD_eq_getElem?_getD, h]; rfl
def isMem (x : Ins) : Prop := x.k = 4 ∨ x.k = 5
def isBr (x : Ins) : Prop := x.k = 6 ∨ x.k = 7 ∨ x.k = 10
instance (x : Ins) : Decidable (isMem x) := inferInstanceAs (Decidable (_ ∨ _))
instance (x : Ins) : Decidable (isBr x) := inferInstanceAs (Decidable (_ ∨ _ ∨ _))
/-- The loads and stores of the first j instructions from f on. -/
def wantP (c : List Ins) (f : Nat) : Nat → List Int
  | 0 => []
  | j + 1 => wantP c f j ++ (if isMem (cAt c (f + j)) then [((f + j : Nat) : Int)] else [])
/-- Of the first j of n instructions from f on, none but the last of all is a branch. -/
def NoBr (c : List Ins) (f n j : Nat) : Prop := ∀ i, i < j → i + 1 = n ∨ ¬ isBr (cAt c (f + i))
def AccOk (D : Int) (ws : List Int) (acc : List Acc) (j : Nat) : Prop := ∀ i a p, i < j → acc[i]? = some a → ws[i]? = some p → a.at_ = p ∧ 0 ≤ a.lo ∧ a.lo ≤ a.hi ∧ a.hi < D
def nextI (c : List Ins) (l : List Nd) (f n k : Nat) : List Int :=
  let x := cAt c (f + n - 1)
  if x.k = 10 then [] else if x.k = 6 then [atI l x.imm] else if x.k = 7 then [((k + 1 : Nat) : Int), atI l x.imm] else [((k + 1 : Nat) : Int)]
structure NodeOk (c : List Ins) (D : Int) (l : List Nd) (k f n : Nat) (x : Nd) : Prop where
  br : NoBr c f n n
  len : (wantP c f n).length = x.acc.length
  acc : AccOk D (wantP c f n) x.acc x.acc.length
  next : x.next = nextI c l f n k
  all : allI (nextI c l f n k) (l.length : Int) = true
theorem wantP_len (c : List Ins) (f j : Nat) : (wantP c f j).length ≤ j := by
  induction j with
  | zero => simp [wantP]
  | succ j ih => simp only [wantP, List.length_append]; split <;> simp <;> omega
theorem wantP_range (c : List Ins) (f j : Nat) : ∀ z ∈ wantP c f j, 0 ≤ z ∧ z < ((f + j : Nat) : Int) := by
  induction j with
  | zero => intro z hz; simp [wantP] at hz
  | succ j ih =>
    intro z hz
    simp only [wantP, List.mem_append] at hz
    rcases hz with h | h
    · have := ih z h; omega
    · split at h
      · simp at h; omega
      · simp at h
theorem noBr_succ {c : List Ins} {f n j : Nat} (h : NoBr c f n j) (h2 : j + 1 = n ∨ ¬ isBr (cAt c (f + j))) : NoBr c f n (j + 1) := fun i hi => by
  by_cases e : i = j
  · subst e; exact h2
  · exact h i (by omega)
/-- Accesses as cells. -/
def acs (l : List Int) : List Value := l.flatMap fun i => [.int .i64 i, .int .i64 0, .int .i64 0]
theorem acs_append (l m : List Int) : acs (l ++ m) = acs l ++ acs m := by unfold acs; rw [List.flatMap_append]
theorem acs_one {l : List Int} : ∀ v ∈ acs l, v.oneCell' = true := fun v h => by
  obtain ⟨x, _, hx⟩ := List.mem_flatMap.1 h
  simp at hx
  rcases hx with rfl | rfl <;> rfl
theorem acs_length (l : List Int) : (acs l).length = l.length * 3 := by
  induction l with
  | nil => rfl
  | cons x l ih => unfold acs at ih ⊢; rw [List.flatMap_cons, List.length_append, ih]; simp; omega
theorem acs_get : ∀ {l : List Int} {i : Nat} {z : Int}, l[i]? = some z → (acs l)[i * 3]? = some (.int .i64 z)
  | [], i, z, h => by simp at h
  | y :: l, 0, z, h => by simp at h; subst h; rfl
  | y :: l, i + 1, z, h => by
    have ih := acs_get (l := l) (i := i) (z := z) (by simpa using h)
    unfold acs at ih ⊢
    rw [List.flatMap_cons, List.getElem?_append_right (by simp; omega)]
    rw [show (i + 1) * 3 - [Value.int .i64 y, .int .i64 0, .int .i64 0].length = i * 3 by simp; omega]
    exact ih
theorem info_acc : (Try.prog.info? 89).map (fun i => (i.zero, i.size, i.bytes)) = some (some (.agg #[.int .i64 0, .int .i64 0, .int .i64 0]), 3, 24) := by kernel_rfl

/-- The nodes follow one another from the instruction e on, each of one instruction or more, within the code. -/
def Chain (cn : Nat) : Int → List Nd → Prop
  | _, [] => True
  | e, x :: l => x.first = e ∧ 1 ≤ x.cnt ∧ x.cnt ≤ (cn : Int) - e ∧ Chain cn (e + x.cnt) l
def endOf (e : Int) (l : List Nd) : Int := e + (l.map (·.cnt)).sum
theorem endOf_nil (e : Int) : endOf e [] = e := by simp [endOf]
theorem endOf_cons (e : Int) (x : Nd) (l : List Nd) : endOf e (x :: l) = endOf (e + x.cnt) l := by unfold endOf; rw [List.map_cons, List.sum_cons]; omega
theorem endOf_app (e : Int) (l m : List Nd) : endOf e (l ++ m) = endOf (endOf e l) m := by
  induction l generalizing e with
  | nil => rw [List.nil_append, endOf_nil]
  | cons x l ih => rw [List.cons_append, endOf_cons, endOf_cons, ih]
theorem chain_app {cn : Nat} {e : Int} {l m : List Nd} : Chain cn e (l ++ m) ↔ Chain cn e l ∧ Chain cn (endOf e l) m := by
  induction l generalizing e with
  | nil => rw [endOf_nil]; simp [Chain]
  | cons x l ih =>
    rw [List.cons_append, endOf_cons]
    simp only [Chain, ih, and_assoc]
theorem chain_ge {cn : Nat} {e : Int} {l : List Nd} (h : Chain cn e l) : e ≤ endOf e l := by
  induction l generalizing e with
  | nil => rw [endOf_nil]; exact Int.le_refl _
  | cons x l ih => rw [endOf_cons]; have := ih h.2.2.2; have := h.2.1; omega
theorem chain_le {cn : Nat} {e : Int} {l : List Nd} (h : Chain cn e l) (he : e ≤ cn) : endOf e l ≤ cn := by
  induction l generalizing e with
  | nil => rw [endOf_nil]; exact he
  | cons x l ih => rw [endOf_cons]; exact ih h.2.2.2 (by have := h.2.2.1; omega)
def isEnd (c : List Ins) (x : Nd) : Bool := (cAt c ((x.first + x.cnt).toNat - 1)).k == 10
def endsN (c : List Ins) (l : List Nd) : Int := ((l.filter (isEnd c)).length : Int)
/-- A unit whose nodes begin at e is right. -/
structure UnitOk (c : List Ins) (D : Int) (e : Int) (l : List Nd) : Prop where
  ne : l ≠ []
  len : l.length ≤ 1024
  chain : Chain c.length e l
  nodes : ∀ k x, l[k]? = some x → NodeOk c D l k x.first.toNat x.cnt.toNat x
  ends : endsN c l = 1
def UnitsOk (c : List Ins) (D : Int) : Int → List (List Nd) → Prop
  | e, [] => e = c.length
  | e, u :: us => UnitOk c D e u ∧ UnitsOk c D (endOf e u) us
def Limit (m : Img) : Prop := 1024 < m.code.length ∨ 1024 < m.data ∨ 6 < m.units.length
/-- What Check gives. -/
inductive ChkIs (m : Img) : Int → Prop
  | limit (h : Limit m) : ChkIs m 4
  | code (h : ¬ Limit m) (x : Ins) (hb : bad m.code = some x) : ChkIs m (chkI x)
  | neg (h : ¬ Limit m) (hb : Good m.code) (hd : m.data < 0) : ChkIs m 10
  | no (h : ¬ Limit m) (hb : Good m.code) (hd : ¬ m.data < 0) (hu : ¬ UnitsOk m.code m.data 0 m.units) : ChkIs m 10
  | ok (h : ¬ Limit m) (hb : Good m.code) (hd : ¬ m.data < 0) (hu : UnitsOk m.code m.data 0 m.units) : ChkIs m 0
theorem ChkIs.same {m : Img} {r q : Int} (h : ChkIs m r) (k : ChkIs m q) : r = q := by
  cases h with
  | limit h => cases k with
    | limit => rfl
    | code k => exact absurd h k
    | neg k => exact absurd h k
    | no k => exact absurd h k
    | ok k => exact absurd h k
  | code h x hb => cases k with
    | limit k => exact absurd k h
    | code _ y kb => rw [hb] at kb; cases kb; rfl
    | neg _ kb => rw [bad_none kb] at hb; cases hb
    | no _ kb => rw [bad_none kb] at hb; cases hb
    | ok _ kb => rw [bad_none kb] at hb; cases hb
  | neg h hb hd => cases k with
    | limit k => exact absurd k h
    | code _ y kb => rw [bad_none hb] at kb; cases kb
    | neg => rfl
    | no => rfl
    | ok _ _ kd => exact absurd hd kd
  | no h hb hd hu => cases k with
    | limit k => exact absurd k h
    | code _ y kb => rw [bad_none hb] at kb; cases kb
    | neg => rfl
    | no => rfl
    | ok _ _ _ ku => exact absurd ku hu
  | ok h hb hd hu => cases k with
    | limit k => exact absurd k h
    | code _ y kb => rw [bad_none hb] at kb; cases kb
    | neg _ _ kd => exact absurd kd hd
    | no _ _ _ ku => exact absurd hu ku
    | ok => rfl
/-- The first j units are right, and end at e. -/
def UPre (c : List Ins) (D : Int) (us : List (List Nd)) (j : Nat) (e : Int) : Prop := (UnitsOk c D 0 us ↔ UnitsOk c D e (us.drop j))
theorem upre_zero (c : List Ins) (D : Int) (us : List (List Nd)) : UPre c D us 0 0 := by unfold UPre; rw [List.drop_zero]
theorem upre_next {c : List Ins} {D : Int} {us : List (List Nd)} {j : Nat} {e : Int} {u : List Nd} (h : UPre c D us j e) (hu : us[j]? = some u) (ho : UnitOk c D e u) : UPre c D us (j + 1) (endOf e u) := by
  unfold UPre at h ⊢
  obtain ⟨hj, hg⟩ := List.getElem?_eq_some_iff.1 hu
  rw [h, List.drop_eq_getElem_cons hj, hg]
  exact ⟨fun k => k.2, fun k => ⟨ho, k⟩⟩
theorem upre_no {c : List Ins} {D : Int} {us : List (List Nd)} {j : Nat} {e : Int} {u : List Nd} (h : UPre c D us j e) (hu : us[j]? = some u) (ho : ¬ UnitOk c D e u) : ¬ UnitsOk c D 0 us := by
  unfold UPre at h
  obtain ⟨hj, hg⟩ := List.getElem?_eq_some_iff.1 hu
  rw [h, List.drop_eq_getElem_cons hj, hg]
  exact fun k => ho k.1
theorem upre_end {c : List Ins} {D : Int} {us : List (List Nd)} {j : Nat} {e : Int} (h : UPre c D us j e) (hj : us.length ≤ j) : UnitsOk c D 0 us ↔ e = c.length := by
  unfold UPre at h
  rw [h, List.drop_eq_nil_of_le hj]
  exact Iff.rfl
def ChkMRet (m : Img) (w : World) (e : Ending) (w' : World) : Prop := ∃ r, e = .returned (.int .i64 r) ∧ ChkIs m r ∧ Below w.heap.size w w'

structure Co where
  regs : List Int
  data : List Int
  held : List Bool
  pc : Int
  ended : Bool
def RBo : Rd Bool := fun _ w b o z => w.cell? ⟨b, o, none⟩ = some (.bool z)
theorem RBo.stays : Stays RBo := fun _ _ _ _ _ _ h _ hK hr => cell_stays h hK hr
abbrev Bools := Row RBo 1
structure IsCo (K : Nat → Prop) (w : World) (ra : Option Addr) (rn rc : Nat) (da : Option Addr) (dn dc : Nat) (ha : Option Addr) (hn hc : Nat) (c : Co) : Prop where
  regs : Ints K w ra rn rc c.regs
  data : Ints K w da dn dc c.data
  held : Bools K w ha hn hc c.held
  pc : I64 c.pc
abbrev CoV (ra : Option Addr) (rn rc : Nat) (da : Option Addr) (dn dc : Nat) (ha : Option Addr) (hn hc : Nat) (pc : Int) (en : Bool) : Value := .agg #[.slice ra rn rc, .slice da dn dc, .slice ha hn hc, .int .i64 pc, .bool en]
abbrev CoCells (ra : Option Addr) (rn rc : Nat) (da : Option Addr) (dn dc : Nat) (ha : Option Addr) (hn hc : Nat) (pc : Int) (en : Bool) : List Value := [.slice ra rn rc, .slice da dn dc, .slice ha hn hc, .int .i64 pc, .bool en]
theorem IsCo.below {K : Nat → Prop} {w w' : World} {ra : Option Addr} {rn rc : Nat} {da : Option Addr} {dn dc : Nat} {ha : Option Addr} {hn hc : Nat} {c : Co} (h : IsCo K w ra rn rc da dn dc ha hn hc c) (hb : Below w.heap.size w w') : IsCo K w' ra rn rc da dn dc ha hn hc c :=
  ⟨Ints.below h.regs hb, Ints.below h.data hb, Row.below RBo.stays h.held hb, h.pc⟩
def wds (l : List Int) : Bool := l.all wordB
theorem wds_no {l : List Int} {k : Nat} {z : Int} (h : l[k]? = some z) (hz : wordB z = false) : wds l = false := by
  unfold wds
  rw [List.all_eq_false]
  exact ⟨z, List.mem_of_getElem? h, by simp [hz]⟩
theorem wds_take {l : List Int} {k : Nat} {z : Int} (h : l[k]? = some z) (hk : wds (l.take k) = true) (hz : wordB z = true) : wds (l.take (k + 1)) = true := by
  unfold wds at hk ⊢
  rw [List.take_add_one, h, List.all_append, hk]
  simp [hz]
theorem wds_get {l : List Int} (h : wds l = true) {k : Nat} {z : Int} (hz : l[k]? = some z) : Wd z := by
  unfold wds at h
  have := List.all_eq_true.1 h z (List.mem_of_getElem? hz)
  simp [wordB] at this
  exact this
set_option maxHeartbeats 4000000 in
theorem rwords_any (K : Nat → Prop) (a : Option Addr) (len cap : Nat) (l : List Int) (w : World) (r : Ints K w a len cap l) : Calls Try.prog 44 #[.slice a len cap] w fun e w' => e = .returned (.bool (wds l)) ∧ w' = w := by
  have R := Lib.hid r
  have hsz := r.hsz
  have hll := r.hlen
  clear r
  go_enter Try.func44, Try.ntmps44
  go_wp2
  go_loopw [3] (fun i wr => ∃ k : Nat, k ≤ len ∧ i = .int .i64 k ∧ wds (l.take k) = true ∧ w = wr) (fun i _ => len - (intOf i).toNat)
  case atStart => exact ⟨0, Nat.zero_le _, rfl, rfl, rfl⟩
  case round =>
    obtain ⟨k, hk, rfl, ha, hw⟩ := hrel
    subst hw
    have HA := Lib.hid ha
    clear ha
    by_cases hlt : k < len
    · obtain ⟨b, o, z, rfl, hz, hc, _, _, _, _⟩ := Ints.get R.out hlt
      have HZ := Lib.hid hz
      clear hz
      go_wp2_with fail
      refine (word_any z _).mono ?_
      rintro e w' ⟨rfl, hw'⟩
      subst hw'
      cases hin : wordB z with
      | true =>
        have HI := Lib.hid (wds_take HZ.out HA.out hin)
        go_wp2
        go_roundw
        case rel => exact ⟨k + 1, by omega, by go_num, HI.out, trivial⟩
        case measure => simp [intOf]; omega
      | false =>
        have HI := Lib.hid (wds_no HZ.out hin)
        go_wp2
        go_ret
        exact ⟨ret_b HI.out.symm, rfl⟩
    · have hkk : l.take k = l := List.take_of_length_le (by omega)
      rw [hkk] at HA
      go_wp2
      go_ret
      exact ⟨ret_b HA.out.symm, rfl⟩
/-- A right core of an image. -/
structure CoOk (m : Img) (c : Co) : Prop where
  regs : c.regs.length = 8
  words : wds c.regs = true
  zero : c.regs[0]? = some 0
  data : (c.data.length : Int) = m.data
  dwords : wds c.data = true
  held : c.held.length = 4
  pc0 : 0 ≤ c.pc
  pc1 : c.pc < m.code.length
def ORet (P : Prop) (w : World) (e : Ending) (w' : World) : Prop := ∃ b, e = .returned (.bool b) ∧ (b = true ↔ P) ∧ Below w.heap.size w w'
set_option maxRecDepth 100000 in
set_option maxHeartbeats 8000000 in
theorem rvalid_any (K K2 : Nat → Prop) (ca : Option Addr) (cn cc : Nat) (D : Int) (ua : Option Addr) (un uc : Nat) (m : Img) (ra : Option Addr) (rn rc : Nat) (da : Option Addr) (dn dc : Nat) (ha : Option Addr) (hn hc : Nat) (c : Co) (w : World)
    (h : IsImg K w ca cn cc D ua un uc m) (g : IsCo K2 w ra rn rc da dn dc ha hn hc c) :
    Calls Try.prog 18 #[MV ca cn cc D ua un uc, CoV ra rn rc da dn dc ha hn hc c.pc c.ended] w (ORet (CoOk m c) w) := by
  obtain ⟨regs, data, held, pc, en⟩ := c
  have hcl := h.code.hlen; have hcs := h.code.hsz
  have hD := h.data
  have hrl := g.regs.hlen; have hrs := g.regs.hsz
  have hdl := g.data.hlen; have hds := g.data.hsz
  have hhl := g.held.hlen; have hhs := g.held.hsz
  have hpc := g.pc
  have hDI := h.dI
  rw [← hD] at hDI
  have hDI0 := hDI.1; have hDI1 := hDI.2
  have hpc0 := hpc.1; have hpc1 := hpc.2
  have HD := Lib.hid hD
  simp only [] at hrl hdl hhl hpc0 hpc1
  have F0 := Lib.hid (Fm.new (Fm.new (Fm.start Non w) rfl (MCells ca cn cc D ua un uc) 31) (by simp) (CoCells ra rn rc da dn dc ha hn hc pc en) 36)
  have G := Lib.hid (g.below F0.out.below)
  clear h g hD hpc hDI
  go_enter Try.func18, Try.ntmps18
  obtain ⟨w1, hw1⟩ : ∃ w1, w1 = (w.alloc (.cells (MCells ca cn cc D ua un uc).toArray 31)).alloc (.cells (CoCells ra rn rc da dn dc ha hn hc pc en).toArray 36) := ⟨_, rfl⟩
  have F1 := Lib.hid (show Fm Non w w1 [MCells ca cn cc D ua un uc, CoCells ra rn rc da dn dc ha hn hc pc en] by rw [hw1]; exact F0.out)
  have G1 := Lib.hid (show IsCo K2 w1 ra rn rc da dn dc ha hn hc ⟨regs, data, held, pc, en⟩ by rw [hw1]; exact G.out)
  go_upto_region 1 with fail
  have hw2 : (w.alloc (.cells #[.slice ca cn cc, .int .i64 D, NIL, .slice ua un uc] 31)).alloc (.cells #[.slice ra rn rc, .slice da dn dc, .slice ha hn hc, .int .i64 pc, .bool en] 36) = w1 := hw1.symm
  rw [hw2]
  clear hw1 hw2 F0 G
  have t0 := F1.out.h0; have t1 := F1.out.h1
  have m0 := t0.cell 0 _ rfl; have m1 := t0.cell 1 _ rfl
  have x0 := t1.cell 0 _ rfl; have x1 := t1.cell 1 _ rfl; have x2 := t1.cell 2 _ rfl; have x3 := t1.cell 3 _ rfl
  clear t0 t1
  obtain ⟨br, hbr⟩ : ∃ b, b = wds regs := ⟨_, rfl⟩
  obtain ⟨bd, hbd⟩ : ∃ b, b = wds data := ⟨_, rfl⟩
  have RW := Lib.hid (show Calls Try.prog 44 #[.slice ra rn rc] w1 fun e w' => e = .returned (.bool br) ∧ w' = w1 by rw [hbr]; exact rwords_any K2 ra rn rc regs w1 G1.out.regs)
  have DW := Lib.hid (show Calls Try.prog 44 #[.slice da dn dc] w1 fun e w' => e = .returned (.bool bd) ∧ w' = w1 by rw [hbd]; exact rwords_any K2 da dn dc data w1 G1.out.data)
  have HBR := Lib.hid hbr; have HBD := Lib.hid hbd
  clear hbr hbd
  by_cases d1 : rn = 8
  · subst d1
    cases br with
    | true =>
      obtain ⟨rb, ro, z, hra, hz, c0, _, _, _, _⟩ := Ints.get G1.out.regs (show 0 < 8 by omega)
      subst hra
      rw [Nat.add_zero] at c0
      have HZ := Lib.hid hz
      clear hz
      by_cases d2 : z = 0
      · subst d2
        by_cases d3 : (dn : Int) = D
        · have e3 : ((dn : Int) == D) = true := by simpa using d3
          have D3 := Lib.hid d3
          clear d3
          cases bd with
          | true =>
            by_cases d4 : hn = 4
            · subst d4
              by_cases d5 : 0 ≤ pc
              · by_cases d6 : pc < cn
                · have HY := Lib.hid (show CoOk m ⟨regs, data, held, pc, en⟩ from ⟨hrl, HBR.out.symm, HZ.out, by rw [← HD.out, ← D3.out, hdl], HBD.out.symm, hhl, d5, by rw [hcl]; exact d6⟩)
                  go_wp2_with (first | (go_at_call 44; first | (with_reducible refine RW.out.mono ?_; rintro e w' ⟨rfl, hw'⟩; subst hw') | (with_reducible refine DW.out.mono ?_; rintro e w' ⟨rfl, hw'⟩; subst hw')))
                  go_ret
                  exact ⟨true, rfl, ⟨(fun _ => HY.out), (fun _ => rfl)⟩, F1.out.below⟩
                · have HNO := Lib.hid (show ¬ CoOk m ⟨regs, data, held, pc, en⟩ from fun h => d6 (by have := h.pc1; rw [hcl] at this; exact this))
                  go_wp2_with (first | (go_at_call 44; first | (with_reducible refine RW.out.mono ?_; rintro e w' ⟨rfl, hw'⟩; subst hw') | (with_reducible refine DW.out.mono ?_; rintro e w' ⟨rfl, hw'⟩; subst hw')))
                  go_ret
                  exact ⟨decide (pc < (cn : Int)), rfl, ⟨(fun h => absurd (of_decide_eq_true h) (by omega)), (fun h => absurd h HNO.out)⟩, F1.out.below⟩
              · have HNO := Lib.hid (show ¬ CoOk m ⟨regs, data, held, pc, en⟩ from fun h => d5 h.pc0)
                go_wp2_with (first | (go_at_call 44; first | (with_reducible refine RW.out.mono ?_; rintro e w' ⟨rfl, hw'⟩; subst hw') | (with_reducible refine DW.out.mono ?_; rintro e w' ⟨rfl, hw'⟩; subst hw')))
                go_ret
                exact ⟨false, rfl, ⟨(fun h => by cases h), (fun h => absurd h HNO.out)⟩, F1.out.below⟩
            · have e4 : ((hn : Int) == 4) = false := by simp; omega
              have HNO := Lib.hid (show ¬ CoOk m ⟨regs, data, held, pc, en⟩ from fun h => d4 (by rw [← hhl]; exact h.held))
              go_wp2_with (first | (go_at_call 44; first | (with_reducible refine RW.out.mono ?_; rintro e w' ⟨rfl, hw'⟩; subst hw') | (with_reducible refine DW.out.mono ?_; rintro e w' ⟨rfl, hw'⟩; subst hw')))
              go_ret
              exact ⟨false, rfl, ⟨(fun h => by cases h), (fun h => absurd h HNO.out)⟩, F1.out.below⟩
          | false =>
            have HNO := Lib.hid (show ¬ CoOk m ⟨regs, data, held, pc, en⟩ from fun h => by have := HBD.out; rw [h.dwords] at this; cases this)
            go_wp2_with (first | (go_at_call 44; first | (with_reducible refine RW.out.mono ?_; rintro e w' ⟨rfl, hw'⟩; subst hw') | (with_reducible refine DW.out.mono ?_; rintro e w' ⟨rfl, hw'⟩; subst hw')))
            go_ret
            exact ⟨false, rfl, ⟨(fun h => by cases h), (fun h => absurd h HNO.out)⟩, F1.out.below⟩
        · have e3 : ((dn : Int) == D) = false := by simpa using d3
          have HNO := Lib.hid (show ¬ CoOk m ⟨regs, data, held, pc, en⟩ from fun h => d3 (by have := h.data; rw [← HD.out] at this; rw [← this, ← hdl]))
          go_wp2_with (first | (go_at_call 44; first | (with_reducible refine RW.out.mono ?_; rintro e w' ⟨rfl, hw'⟩; subst hw') | (with_reducible refine DW.out.mono ?_; rintro e w' ⟨rfl, hw'⟩; subst hw')))
          go_ret
          exact ⟨false, rfl, ⟨(fun h => by cases h), (fun h => absurd h HNO.out)⟩, F1.out.below⟩
      · have e2 : (z == 0) = false := by simpa using d2
        have HNO := Lib.hid (show ¬ CoOk m ⟨regs, data, held, pc, en⟩ from fun h => d2 (by have := h.zero; rw [HZ.out] at this; exact Option.some.inj this))
        go_wp2_with (first | (go_at_call 44; first | (with_reducible refine RW.out.mono ?_; rintro e w' ⟨rfl, hw'⟩; subst hw') | (with_reducible refine DW.out.mono ?_; rintro e w' ⟨rfl, hw'⟩; subst hw')))
        go_ret
        exact ⟨false, rfl, ⟨(fun h => by cases h), (fun h => absurd h HNO.out)⟩, F1.out.below⟩
    | false =>
      have HNO := Lib.hid (show ¬ CoOk m ⟨regs, data, held, pc, en⟩ from fun h => by have := HBR.out; rw [h.words] at this; cases this)
      go_wp2_with (first | (go_at_call 44; first | (with_reducible refine RW.out.mono ?_; rintro e w' ⟨rfl, hw'⟩; subst hw') | (with_reducible refine DW.out.mono ?_; rintro e w' ⟨rfl, hw'⟩; subst hw')))
      go_ret
      exact ⟨false, rfl, ⟨(fun h => by cases h), (fun h => absurd h HNO.out)⟩, F1.out.below⟩
  · have e1 : ((rn : Int) == 8) = false := by simp; omega
    have HNO := Lib.hid (show ¬ CoOk m ⟨regs, data, held, pc, en⟩ from fun h => d1 (by rw [← hrl]; exact h.regs))
    go_wp2_with (first | (go_at_call 44; first | (with_reducible refine RW.out.mono ?_; rintro e w' ⟨rfl, hw'⟩; subst hw') | (with_reducible refine DW.out.mono ?_; rintro e w' ⟨rfl, hw'⟩; subst hw')))
    go_ret
    exact ⟨false, rfl, ⟨(fun h => by cases h), (fun h => absurd h HNO.out)⟩, F1.out.below⟩
end Go.Proofs.Ytonbmijhbbodnaa
