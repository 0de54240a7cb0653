/-
  Two instructions compared.
-/
import Derived.Test.YtonbmijhbbodnaaInA
namespace Go.Proofs.Ytonbmijhbbodnaa
open Go.RowKit

def eqI (x y : Ins) : Bool := x.k == y.k && x.a == y.a && x.b == y.b && x.c == y.c && x.op == y.op && x.imm == y.imm
theorem eqI_iff (x y : Ins) : eqI x y = decide (x = y) := by
  obtain ⟨k, a, b, c, o, i⟩ := x; obtain ⟨k', a', b', c', o', i'⟩ := y
  simp only [eqI, Ins.mk.injEq, Bool.decide_and, Bool.and_assoc]
  rfl
@[go_sem high] theorem ins_eq (k a b c o i k' a' b' c' o' i' : Int) (w : World) : (Op.equalIn 10000 50 (.agg #[.int .i64 k, .int .i64 a, .int .i64 b, .int .i64 c, .int .i64 o, .int .i64 i]) (.agg #[.int .i64 k', .int .i64 a', .int .i64 b', .int .i64 c', .int .i64 o', .int .i64 i'])).run Try.prog w = .ok (eqI ⟨k, a, b, c, o, i⟩ ⟨k', a', b', c', o', i'⟩) w := by
  have u3 := Try.underlying3
  have a3 := Try.isAgg3
  have z3 := Try.sizeOf3
  have hS : Try.prog.underlying 50 = some (.struct (Try.prog.fieldsOf 50)) := by kernel_rfl
  rw [show (10000 : Nat) = 9999 + 1 from rfl, run_equalIn_agg w 9999 50 _ _ hS (by kernel_rfl)]
  simp only [Program.fieldsOf, Try.underlying50]
  go_simp
  unfold eqI
  by_cases h0 : k = k'
  · by_cases h1 : a = a'
    · by_cases h2 : b = b'
      · by_cases h3 : c = c'
        · by_cases h4 : o = o'
          · by_cases h5 : i = i'
            · simp [h0, h1, h2, h3, h4, h5]
            · simp [h0, h1, h2, h3, h4, h5]
          · simp [h0, h1, h2, h3, h4]
        · simp [h0, h1, h2, h3]
      · simp [h0, h1, h2]
    · simp [h0, h1]
  · simp [h0]
end Go.Proofs.Ytonbmijhbbodnaa
