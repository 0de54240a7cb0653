/-
  InstrReads: for every input the law's function returns true, and each argument reads afterwards as it read before. No condition.
-/
import Derived.Test.YtonbmijhbbodnaaRows
import Derived.ProofKit
import Derived.OpenShut
import Derived.ShutString
import Derived.ChangeOld
import Derived.Below
import Derived.Test.YtonbmijhbbodnaaArrO
import Derived.Test.YtonbmijhbbodnaaLawInReads
namespace Go.Proofs.Ytonbmijhbbodnaa.instrReads
open Go.ChangeShapes Go.WideShapes Go.ChangeAt Go.RowKit
open Go.ChangeMaps (open_string shut_string)

theorem own : ownKnob Try.prog.godebug = none := by kernel_rfl
theorem laidOut : laidOutB Try.prog = true := by kernel_rfl

set_option maxRecDepth 100000 in
theorem lifted (os : Os) (started : os.Started) (H : Type) (enc : TypeId × Value → H) :
    ReturnsInHanded {} Try.checked os 7 .any (Rows.instrReadsSpec.pre6 enc Try.prog Try.f7 Rows.instrReadsRow.domain false) (Rows.instrReadsSpec.post enc Try.prog Try.f7 false true false false) := by
  refine returnsInHanded_of_change (C := Try.checked) own started (by kernel_rfl) Try.func7
    (ChangeSpec.witness6 (enc := enc) (C := Try.checked) false ⟨#[], #[.int .u8 0, .int .u8 0, .int .u8 0, .int .u8 0, .int .i32 0, .agg #[.int .i32 0, .int .i32 0, .int .i32 0, .int .i32 0, .int .i32 0, .int .i32 0, .int .i32 0, .int .i32 0], .int .u8 0, .int .i32 0], []⟩ 8 (by kernel_rfl) (by kernel_rfl) (by kernel_rfl) (by kernel_rfl)) ?_
  intro W base args ds gs before hval0 hW hcnd _
  have hval : ∀ (j : Nat) t v, Try.f7.params[j]? = some t → args[j]? = some v → Value.okWide Try.prog W .any base t v := hval0
  have hW' := hW
  obtain ⟨p, q, hA0, hV, rfl, hfz, hnd⟩ := hW
  have hA : DataW.TrodAll enc Try.prog W 0 (fun _ => true) true Try.f7.params.toList args.toList ds p := hA0
  rw [Try.params7] at hA hval
  obtain ⟨v0, vs0, d0, ds0, p0, q0, hargs, rfl, rfl, h0, r0⟩ := trodAll_cons hA
  obtain ⟨v1, vs1, d1, ds1, p1, q1, rfl, rfl, rfl, h1, r1⟩ := trodAll_cons r0
  obtain ⟨v2, vs2, d2, ds2, p2, q2, rfl, rfl, rfl, h2, r2⟩ := trodAll_cons r1
  obtain ⟨v3, vs3, d3, ds3, p3, q3, rfl, rfl, rfl, h3, r3⟩ := trodAll_cons r2
  obtain ⟨v4, vs4, d4, ds4, p4, q4, rfl, rfl, rfl, h4, r4⟩ := trodAll_cons r3
  obtain ⟨v5, vs5, d5, ds5, p5, q5, rfl, rfl, rfl, h5, r5⟩ := trodAll_cons r4
  obtain ⟨v6, vs6, d6, ds6, p6, q6, rfl, rfl, rfl, h6, r6⟩ := trodAll_cons r5
  obtain ⟨v7, vs7, d7, ds7, p7, q7, rfl, rfl, rfl, h7, r7⟩ := trodAll_cons r6
  obtain ⟨rfl, rfl, rfl⟩ := trodAll_nil r7
  obtain rfl : args = #[v0, v1, v2, v3, v4, v5, v6, v7] := by cases args; simp_all
  obtain ⟨rfl, rfl⟩ := trodVars_none hV
  have k0 := h0
  have lt0 : ∀ x ∈ p0, x.block < W.heap.size := by obtain ⟨m, hm⟩ := k0; exact DataW.trod_lt m _ _ _ hm
  obtain ⟨a0, rfl, rfl, rfl, w0⟩ := open_int Try.underlying5 (hval 0 5 v0 rfl rfl) h0
  have k1 := h1
  have lt1 : ∀ x ∈ p1, x.block < W.heap.size := by obtain ⟨m, hm⟩ := k1; exact DataW.trod_lt m _ _ _ hm
  obtain ⟨a1, rfl, rfl, rfl, w1⟩ := open_int Try.underlying5 (hval 1 5 v1 rfl rfl) h1
  have k2 := h2
  have lt2 : ∀ x ∈ p2, x.block < W.heap.size := by obtain ⟨m, hm⟩ := k2; exact DataW.trod_lt m _ _ _ hm
  obtain ⟨a2, rfl, rfl, rfl, w2⟩ := open_int Try.underlying5 (hval 2 5 v2 rfl rfl) h2
  have k3 := h3
  have lt3 : ∀ x ∈ p3, x.block < W.heap.size := by obtain ⟨m, hm⟩ := k3; exact DataW.trod_lt m _ _ _ hm
  obtain ⟨a3, rfl, rfl, rfl, w3⟩ := open_int Try.underlying5 (hval 3 5 v3 rfl rfl) h3
  have k4 := h4
  have lt4 : ∀ x ∈ p4, x.block < W.heap.size := by obtain ⟨m, hm⟩ := k4; exact DataW.trod_lt m _ _ _ hm
  obtain ⟨a4, rfl, rfl, rfl, w4⟩ := open_int Try.underlying21 (hval 4 21 v4 rfl rfl) h4
  have k5 := h5
  have lt5 : ∀ x ∈ p5, x.block < W.heap.size := by obtain ⟨m, hm⟩ := k5; exact DataW.trod_lt m _ _ _ hm
  obtain ⟨cs5, rfl, hsz5, _⟩ : ∃ cs, v5 = .agg cs ∧ cs.size = Try.prog.cellsOf 61 ∧ Row.okWide Try.prog W .any base 61 cs := by
    have := hval 5 61 v5 rfl rfl
    simpa [Value.okWide, Try.underlying61] using this
  obtain ⟨l5⟩ := cs5
  obtain ⟨c5_0, c5_1, c5_2, c5_3, c5_4, c5_5, c5_6, c5_7, rfl⟩ := list8 l5 (hsz5.trans (by kernel_rfl))
  obtain ⟨fuel5, hf5⟩ := h5
  obtain ⟨y5_0, y5_1, y5_2, y5_3, y5_4, y5_5, y5_6, y5_7, m5, hx5, hy5_0, hy5_1, hy5_2, hy5_3, hy5_4, hy5_5, hy5_6, hy5_7⟩ := trod_array8 Try.underlying61 (by kernel_rfl) hf5
  obtain ⟨a5_0, e5_0, _, w5_0⟩ := DataW.trod_int Try.underlying21 hy5_0
  obtain rfl : c5_0 = .int .i32 a5_0 := by simpa using e5_0
  obtain ⟨a5_1, e5_1, _, w5_1⟩ := DataW.trod_int Try.underlying21 hy5_1
  obtain rfl : c5_1 = .int .i32 a5_1 := by simpa using e5_1
  obtain ⟨a5_2, e5_2, _, w5_2⟩ := DataW.trod_int Try.underlying21 hy5_2
  obtain rfl : c5_2 = .int .i32 a5_2 := by simpa using e5_2
  obtain ⟨a5_3, e5_3, _, w5_3⟩ := DataW.trod_int Try.underlying21 hy5_3
  obtain rfl : c5_3 = .int .i32 a5_3 := by simpa using e5_3
  obtain ⟨a5_4, e5_4, _, w5_4⟩ := DataW.trod_int Try.underlying21 hy5_4
  obtain rfl : c5_4 = .int .i32 a5_4 := by simpa using e5_4
  obtain ⟨a5_5, e5_5, _, w5_5⟩ := DataW.trod_int Try.underlying21 hy5_5
  obtain rfl : c5_5 = .int .i32 a5_5 := by simpa using e5_5
  obtain ⟨a5_6, e5_6, _, w5_6⟩ := DataW.trod_int Try.underlying21 hy5_6
  obtain rfl : c5_6 = .int .i32 a5_6 := by simpa using e5_6
  obtain ⟨a5_7, e5_7, _, w5_7⟩ := DataW.trod_int Try.underlying21 hy5_7
  obtain rfl : c5_7 = .int .i32 a5_7 := by simpa using e5_7
  have k6 := h6
  have lt6 : ∀ x ∈ p6, x.block < W.heap.size := by obtain ⟨m, hm⟩ := k6; exact DataW.trod_lt m _ _ _ hm
  obtain ⟨a6, rfl, rfl, rfl, w6⟩ := open_int Try.underlying5 (hval 6 5 v6 rfl rfl) h6
  have k7 := h7
  have lt7 : ∀ x ∈ p7, x.block < W.heap.size := by obtain ⟨m, hm⟩ := k7; exact DataW.trod_lt m _ _ _ hm
  obtain ⟨a7, rfl, rfl, rfl, w7⟩ := open_int Try.underlying21 (hval 7 21 v7 rfl rfl) h7
  clear hA0 hval0
  refine (reads_law a0 a1 a2 a3 a4 a5_0 a5_1 a5_2 a5_3 a5_4 a5_5 a5_6 a5_7 a6 a7 w0 w1 w2 w3 w4 w5_0 w5_1 w5_2 w5_3 w5_4 w5_5 w5_6 w5_7 w6 w7 W ).mono fun e W' ⟨he, bel⟩ => ?_
  subst he
  exact ⟨_, rfl, _, _, _, [], _, [], hW', trodAll_mk1 (shut_bool Try.underlying4 _), (trodAll_cons_mk (shut_int Try.underlying5 w0) (trodAll_cons_mk (shut_int Try.underlying5 w1) (trodAll_cons_mk (shut_int Try.underlying5 w2) (trodAll_cons_mk (shut_int Try.underlying5 w3) (trodAll_cons_mk (shut_int Try.underlying21 w4) (trodAll_cons_mk (Below.trod laidOut (by kernel_rfl) (of_decide_eq_true (by kernel_rfl)) k5 bel lt5) (trodAll_cons_mk (shut_int Try.underlying5 w6) (trodAll_cons_mk (shut_int Try.underlying21 w7) trodAll_mk0)))))))), rfl, bel.frame _, fun h => by cases h⟩

theorem over : Rows.instrReadsRow.holds Try.pinned (OpenSpec.ofChange Rows.instrReadsSpec) :=
  OpenClaim.holds_of_wide 7 Try.f7 rfl rfl rfl rfl rfl rfl rfl ⟨rfl, rfl, rfl, rfl, rfl⟩ rfl rfl rfl rfl rfl (by kernel_rfl) Try.func7 (by kernel_rfl)
    (of_decide_eq_true (by kernel_rfl)) (by unfold Func.isWrapper; first | (rw [if_pos (by decide +kernel)]; kernel_rfl) | (rw [if_neg (by decide +kernel)]; exact ⟨rfl, rfl⟩))
    (fun os started H enc _ => lifted os started H enc)
end Go.Proofs.Ytonbmijhbbodnaa.instrReads
namespace Go.Proofs.Ytonbmijhbbodnaa
/-- THE STATEMENT. -/
theorem instrReads_holds : Rows.InstrReadsSaid := instrReads.over
end Go.Proofs.Ytonbmijhbbodnaa
