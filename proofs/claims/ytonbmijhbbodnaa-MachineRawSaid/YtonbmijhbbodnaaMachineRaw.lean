/-
  MachineRaw: for every input the law's function returns true, and each argument reads afterwards as it read before. No condition.
-/
import Derived.Test.YtonbmijhbbodnaaRows
import Derived.ProofKit
import Derived.OpenShut
import Derived.ShutString
import Derived.ChangeOld
import Derived.Below
import Derived.SizedLaws
import Derived.Test.YtonbmijhbbodnaaZOpen
import Derived.Test.YtonbmijhbbodnaaLawMcRaw
namespace Go.Proofs.Ytonbmijhbbodnaa.machineRaw
open Go.ChangeShapes Go.WideShapes Go.ChangeAt Go.RowKit
open Go.ChangeMaps (open_string shut_string)

theorem own : ownKnob Try.prog.godebug = none := by kernel_rfl
theorem laidOut : laidOutB Try.prog = true := by kernel_rfl

set_option maxRecDepth 100000 in
theorem lifted (os : Os) (started : os.Started) (H : Type) (enc : TypeId × Value → H) :
    ReturnsInHanded {} Try.checked os 4 .any (Rows.machineRawSpec.pre6 enc Try.prog Try.f4 Rows.machineRawRow.domain false) (Rows.machineRawSpec.post enc Try.prog Try.f4 false true false false) := by
  refine returnsInHanded_of_change_sized (C := Try.checked) own started (by kernel_rfl) Try.func4
    (ChangeSpec.witness6 (enc := enc) (C := Try.checked) false ⟨#[], #[.slice none 0 0, .agg #[.slice none 0 0, .slice none 0 0, .slice none 0 0, .int .i64 0, .bool false], .int .u8 0], []⟩ 8 (by kernel_rfl) (by kernel_rfl) (by kernel_rfl) (by kernel_rfl)) ?_
  intro W base args ds gs before hval0 hW hcnd hsz _
  have hval : ∀ (j : Nat) t v, Try.f4.params[j]? = some t → args[j]? = some v → Value.okWide Try.prog W .any base t v := hval0
  have hW' := hW
  obtain ⟨p, q, hA0, hV, rfl, hfz, hnd⟩ := hW
  have hA : DataW.TrodAll enc Try.prog W 0 (fun _ => true) true Try.f4.params.toList args.toList ds p := hA0
  rw [Try.params4] at hA hval
  obtain ⟨v0, vs0, d0, ds0, p0, q0, hargs, rfl, rfl, h0, r0⟩ := trodAll_cons hA
  obtain ⟨v1, vs1, d1, ds1, p1, q1, rfl, rfl, rfl, h1, r1⟩ := trodAll_cons r0
  obtain ⟨v2, vs2, d2, ds2, p2, q2, rfl, rfl, rfl, h2, r2⟩ := trodAll_cons r1
  obtain ⟨rfl, rfl, rfl⟩ := trodAll_nil r2
  obtain rfl : args = #[v0, v1, v2] := by cases args; simp_all
  obtain ⟨rfl, rfl⟩ := trodVars_none hV
  have k0 := h0
  have lt0 : ∀ x ∈ p0, x.block < W.heap.size := by obtain ⟨m, hm⟩ := k0; exact DataW.trod_lt m _ _ _ hm
  obtain ⟨a0, len0, cap0, rfl⟩ := okWide_slice Try.underlying22 (hval 0 22 v0 rfl rfl)
  obtain ⟨z0, w0⟩ : ∃ zs, IsRow .i64 W a0 len0 cap0 zs := by
    obtain ⟨fuel, hf⟩ := h0
    rcases open_ints Try.underlying22 Try.underlying3 (by kernel_rfl) hf with ⟨hcs, _⟩ | ⟨x, l, c, zs, hcs, _, hl, hm, hz, _, hcell, hwz⟩
    · simp [Value.cells] at hcs
      obtain ⟨rfl, rfl, rfl⟩ := hcs
      exact ⟨[], .inl ⟨rfl, rfl, rfl, rfl⟩⟩
    · simp [Value.cells] at hcs
      obtain ⟨rfl, rfl, rfl⟩ := hcs
      exact ⟨zs, .inr ⟨_, rfl, hl, hm, by simpa using hz, hcell, hwz⟩⟩
  have k1 := h1
  have lt1 : ∀ x ∈ p1, x.block < W.heap.size := by obtain ⟨m, hm⟩ := k1; exact DataW.trod_lt m _ _ _ hm
  obtain ⟨c1_0, c1_1, c1_2, c1_3, c1_4, y1_0, y1_1, y1_2, y1_3, y1_4, n1, rfl, rfl, rfl, t1_0, t1_1, t1_2, t1_3, t1_4⟩ := open_agg5 Try.underlying36 (by kernel_rfl) (by kernel_rfl) (hval 1 36 v1 rfl rfl) h1
  obtain ⟨a1_0, len1_0, cap1_0, z1_0, rfl, w1_0⟩ := row_of Try.underlying22 (by kernel_rfl) (by decide +kernel) (opens_int Try.underlying3) t1_0 (weigh_part Try.underlying36 (weigh hsz (j := 1) rfl rfl) (j := 0) rfl rfl)
  obtain ⟨a1_1, len1_1, cap1_1, z1_1, rfl, w1_1⟩ := row_of Try.underlying22 (by kernel_rfl) (by decide +kernel) (opens_int Try.underlying3) t1_1 (weigh_part Try.underlying36 (weigh hsz (j := 1) rfl rfl) (j := 1) rfl rfl)
  obtain ⟨a1_2, len1_2, cap1_2, z1_2, rfl, w1_2, u1_2⟩ := row_of1 Try.underlying33 (by kernel_rfl) (by decide +kernel) (opens_bool Try.underlying4) t1_2 (weigh_part Try.underlying36 (weigh hsz (j := 1) rfl rfl) (j := 2) rfl rfl)
  obtain ⟨a1_3, e1_3, _, w1_3⟩ := DataW.trod_int Try.underlying3 t1_3
  obtain rfl : c1_3 = .int .i64 a1_3 := by simpa using e1_3
  obtain ⟨a1_4, e1_4, _⟩ := DataW.trod_bool Try.underlying4 t1_4
  obtain rfl : c1_4 = .bool a1_4 := by simpa using e1_4
  have k2 := h2
  have lt2 : ∀ x ∈ p2, x.block < W.heap.size := by obtain ⟨m, hm⟩ := k2; exact DataW.trod_lt m _ _ _ hm
  obtain ⟨a2, rfl, rfl, rfl, w2⟩ := open_int Try.underlying5 (hval 2 5 v2 rfl rfl) h2
  clear hA0 hval0
  refine (mcRaw_law a0 len0 cap0 z0 a1_0 len1_0 cap1_0 z1_0 a1_1 len1_1 cap1_1 z1_1 a1_2 len1_2 cap1_2 z1_2 a1_3 a1_4 a2 w1_3 w2 W w0 w1_0 w1_1 w1_2 u1_2).mono fun e W' ⟨he, bel⟩ => ?_
  subst he
  exact ⟨_, rfl, _, _, _, [], _, [], hW', trodAll_mk1 (shut_bool Try.underlying4 _), (trodAll_cons_mk (Below.trod laidOut (by kernel_rfl) (of_decide_eq_true (by kernel_rfl)) k0 bel lt0) (trodAll_cons_mk (Below.trod laidOut (by kernel_rfl) (of_decide_eq_true (by kernel_rfl)) k1 bel lt1) (trodAll_cons_mk (shut_int Try.underlying5 w2) trodAll_mk0))), rfl, bel.frame _, fun h => by cases h⟩

theorem over : Rows.machineRawRow.holds Try.pinned (OpenSpec.ofChange Rows.machineRawSpec) :=
  OpenClaim.holds_of_wide 4 Try.f4 rfl rfl rfl rfl rfl rfl rfl ⟨rfl, rfl, rfl, rfl, rfl⟩ rfl rfl rfl rfl rfl (by kernel_rfl) Try.func4 (by kernel_rfl)
    (of_decide_eq_true (by kernel_rfl)) (by unfold Func.isWrapper; first | (rw [if_pos (by decide +kernel)]; kernel_rfl) | (rw [if_neg (by decide +kernel)]; exact ⟨rfl, rfl⟩))
    (fun os started H enc _ => lifted os started H enc)
end Go.Proofs.Ytonbmijhbbodnaa.machineRaw
namespace Go.Proofs.Ytonbmijhbbodnaa
/-- THE STATEMENT. -/
theorem machineRaw_holds : Rows.MachineRawSaid := machineRaw.over
end Go.Proofs.Ytonbmijhbbodnaa
