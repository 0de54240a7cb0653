/-
  timeboundlaw19.awake: true.
-/
import Derived.Test.YtonbmijhbbodnaaInR
namespace Go.Proofs.Ytonbmijhbbodnaa
open Go.RowKit

abbrev X0 : Ins := ⟨1, 3, 0, 0, 0, -1⟩
theorem x0_chk : chkI X0 = 0 := by decide
theorem x0_enc : encE [X0] = 0 ∧ encB [X0] = [1, 48, 0, 0, 255, 255, 255, 255] := by decide
theorem x0_dec : decE [1, 48, 0, 0, 255, 255, 255, 255] = 0 ∧ decO [1, 48, 0, 0, 255, 255, 255, 255] = [X0] := by decide
theorem x0_reads : readsI X0 = [] := by decide
theorem x0_writes : wrI X0 = 3 := by decide
theorem x0_in : X0.In := by constructor <;> (unfold I64; decide)
set_option maxRecDepth 100000 in
set_option maxHeartbeats 8000000 in
theorem awake_any (w : World) : Calls Try.prog 23 #[] w (TrueRet w) := by
  have F0 := Lib.hid (Fm.new (Fm.start Non w) rfl (ICells X0) 50)
  obtain ⟨ws, hws⟩ : ∃ ws, ws = (w.alloc (.cells #[.int .i64 1, .int .i64 3, .int .i64 0, .int .i64 0, .int .i64 0, .int .i64 (-1)] 50)).alloc (.cells #[.int .i64 1, .int .i64 3, .int .i64 0, .int .i64 0, .int .i64 0, .int .i64 (-1)] 50) := ⟨_, rfl⟩
  have L0 := Lib.hid (show InsL (Ge (w.heap.size + 1)) ws (some ⟨w.heap.size + 1, 0, none⟩) 1 1 [X0] by
    have h := ins_new (w.alloc (.cells (ICells X0).toArray 50)) [X0] 1 50 rfl (by omega) (fun x hx => by simp at hx; subst hx; exact x0_in)
    rw [World.size_alloc] at h
    rw [hws]; exact h)
  have G0 := Lib.hid (show Fm Non w ws [ICells X0] by rw [hws]; exact F0.out.more _)
  go_enter Try.func23, Try.ntmps23
  go_wp2_with fail
  rw [← hws]
  clear hws F0
  refine (encode_any _ _ 1 1 [X0] _ L0.out).mono ?_
  rintro e w1 ⟨v1, rfl, o1, b1⟩
  rw [x0_enc.1]
  rw [x0_enc.2] at o1
  obtain ⟨a1, c1, rfl⟩ := flat_form o1
  have F1 := Lib.hid (Fm.call b1 G0.out)
  have B1 := Lib.hid (flat_bytes (K := fun _ => True) o1 (fun z hz => by simp at hz; omega) (by decide) (fun _ _ => trivial))
  have e8 : ([1, 48, 0, 0, 255, 255, 255, 255] : List Int).length = 8 := rfl
  rw [e8] at B1 ⊢
  clear b1 o1 L0
  go_wp2_with fail
  refine (decode_any _ _ 8 _ [1, 48, 0, 0, 255, 255, 255, 255] _ B1.out (fun z hz => by simp at hz; omega)).mono ?_
  rintro e w2 ⟨v2, rfl, o2, b2⟩
  rw [x0_dec.1]
  rw [x0_dec.2] at o2
  obtain ⟨a2, c2, rfl⟩ := flat_form o2
  have e1 : ([X0] : List Ins).length = 1 := rfl
  rw [e1] at o2 ⊢
  have F2 := Lib.hid (Fm.call b2 F1.out)
  obtain ⟨bb, o, x, rfl, hx, _, _, lb, d0, d1, d2, d3, d4, d5⟩ := InsL.get (flat_ins (K := fun _ => True) o2 (fun x hx => by simp at hx; subst hx; exact x0_in) (by decide) (fun _ _ => trivial)) (show 0 < 1 by omega)
  simp at hx
  subst hx
  have t0 := F2.out.h0
  have f0 := t0.cell 0 _ rfl; have f1 := t0.cell 1 _ rfl; have f2 := t0.cell 2 _ rfl; have f3 := t0.cell 3 _ rfl; have f4 := t0.cell 4 _ rfl; have f5 := t0.cell 5 _ rfl
  have hE : eqI ⟨1, 3, 0, 0, 0, -1⟩ ⟨1, 3, 0, 0, 0, -1⟩ = true := by decide
  simp only [Nat.zero_mul, Nat.add_zero] at d0 d1 d2 d3 d4 d5
  clear b2 o2 t0 e8 e1
  go_wp2
  go_region_held3 (fun w' => w'.cell? ⟨bb, o, none⟩ = some (.int .i64 1) ∧ w'.cell? ⟨bb, o + 1, none⟩ = some (.int .i64 3) ∧ w'.cell? ⟨bb, o + 2, none⟩ = some (.int .i64 0) ∧ w'.cell? ⟨bb, o + 3, none⟩ = some (.int .i64 0) ∧ w'.cell? ⟨bb, o + 4, none⟩ = some (.int .i64 0) ∧ w'.cell? ⟨bb, o + 5, none⟩ = some (.int .i64 (-1)) ∧ w'.cell? ⟨w.heap.size, 0, none⟩ = some (.int .i64 1) ∧ w'.cell? ⟨w.heap.size, 1, none⟩ = some (.int .i64 3) ∧ w'.cell? ⟨w.heap.size, 2, none⟩ = some (.int .i64 0) ∧ w'.cell? ⟨w.heap.size, 3, none⟩ = some (.int .i64 0) ∧ w'.cell? ⟨w.heap.size, 4, none⟩ = some (.int .i64 0) ∧ w'.cell? ⟨w.heap.size, 5, none⟩ = some (.int .i64 (-1)))
    (((try dsimp only); (try go_split_ands); (repeat' apply And.intro); all_goals (repeat (first | with_reducible assumption | (with_reducible refine cell_later hb1 ?_) | (with_reducible refine cell_later hb2 ?_) | (with_reducible refine cell_later hb3 ?_) | (with_reducible refine cell_drew ?_)))))
    (first
      | (go_at_call 28; refine (reads_any X0 _).mono ?_; rintro e u1 ⟨ra, rn, rc, rfl, hr, hb1⟩; rw [x0_reads] at hr; obtain rfl : rn = 0 := hr.nilK rfl)
      | (go_at_call 30; refine (writes_any X0 _).mono ?_; rintro e u2 ⟨rfl, hb2⟩; rw [x0_writes])
      | (go_at_call 48; refine (check_any X0 _).mono ?_; rintro e u3 ⟨rfl, hb3⟩; rw [x0_chk]))
  have C := Lib.hid (below_go (below_go (below_go F2.out.below.drew hb1) hb2) hb3)
  go_wp2
  go_ret
  exact ⟨rfl, C.out⟩
end Go.Proofs.Ytonbmijhbbodnaa
