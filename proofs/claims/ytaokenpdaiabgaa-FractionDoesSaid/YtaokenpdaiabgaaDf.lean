/-
  The document's Sub.
-/
import Derived.Test.YtaokenpdaiabgaaDd
namespace Go.Proofs.Ytaokenpdaiabgaa
open Go.RowKit

set_option maxHeartbeats 2000000 in
theorem rsub_any (xn yn : Int) (xd yd : Nat) (hx : -1152921504606846976 ≤ xn) (hx1 : xn ≤ 1152921504606846976) (hy : -1152921504606846976 ≤ yn) (hy1 : yn ≤ 1152921504606846976) (kx : 1 ≤ xd) (kx1 : xd ≤ 1152921504606846976) (ky : 1 ≤ yd) (ky1 : yd ≤ 1152921504606846976) (w : World) :
    Calls Try.prog 25 #[.agg #[.int .i64 xn, .int .i64 (xd : Int)], .agg #[.int .i64 yn, .int .i64 (yd : Int)]] w (Red (xn * (yd : Int) - yn * (xd : Int)) ((xd : Int) * (yd : Int)) w) := by
  have AD := Lib.hid (show ∀ w, Calls Try.prog 24 #[.agg #[.int .i64 xn, .int .i64 (xd : Int)], .agg #[.int .i64 (-yn), .int .i64 (yd : Int)]] w (Red (xn * (yd : Int) - yn * (xd : Int)) ((xd : Int) * (yd : Int)) w) from fun w => by
    have := radd_any xn (-yn) xd yd hx hx1 (by omega) (by omega) kx kx1 ky ky1 w
    rwa [Int.neg_mul, ← Int.sub_eq_add_neg] at this)
  have NG := Lib.hid (fun w => rneg_any yn (yd : Int) (by omega) (by omega) w)
  have F0 := Lib.hid (Fr.new (Fr.new (Fr.new (Fr.refl w) rfl [.int .i64 xn, .int .i64 (xd : Int)] 24) (by simp) [.int .i64 yn, .int .i64 (yd : Int)] 24) (by simp) [.int .i64 0, .int .i64 0] 24)
  go_enter Try.func25, Try.ntmps25
  go_upto_region 1 with fail
  obtain ⟨w0, hw0⟩ : ∃ w0, w0 = ((w.alloc (.cells #[.int .i64 xn, .int .i64 (xd : Int)] 24)).alloc (.cells #[.int .i64 yn, .int .i64 (yd : Int)] 24)).alloc (.cells #[.int .i64 0, .int .i64 0] 24) := ⟨_, rfl⟩
  have F1 := Lib.hid (show Fr w w0 [[.int .i64 xn, .int .i64 (xd : Int)], [.int .i64 yn, .int .i64 (yd : Int)], [.int .i64 0, .int .i64 0]] from by rw [hw0]; exact F0.out)
  rw [← hw0]
  clear hw0 F0
  have FF := Lib.hid F1.out.drew
  have g0 := FF.out.h0.cell 0 _ rfl; have g1 := FF.out.h0.cell 1 _ rfl; have g2 := FF.out.h1.cell 0 _ rfl; have g3 := FF.out.h1.cell 1 _ rfl
  go_region_held3 (fun w' => w'.cell? ⟨w.heap.size, 0, none⟩ = some (.int .i64 xn) ∧ w'.cell? ⟨w.heap.size, 1, none⟩ = some (.int .i64 (xd : Int)) ∧ w'.cell? ⟨w.heap.size + 1, 0, none⟩ = some (.int .i64 yn) ∧ w'.cell? ⟨w.heap.size + 1, 1, none⟩ = some (.int .i64 (yd : Int))) (((try dsimp only); (try go_split_ands); (repeat' apply And.intro); all_goals (repeat (first | (with_reducible assumption) | (refine cell_later hb8 ?_) | (refine cell_later hb7 ?_) | (with_reducible refine cell_set (by omega) ?_)))))
    (first
      | (go_at_call 51; (with_reducible refine (NG.out _).mono ?_); rintro e w7 ⟨rfl, hb7⟩; have F7 := Lib.hid (Fr.call hb7 FF.out))
      | (go_at_call 24; (with_reducible refine (AD.out _).mono ?_); rintro e w8 ⟨rfl, hb8⟩; have F8 := Lib.hid (Fr.call hb8 F7.out); have r0 := F8.out.h2.cell 0 _ rfl; have r1 := F8.out.h2.cell 1 _ rfl; have rf := F8.out.h2.free; have lr := F8.out.h2.lt (by simp)))
  all_goals
    go_wp2
    exact bodyPost_ret (v := .tuple #[.agg #[.int .i64 (fA (xn * (yd : Int) - yn * (xd : Int)) ((xd : Int) * (yd : Int))), .int .i64 (fB (xn * (yd : Int) - yn * (xd : Int)) ((xd : Int) * (yd : Int)))], .int .i64 (fE (xn * (yd : Int) - yn * (xd : Int)) ((xd : Int) * (yd : Int)))]) (by simp [results, Try.results25, go_sem, r0, r1]) rfl ⟨rfl, F8.out.below.trans (by go_grown)⟩
end Go.Proofs.Ytaokenpdaiabgaa
