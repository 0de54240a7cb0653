/-
  slices.Repeat of one number, at most four times.
-/
import Derived.Test.YtdkpfifnegndmaaCacheG
namespace Go.Proofs.Ytdkpfifnegndmaa
open Go.RowKit

theorem ret_uu {a b c d : Int} (h : a = b) (h' : c = d) : Ending.returned (.tuple #[.int .u64 a, .int .u64 c]) = .returned (.tuple #[.int .u64 b, .int .u64 d]) := by rw [h, h']
set_option maxHeartbeats 2000000 in
theorem mul_one (n : Nat) (h : n = 1 ∨ n = 2 ∨ n = 3 ∨ n = 4) (w : World) :
    Calls Try.prog 46 #[.int .u64 1, .int .u64 n] w fun e w' => e = .returned (.tuple #[.int .u64 0, .int .u64 n]) ∧ w' = w := by
  rcases h with rfl | rfl | rfl | rfl
  all_goals
    go_enter Try.func46, Try.ntmps46
    go_wp2
    go_ret2
    exact ⟨ret_uu (by decide +kernel) (by decide +kernel), rfl⟩

def RepRet (n : Nat) (w : World) (e : Ending) (w' : World) : Prop := e = .returned (.slice (some ⟨w.heap.size, 0, none⟩) n n) ∧ Blk w' w.heap.size 3 (ivs (List.replicate n (-1))) ∧ w'.heap.size = w.heap.size + 1 ∧ Below w.heap.size w w'

/-- A row of which the first k cells are filled. -/
def fill (n k : Nat) : List Value := ivs (List.replicate k (-1) ++ List.replicate (n - k) 0)
theorem fill_length {n k : Nat} (h : k ≤ n) : (fill n k).length = n := by unfold fill; rw [ivs_length]; simp; omega
theorem fill_get {n k j : Nat} (h : j < k) : (fill n k)[j]? = some (.int .i64 (-1)) := by
  unfold fill
  refine ivs_get ?_
  rw [List.getElem?_append_left (by simpa using h)]
  simp [h]
theorem fill_more {n k m : Nat} (h : k + m ≤ n) : splice (fill n k) k (ivs (List.replicate m (-1))) = fill n (k + m) := by
  have e : ∀ j, (ivs (List.replicate j (-1) ++ List.replicate (n - j) 0)) = ivs (List.replicate j (-1)) ++ ivs (List.replicate (n - j) 0) := fun j => ivs_append _ _
  unfold splice fill
  rw [e, e, ivs_length, List.length_replicate, List.take_append_of_le_length (by rw [ivs_length, List.length_replicate]; omega), List.take_of_length_le (by rw [ivs_length, List.length_replicate]; omega)]
  rw [List.drop_append, ivs_length, List.length_replicate, List.drop_of_length_le (by rw [ivs_length, List.length_replicate]; omega)]
  unfold ivs
  rw [List.nil_append, ← List.map_drop, List.drop_replicate, ← List.replicate_append_replicate, List.map_append, List.append_assoc, show n - k - (k + m - k) = n - (k + m) by omega]

set_option maxHeartbeats 2000000 in
theorem repeat1 (b : Nat) (w : World) (hc : w.cell? ⟨b, 0, none⟩ = some (.int .i64 (-1))) (hb : b < w.heap.size) (n : Nat) (hn : n = 1 ∨ n = 2 ∨ n = 3 ∨ n = 4) :
    Calls Try.prog 34 #[.slice (some ⟨b, 0, none⟩) 1 1, .int .i64 n] w (RepRet n w) := by
  have hm := fun w => mul_one n hn w
  have hmk := fun w => make_ints n (by omega) w .i64 .i64
  have HM := Lib.hid hm; clear hm
  have n0 : (1 : Int) ≤ (n : Int) := by omega
  have n1 : (n : Int) ≤ 4 := by omega
  go_enter Try.func34, Try.ntmps34
  go_wp2_with fail
  refine (HM.out _).mono ?_
  rintro e w' ⟨rfl, rfl⟩
  have wb : Blk (w'.alloc (.cells (zeros (.int .i64 0) n).toArray 3)) w'.heap.size 3 (zeros (.int .i64 0) n) := Blk.new _ _ _
  have hs : 0 < (ivs [-1]).length → ∃ ad, (some ⟨b, 0, none⟩ : Option Addr) = some ad ∧ ∀ j v, (ivs [-1])[j]? = some v → (w'.alloc (.cells (zeros (.int .i64 0) n).toArray 3)).cell? (ad.add j) = some v := fun _ => ⟨_, rfl, fun j v hv => by
    match j with
    | 0 => cases hv; rw [show (⟨b, 0, none⟩ : Addr).add 0 = ⟨b, 0, none⟩ by unfold Addr.add; split <;> simp_all]; exact (World.cell?_alloc_lt w' _ ⟨b, 0, none⟩ hb).trans hc
    | j + 1 => simp [ivs] at hv⟩
  have WB := Lib.hid wb; have HS := Lib.hid hs; clear wb hs hn
  have hcm := fun (w : World) => show (w'.alloc (.cells (zeros (.int .i64 0) n).toArray 3)).heap.size = w'.heap.size + 1 from by simp
  clear hcm
  go_wp2_with (refine wpList_copy_laid rfl (.tmp 31) (.tmp 32) 22 22 rfl 3 Try.underlying22 (by kernel_rfl) _ _ _ _ _ _ (by rfl) (by rfl) w'.heap.size 0 (zeros (.int .i64 0) n) 3 WB.out (ivs [-1]) ?c2 (fun h => ⟨by rfl, by exact HS.out h⟩) ?c4 ivs_one ?_)
  case c2 => show 1 = min 1 n; omega
  case c4 => rw [zeros_length]; show 0 + 1 ≤ n; omega
  intro w1 hl1
  have hb1 : Blk w1 w'.heap.size 3 (fill n 1) := by
    refine hl1.out.blk.at ?_
    obtain ⟨m, rfl⟩ : ∃ m, n = m + 1 := ⟨n - 1, by omega⟩
    simp [splice, fill, zeros, ivs, iv, List.replicate_succ]
  have hz1 : w1.heap.size = w'.heap.size + 1 := by rw [hl1.out.size]; simp
  have hbel : Below w'.heap.size w' w1 := (((Chg.refl (M := Non) w').alloc _).trans hl1.out.chg (fun j hj h => by omega)).below0
  have B1 := Lib.hid hb1; have Z1 := Lib.hid hz1; have BL := Lib.hid hbel; clear hb1 hz1 hbel hl1
  go_wp2
  go_loopw [8] (fun i wr => ∃ k : Nat, 1 ≤ k ∧ k ≤ n ∧ i = .int .i64 k ∧ Blk wr w'.heap.size 3 (fill n k) ∧ wr.heap.size = w'.heap.size + 1 ∧ Below w'.heap.size w' wr) (fun i _ => n - (intOf i).toNat)
  case atStart => exact ⟨1, Nat.le_refl _, by omega, rfl, B1.out, Z1.out, BL.out⟩
  case round =>
    obtain ⟨k, hk1, hk, rfl, hb2, hz2, hbel2⟩ := hrel
    have B2 := Lib.hid hb2; have Z2 := Lib.hid hz2; have L2 := Lib.hid hbel2; clear hb2 hz2 hbel2
    by_cases hlt : k < n
    · obtain ⟨m, hm⟩ : ∃ m, m = min k (n - k) := ⟨_, rfl⟩
      have hm1 : 1 ≤ m := by omega
      have hm2 : m ≤ k := by omega
      have hm3 : k + m ≤ n := by omega
      have HMN := Lib.hid hm; clear hm
      have hs : 0 < (ivs (List.replicate m (-1))).length → ∃ ad, (some ⟨w'.heap.size, 0, none⟩ : Option Addr) = some ad ∧ ∀ j v, (ivs (List.replicate m (-1)))[j]? = some v → wr.drew.cell? (ad.add j) = some v := fun _ => ⟨_, rfl, fun j v hv => by
        have hj := (List.getElem?_eq_some_iff.1 hv).1
        rw [ivs_length, List.length_replicate] at hj
        rw [ivs_get (show (List.replicate m (-1 : Int))[j]? = some (-1) by simp [hj])] at hv
        cases hv
        rw [show (⟨w'.heap.size, 0, none⟩ : Addr).add j = ⟨w'.heap.size, j, none⟩ by unfold Addr.add; split <;> simp_all]
        exact B2.out.drew.cell (fill_get (by omega))⟩
      have HS2 := Lib.hid hs; clear hs
      have q1 : (0 : Int) ≤ (k : Int) := by omega
      have q2 : (k : Int) < (n : Int) := by omega
      have q3 : (k : Int) ≤ (n : Int) := by omega
      have q4 : ¬ n = k := by omega
      have q6 : IntKind.i64.wrap ((k : Int) + (m : Int)) = (k : Int) + (m : Int) := IntWalk.i64_in _ (by omega)
      have q5 : (ivs (List.replicate m (-1))).length = m := by rw [ivs_length, List.length_replicate]
      go_wp2
      go_region_law ((refine step_copy_laid (by rfl) (.tmp 41) (.tmp 44) 22 22 (by rfl) 3 Try.underlying22 (by kernel_rfl) (some ⟨w'.heap.size, k, none⟩) (some ⟨w'.heap.size, 0, none⟩) (n - k) (n - k) k n (by go_simp) (by go_simp) w'.heap.size k (fill n k) 3 (by exact B2.out.drew) (ivs (List.replicate m (-1))) (by rw [ivs_length, List.length_replicate]; exact HMN.out) (fun h => ⟨by rfl, by exact HS2.out h⟩) (by rw [ivs_length, List.length_replicate, fill_length (by omega)]; omega) ivs_one ?_; intro w3 hl))
      have L3 := hl.out
      clear q1 q2 q3 q4 hl
      go_simp
      clear q5 q6
      go_wp2
      go_roundw
      case rel =>
        refine ⟨k + m, by omega, hm3, by first | go_num | (simp [ivs_length]), (L3.blk.at (fill_more hm3)), by rw [L3.size]; exact Z2.out, ?_⟩
        exact (((Chg.of_below (M := Non) L2.out).drew).trans L3.chg (fun j hj h => by omega)).below0
      case measure => simp [intOf, ivs_length]; omega
    · have hkn : k = n := by omega
      subst hkn
      go_wp2
      go_ret
      exact ⟨rfl, B2.out.at (by unfold fill; simp), Z2.out, L2.out⟩
end Go.Proofs.Ytdkpfifnegndmaa
