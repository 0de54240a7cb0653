/-
  slices.
-/
import Derived.Test.YtdegpgonphgbcaaZFxR
import Derived.Test.YtdegpgonphgbcaaZOwn
namespace Go.Proofs.Ytdegpgonphgbcaa
open Go.RowKit
def frs (l : List Rat) : List Value := l.flatMap FrC
theorem frs_length (l : List Rat) : (frs l).length = l.length * 2 := by
  induction l with
  | nil => rfl
  | cons x l ih => unfold frs at ih ⊢; rw [List.flatMap_cons, List.length_append, ih]; simp; omega
theorem frs_append (l m : List Rat) : frs (l ++ m) = frs l ++ frs m := by unfold frs; rw [List.flatMap_append]
theorem frs_one {l : List Rat} : ∀ v ∈ frs l, v.oneCell' = true := fun v h => by
  obtain ⟨x, _, hv⟩ := List.mem_flatMap.1 h
  simp at hv
  rcases hv with rfl | rfl <;> rfl
theorem frs_get : ∀ {l : List Rat} {i : Nat} {x : Rat}, l[i]? = some x → (frs l)[i * 2]? = some (.int .i64 x.num) ∧ (frs l)[i * 2 + 1]? = some (.int .i64 (x.den : Int))
  | [], i, x, h => by simp at h
  | y :: l, 0, x, h => by cases h; exact ⟨rfl, rfl⟩
  | y :: l, i + 1, x, h => by
    have h2 : l[i]? = some x := h
    have := frs_get h2
    have e : frs (y :: l) = FrC y ++ frs l := by unfold frs; rw [List.flatMap_cons]
    rw [e, List.getElem?_append_right (by simp; omega), List.getElem?_append_right (by simp; omega)]
    rw [show (i + 1) * 2 - (FrC y).length = i * 2 by simp; omega, show (i + 1) * 2 + 1 - (FrC y).length = i * 2 + 1 by simp; omega]
    exact this
theorem mul64_few (n : Nat) (hn : n ≤ 8) (w : World) : Calls Try.prog 83 #[.int .u64 1, .int .u64 n] w fun e w' => e = .returned (.tuple #[.int .u64 0, .int .u64 n]) ∧ w = w' := by
  have hc : n = 0 ∨ n = 1 ∨ n = 2 ∨ n = 3 ∨ n = 4 ∨ n = 5 ∨ n = 6 ∨ n = 7 ∨ n = 8 := by omega
  rcases hc with rfl | rfl | rfl | rfl | rfl | rfl | rfl | rfl | rfl
  all_goals
    go_enter Try.func83, Try.ntmps83
    go_wp2
    refine bodyPost_ret (v := .tuple #[.int .u64 0, .int .u64 _]) (by simp [results, Try.results83, go_sem]; rfl) rfl ⟨rfl, rfl⟩
theorem mul_few (n : Nat) (hn : n ≤ 8) (w : World) : Calls Try.prog 86 #[.int .u64 1, .int .u64 n] w fun e w' => e = .returned (.tuple #[.int .u64 0, .int .u64 n]) ∧ w = w' := by
  go_enter Try.func86, Try.ntmps86
  go_wp2_with fail
  refine (mul64_few n hn _).mono ?_
  rintro e w1 ⟨rfl, rfl⟩
  go_wp2
  refine bodyPost_ret (v := .tuple #[.int .u64 0, .int .u64 n]) (by simp [results, Try.results86, go_sem]) rfl ⟨rfl, rfl⟩
theorem frs_rep (x : Rat) (k c : Nat) : frs (List.replicate (k + c) x) = frs (List.replicate k x) ++ frs (List.replicate c x) := by
  rw [← List.replicate_append_replicate, frs_append]
theorem splice_fr {x : Rat} {k n c : Nat} (h : k + c ≤ n) : splice (frs (List.replicate k x) ++ zeros (.int .i64 0) ((n - k) * 2)) (k * 2) (frs (List.replicate c x)) = frs (List.replicate (k + c) x) ++ zeros (.int .i64 0) ((n - (k + c)) * 2) := by
  have hl : (frs (List.replicate k x)).length = k * 2 := by rw [frs_length, List.length_replicate]
  have hl2 : (frs (List.replicate c x)).length = c * 2 := by rw [frs_length, List.length_replicate]
  unfold splice
  rw [frs_rep, List.take_left' hl, hl2, List.append_assoc, ← List.drop_drop, List.drop_left' hl]
  unfold zeros
  rw [List.drop_replicate]
  congr 3
  omega
theorem info_fr : (Try.prog.info? 31).map (fun i => (i.zero, i.size, i.bytes)) = some (some (.agg #[.int .i64 0, .int .i64 0]), 2, 16) := by kernel_rfl
theorem size_fr : (Try.prog.info? 31).map (·.size) = some 2 := by kernel_rfl
theorem make_fr0 (w : World) : (Instr.makeSlice 32 (.int .i64 0) (.int .i64 0)).run Try.prog w = .ok (.slice (some ⟨w.heap.size, 0, none⟩) 0 0) (w.alloc (.cells (zeros (.int .i64 0) 0).toArray 31)) := by kernel_rfl
theorem make_fr1 (w : World) : (Instr.makeSlice 32 (.int .i64 1) (.int .i64 1)).run Try.prog w = .ok (.slice (some ⟨w.heap.size, 0, none⟩) 1 1) (w.alloc (.cells (zeros (.int .i64 0) 2).toArray 31)) := by kernel_rfl
theorem make_fr2 (w : World) : (Instr.makeSlice 32 (.int .i64 2) (.int .i64 2)).run Try.prog w = .ok (.slice (some ⟨w.heap.size, 0, none⟩) 2 2) (w.alloc (.cells (zeros (.int .i64 0) 4).toArray 31)) := by kernel_rfl
theorem make_fr3 (w : World) : (Instr.makeSlice 32 (.int .i64 3) (.int .i64 3)).run Try.prog w = .ok (.slice (some ⟨w.heap.size, 0, none⟩) 3 3) (w.alloc (.cells (zeros (.int .i64 0) 6).toArray 31)) := by kernel_rfl
theorem make_fr4 (w : World) : (Instr.makeSlice 32 (.int .i64 4) (.int .i64 4)).run Try.prog w = .ok (.slice (some ⟨w.heap.size, 0, none⟩) 4 4) (w.alloc (.cells (zeros (.int .i64 0) 8).toArray 31)) := by kernel_rfl
theorem make_fr5 (w : World) : (Instr.makeSlice 32 (.int .i64 5) (.int .i64 5)).run Try.prog w = .ok (.slice (some ⟨w.heap.size, 0, none⟩) 5 5) (w.alloc (.cells (zeros (.int .i64 0) 10).toArray 31)) := by kernel_rfl
theorem make_fr6 (w : World) : (Instr.makeSlice 32 (.int .i64 6) (.int .i64 6)).run Try.prog w = .ok (.slice (some ⟨w.heap.size, 0, none⟩) 6 6) (w.alloc (.cells (zeros (.int .i64 0) 12).toArray 31)) := by kernel_rfl
theorem make_fr7 (w : World) : (Instr.makeSlice 32 (.int .i64 7) (.int .i64 7)).run Try.prog w = .ok (.slice (some ⟨w.heap.size, 0, none⟩) 7 7) (w.alloc (.cells (zeros (.int .i64 0) 14).toArray 31)) := by kernel_rfl
theorem make_fr8 (w : World) : (Instr.makeSlice 32 (.int .i64 8) (.int .i64 8)).run Try.prog w = .ok (.slice (some ⟨w.heap.size, 0, none⟩) 8 8) (w.alloc (.cells (zeros (.int .i64 0) 16).toArray 31)) := by kernel_rfl
theorem make_frs (n : Nat) (hn : n ≤ 8) (w : World) : (Instr.makeSlice 32 (.int .i64 (n : Int)) (.int .i64 (n : Int))).run Try.prog w = .ok (.slice (some ⟨w.heap.size, 0, none⟩) n n) (w.alloc (.cells (zeros (.int .i64 0) (n * 2)).toArray 31)) := by
  have hc : n = 0 ∨ n = 1 ∨ n = 2 ∨ n = 3 ∨ n = 4 ∨ n = 5 ∨ n = 6 ∨ n = 7 ∨ n = 8 := by omega
  rcases hc with rfl | rfl | rfl | rfl | rfl | rfl | rfl | rfl | rfl
  · exact make_fr0 w
  · exact make_fr1 w
  · exact make_fr2 w
  · exact make_fr3 w
  · exact make_fr4 w
  · exact make_fr5 w
  · exact make_fr6 w
  · exact make_fr7 w
  · exact make_fr8 w
structure OFrAt (w : World) (fp : Nat → Prop) (b cap : Nat) (sp : List Value) (xs : List Rat) : Prop where
  blk : Blk w b 31 (frs xs ++ sp)
  hcap : cap * 2 = xs.length * 2 + sp.length
  hsz : cap ≤ 9223372036854775807
  own : fp b
def OFr : Ow (List Rat) := fun w fp v xs => (v = .slice none 0 0 ∧ xs = []) ∨ ∃ b cap sp, v = .slice (some ⟨b, 0, none⟩) xs.length cap ∧ OFrAt w fp b cap sp xs
set_option maxRecDepth 100000 in
set_option maxHeartbeats 4000000 in
theorem srepeat_fr (x : Rat) (n : Nat) (hn : n ≤ 8) (b : Nat) (w : World) (hb : Blk w b 31 (FrC x)) :
    Calls Try.prog 70 #[.slice (some ⟨b, 0, none⟩) 1 1, .int .i64 n] w fun e w' => ∃ g, e = .returned (.slice (some ⟨g, 0, none⟩) n n) ∧ w.heap.size ≤ g ∧ Blk w' g 31 (frs (List.replicate n x)) ∧ Below w.heap.size w w' := by
  have hm := fun w => make_frs n hn w
  have HB := Lib.hid hb
  have hlt := hb.lt
  clear hb
  have h0 : ¬ ((n : Int) < 0) := by omega
  have hbig : ¬ ((n : Int) > 9223372036854775807) := by omega
  have G0 := Lib.hid (Blk.new w (zeros (.int .i64 0) (n * 2)) 31)
  have B0 := Lib.hid ((Below.refl w.heap.size w).alloc (Nat.le_refl _) (.cells (zeros (.int .i64 0) (n * 2)).toArray 31))
  have HB1 := Lib.hid (HB.out.below B0.out hlt)
  go_enter Try.func70, Try.ntmps70
  go_wp2_with fail
  refine (mul_few n hn _).mono ?_
  rintro e w1 ⟨rfl, rfl⟩
  have hl0 : (frs (List.replicate (min 1 n) x)).length = min 1 n * 2 := by rw [frs_length, List.length_replicate]
  have hsrc : ∀ (j : Nat) v, (frs (List.replicate (min 1 n) x))[j]? = some v → (w.alloc (.cells (zeros (.int .i64 0) (n * 2)).toArray 31)).cell? ((⟨b, 0, none⟩ : Addr).add j) = some v := fun j v hv => by
    have hj := (List.getElem?_eq_some_iff.1 hv).1
    rw [hl0] at hj
    have h1 : min 1 n = 1 := by omega
    rw [h1] at hv
    rw [Go.WideShapes.add_plain, Nat.zero_add]
    refine HB1.out.cell ?_
    have : frs (List.replicate 1 x) = FrC x := by simp [frs]
    rw [this] at hv
    exact hv
  go_wp2_with (refine wpList_copy_sz rfl (.tmp 31) (.tmp 32) 32 32 rfl 31 2 (min 1 n) Try.underlying32 size_fr _ _ _ _ _ _ (by rfl) (by rfl) w.heap.size 0 (zeros (.int .i64 0) (n * 2)) 31 G0.out (frs (List.replicate (min 1 n) x)) (by rfl) hl0 (fun h => ⟨by rfl, ⟨b, 0, none⟩, by rfl, hsrc⟩) ?c4 frs_one ?_)
  case c4 => rw [hl0, zeros_length]; omega
  intro w2 hlaid
  have e0 : splice (zeros (.int .i64 0) (n * 2)) 0 (frs (List.replicate (min 1 n) x)) = frs (List.replicate (min 1 n) x) ++ zeros (.int .i64 0) ((n - min 1 n) * 2) := by
    have := splice_fr (x := x) (k := 0) (n := n) (c := min 1 n) (by omega)
    simpa [frs] using this
  have G2 := Lib.hid (show Blk w2 w.heap.size 31 (frs (List.replicate (min 1 n) x) ++ zeros (.int .i64 0) ((n - min 1 n) * 2)) from e0 ▸ hlaid.out.blk)
  have B2 := Lib.hid (B0.out.trans (hlaid.out.chg.below (B := w.heap.size) (fun k hk e => by omega) (by simp)))
  clear hlaid e0
  clear hsrc hl0 hm
  go_wp2
  have hk0 : min 1 n ≤ n := by omega
  have hk1 : 0 < n → 0 < min 1 n := by omega
  generalize min 1 n = k0 at *
  go_loopw [8] (fun v8 wr => ∃ k : Nat, k ≤ n ∧ (0 < n → 0 < k) ∧ v8 = .int .i64 k ∧ Blk wr w.heap.size 31 (frs (List.replicate k x) ++ zeros (.int .i64 0) ((n - k) * 2)) ∧ Below w.heap.size w wr) (fun v8 _ => n - (intOf v8).toNat)
  case atStart => exact ⟨k0, hk0, hk1, rfl, G2.out, B2.out⟩
  case round =>
    clear G2 B2 hk0 hk1
    obtain ⟨k, hk, hkp, rfl, hG, hBl⟩ := hrel
    have G3 := Lib.hid hG; have B3 := Lib.hid hBl
    clear hG hBl
    by_cases hlt : k < n
    · have hkp' : 0 < k := hkp (by omega)
      obtain ⟨c, hc⟩ : ∃ c, min k (n - k) = c := ⟨_, rfl⟩
      have hc1 : c = Nat.min k (n - k) := hc.symm
      have hc2 : c ≤ n - k := by omega
      have hc3 : 0 < c := by omega
      have hc4 : c ≤ k := by omega
      have hi1 : (k : Int) < (n : Int) := by omega
      have hi2 : (k : Int) ≤ (n : Int) := by omega
      have hi3 : (0 : Int) ≤ (k : Int) := by omega
      have hnk : ¬ n = k := by omega
      have hsrc : ∀ (j : Nat) v, (frs (List.replicate c x))[j]? = some v → wr.drew.cell? ((⟨w.heap.size, 0, none⟩ : Addr).add j) = some v := fun j v hv => by
        have hj := (List.getElem?_eq_some_iff.1 hv).1
        rw [frs_length, List.length_replicate] at hj
        rw [Go.WideShapes.add_plain]
        refine G3.out.cell ?_
        rw [Nat.zero_add, List.getElem?_append_left (by rw [frs_length, List.length_replicate]; omega), show k = c + (k - c) by omega, frs_rep, List.getElem?_append_left (by rw [frs_length, List.length_replicate]; omega)]
        exact hv
      go_upto_region 9 with fail
      refine hd_start_e 10 (fun _ => True) (by kernel_rfl) ⟨by kernel_rfl, by rfl⟩ trivial (fun ok => ?_)
      refine he_t 0 ok rfl ?_
      go_frame
      refine he_t 1 ok rfl ?_
      go_frame
      refine he_t 2 ok rfl ?_
      go_frame
      refine he_t 3 ok rfl ?_
      go_frame
      refine he_t 4 ok rfl ?_
      go_frame
      refine he_t 5 ok rfl ?_
      go_frame
      refine he_t 6 ok rfl ?_
      go_frame
      refine hd_only_l (c := 7) rfl (by decide) (by kernel_rfl) (fun K hK => ?_)
      refine step_copy_sz rfl (.tmp 41) (.tmp 44) 32 32 rfl 31 2 c Try.underlying32 size_fr (some ⟨w.heap.size, k * 2, none⟩) (some ⟨w.heap.size, 0, none⟩) (n - k) (n - k) k n (by first | rfl | (go_simp; done) | (simp; done)) (by first | rfl | (go_simp; done)) w.heap.size (k * 2) (frs (List.replicate k x) ++ zeros (.int .i64 0) ((n - k) * 2)) 31 G3.out.drew (frs (List.replicate c x)) hc1 (by rw [frs_length, List.length_replicate]) (fun _ => ⟨rfl, ⟨w.heap.size, 0, none⟩, rfl, hsrc⟩) (by rw [frs_length, List.length_append, frs_length, List.length_replicate, List.length_replicate, zeros_length]; omega) frs_one ?_
      intro w5 hap
      have G5 := Lib.hid (show Blk w5 w.heap.size 31 (frs (List.replicate (k + c) x) ++ zeros (.int .i64 0) ((n - (k + c)) * 2)) from splice_fr (x := x) (show k + c ≤ n by omega) ▸ hap.out.blk)
      have B5 := Lib.hid (B3.out.trans ((Below.refl _ _).drew.trans (hap.out.chg.below (B := w.heap.size) (fun j hj e => by omega) (by have := B3.out.size; simpa using this))))
      rw [show goInt c = .int .i64 (c : Int) from rfl]
      have hwr : IntKind.i64.wrap ((k : Int) + (c : Int)) = ((k + c : Nat) : Int) := by rw [IntWalk.i64_in _ (by omega)]; omega
      clear hap hsrc hc hc1
      (try simp only [])
      refine hK _ _ (by first | trivial) ?_
      clear hK K
      (try go_frame)
      refine he_t 8 ok rfl ?_
      go_frame
      refine he_t 9 ok rfl ?_
      go_frame
      clear ok
      refine hd_end (by kernel_rfl) rfl ?_
      (try go_wp2)
      go_roundw
      case rel => exact ⟨k + c, by omega, fun _ => by omega, by go_num, G5.out, B5.out⟩
      case measure => simp [intOf]; omega
    · obtain rfl : k = n := by omega
      go_wp2
      go_ret
      refine ⟨_, rfl, Nat.le_refl _, G3.out.at (by simp [zeros]), B3.out⟩
end Go.Proofs.Ytdegpgonphgbcaa
