/-
  slices.Repeat of a list of one number, few times.
  The state of contents (lines that can be there): may.Of, the document's Of.
-/
import Derived.Test.YtlpelpjcbclemaaMuN
import Derived.Test.YtlpelpjcbclemaaHeadr
import Derived.Test.YtlpelpjcbclemaaZMaD
import Derived.Test.YtlpelpjcbclemaaMaG
namespace Go.Proofs.Ytlpelpjcbclemaa
open Go.RowKit

theorem mul64_few (n : Nat) (hn : n ≤ 8) (w : World) : Calls Try.prog 84 #[.int .u64 1, .int .u64 n] w fun e w' => e = .returned (.tuple #[.int .u64 0, .int .u64 n]) ∧ w = w' := by
  have hc : n = 0 ∨ n = 1 ∨ n = 2 ∨ n = 3 ∨ n = 4 ∨ n = 5 ∨ n = 6 ∨ n = 7 ∨ n = 8 := by omega
  rcases hc with rfl | rfl | rfl | rfl | rfl | rfl | rfl | rfl | rfl
  all_goals
    go_enter Try.func84, Try.ntmps84
    go_wp2
    refine bodyPost_ret (v := .tuple #[.int .u64 0, .int .u64 _]) (by simp [results, Try.results84, go_sem]; rfl) rfl ⟨rfl, rfl⟩
theorem mul_few (n : Nat) (hn : n ≤ 8) (w : World) : Calls Try.prog 71 #[.int .u64 1, .int .u64 n] w fun e w' => e = .returned (.tuple #[.int .u64 0, .int .u64 n]) ∧ w = w' := by
  go_enter Try.func71, Try.ntmps71
  go_wp2_with fail
  refine (mul64_few n hn _).mono ?_
  rintro e w1 ⟨rfl, rfl⟩
  go_wp2
  refine bodyPost_ret (v := .tuple #[.int .u64 0, .int .u64 n]) (by simp [results, Try.results71, go_sem]) rfl ⟨rfl, rfl⟩

theorem splice_rep {x : Int} {k n c : Nat} (_h : k + c ≤ n) : splice (ivs (List.replicate k x) ++ zeros (.int .i64 0) (n - k)) k (List.replicate c (iv x)) = ivs (List.replicate (k + c) x) ++ zeros (.int .i64 0) (n - (k + c)) := by
  have e1 : ivs (List.replicate k x) = List.replicate k (iv x) := by simp [ivs]
  have e2 : ivs (List.replicate (k + c) x) = List.replicate k (iv x) ++ List.replicate c (iv x) := by simp [ivs]
  have hl : (List.replicate k (iv x)).length = k := List.length_replicate
  unfold splice
  rw [e1, e2, List.take_left' hl, List.length_replicate, List.append_assoc]
  congr 2
  rw [← List.drop_drop, List.drop_left' hl]
  unfold zeros
  rw [List.drop_replicate]
  congr 1
  omega
theorem size_int : (Try.prog.info? 3).map (·.size) = some 1 := by kernel_rfl

set_option maxRecDepth 100000 in
set_option maxHeartbeats 4000000 in
theorem srepeat_any (x : Int) (hx : -9223372036854775808 ≤ x ∧ x ≤ 9223372036854775807) (n : Nat) (hn : n ≤ 8) (b : Nat) (w : World) (hb : Blk w b 3 [.int .i64 x]) :
    Calls Try.prog 51 #[.slice (some ⟨b, 0, none⟩) 1 1, .int .i64 n] w fun e w' => ∃ a c, e = .returned (.slice a n c) ∧ OInts w' (Ge w.heap.size) (.slice a n c) (List.replicate n x) ∧ Below w.heap.size w w' := by
  have hm := fun w => make_ints n (by omega) w .i64 .i64
  have HB := Lib.hid hb
  have hlt := hb.lt
  clear hb
  have h0 : ¬ ((n : Int) < 0) := by omega
  have hbig : ¬ ((n : Int) > 9223372036854775807) := by omega
  have G0 := Lib.hid (Blk.new w (zeros (.int .i64 0) n) 3)
  have B0 := Lib.hid ((Below.refl w.heap.size w).alloc (Nat.le_refl _) (.cells (zeros (.int .i64 0) n).toArray 3))
  have HB1 := Lib.hid (HB.out.below B0.out hlt)
  go_enter Try.func51, Try.ntmps51
  go_wp2_with fail
  refine (mul_few n hn _).mono ?_
  rintro e w1 ⟨rfl, rfl⟩
  have hl0 : (List.replicate (min 1 n) (iv x)).length = Nat.min 1 n := List.length_replicate
  have hsrc : ∀ (j : Nat) v, (List.replicate (min 1 n) (iv x))[j]? = some v → (w.alloc (.cells (zeros (.int .i64 0) n).toArray 3)).cell? ((⟨b, 0, none⟩ : Addr).add j) = some v := fun j v hv => by
    rw [List.getElem?_replicate] at hv
    split at hv
    · cases hv
      have hj : j = 0 := by omega
      subst hj
      exact HB1.out.cell (i := 0) rfl
    · cases hv
  go_wp2_with (refine wpList_copy_laid rfl (.tmp 31) (.tmp 32) 22 22 rfl 3 Try.underlying22 size_int _ _ _ _ _ _ (by rfl) (by rfl) w.heap.size 0 (zeros (.int .i64 0) n) 3 G0.out (List.replicate (min 1 n) (iv x)) hl0 (fun h => ⟨by rfl, ⟨b, 0, none⟩, by rfl, hsrc⟩) ?c4 ?c5 ?_)
  case c4 => rw [hl0, zeros_length]; exact Nat.le_trans (Nat.le_of_eq (Nat.zero_add _)) (Nat.min_le_right _ _)
  case c5 => exact fun v hv => by rw [(List.mem_replicate.1 hv).2]; rfl
  intro w2 hlaid
  rw [show Nat.min 1 n = min 1 n from rfl]
  have e0 : splice (zeros (.int .i64 0) n) 0 (List.replicate (min 1 n) (iv x)) = ivs (List.replicate (min 1 n) x) ++ zeros (.int .i64 0) (n - min 1 n) := by
    have := splice_rep (x := x) (k := 0) (n := n) (c := min 1 n) (by omega)
    simpa [ivs] using this
  have G2 := Lib.hid (show Blk w2 w.heap.size 3 (ivs (List.replicate (min 1 n) x) ++ zeros (.int .i64 0) (n - min 1 n)) from e0 ▸ hlaid.out.blk)
  have B2 := Lib.hid (B0.out.trans (hlaid.out.chg.below (B := w.heap.size) (fun k hk e => by omega) (by simp)))
  clear hlaid e0
  clear hsrc hl0 hm
  go_wp2
  have hk0 : min 1 n ≤ n := by omega
  have hk1 : 0 < n → 0 < min 1 n := by omega
  generalize min 1 n = k0 at *
  go_loopw [8] (fun v8 wr => ∃ k : Nat, k ≤ n ∧ (0 < n → 0 < k) ∧ v8 = .int .i64 k ∧ Blk wr w.heap.size 3 (ivs (List.replicate k x) ++ zeros (.int .i64 0) (n - k)) ∧ Below w.heap.size w wr) (fun v8 _ => n - (intOf v8).toNat)
  case atStart => exact ⟨k0, hk0, hk1, rfl, G2.out, B2.out⟩
  case round =>
    clear G2 B2 hk0 hk1
    obtain ⟨k, hk, hkp, rfl, hG, hBl⟩ := hrel
    have G3 := Lib.hid hG; have B3 := Lib.hid hBl
    clear hG hBl
    by_cases hlt : k < n
    · have hkp' : 0 < k := hkp (by omega)
      obtain ⟨c, hc⟩ : ∃ c, min k (n - k) = c := ⟨_, rfl⟩
      have hc1 : c = Nat.min k (n - k) := hc.symm
      have hc2 : c ≤ n - k := by omega
      have hc3 : 0 < c := by omega
      have hc4 : c ≤ k := by omega
      have hi1 : (k : Int) < (n : Int) := by omega
      have hi2 : (k : Int) ≤ (n : Int) := by omega
      have hi3 : (0 : Int) ≤ (k : Int) := by omega
      have hnk : ¬ n = k := by omega
      have hsrc : ∀ (j : Nat) v, (List.replicate c (iv x))[j]? = some v → wr.drew.cell? ((⟨w.heap.size, 0, none⟩ : Addr).add j) = some v := fun j v hv => by
        rw [List.getElem?_replicate] at hv
        split at hv
        · cases hv
          rw [Go.WideShapes.add_plain]
          refine G3.out.cell ?_
          rw [Nat.zero_add, List.getElem?_append_left (by rw [ivs_length, List.length_replicate]; omega)]
          exact ivs_get (by rw [List.getElem?_replicate, if_pos (by omega)])
        · cases hv
      go_upto_region 9 with fail
      refine hd_start_e 10 (fun _ => True) (by kernel_rfl) ⟨by kernel_rfl, by rfl⟩ trivial (fun ok => ?_)
      refine hd_take_e (i := 0) (v := ?_) ok rfl (by decide) (by kernel_rfl) (by kernel_rfl) (fun _ _ _ h => h) (Or.inl ⟨by kernel_rfl, ?_⟩) ?_
      rotate_left
      · (intro w hSw; (try dsimp only at hSw); (try go_split_ands); go_simp; (try (with_reducible rfl)))
      go_frame
      refine hd_take_e (i := 1) (v := ?_) ok rfl (by decide) (by kernel_rfl) (by kernel_rfl) (fun _ _ _ h => h) (Or.inl ⟨by kernel_rfl, ?_⟩) ?_
      rotate_left
      · (intro w hSw; (try dsimp only at hSw); (try go_split_ands); go_simp; (try (with_reducible rfl)))
      go_frame
      refine hd_take_e (i := 2) (v := ?_) ok rfl (by decide) (by kernel_rfl) (by kernel_rfl) (fun _ _ _ h => h) (Or.inl ⟨by kernel_rfl, ?_⟩) ?_
      rotate_left
      · (intro w hSw; (try dsimp only at hSw); (try go_split_ands); go_simp; (try (with_reducible rfl)))
      go_frame
      refine hd_take_e (i := 3) (v := ?_) ok rfl (by decide) (by kernel_rfl) (by kernel_rfl) (fun _ _ _ h => h) (Or.inl ⟨by kernel_rfl, ?_⟩) ?_
      rotate_left
      · (intro w hSw; (try dsimp only at hSw); (try go_split_ands); go_simp; (try (with_reducible rfl)))
      go_frame
      refine hd_take_e (i := 4) (v := ?_) ok rfl (by decide) (by kernel_rfl) (by kernel_rfl) (fun _ _ _ h => h) (Or.inl ⟨by kernel_rfl, ?_⟩) ?_
      rotate_left
      · (intro w hSw; (try dsimp only at hSw); (try go_split_ands); go_simp; (try (with_reducible rfl)))
      go_frame
      refine hd_take_e (i := 5) (v := ?_) ok rfl (by decide) (by kernel_rfl) (by kernel_rfl) (fun _ _ _ h => h) (Or.inl ⟨by kernel_rfl, ?_⟩) ?_
      rotate_left
      · (intro w hSw; (try dsimp only at hSw); (try go_split_ands); go_simp; (try (with_reducible rfl)))
      go_frame
      refine hd_take_e (i := 6) (v := ?_) ok rfl (by decide) (by kernel_rfl) (by kernel_rfl) (fun _ _ _ h => h) (Or.inl ⟨by kernel_rfl, ?_⟩) ?_
      rotate_left
      · (intro w hSw; (try dsimp only at hSw); (try go_split_ands); go_simp; (try (with_reducible rfl)))
      go_frame
      refine hd_only_l (c := 7) rfl (by decide) (by kernel_rfl) (fun K hK => ?_)
      refine step_copy_laid rfl (.tmp 41) (.tmp 44) 22 22 rfl 3 Try.underlying22 size_int (some ⟨w.heap.size, k, none⟩) (some ⟨w.heap.size, 0, none⟩) (n - k) (n - k) k n (by first | rfl | (go_simp; done) | (simp; done)) (by first | rfl | (go_simp; done)) w.heap.size k (ivs (List.replicate k x) ++ zeros (.int .i64 0) (n - k)) 3 (show Blk wr.drew w.heap.size 3 _ from G3.out) (List.replicate c (iv x)) (by rw [List.length_replicate]; exact hc1) (fun h => ⟨rfl, ⟨w.heap.size, 0, none⟩, rfl, hsrc⟩) (by rw [List.length_replicate, List.length_append, ivs_length, List.length_replicate, zeros_length]; omega) (fun v hv => by rw [(List.mem_replicate.1 hv).2]; rfl) ?_
      intro w5 hap
      have G5 := Lib.hid (show Blk w5 w.heap.size 3 (ivs (List.replicate (k + c) x) ++ zeros (.int .i64 0) (n - (k + c))) from splice_rep (x := x) (show k + c ≤ n by omega) ▸ hap.out.blk)
      have B5 := Lib.hid (B3.out.trans ((Below.refl _ _).drew.trans (hap.out.chg.below (B := w.heap.size) (fun j hj e => by omega) (by have := B3.out.size; simpa using this))))
      rw [show goInt (List.replicate c (iv x)).length = .int .i64 (c : Int) by rw [List.length_replicate]; rfl]
      have hwr : IntKind.i64.wrap ((k : Int) + (c : Int)) = ((k + c : Nat) : Int) := by rw [IntWalk.i64_in _ (by omega)]; omega
      clear hap hsrc hc hc1
      (try simp only [])
      refine hK _ _ (by first | trivial) ?_
      clear hK K
      (try go_frame)
      refine hd_take_e (i := 8) (v := ?_) ok rfl (by decide) (by kernel_rfl) (by kernel_rfl) (fun _ _ _ h => h) (Or.inl ⟨by kernel_rfl, ?_⟩) ?_
      rotate_left
      · (intro w hSw; (try dsimp only at hSw); (try go_split_ands); go_simp; (try (with_reducible rfl)))
      go_frame
      refine hd_take_e (i := 9) (v := ?_) ok rfl (by decide) (by kernel_rfl) (by kernel_rfl) (fun _ _ _ h => h) (Or.inl ⟨by kernel_rfl, ?_⟩) ?_
      rotate_left
      · (intro w hSw; (try dsimp only at hSw); (try go_split_ands); go_simp; (try (with_reducible rfl)))
      go_frame
      clear ok
      refine hd_end (by kernel_rfl) rfl ?_
      (try go_wp2)
      go_roundw
      case rel => exact ⟨k + c, by omega, fun _ => by omega, by go_num, G5.out, B5.out⟩
      case measure => simp [intOf]; omega
    · obtain rfl : k = n := by omega
      go_wp2
      go_ret
      refine ⟨_, _, rfl, OInts.mk G3.out (by rw [List.length_replicate]) (by simp [zeros_length]) (by omega) (by rw [List.length_replicate]; omega) (Nat.le_refl _) (fun z hz => by rw [(List.mem_replicate.1 hz).2]; exact hx), B3.out⟩
end Go.Proofs.Ytlpelpjcbclemaa
namespace Go.Proofs.Ytlpelpjcbclemaa
open Go.RowKit

set_option maxHeartbeats 1000000 in
theorem yof_any (S W L : Nat) (hc : COk S W L) (K : Nat → Prop) (a : Option Addr) (len cap : Nat) (ss : List (List Int)) (hv : ValidP S W ss) (w : World) (r : Mat K w a len cap ss) :
    Calls Try.prog 22 #[CV S W L, .agg #[.slice a len cap]] w (YRet (ofM ss) (List.replicate S (W : Int)) w) := by
  have hC := Lib.hid hc
  obtain ⟨g1, g2, g3, g4, g5, g6⟩ := hc
  have hS : ss.length = S := by have := hv.1; omega
  have HR := Lib.hid r; have HV := Lib.hid hv
  have F0 := Lib.hid (Fm.new (Fm.new (Fm.new (Fm.start Non w) rfl [.int .i64 S, .int .i64 W, .int .i64 L] 26) (by simp) [.slice a len cap] 44) (by simp) [.slice none 0 0, .slice none 0 0] 31)
  clear r hv
  go_enter Try.func22, Try.ntmps22
  go_wp2_with fail
  refine (aof_any S W L hC.out K a len cap ss HV.out _ (Mat.below HR.out F0.out.below)).mono ?_
  rintro e w3 ⟨ta, tn, tc, rfl, ho3, hb3⟩
  obtain rfl : S = tn := by have h1 := (OCub.read (K := fun _ => True) (fun _ _ => trivial) ho3).hlen; rw [ofM_len] at h1; omega
  have F3 := Lib.hid (Fm.call hb3 F0.out)
  have O3 := Lib.hid ho3
  have c1 := F3.out.h0.cell 1 _ rfl; have lt0 := F3.out.h0.lt (by simp)
  have s3 := F3.out.size
  simp only [List.length_append, List.length_cons, List.length_nil, Nat.zero_add] at s3
  have BW := Lib.hid (Blk.new w3 [.int .i64 W] 3)
  clear ho3 hb3
  go_wp2_with fail
  refine (srepeat_any (W : Int) (by omega) S (by omega) w3.heap.size _ BW.out).mono ?_
  rintro e w4 ⟨ra, rc, rfl, ho4, hb4⟩
  have B4 : Below w3.heap.size w3 w4 := ((Below.refl _ _).alloc (Nat.le_refl _) _).trans (hb4.mono (by simp))
  have F4 := Lib.hid (Fm.call B4 F3.out)
  have s4 := hb4.size
  simp only [World.size_alloc] at s4
  have O4 := Lib.hid (OCub.loc.below O3.out.bt1 B4)
  have R4 := Lib.hid (show OInts w4 (Bt (w3.heap.size + 1) w4.heap.size) (.slice ra S rc) (List.replicate S (W : Int)) from by have := ho4.bt1; simpa using this)
  have hcl := (OCub.read (K := fun _ => True) (fun _ _ => trivial) O3.out).hcap; have hcm := (OCub.read (K := fun _ => True) (fun _ _ => trivial) O3.out).hmax
  have e0 := F4.out.h2.cell 0 _ rfl; have e1 := F4.out.h2.cell 1 _ rfl; have ef := F4.out.h2.free; have lt1 := F4.out.h2.lt (by simp)
  clear ho4 hb4 c1 lt0
  go_wp2
  refine bodyPost_ret (v := YV ta S tc ra S rc) (by simp [results, Try.results22, go_sem, e0, e1]) rfl ⟨ta, S, tc, _, S, rc, _, _, rfl, OY.ge (OY.two (C := w.heap.size + 3) (OY.mk3 O4.out R4.out (.inl (by omega)) (by omega) (by omega) (w.heap.size + 3) (by simp) (by omega)) (by omega) (by omega)) (by omega), ((F4.out.set 2 0 _ rfl (by simp) _).set 2 1 _ rfl (by simp) _).below⟩
end Go.Proofs.Ytlpelpjcbclemaa
