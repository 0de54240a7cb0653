/-
  slices.Repeat of a list of one number, few times.
  The state of contents (lines that can be there): may.Of, the document's Of.
  The document's Below (lines that can be there).
-/
import Derived.Test.YtlpelpjcbclemaaMuN
import Derived.Test.YtlpelpjcbclemaaHeadr
import Derived.Test.YtlpelpjcbclemaaZMaD
import Derived.Test.YtlpelpjcbclemaaMaG
import Derived.Test.YtlpelpjcbclemaaMaT
namespace Go.Proofs.Ytlpelpjcbclemaa
open Go.RowKit

theorem mul64_few (n : Nat) (hn : n ≤ 8) (w : World) : Calls Try.prog 84 #[.int .u64 1, .int .u64 n] w fun e w' => e = .returned (.tuple #[.int .u64 0, .int .u64 n]) ∧ w = w' := by
  have hc : n = 0 ∨ n = 1 ∨ n = 2 ∨ n = 3 ∨ n = 4 ∨ n = 5 ∨ n = 6 ∨ n = 7 ∨ n = 8 := by omega
  rcases hc with rfl | rfl | rfl | rfl | rfl | rfl | rfl | rfl | rfl
  all_goals
    go_enter Try.func84, Try.ntmps84
    go_wp2
    refine bodyPost_ret (v := .tuple #[.int .u64 0, .int .u64 _]) (by simp [results, Try.results84, go_sem]; rfl) rfl ⟨rfl, rfl⟩
theorem mul_few (n : Nat) (hn : n ≤ 8) (w : World) : Calls Try.prog 71 #[.int .u64 1, .int .u64 n] w fun e w' => e = .returned (.tuple #[.int .u64 0, .int .u64 n]) ∧ w = w' := by
  go_enter Try.func71, Try.ntmps71
  go_wp2_with fail
  refine (mul64_few n hn _).mono ?_
  rintro e w1 ⟨rfl, rfl⟩
  go_wp2
  refine bodyPost_ret (v := .tuple #[.int .u64 0, .int .u64 n]) (by simp [results, Try.results71, go_sem]) rfl ⟨rfl, rfl⟩

theorem splice_rep {x : Int} {k n c : Nat} (_h : k + c ≤ n) : splice (ivs (List.replicate k x) ++ zeros (.int .i64 0) (n - k)) k (List.replicate c (iv x)) = ivs (List.replicate (k + c) x) ++ zeros (.int .i64 0) (n - (k + c)) := by
  have e1 : ivs (List.replicate k x) = List.replicate k (iv x) := by simp [ivs]
  have e2 : ivs (List.replicate (k + c) x) = List.replicate k (iv x) ++ List.replicate c (iv x) := by simp [ivs]
  have hl : (List.replicate k (iv x)).length = k := List.length_replicate
  unfold splice
  rw [e1, e2, List.take_left' hl, List.length_replicate, List.append_assoc]
  congr 2
  rw [← List.drop_drop, List.drop_left' hl]
  unfold zeros
  rw [List.drop_replicate]
  congr 1
  omega
theorem size_int : (Try.prog.info? 3).map (·.size) = some 1 := by kernel_rfl

set_option maxRecDepth 100000 in
set_option maxHeartbeats 4000000 in
theorem srepeat_any (x : Int) (hx : -9223372036854775808 ≤ x ∧ x ≤ 9223372036854775807) (n : Nat) (hn : n ≤ 8) (b : Nat) (w : World) (hb : Blk w b 3 [.int .i64 x]) :
    Calls Try.prog 51 #[.slice (some ⟨b, 0, none⟩) 1 1, .int .i64 n] w fun e w' => ∃ a c, e = .returned (.slice a n c) ∧ OInts w' (Ge w.heap.size) (.slice a n c) (List.replicate n x) ∧ Below w.heap.size w w' := by
  have hm := fun w => make_ints n (by omega) w .i64 .i64
  have HB := Lib.hid hb
  have hlt := hb.lt
  clear hb
  have h0 : ¬ ((n : Int) < 0) := by omega
  have hbig : ¬ ((n : Int) > 9223372036854775807) := by omega
  have G0 := Lib.hid (Blk.new w (zeros (.int .i64 0) n) 3)
  have B0 := Lib.hid ((Below.refl w.heap.size w).alloc (Nat.le_refl _) (.cells (zeros (.int .i64 0) n).toArray 3))
  have HB1 := Lib.hid (HB.out.below B0.out hlt)
  go_enter Try.func51, Try.ntmps51
  go_wp2_with fail
  refine (mul_few n hn _).mono ?_
  rintro e w1 ⟨rfl, rfl⟩
  have hl0 : (List.replicate (min 1 n) (iv x)).length = Nat.min 1 n := List.length_replicate
  have hsrc : ∀ (j : Nat) v, (List.replicate (min 1 n) (iv x))[j]? = some v → (w.alloc (.cells (zeros (.int .i64 0) n).toArray 3)).cell? ((⟨b, 0, none⟩ : Addr).add j) = some v := fun j v hv => by
    rw [List.getElem?_replicate] at hv
    split at hv
    · cases hv
      have hj : j = 0 := by omega
      subst hj
      exact HB1.out.cell (i := 0) rfl
    · cases hv
  go_wp2_with (refine wpList_copy_laid rfl (.tmp 31) (.tmp 32) 22 22 rfl 3 Try.underlying22 size_int _ _ _ _ _ _ (by rfl) (by rfl) w.heap.size 0 (zeros (.int .i64 0) n) 3 G0.out (List.replicate (min 1 n) (iv x)) hl0 (fun h => ⟨by rfl, ⟨b, 0, none⟩, by rfl, hsrc⟩) ?c4 ?c5 ?_)
  case c4 => rw [hl0, zeros_length]; exact Nat.le_trans (Nat.le_of_eq (Nat.zero_add _)) (Nat.min_le_right _ _)
  case c5 => exact fun v hv => by rw [(List.mem_replicate.1 hv).2]; rfl
  intro w2 hlaid
  rw [show Nat.min 1 n = min 1 n from rfl]
  have e0 : splice (zeros (.int .i64 0) n) 0 (List.replicate (min 1 n) (iv x)) = ivs (List.replicate (min 1 n) x) ++ zeros (.int .i64 0) (n - min 1 n) := by
    have := splice_rep (x := x) (k := 0) (n := n) (c := min 1 n) (by omega)
    simpa [ivs] using this
  have G2 := Lib.hid (show Blk w2 w.heap.size 3 (ivs (List.replicate (min 1 n) x) ++ zeros (.int .i64 0) (n - min 1 n)) from e0 ▸ hlaid.out.blk)
  have B2 := Lib.hid (B0.out.trans (hlaid.out.chg.below (B := w.heap.size) (fun k hk e => by omega) (by simp)))
  clear hlaid e0
  clear hsrc hl0 hm
  go_wp2
  have hk0 : min 1 n ≤ n := by omega
  have hk1 : 0 < n → 0 < min 1 n := by omega
  generalize min 1 n = k0 at *
  go_loopw [8] (fun v8 wr => ∃ k : Nat, k ≤ n ∧ (0 < n → 0 < k) ∧ v8 = .int .i64 k ∧ Blk wr w.heap.size 3 (ivs (List.replicate k x) ++ zeros (.int .i64 0) (n - k)) ∧ Below w.heap.size w wr) (fun v8 _ => n - (intOf v8).toNat)
  case atStart => exact ⟨k0, hk0, hk1, rfl, G2.out, B2.out⟩
  case round =>
    clear G2 B2 hk0 hk1
    obtain ⟨k, hk, hkp, rfl, hG, hBl⟩ := hrel
    have G3 := Lib.hid hG; have B3 := Lib.hid hBl
    clear hG hBl
    by_cases hlt : k < n
    · have hkp' : 0 < k := hkp (by omega)
      obtain ⟨c, hc⟩ : ∃ c, min k (n - k) = c := ⟨_, rfl⟩
      have hc1 : c = Nat.min k (n - k) := hc.symm
      have hc2 : c ≤ n - k := by omega
      have hc3 : 0 < c := by omega
      have hc4 : c ≤ k := by omega
      have hi1 : (k : Int) < (n : Int) := by omega
      have hi2 : (k : Int) ≤ (n : Int) := by omega
      have hi3 : (0 : Int) ≤ (k : Int) := by omega
      have hnk : ¬ n = k := by omega
      have hsrc : ∀ (j : Nat) v, (List.replicate c (iv x))[j]? = some v → wr.drew.cell? ((⟨w.heap.size, 0, none⟩ : Addr).add j) = some v := fun j v hv => by
        rw [List.getElem?_replicate] at hv
        split at hv
        · cases hv
          rw [Go.WideShapes.add_plain]
          refine G3.out.cell ?_
          rw [Nat.zero_add, List.getElem?_append_left (by rw [ivs_length, List.length_replicate]; omega)]
          exact ivs_get (by rw [List.getElem?_replicate, if_pos (by omega)])
        · cases hv
      go_upto_region 9 with fail
      refine hd_start_e 10 (fun _ => True) (by kernel_rfl) ⟨by kernel_rfl, by rfl⟩ trivial (fun ok => ?_)
      refine hd_take_e (i := 0) (v := ?_) ok rfl (by decide) (by kernel_rfl) (by kernel_rfl) (fun _ _ _ h => h) (Or.inl ⟨by kernel_rfl, ?_⟩) ?_
      rotate_left
      · (intro w hSw; (try dsimp only at hSw); (try go_split_ands); go_simp; (try (with_reducible rfl)))
      go_frame
      refine hd_take_e (i := 1) (v := ?_) ok rfl (by decide) (by kernel_rfl) (by kernel_rfl) (fun _ _ _ h => h) (Or.inl ⟨by kernel_rfl, ?_⟩) ?_
      rotate_left
      · (intro w hSw; (try dsimp only at hSw); (try go_split_ands); go_simp; (try (with_reducible rfl)))
      go_frame
      refine hd_take_e (i := 2) (v := ?_) ok rfl (by decide) (by kernel_rfl) (by kernel_rfl) (fun _ _ _ h => h) (Or.inl ⟨by kernel_rfl, ?_⟩) ?_
      rotate_left
      · (intro w hSw; (try dsimp only at hSw); (try go_split_ands); go_simp; (try (with_reducible rfl)))
      go_frame
      refine hd_take_e (i := 3) (v := ?_) ok rfl (by decide) (by kernel_rfl) (by kernel_rfl) (fun _ _ _ h => h) (Or.inl ⟨by kernel_rfl, ?_⟩) ?_
      rotate_left
      · (intro w hSw; (try dsimp only at hSw); (try go_split_ands); go_simp; (try (with_reducible rfl)))
      go_frame
      refine hd_take_e (i := 4) (v := ?_) ok rfl (by decide) (by kernel_rfl) (by kernel_rfl) (fun _ _ _ h => h) (Or.inl ⟨by kernel_rfl, ?_⟩) ?_
      rotate_left
      · (intro w hSw; (try dsimp only at hSw); (try go_split_ands); go_simp; (try (with_reducible rfl)))
      go_frame
      refine hd_take_e (i := 5) (v := ?_) ok rfl (by decide) (by kernel_rfl) (by kernel_rfl) (fun _ _ _ h => h) (Or.inl ⟨by kernel_rfl, ?_⟩) ?_
      rotate_left
      · (intro w hSw; (try dsimp only at hSw); (try go_split_ands); go_simp; (try (with_reducible rfl)))
      go_frame
      refine hd_take_e (i := 6) (v := ?_) ok rfl (by decide) (by kernel_rfl) (by kernel_rfl) (fun _ _ _ h => h) (Or.inl ⟨by kernel_rfl, ?_⟩) ?_
      rotate_left
      · (intro w hSw; (try dsimp only at hSw); (try go_split_ands); go_simp; (try (with_reducible rfl)))
      go_frame
      refine hd_only_l (c := 7) rfl (by decide) (by kernel_rfl) (fun K hK => ?_)
      refine step_copy_laid rfl (.tmp 41) (.tmp 44) 22 22 rfl 3 Try.underlying22 size_int (some ⟨w.heap.size, k, none⟩) (some ⟨w.heap.size, 0, none⟩) (n - k) (n - k) k n (by first | rfl | (go_simp; done) | (simp; done)) (by first | rfl | (go_simp; done)) w.heap.size k (ivs (List.replicate k x) ++ zeros (.int .i64 0) (n - k)) 3 (show Blk wr.drew w.heap.size 3 _ from G3.out) (List.replicate c (iv x)) (by rw [List.length_replicate]; exact hc1) (fun h => ⟨rfl, ⟨w.heap.size, 0, none⟩, rfl, hsrc⟩) (by rw [List.length_replicate, List.length_append, ivs_length, List.length_replicate, zeros_length]; omega) (fun v hv => by rw [(List.mem_replicate.1 hv).2]; rfl) ?_
      intro w5 hap
      have G5 := Lib.hid (show Blk w5 w.heap.size 3 (ivs (List.replicate (k + c) x) ++ zeros (.int .i64 0) (n - (k + c))) from splice_rep (x := x) (show k + c ≤ n by omega) ▸ hap.out.blk)
      have B5 := Lib.hid (B3.out.trans ((Below.refl _ _).drew.trans (hap.out.chg.below (B := w.heap.size) (fun j hj e => by omega) (by have := B3.out.size; simpa using this))))
      rw [show goInt (List.replicate c (iv x)).length = .int .i64 (c : Int) by rw [List.length_replicate]; rfl]
      have hwr : IntKind.i64.wrap ((k : Int) + (c : Int)) = ((k + c : Nat) : Int) := by rw [IntWalk.i64_in _ (by omega)]; omega
      clear hap hsrc hc hc1
      (try simp only [])
      refine hK _ _ (by first | trivial) ?_
      clear hK K
      (try go_frame)
      refine hd_take_e (i := 8) (v := ?_) ok rfl (by decide) (by kernel_rfl) (by kernel_rfl) (fun _ _ _ h => h) (Or.inl ⟨by kernel_rfl, ?_⟩) ?_
      rotate_left
      · (intro w hSw; (try dsimp only at hSw); (try go_split_ands); go_simp; (try (with_reducible rfl)))
      go_frame
      refine hd_take_e (i := 9) (v := ?_) ok rfl (by decide) (by kernel_rfl) (by kernel_rfl) (fun _ _ _ h => h) (Or.inl ⟨by kernel_rfl, ?_⟩) ?_
      rotate_left
      · (intro w hSw; (try dsimp only at hSw); (try go_split_ands); go_simp; (try (with_reducible rfl)))
      go_frame
      clear ok
      refine hd_end (by kernel_rfl) rfl ?_
      (try go_wp2)
      go_roundw
      case rel => exact ⟨k + c, by omega, fun _ => by omega, by go_num, G5.out, B5.out⟩
      case measure => simp [intOf]; omega
    · obtain rfl : k = n := by omega
      go_wp2
      go_ret
      refine ⟨_, _, rfl, OInts.mk G3.out (by rw [List.length_replicate]) (by simp [zeros_length]) (by omega) (by rw [List.length_replicate]; omega) (Nat.le_refl _) (fun z hz => by rw [(List.mem_replicate.1 hz).2]; exact hx), B3.out⟩
end Go.Proofs.Ytlpelpjcbclemaa
namespace Go.Proofs.Ytlpelpjcbclemaa
open Go.RowKit

set_option maxHeartbeats 1000000 in
theorem yof_any (S W L : Nat) (hc : COk S W L) (K : Nat → Prop) (a : Option Addr) (len cap : Nat) (ss : List (List Int)) (hv : ValidP S W ss) (w : World) (r : Mat K w a len cap ss) :
    Calls Try.prog 22 #[CV S W L, .agg #[.slice a len cap]] w (YRet (ofM ss) (List.replicate S (W : Int)) w) := by
  have hC := Lib.hid hc
  obtain ⟨g1, g2, g3, g4, g5, g6⟩ := hc
  have hS : ss.length = S := by have := hv.1; omega
  have HR := Lib.hid r; have HV := Lib.hid hv
  have F0 := Lib.hid (Fm.new (Fm.new (Fm.new (Fm.start Non w) rfl [.int .i64 S, .int .i64 W, .int .i64 L] 26) (by simp) [.slice a len cap] 44) (by simp) [.slice none 0 0, .slice none 0 0] 31)
  clear r hv
  go_enter Try.func22, Try.ntmps22
  go_wp2_with fail
  refine (aof_any S W L hC.out K a len cap ss HV.out _ (Mat.below HR.out F0.out.below)).mono ?_
  rintro e w3 ⟨ta, tn, tc, rfl, ho3, hb3⟩
  obtain rfl : S = tn := by have h1 := (OCub.read (K := fun _ => True) (fun _ _ => trivial) ho3).hlen; rw [ofM_len] at h1; omega
  have F3 := Lib.hid (Fm.call hb3 F0.out)
  have O3 := Lib.hid ho3
  have c1 := F3.out.h0.cell 1 _ rfl; have lt0 := F3.out.h0.lt (by simp)
  have s3 := F3.out.size
  simp only [List.length_append, List.length_cons, List.length_nil, Nat.zero_add] at s3
  have BW := Lib.hid (Blk.new w3 [.int .i64 W] 3)
  clear ho3 hb3
  go_wp2_with fail
  refine (srepeat_any (W : Int) (by omega) S (by omega) w3.heap.size _ BW.out).mono ?_
  rintro e w4 ⟨ra, rc, rfl, ho4, hb4⟩
  have B4 : Below w3.heap.size w3 w4 := ((Below.refl _ _).alloc (Nat.le_refl _) _).trans (hb4.mono (by simp))
  have F4 := Lib.hid (Fm.call B4 F3.out)
  have s4 := hb4.size
  simp only [World.size_alloc] at s4
  have O4 := Lib.hid (OCub.loc.below O3.out.bt1 B4)
  have R4 := Lib.hid (show OInts w4 (Bt (w3.heap.size + 1) w4.heap.size) (.slice ra S rc) (List.replicate S (W : Int)) from by have := ho4.bt1; simpa using this)
  have hcl := (OCub.read (K := fun _ => True) (fun _ _ => trivial) O3.out).hcap; have hcm := (OCub.read (K := fun _ => True) (fun _ _ => trivial) O3.out).hmax
  have e0 := F4.out.h2.cell 0 _ rfl; have e1 := F4.out.h2.cell 1 _ rfl; have ef := F4.out.h2.free; have lt1 := F4.out.h2.lt (by simp)
  clear ho4 hb4 c1 lt0
  go_wp2
  refine bodyPost_ret (v := YV ta S tc ra S rc) (by simp [results, Try.results22, go_sem, e0, e1]) rfl ⟨ta, S, tc, _, S, rc, _, _, rfl, OY.ge (OY.two (C := w.heap.size + 3) (OY.mk3 O4.out R4.out (.inl (by omega)) (by omega) (by omega) (w.heap.size + 3) (by simp) (by omega)) (by omega) (by omega)) (by omega), ((F4.out.set 2 0 _ rfl (by simp) _).set 2 1 _ rfl (by simp) _).below⟩
end Go.Proofs.Ytlpelpjcbclemaa
namespace Go.Proofs.Ytlpelpjcbclemaa
open Go.RowKit

set_option maxRecDepth 100000 in
set_option maxHeartbeats 16000000 in
theorem yrbelow_any (U : List Int) (hU : U.length ≤ 1000) (S W L : Nat) (hc : COk S W L) (m q : List (List (List Int))) (o r : List Int) (hm : YSt U S W m o) (hq : YSt U S W q r) (K1 K2 : Nat → Prop) (a1 : Option Addr) (l1 c1 : Nat) (d1 : Option Addr) (n1 e1 : Nat) (a2 : Option Addr) (l2 c2 : Nat) (d2 : Option Addr) (n2 e2 : Nat) (w : World) (r1 : YCub K1 w a1 l1 c1 d1 n1 e1 m o) (r2 : YCub K2 w a2 l2 c2 d2 n2 e2 q r) :
    Calls Try.prog 33 #[CV S W L, YV a1 l1 c1 d1 n1 e1, YV a2 l2 c2 d2 n2 e2] w (BoolIff (BelowY S W m o q r) w) := by
  have h1 : l1 = S := by rw [← r1.cub.hlen]; exact hm.len
  have h2 : n1 = S := by rw [← r1.ints.hlen]; exact hm.olen
  have h3 : l2 = S := by rw [← r2.cub.hlen]; exact hq.len
  have h4 : n2 = S := by rw [← r2.ints.hlen]; exact hq.olen
  subst h1
  obtain rfl : l1 = n1 := h2.symm
  obtain rfl : l1 = l2 := h3.symm
  obtain rfl : l1 = n2 := h4.symm
  clear h2 h3 h4
  have hC := Lib.hid hc
  obtain ⟨g1, g2, g3, g4, g5, g6⟩ := hc
  have F0 := Lib.hid (Fm.new (Fm.new (Fm.new (Fm.start Non w) rfl [.int .i64 l1, .int .i64 W, .int .i64 L] 26) (by simp) [.slice a1 l1 c1, .slice d1 l1 e1] 31) (by simp) [.slice a2 l1 c2, .slice d2 l1 e2] 31)
  have HR1 := Lib.hid (ints_old r1); have HR2 := Lib.hid (ints_old r2); have HM := Lib.hid hm; have HQ := Lib.hid hq
  clear r1 r2 hm hq
  have a0 := F0.out.h1.cell 0 _ rfl; have a1' := F0.out.h1.cell 1 _ rfl; have b0 := F0.out.h2.cell 0 _ rfl; have b1 := F0.out.h2.cell 1 _ rfl
  go_enter Try.func33, Try.ntmps33
  go_wp2_with fail
  clear a0 a1' b0 b1
  have F1 := Lib.hid (show Fm Non w (((w.alloc (.cells #[.int .i64 l1, .int .i64 W, .int .i64 L] 26)).alloc (.cells #[.slice a1 l1 c1, .slice d1 l1 e1] 31)).alloc (.cells #[.slice a2 l1 c2, .slice d2 l1 e2] 31)) [[.int .i64 l1, .int .i64 W, .int .i64 L], [.slice a1 l1 c1, .slice d1 l1 e1], [.slice a2 l1 c2, .slice d2 l1 e2]] from F0.out)
  go_loopw [15] (fun i wr => ∃ k : Nat, k ≤ l1 ∧ i = .int .i64 k ∧ (∀ s, s < k → BelowAt W (m.getD s []) (o.getD s 0).toNat (q.getD s []) (r.getD s 0).toNat) ∧ Fm Non w wr [[.int .i64 l1, .int .i64 W, .int .i64 L], [.slice a1 l1 c1, .slice d1 l1 e1], [.slice a2 l1 c2, .slice d2 l1 e2]]) (fun i _ => l1 - (intOf i).toNat)
  case atStart => exact ⟨0, Nat.zero_le _, rfl, fun s hs => absurd hs (Nat.not_lt_zero _), F1.out⟩
  case round =>
    clear F0 F1
    obtain ⟨k, hk, rfl, hB, hF⟩ := hrel
    have F2 := Lib.hid hF; have HB := Lib.hid hB
    clear hF hB
    by_cases hlt : k < l1
    · obtain ⟨f, i, hf, hi, hfd, hid, hfy⟩ := HM.out.at hlt
      obtain ⟨g, j, hg, hj, hgd, hjd, hgy⟩ := HQ.out.at hlt
      obtain ⟨ab, ap, rfl, hca, hab, _, _⟩ := HR1.out.other hi
      obtain ⟨bb, bp, rfl, hcb, hbb, _, _⟩ := HR2.out.other hj
      have HFY := Lib.hid hfy; have HGY := Lib.hid hgy
      have HFD := Lib.hid hfd; have HID := Lib.hid hid; have HGD := Lib.hid hgd; have HJD := Lib.hid hjd
      obtain ⟨xb, xo, f', ra, rn, rc, rfl, hx, hcx, hrx, _, hbx⟩ := Rows.get HR1.out.cub hlt
      obtain rfl : f' = f := by rw [hf] at hx; cases hx; rfl
      obtain ⟨yb, yo, g', qa, qn, qc, rfl, hy, hcy, hry, _, hby⟩ := Rows.get HR2.out.cub hlt
      obtain rfl : g' = g := by rw [hg] at hy; cases hy; rfl
      obtain rfl : rn = W := by rw [← hrx.hlen]; exact hfy.ws.len
      obtain rfl : rn = qn := by rw [← hry.hlen]; exact hgy.ws.len.symm
      have hs0 : (0 : Int) ≤ (k : Int) := by omega
      have hs1 : (k : Int) < (l1 : Int) := by omega
      have HRX := Lib.hid hrx; have HRY := Lib.hid hry
      have BA := Lib.hid (show BelowAt rn (m.getD k []) (o.getD k 0).toNat (q.getD k []) (r.getD k 0).toNat ↔ BelowAt rn f' i g' j by rw [hfd, hid, hgd, hjd, Int.toNat_natCast, Int.toNat_natCast])
      clear hf hi hfd hid hfy hg hj hgd hjd hgy hx hrx hy hry
      have a1' := F2.out.h1.cell 1 _ rfl; have b1 := F2.out.h2.cell 1 _ rfl
      have ca := (F2.out.below.cell (p := ⟨ab, ap + k, none⟩) hab).trans hca
      have cb := (F2.out.below.cell (p := ⟨bb, bp + k, none⟩) hbb).trans hcb
      by_cases hji : i < j
      · have NO := Lib.hid (show ¬ BelowY l1 rn m o q r from fun h => by have := (BA.out.1 (h k hlt)).1; omega)
        have hgt : ((j : Int) > (i : Int)) := by omega
        clear hji
        go_upto_region 4 with fail
        go_quiet (fail)
        go_wp2
        go_ret
        exact BoolIff.no rfl NO.out (below_drewN F2.out.below _)
      · have hgt : ¬ ((j : Int) > (i : Int)) := by omega
        have HJI := Lib.hid (show j ≤ i by omega)
        clear hji
        obtain ⟨ua, uo, rfl, _, _⟩ := Row.addr HRX.out (by omega)
        obtain ⟨va, vo, rfl, _, _⟩ := Row.addr HRY.out (by omega)
        have FX := Lib.hid (yset_flat HFY.out hU (by omega)); have FY := Lib.hid (yset_flat HGY.out hU (by omega))
        go_upto_region 4 with fail
        go_quiet (fail)
        have F3 := Lib.hid (Fm.call (below_drewN (Below.refl _ _) nq) F2.out)
        obtain ⟨wv, hwv⟩ : ∃ wv : World, wv = wr.drewN nq := ⟨_, rfl⟩
        rw [← hwv] at F3 ⊢
        clear hwv ca cb a1' b1 F2
        have a0 := F3.out.h1.cell 0 _ rfl; have b0 := F3.out.h2.cell 0 _ rfl
        have cx := (F3.out.below.cell (p := ⟨xb, xo + k, none⟩) hbx).trans hcx
        have cy := (F3.out.below.cell (p := ⟨yb, yo + k, none⟩) hby).trans hcy
        obtain ⟨cs1, hv1⟩ := Mat.vals (Mat.below HRX.out F3.out.below)
        obtain ⟨cs2, hv2⟩ := Mat.vals (Mat.below HRY.out F3.out.below)
        have VS1 := Lib.hid hv1; have VS2 := Lib.hid hv2
        have L1 := Lib.hid (show cs1.length = rn by rw [hv1.len]; exact HRX.out.hlen); have L2 := Lib.hid (show cs2.length = rn by rw [hv2.len]; exact HRY.out.hlen)
        clear hv1 hv2
        go_upto_region 6 with fail
        refine hd_start_e 14 (fun w' => w'.cell? ⟨w.heap.size + 1, 0, none⟩ = some (.slice (some ⟨xb, xo, none⟩) l1 c1) ∧ w'.cell? ⟨xb, xo + k, none⟩ = some (.slice (some ⟨ua, uo, none⟩) rn rc) ∧ w'.cell? ⟨w.heap.size + 1 + 1, 0, none⟩ = some (.slice (some ⟨yb, yo, none⟩) l1 c2) ∧ w'.cell? ⟨yb, yo + k, none⟩ = some (.slice (some ⟨va, vo, none⟩) rn qc)) (by kernel_rfl) ⟨by kernel_rfl, by rfl⟩ (by refine ⟨a0, cx, b0, cy⟩) (fun ok => ?_)
        refine hd_take_e (i := 0) (v := ?_) ok rfl (by decide) (by kernel_rfl) (by kernel_rfl) (fun _ _ _ h => h) (Or.inl ⟨by kernel_rfl, ?_⟩) ?_
        rotate_left
        · (intro w hSw; (try dsimp only at hSw); (try go_split_ands); go_simp; (try (with_reducible rfl)))
        go_frame
        refine hd_take_e (i := 1) (v := ?_) ok rfl (by decide) (by kernel_rfl) (by kernel_rfl) (fun _ _ _ h => h) (Or.inl ⟨by kernel_rfl, ?_⟩) ?_
        rotate_left
        · (intro w hSw; (try dsimp only at hSw); (try go_split_ands); go_simp; (try (with_reducible rfl)))
        go_frame
        refine hd_take_e (i := 2) (v := ?_) ok rfl (by decide) (by kernel_rfl) (by kernel_rfl) (fun _ _ _ h => h) (Or.inl ⟨by kernel_rfl, ?_⟩) ?_
        rotate_left
        · (intro w hSw; (try dsimp only at hSw); (try go_split_ands); go_simp; (try (with_reducible rfl)))
        go_frame
        refine hd_take_e (i := 3) (v := ?_) ok rfl (by decide) (by kernel_rfl) (by kernel_rfl) (fun _ _ _ h => h) (Or.inl ⟨by kernel_rfl, ?_⟩) ?_
        rotate_left
        · (intro w hSw; (try dsimp only at hSw); (try go_split_ands); go_simp; (try (with_reducible rfl)))
        go_frame
        refine hd_take_e (i := 4) (v := ?_) ok rfl (by decide) (by kernel_rfl) (by kernel_rfl) (fun _ _ _ h => h) (Or.inl ⟨by kernel_rfl, ?_⟩) ?_
        rotate_left
        · (intro w hSw; (try dsimp only at hSw); (try go_split_ands); go_simp; (try (with_reducible rfl)))
        go_frame
        refine hd_take_e (i := 6) (v := ?_) ok rfl (by decide) (by kernel_rfl) (by kernel_rfl) (fun _ _ _ h => h) (Or.inl ⟨by kernel_rfl, ?_⟩) ?_
        rotate_left
        · (intro w hSw; (try dsimp only at hSw); (try go_split_ands); go_simp; (try (with_reducible rfl)))
        go_frame
        refine hd_take_e (i := 7) (v := ?_) ok rfl (by decide) (by kernel_rfl) (by kernel_rfl) (fun _ _ _ h => h) (Or.inl ⟨by kernel_rfl, ?_⟩) ?_
        rotate_left
        · (intro w hSw; (try dsimp only at hSw); (try go_split_ands); go_simp; (try (with_reducible rfl)))
        go_frame
        refine hd_take_e (i := 8) (v := ?_) ok rfl (by decide) (by kernel_rfl) (by kernel_rfl) (fun _ _ _ h => h) (Or.inl ⟨by kernel_rfl, ?_⟩) ?_
        rotate_left
        · (intro w hSw; (try dsimp only at hSw); (try go_split_ands); go_simp; (try (with_reducible rfl)))
        go_frame
        refine hd_take_e (i := 9) (v := ?_) ok rfl (by decide) (by kernel_rfl) (by kernel_rfl) (fun _ _ _ h => h) (Or.inl ⟨by kernel_rfl, ?_⟩) ?_
        rotate_left
        · (intro w hSw; (try dsimp only at hSw); (try go_split_ands); go_simp; (try (with_reducible rfl)))
        go_frame
        refine hd_take_e (i := 10) (v := ?_) ok rfl (by decide) (by kernel_rfl) (by kernel_rfl) (fun _ _ _ h => h) (Or.inl ⟨by kernel_rfl, ?_⟩) ?_
        rotate_left
        · (intro w hSw; (try dsimp only at hSw); (try go_split_ands); go_simp; (try (with_reducible rfl)))
        go_frame
        refine hd_take_e (i := 13) (v := ?_) ok rfl (by decide) (by kernel_rfl) (by kernel_rfl) (fun _ _ _ h => h) (Or.inl ⟨by kernel_rfl, ?_⟩) ?_
        rotate_left
        · (intro w hSw; (try dsimp only at hSw); (try go_split_ands); go_simp; (try (with_reducible rfl)))
        go_frame
        refine hd_only_l (c := 5) rfl (by decide) (by kernel_rfl) (fun K hK => ?_)
        refine step_append_coll rfl _ _ 42 rfl Try.underlying42 info_sl rfl (Coll.nil wv.drew (fun _ => False)) rfl ⟨ua, uo, none⟩ rn rc cs1 rfl L1.out VS1.out.cell VS1.out.one (by simp; omega) ?_
        intro v6 w6 hap
        have k6 := hap.out.2
        have a1 := k6.cell (fun h => h) a0; have cx1 := k6.cell (fun h => h) cx; have b1 := k6.cell (fun h => h) b0; have cy1 := k6.cell (fun h => h) cy
        have C6 := Lib.hid hap.out.1
        have K6 := Lib.hid (show Chg (fun _ => False) wv w6 from (Chg.refl wv).drew.trans k6 (fun _ _ h => h))
        have s6 := k6.size
        simp only [World.size_drew] at s6
        clear hap k6 a0 cx b0 cy
        (try simp only [])
        refine hK _ _ (by refine ⟨?_, ?_, ?_, ?_⟩ <;> (first | exact a1 | exact cx1 | exact b1 | exact cy1)) ?_
        clear hK K
        (try go_frame)

        refine hd_only_l (c := 11) rfl (by decide) (by kernel_rfl) (fun K hK => ?_)
        refine step_append_coll rfl _ _ 42 rfl Try.underlying42 info_sl rfl C6.out rfl ⟨va, vo, none⟩ rn qc cs2 rfl L2.out (fun j u hu => by have h9 := VS2.out.cell j u hu; rw [Go.WideShapes.add_plain] at h9 ⊢; exact K6.out.cell (fun h => h) h9) VS2.out.one (by have := L1.out; simp; omega) ?_
        intro v7 w7 hap
        have k7 := hap.out.2
        have nG : ∀ x, x < wv.heap.size → ¬ Grown (fun _ => False) wv.drew x := fun x hx h => h.elim id (fun h => by simp at h; omega)
        have F3s := F3.out.size
        simp only [List.length_cons, List.length_nil] at F3s
        have F3b := F3.out.below.size
        have a2 := k7.cell (nG _ (by omega)) a1; have cx2 := k7.cell (nG _ (by omega)) cx1; have b2 := k7.cell (nG _ (by omega)) b1; have cy2 := k7.cell (nG _ (by omega)) cy1
        obtain ⟨la, lc, rfl⟩ := hap.out.1.form (n := rn + rn) (by have := L1.out; have := L2.out; simp; omega)
        have C7 := Lib.hid hap.out.1
        have s7 := k7.size
        have K7 := Lib.hid k7
        clear hap k7 a1 cx1 b1 cy1
        (try simp only [])
        refine hK _ _ (by refine ⟨?_, ?_, ?_, ?_⟩ <;> (first | exact a2 | exact cx2 | exact b2 | exact cy2)) ?_
        clear hK K
        (try go_frame)

        refine hd_only_l (c := 12) rfl (by decide) (by kernel_rfl) (fun K hK => ?_)
        go_simp
        (try simp only [])
        refine hK _ _ (by refine ⟨?_, ?_, ?_, ?_⟩ <;> (first | exact a2 | exact cx2 | exact b2 | exact cy2)) ?_
        clear hK K
        (try go_frame)

        clear ok a2 cx2 b2 cy2
        refine hd_end (by kernel_rfl) rfl ?_
        have KW := Lib.hid (show Chg Non wv w7 from (K6.out.mono (fun _ _ h => h)).trans K7.out (fun j hj h => absurd h (nG j (by omega))))
        have F7 := Lib.hid (Fm.call KW.out.below0 F3.out)
        have hLn : (f' ++ g').length = rn + rn := by rw [List.length_append, HRX.out.hlen, HRY.out.hlen]
        have ML := Lib.hid (show Mat (fun _ => True) w7 la (rn + rn) lc (f' ++ g') from C7.out.mat (by have := L1.out; have := L2.out; rw [hLn]; simp; omega) (by omega) (fun j' l hl => by
          rcases Nat.lt_or_ge j' f'.length with hj | hj
          · rw [List.getElem?_append_left hj] at hl
            obtain ⟨a', n', c', h1, h2⟩ := VS1.out.row j' l hl
            exact ⟨a', n', c', by rw [List.nil_append, List.getElem?_append_left (by rw [VS1.out.len]; exact hj)]; exact h1, Row.below RInt.stays (Row.wide RInt.wider (fun _ _ _ => trivial) h2) KW.out.below0⟩
          · rw [List.getElem?_append_right hj] at hl
            obtain ⟨a', n', c', h1, h2⟩ := VS2.out.row (j' - f'.length) l hl
            exact ⟨a', n', c', by rw [List.nil_append, List.getElem?_append_right (by rw [VS1.out.len]; exact hj), VS1.out.len]; exact h1, Row.below RInt.stays (Row.wide RInt.wider (fun _ _ _ => trivial) h2) KW.out.below0⟩) (fun _ _ _ => trivial))
        have PL := Lib.hid (show ∀ l x, l ∈ f' ++ g' → x ∈ l → Kn f' g' x from fun l x hl hx => mem_kn.1 (List.mem_flatten.2 ⟨l, hl, hx⟩))
        obtain ⟨LL, hLL⟩ : ∃ LL, f' ++ g' = LL := ⟨_, rfl⟩
        have HLL := Lib.hid hLL
        rw [hLL] at ML PL hLn
        have HLn := Lib.hid hLn
        clear hLL hLn C6 K6 C7 K7 s6 nG VS1 VS2 cs1 cs2 L1 L2 F3
        go_wp2
        go_loopw [42] (fun v wr => ∃ t : Nat, t ≤ rn + rn ∧ v = .int .i64 t ∧ (∀ x, x ∈ (LL.take t).flatten → ageF rn g' j x ≤ ageF rn f' i x) ∧ Below w7.heap.size w7 wr ∧ Fm Non w wr [[.int .i64 l1, .int .i64 rn, .int .i64 L], [.slice (some ⟨xb, xo, none⟩) l1 c1, .slice (some ⟨ab, ap, none⟩) l1 e1], [.slice (some ⟨yb, yo, none⟩) l1 c2, .slice (some ⟨bb, bp, none⟩) l1 e2]]) (fun v _ => rn + rn - (intOf v).toNat)
        case atStart => exact ⟨0, Nat.zero_le _, rfl, by simp, Below.refl _ _, F7.out⟩
        case round =>
          clear F7
          obtain ⟨t, ht, rfl, hT, hbt, hF⟩ := hrel
          have FB := Lib.hid hF; have BT := Lib.hid hbt; have HT := Lib.hid hT
          clear hF hbt hT
          by_cases htl : t < rn + rn
          · obtain ⟨gb, go, l, qa', ll, qc', rfl, hxl, hcl', hrl, hKb, hbl'⟩ := Rows.get ML.out htl
            have hcl := (BT.out.cell (p := ⟨gb, go + t, none⟩) hbl').trans hcl'
            have hll := hrl.hlen; have hl6 := hrl.hsz
            subst hll
            have RL := Lib.hid (show Ints (fun _ => True) w7 qa' l.length qc' l from hrl)
            have HXL := Lib.hid hxl
            have hLm := List.mem_of_getElem? hxl
            have PLl := Lib.hid (fun x hx => PL.out l x hLm hx)
            have HE9 := Lib.hid (show (LL.take (t + 1)).flatten = (LL.take t).flatten ++ l by rw [List.take_add_one, hxl, List.flatten_append]; simp)
            clear hxl hrl hcl' hbl' hKb hLm
            go_wp2
            rw [show decide ((t : Int) < (rn : Int) + (rn : Int)) = true from by simp; omega]
            go_loopw [48] (fun v wr => ∃ y : Nat, y ≤ l.length ∧ v = .int .i64 y ∧ (∀ x, x ∈ l.take y → ageF rn g' j x ≤ ageF rn f' i x) ∧ Below w7.heap.size w7 wr ∧ Fm Non w wr [[.int .i64 l1, .int .i64 rn, .int .i64 L], [.slice (some ⟨xb, xo, none⟩) l1 c1, .slice (some ⟨ab, ap, none⟩) l1 e1], [.slice (some ⟨yb, yo, none⟩) l1 c2, .slice (some ⟨bb, bp, none⟩) l1 e2]]) (fun v _ => l.length - (intOf v).toNat)
            case atStart => exact ⟨0, Nat.zero_le _, rfl, by simp, BT.out, FB.out⟩
            case round =>
              clear FB BT hcl
              obtain ⟨y, hy, rfl, hY, hbt, hF⟩ := hrel
              have FB := Lib.hid hF; have BT := Lib.hid hbt; have HY := Lib.hid hY
              clear hF hbt hY
              by_cases hyl : y < l.length
              · obtain ⟨lb, lo, x, rfl, hzx, hcz, hz1, hz2, _, hbz⟩ := Ints.get (RL.out.below BT.out) hyl
                have KN := Lib.hid (PLl.out x (List.mem_of_getElem? hzx))
                have PX := Lib.hid (show PS U l1 k x from KN.out.elim (fun ⟨i, h⟩ => HFY.out.ws.mem i x h) (fun ⟨i, h⟩ => HGY.out.ws.mem i x h))
                have hx0 := PX.out.1; have hx9 := PX.out.2.1
                have AGa := Lib.hid (fun (s : BelowW wr) => yrage_any l1 rn L hC.out m o HM.out _ _ l1 c1 _ l1 e1 x hx0 s.world (HR1.out.below (FB.out.below.trans (s.ok.mono (by have := FB.out.size; omega)))))
                have AGb := Lib.hid (fun (s : BelowW wr) => yrage_any l1 rn L hC.out q r HQ.out _ _ l1 c2 _ l1 e2 x hx0 s.world (HR2.out.below (FB.out.below.trans (s.ok.mono (by have := FB.out.size; omega)))))
                have EA := Lib.hid (ageY_at (W := rn) (by omega) PX.out.2.2.1 HFD.out HID.out)
                have EB := Lib.hid (ageY_at (W := rn) (by omega) PX.out.2.2.1 HGD.out HJD.out)
                simp only [EA.out] at AGa
                simp only [EB.out] at AGb
                have HZX := Lib.hid hzx
                clear hzx EA EB
                have kc0 := fun s : BelowW wr => (FB.out.h0.every (FB.out.h0.lt (by simp)) s).cell 0 _ rfl; have kc1 := fun s : BelowW wr => (FB.out.h0.every (FB.out.h0.lt (by simp)) s).cell 1 _ rfl; have kc2 := fun s : BelowW wr => (FB.out.h0.every (FB.out.h0.lt (by simp)) s).cell 2 _ rfl
                have p0 := fun s : BelowW wr => (FB.out.h1.every (FB.out.h1.lt (by simp)) s).cell 0 _ rfl; have p1 := fun s : BelowW wr => (FB.out.h1.every (FB.out.h1.lt (by simp)) s).cell 1 _ rfl
                have q0 := fun s : BelowW wr => (FB.out.h2.every (FB.out.h2.lt (by simp)) s).cell 0 _ rfl; have q1 := fun s : BelowW wr => (FB.out.h2.every (FB.out.h2.lt (by simp)) s).cell 1 _ rfl
                by_cases hle : ageF rn f' i x < ageF rn g' j x
                · have NO := Lib.hid (show ¬ BelowY l1 rn m o q r from fun h => by have := (BA.out.1 (h k hlt)).2 x KN.out; omega)
                  generalize ageF rn f' i x = na at *
                  generalize ageF rn g' j x = nb at *
                  have hgt2 : ((nb : Int) > (na : Int)) := by omega
                  clear hle
                  go_upto_region 12 with fail
                  clear hcz
                  refine wp_region_below (by kernel_rfl) (by kernel_rfl) ?_
                  repeat (go_big_quiet_step ((go_at_call 30; first | (with_reducible exact calls_below _ (AGb.out _)) | (with_reducible exact calls_below _ (AGa.out _)))))
                  refine wpQuiet_nil ?_
                  rintro w' ⟨s, rfl⟩
                  have F4 := Lib.hid (Fm.call s.ok FB.out)
                  clear kc0 kc1 kc2 p0 p1 q0 q1
                  go_wp2
                  go_ret
                  exact BoolIff.no rfl NO.out F4.out.below
                · have HL := Lib.hid (show ∀ z, z ∈ l.take (y + 1) → ageF rn g' j z ≤ ageF rn f' i z from fun z hz => by
                    rw [List.take_add_one, HZX.out, List.mem_append] at hz
                    rcases hz with h | h
                    · exact HY.out z h
                    · simp at h; subst h; omega)
                  have HAB := Lib.hid (show ¬ ((ageF rn g' j x : Int) > (ageF rn f' i x : Int)) by omega)
                  obtain ⟨na, hna⟩ : ∃ na, ageF rn f' i x = na := ⟨_, rfl⟩
                  obtain ⟨nb, hnb⟩ : ∃ nb, ageF rn g' j x = nb := ⟨_, rfl⟩
                  simp only [hna] at AGa
                  simp only [hnb] at AGb
                  rw [hna, hnb] at HAB
                  have hgt2 := HAB.out
                  clear hle hna hnb HY
                  go_upto_region 12 with fail
                  clear hcz
                  refine wp_region_below (by kernel_rfl) (by kernel_rfl) ?_
                  repeat (go_big_quiet_step ((go_at_call 30; first | (with_reducible exact calls_below _ (AGb.out _)) | (with_reducible exact calls_below _ (AGa.out _)))))
                  refine wpQuiet_nil ?_
                  rintro w' ⟨s, rfl⟩
                  have F4 := Lib.hid (Fm.call s.ok FB.out)
                  have B4 := Lib.hid (BT.out.trans (s.ok.mono BT.out.size))
                  clear kc0 kc1 kc2 p0 p1 q0 q1
                  go_wp2
                  go_roundw
                  case rel => exact ⟨y + 1, by omega, by go_num, HL.out, B4.out, F4.out⟩
                  case measure => simp [intOf]; omega
              · obtain rfl : y = l.length := by omega
                rw [List.take_length] at HY
                have HT2 := Lib.hid (show ∀ x, x ∈ (LL.take (t + 1)).flatten → ageF rn g' j x ≤ ageF rn f' i x from fun x hx => by
                  rw [HE9.out, List.mem_append] at hx
                  exact hx.elim (HT.out x) (HY.out x))
                go_wp2
                go_roundw
                case rel => exact ⟨t + 1, by omega, by go_num, HT2.out, BT.out, FB.out⟩
                case measure => simp [intOf]; omega
          · obtain rfl : t = rn + rn := by omega
            have HB2 := Lib.hid (show ∀ s, s < k + 1 → BelowAt rn (m.getD s []) (o.getD s 0).toNat (q.getD s []) (r.getD s 0).toNat from fun s hs => by
              by_cases e : s = k
              · subst e
                refine BA.out.2 ⟨HJI.out, fun y hy => HT.out y ?_⟩
                rw [List.take_of_length_le (by rw [HLn.out]; exact Nat.le_refl _), ← HLL.out]
                exact mem_kn.2 hy
              · exact HB.out s (by omega))
            go_wp2
            go_roundw
            case rel => exact ⟨k + 1, by omega, by go_num, HB2.out, FB.out⟩
            case measure => simp [intOf]; omega
    · obtain rfl : k = l1 := by omega
      go_wp2
      go_ret
      exact BoolIff.yes rfl HB.out F2.out.below
end Go.Proofs.Ytlpelpjcbclemaa
