/-
  The document's Decode.
  SameInts, SameAll of lists that are one.
-/
import Derived.Deep.RegionHeld3
import Derived.Test.YtonbmijhbbodnaaZInE
import Derived.Test.YtonbmijhbbodnaaZInB
import Derived.Test.YtonbmijhbbodnaaZGrow2
namespace Go.Proofs.Ytonbmijhbbodnaa
open Go.RowKit

set_option maxRecDepth 100000 in
set_option maxHeartbeats 8000000 in
theorem rdecode_any (K : Nat → Prop) (a : Option Addr) (len cap : Nat) (bs : List Int) (w : World) (r : Bytes K w a len cap bs) (hby : Byt bs) : Calls Try.prog 46 #[.slice a len cap] w (DecRet bs w) := by
  have R := Lib.hid r
  have hll := r.hlen
  have hsz := r.hsz
  clear r
  go_enter Try.func46, Try.ntmps46
  have HB := Lib.hid hby
  clear hby
  by_cases hm : len % 8 = 0
  · by_cases hbig : 8192 < len
    · have E1 := Lib.hid (decE_bad (bs := bs) (.inr (by omega)))
      go_wp2
      exact bodyPost_ret (v := .tuple #[.slice none 0 0, .int .i64 10]) (by simp [results, Try.results46, go_sem]) rfl ⟨.slice none 0 0, by rw [E1.out.1], by rw [E1.out.2]; exact World.ownsRow_nil _ _ _ _, Below.refl _ _⟩
    · have NB := Lib.hid (show ¬ decBad bs from fun h => by unfold decBad at h; omega)
      go_wp2
      go_loopw [4, 5] (fun v i wr => ∃ k j : Nat, k = 8 * j ∧ j ≤ len / 8 ∧ i = .int .i64 k ∧ Good (decP bs j) ∧ wr.ownsRow w.heap.size 50 6 v j (ics (decP bs j)) ∧ Below w.heap.size w wr) (fun _ i _ => len - (intOf i).toNat)
      case atStart => exact ⟨0, 0, rfl, Nat.zero_le _, rfl, fun _ h => by simp [decP] at h, World.ownsRow_nil _ _ _ _, Below.refl _ _⟩
      case round =>
        obtain ⟨k, j, hkj, hj, rfl, hg, h1, h2⟩ := hrel
        obtain ⟨va, vc, rfl⟩ := flat_form h1
        have H1 := Lib.hid h1; have H2 := Lib.hid h2; have HG := Lib.hid hg; clear h1 h2 hg
        have hk8 : k % 8 = 0 := by omega
        have HKJ := Lib.hid hkj; clear hkj
        by_cases hlt : k < len
        · obtain ⟨b, o, z0, rfl, y0, c0, l0, u0, _, hbw⟩ := Bytes.get R.out hlt
          obtain ⟨k1, e1⟩ : ∃ m, m = k + 1 := ⟨_, rfl⟩
          have q1 : k1 < len := by omega
          obtain ⟨b', o', z1, e', y1, c1, l1, u1, _, _⟩ := Bytes.get R.out q1
          cases e'
          have w1 : IntKind.i64.wrap ((k : Int) + 1) = (k1 : Int) := wrap_in (by omega) (by omega)
          obtain ⟨k2, e2⟩ : ∃ m, m = k + 2 := ⟨_, rfl⟩
          have q2 : k2 < len := by omega
          obtain ⟨b', o', z2, e', y2, c2, l2, u2, _, _⟩ := Bytes.get R.out q2
          cases e'
          have w2 : IntKind.i64.wrap ((k : Int) + 2) = (k2 : Int) := wrap_in (by omega) (by omega)
          obtain ⟨k3, e3⟩ : ∃ m, m = k + 3 := ⟨_, rfl⟩
          have q3 : k3 < len := by omega
          obtain ⟨b', o', z3, e', y3, c3, l3, u3, _, _⟩ := Bytes.get R.out q3
          cases e'
          have w3 : IntKind.i64.wrap ((k : Int) + 3) = (k3 : Int) := wrap_in (by omega) (by omega)
          obtain ⟨k4, e4⟩ : ∃ m, m = k + 4 := ⟨_, rfl⟩
          have q4 : k4 < len := by omega
          obtain ⟨b', o', z4, e', y4, c4, l4, u4, _, _⟩ := Bytes.get R.out q4
          cases e'
          have w4 : IntKind.i64.wrap ((k : Int) + 4) = (k4 : Int) := wrap_in (by omega) (by omega)
          obtain ⟨k5, e5⟩ : ∃ m, m = k + 5 := ⟨_, rfl⟩
          have q5 : k5 < len := by omega
          obtain ⟨b', o', z5, e', y5, c5, l5, u5, _, _⟩ := Bytes.get R.out q5
          cases e'
          have w5 : IntKind.i64.wrap ((k : Int) + 5) = (k5 : Int) := wrap_in (by omega) (by omega)
          obtain ⟨k6, e6⟩ : ∃ m, m = k + 6 := ⟨_, rfl⟩
          have q6 : k6 < len := by omega
          obtain ⟨b', o', z6, e', y6, c6, l6, u6, _, _⟩ := Bytes.get R.out q6
          cases e'
          have w6 : IntKind.i64.wrap ((k : Int) + 6) = (k6 : Int) := wrap_in (by omega) (by omega)
          obtain ⟨k7, e7⟩ : ∃ m, m = k + 7 := ⟨_, rfl⟩
          have q7 : k7 < len := by omega
          obtain ⟨b', o', z7, e', y7, c7, l7, u7, _, _⟩ := Bytes.get R.out q7
          cases e'
          have w7 : IntKind.i64.wrap ((k : Int) + 7) = (k7 : Int) := wrap_in (by omega) (by omega)
          have d0 := (H2.out.cell (p := ⟨b, o + k, none⟩) hbw).trans c0
          have d1 := (H2.out.cell (p := ⟨b, o + k1, none⟩) hbw).trans c1
          have d2 := (H2.out.cell (p := ⟨b, o + k2, none⟩) hbw).trans c2
          have d3 := (H2.out.cell (p := ⟨b, o + k3, none⟩) hbw).trans c3
          have d4 := (H2.out.cell (p := ⟨b, o + k4, none⟩) hbw).trans c4
          have d5 := (H2.out.cell (p := ⟨b, o + k5, none⟩) hbw).trans c5
          have d6 := (H2.out.cell (p := ⟨b, o + k6, none⟩) hbw).trans c6
          have d7 := (H2.out.cell (p := ⟨b, o + k7, none⟩) hbw).trans c7
          have Y0 := Lib.hid y0
          have Y1 := Lib.hid y1
          have Y2 := Lib.hid y2
          have Y3 := Lib.hid y3
          have Y4 := Lib.hid y4
          have Y5 := Lib.hid y5
          have Y6 := Lib.hid y6
          have Y7 := Lib.hid y7
          clear c0 y0 c1 y1 c2 y2 c3 y3 c4 y4 c5 y5 c6 y6 c7 y7
          have E1 := Lib.hid e1; clear e1
          have E2 := Lib.hid e2; clear e2
          have E3 := Lib.hid e3; clear e3
          have E4 := Lib.hid e4; clear e4
          have E5 := Lib.hid e5; clear e5
          have E6 := Lib.hid e6; clear e6
          have E7 := Lib.hid e7; clear e7
          have v0 : IntKind.i64.wrap z0 = z0 := Go.IntWalk.i64_in _ ⟨by omega, by omega⟩
          have v1 : IntKind.i64.wrap z1 = z1 := Go.IntWalk.i64_in _ ⟨by omega, by omega⟩
          have v2 : IntKind.i64.wrap z2 = z2 := Go.IntWalk.i64_in _ ⟨by omega, by omega⟩
          have v3 : IntKind.i64.wrap z3 = z3 := Go.IntWalk.i64_in _ ⟨by omega, by omega⟩
          have v4 : IntKind.i64.wrap z4 = z4 := Go.IntWalk.i64_in _ ⟨by omega, by omega⟩
          have v5 : IntKind.i64.wrap z5 = z5 := Go.IntWalk.i64_in _ ⟨by omega, by omega⟩
          have v6 : IntKind.i64.wrap z6 = z6 := Go.IntWalk.i64_in _ ⟨by omega, by omega⟩
          have v7 : IntKind.i64.wrap z7 = z7 := Go.IntWalk.i64_in _ ⟨by omega, by omega⟩
          have m4 := byt_in l4 u4 16777216 (by omega) (by omega)
          have m5 := byt_in l5 u5 65536 (by omega) (by omega)
          have m6 := byt_in l6 u6 256 (by omega) (by omega)
          have r5 : bits .or .i64 (z4 * 16777216) (z5 * 65536) = z4 * 16777216 + z5 * 65536 := or_join 24 (by omega) (by omega) (by omega) (by omega) (by omega) (by omega)
          have r6 : bits .or .i64 (z4 * 16777216 + z5 * 65536) (z6 * 256) = z4 * 16777216 + z5 * 65536 + z6 * 256 := or_join 16 (by omega) (by omega) (by omega) (by omega) (by omega) (by omega)
          have r7 : bits .or .i64 (z4 * 16777216 + z5 * 65536 + z6 * 256) z7 = z4 * 16777216 + z5 * 65536 + z6 * 256 + z7 := or_join 8 (by omega) (by omega) (by omega) (by omega) (by omega) (by omega)
          have W0 : 0 ≤ z4 * 16777216 + z5 * 65536 + z6 * 256 + z7 := by omega
          have W1 : z4 * 16777216 + z5 * 65536 + z6 * 256 + z7 < 4294967296 := by omega
          obtain ⟨N, hN⟩ : ∃ N, N = z4 * 16777216 + z5 * 65536 + z6 * 256 + z7 := ⟨_, rfl⟩
          rw [← hN] at r7 W0 W1
          have HN := Lib.hid hN; clear hN
          go_wp2
          go_quiet ((go_at_call 81; with_reducible exact Calls.quiet_of_same (rwrap_any N _ W0 W1)))
          obtain ⟨ws, hws⟩ : ∃ ws, ws = wr.drewN nq := ⟨_, rfl⟩
          have f0 : ws.cell? ⟨b, o + k, none⟩ = some (.int .u8 z0) := by rw [hws]; exact d0
          have f1 : ws.cell? ⟨b, o + k1, none⟩ = some (.int .u8 z1) := by rw [hws]; exact d1
          have f2 : ws.cell? ⟨b, o + k2, none⟩ = some (.int .u8 z2) := by rw [hws]; exact d2
          have f3 : ws.cell? ⟨b, o + k3, none⟩ = some (.int .u8 z3) := by rw [hws]; exact d3
          have H3 := Lib.hid (show ws.ownsRow _ _ _ _ _ _ by rw [hws]; exact H1.out)
          have H4 := Lib.hid (show Below w.heap.size w ws by rw [hws]; exact below_drewN H2.out nq)
          rw [← hws]
          have lb : b < ws.heap.size := Nat.lt_of_lt_of_le hbw H4.out.size
          clear hws H1 H2 d0 d1 d2 d3
          clear d4 d5 d6 d7 v4 v5 v6 v7 m4 m5 m6 r5 r6 r7 W0 W1 l4 l5 l6 l7 u4 u5 u6 u7 q4 q5 q6 q7 w4 w5 w6 w7
          have t1 : IntKind.i64.wrap (z1.tdiv 16) = z1 / 16 := Go.IntWalk.i64_quo z1 16 ⟨by omega, by omega, by omega⟩
          have t2 : z1.tmod 16 = z1 % 16 := Int.tmod_eq_emod_of_nonneg l1
          obtain ⟨X, hX⟩ : ∃ X : Ins, X = ⟨z0, z1 / 16, z1 % 16, z2, z3, w32 N⟩ := ⟨_, rfl⟩
          have HX := Lib.hid (show insAt bs (8 * j) = X by
            rw [hX, HN.out, ← HKJ.out]
            exact insAt_of Y0.out (by rw [← E1.out]; exact Y1.out) (by rw [← E2.out]; exact Y2.out) (by rw [← E3.out]; exact Y3.out) (by rw [← E4.out]; exact Y4.out) (by rw [← E5.out]; exact Y5.out) (by rw [← E6.out]; exact Y6.out) (by rw [← E7.out]; exact Y7.out))
          have HXX := Lib.hid hX; clear hX
          go_wp2
          go_region_held3 (fun w' => w'.cell? ⟨b, o + k, none⟩ = some (.int .u8 z0) ∧ w'.cell? ⟨b, o + k1, none⟩ = some (.int .u8 z1) ∧ w'.cell? ⟨b, o + k2, none⟩ = some (.int .u8 z2) ∧ w'.cell? ⟨b, o + k3, none⟩ = some (.int .u8 z3)) (((try dsimp only); (try go_split_ands); (repeat' apply And.intro); all_goals (repeat (first | with_reducible assumption | (with_reducible refine cell_set (by omega) ?_) | (with_reducible refine cell_alloc (by omega) ?_) | (with_reducible refine cell_drew ?_))))) (fail)
          obtain ⟨wn, hwn⟩ : ∃ wn : World, wn = (ws.alloc (.cells (ICells X).toArray 50)).drew := ⟨_, rfl⟩
          have N1 := Lib.hid (show Has wn ws.heap.size (ICells X) by rw [hwn]; exact (Has.new ws (ICells X) 50).drew)
          have B1 := Lib.hid (show Below w.heap.size w wn by rw [hwn]; exact (H4.out.alloc H4.out.size _).drew)
          have H5 := Lib.hid (show wn.ownsRow w.heap.size 50 6 (.slice va j vc) j (ics (decP bs j)) by rw [hwn]; exact flat_below H3.out ((Below.refl _ _).alloc (Nat.le_refl _) (.cells (ICells X).toArray 50)).drew)
          have SZ := Lib.hid (show wn.heap.size = ws.heap.size + 1 by rw [hwn]; simp)
          have hwn2 : wn = (ws.alloc (.cells #[.int .i64 z0, .int .i64 (z1 / 16), .int .i64 (z1 % 16), .int .i64 z2, .int .i64 z3, .int .i64 (w32 N)] 50)).drew := by rw [hwn, HXX.out]
          rw [← hwn2]
          clear hwn hwn2 f0 f1 f2 f3 H3 H4 lb t1 t2
          have e0 := N1.out.cell 0 _ rfl; have e1 := N1.out.cell 1 _ rfl; have e2 := N1.out.cell 2 _ rfl; have e3 := N1.out.cell 3 _ rfl; have e4 := N1.out.cell 4 _ rfl; have e5 := N1.out.cell 5 _ rfl
          go_wp2_with fail
          refine (rcheck_any X _).mono ?_
          rintro e w2 ⟨rfl, hb2⟩
          have N2 := Lib.hid (N1.out.below hb2 (by have := SZ.out; omega))
          have B2 := Lib.hid (B1.out.trans (hb2.mono B1.out.size))
          have H6 := Lib.hid (flat_below H5.out hb2)
          have HS2 := Lib.hid hb2.size
          clear hb2 e0 e1 e2 e3 e4 e5 N1 H5
          have e0 := N2.out.cell 0 _ rfl; have e1 := N2.out.cell 1 _ rfl; have e2 := N2.out.cell 2 _ rfl; have e3 := N2.out.cell 3 _ rfl; have e4 := N2.out.cell 4 _ rfl; have e5 := N2.out.cell 5 _ rfl
          by_cases hc : chkI X = 0
          · rw [hc]
            have H7 := Lib.hid (flat_below H6.out ((Below.refl _ _).alloc (Nat.le_refl _) (.cells (ICells X).toArray 50)))
            have B3 := Lib.hid (B2.out.alloc B2.out.size (.cells (ICells X).toArray 50))
            have HJ := Lib.hid (Blk.new w2 (ICells X) 50)
            go_wp2_with (at_builtin; refine wpList_append_flat rfl _ _ 27 rfl 50 Try.underlying27 info_ins rfl (by decide) H7.out rfl B3.out.size ⟨w2.heap.size, 0, none⟩ 1 1 (ics [X]) rfl rfl (fun j u hu => by rw [Go.WideShapes.add_plain, Nat.zero_add]; exact HJ.out.cell hu) ics_one (by decide) (by omega) (by decide) ?_; intro g c6 w6 hap)
            have C6 := Lib.hid (hap.out.non H7.out (M := Non) (Chg.of_below B3.out) (Nat.le_refl _)).below0
            have Q6 := Lib.hid hap.out.owns
            have HG2 := Lib.hid (show Good (decP bs (j + 1)) by
              rw [decP_succ, HX.out]
              intro y hy
              rcases List.mem_append.1 hy with h | h
              · exact HG.out y h
              · simp at h; subst h; exact hc)
            clear hap
            go_roundw
            case rel => exact ⟨k + 8, j + 1, by have := HKJ.out; omega, by have := HKJ.out; omega, by go_num, HG2.out, by rw [decP_succ, HX.out, ics_append]; exact Q6.out, C6.out⟩
            case measure => simp [intOf]; omega
          · have E1 := Lib.hid (decE_some NB.out (bad_of (l := decL bs) (k := j) (x := X) (by unfold decL; rw [decP_get (by have := HKJ.out; omega), HX.out]) (by unfold decL; rw [decP_take (by omega)]; exact HG.out) hc))
            go_wp2
            exact bodyPost_ret (v := .tuple #[.slice none 0 0, .int .i64 10]) (by simp [results, Try.results46, go_sem]) rfl ⟨.slice none 0 0, by rw [E1.out.1], by rw [E1.out.2]; exact World.ownsRow_nil _ _ _ _, B2.out⟩
        · have e : j = bs.length / 8 := by have := HKJ.out; omega
          have E1 := Lib.hid (decE_good NB.out (by unfold decL; rw [← e]; exact HG.out))
          have e2 : decL bs = decP bs j := by unfold decL; rw [e]
          rw [e2] at E1
          clear e2
          go_wp2
          exact bodyPost_ret (v := .tuple #[.slice va j vc, .int .i64 0]) (by simp [results, Try.results46, go_sem]) rfl ⟨_, by rw [E1.out.1], by rw [E1.out.2, decP_length]; exact H1.out, H2.out⟩
  · have E1 := Lib.hid (decE_bad (bs := bs) (.inl (by omega)))
    go_wp2
    exact bodyPost_ret (v := .tuple #[.slice none 0 0, .int .i64 10]) (by simp [results, Try.results46, go_sem]) rfl ⟨.slice none 0 0, by rw [E1.out.1], by rw [E1.out.2]; exact World.ownsRow_nil _ _ _ _, Below.refl _ _⟩
end Go.Proofs.Ytonbmijhbbodnaa
namespace Go.Proofs.Ytonbmijhbbodnaa
open Go.RowKit

set_option maxHeartbeats 4000000 in
theorem sameints_eq (K K' : Nat → Prop) (a a' : Option Addr) (n n' c c' : Nat) (xs : List Int) (w : World) (r : Ints K w a n c xs) (r' : Ints K' w a' n' c' xs) :
    Calls Try.prog 31 #[.slice a n c, .slice a' n' c'] w fun e w' => e = .returned (.bool true) ∧ Below w.heap.size w w' := by
  have hn : n' = n := by rw [← r.hlen, ← r'.hlen]
  subst hn
  have R := Lib.hid r; have R' := Lib.hid r'
  have hsz := r.hsz
  clear r r'
  go_enter Try.func31, Try.ntmps31
  go_wp2
  go_loopw [5] (fun i wr => ∃ k : Nat, k ≤ n' ∧ i = .int .i64 k ∧ Below w.heap.size w wr) (fun i _ => n' - (intOf i).toNat)
  case atStart => exact ⟨0, Nat.zero_le _, rfl, Below.refl _ _⟩
  case round =>
    obtain ⟨k, hk, rfl, hb⟩ := hrel
    have B := Lib.hid hb
    clear hb
    by_cases hlt : k < n'
    · obtain ⟨b1, o1, z, rfl, hz, c1, _, _, _, l1⟩ := Ints.get R.out hlt
      obtain ⟨b2, o2, z', rfl, hz', c2, _, _, _, l2⟩ := Ints.get R'.out hlt
      rw [hz] at hz'
      cases hz'
      have d1 := (B.out.cell (p := ⟨b1, o1 + k, none⟩) l1).trans c1
      have d2 := (B.out.cell (p := ⟨b2, o2 + k, none⟩) l2).trans c2
      clear c1 c2
      go_wp2
      go_quiet (fail)
      go_wp2
      go_roundw
      case rel => exact ⟨k + 1, by omega, by go_num, below_drewN B.out nq⟩
      case measure => simp [intOf]; omega
    · go_wp2
      go_ret
      exact ⟨rfl, B.out⟩
set_option maxHeartbeats 4000000 in
theorem sameall_eq (K K' : Nat → Prop) (a a' : Option Addr) (n n' c c' : Nat) (xs : List Ins) (w : World) (r : InsL K w a n c xs) (r' : InsL K' w a' n' c' xs) :
    Calls Try.prog 47 #[.slice a n c, .slice a' n' c'] w fun e w' => e = .returned (.bool true) ∧ Below w.heap.size w w' := by
  have hn : n' = n := by rw [← r.hlen, ← r'.hlen]
  subst hn
  have R := Lib.hid r; have R' := Lib.hid r'
  have hsz := r.hsz
  clear r r'
  go_enter Try.func47, Try.ntmps47
  go_wp2
  go_loopw [5] (fun i wr => ∃ k : Nat, k ≤ n' ∧ i = .int .i64 k ∧ Below w.heap.size w wr) (fun i _ => n' - (intOf i).toNat)
  case atStart => exact ⟨0, Nat.zero_le _, rfl, Below.refl _ _⟩
  case round =>
    obtain ⟨k, hk, rfl, hb⟩ := hrel
    have B := Lib.hid hb
    clear hb
    by_cases hlt : k < n'
    · obtain ⟨b1, o1, x, rfl, hx, _, _, l1, c0, c1, c2, c3, c4, c5⟩ := InsL.get R.out hlt
      obtain ⟨b2, o2, y, rfl, hy, _, _, l2, e0, e1, e2, e3, e4, e5⟩ := InsL.get R'.out hlt
      rw [hx] at hy
      cases hy
      have d0 := (B.out.cell (p := ⟨b1, o1 + k * 6, none⟩) l1).trans c0
      have d1 := (B.out.cell (p := ⟨b1, o1 + k * 6 + 1, none⟩) l1).trans c1
      have d2 := (B.out.cell (p := ⟨b1, o1 + k * 6 + 2, none⟩) l1).trans c2
      have d3 := (B.out.cell (p := ⟨b1, o1 + k * 6 + 3, none⟩) l1).trans c3
      have d4 := (B.out.cell (p := ⟨b1, o1 + k * 6 + 4, none⟩) l1).trans c4
      have d5 := (B.out.cell (p := ⟨b1, o1 + k * 6 + 5, none⟩) l1).trans c5
      have f0 := (B.out.cell (p := ⟨b2, o2 + k * 6, none⟩) l2).trans e0
      have f1 := (B.out.cell (p := ⟨b2, o2 + k * 6 + 1, none⟩) l2).trans e1
      have f2 := (B.out.cell (p := ⟨b2, o2 + k * 6 + 2, none⟩) l2).trans e2
      have f3 := (B.out.cell (p := ⟨b2, o2 + k * 6 + 3, none⟩) l2).trans e3
      have f4 := (B.out.cell (p := ⟨b2, o2 + k * 6 + 4, none⟩) l2).trans e4
      have f5 := (B.out.cell (p := ⟨b2, o2 + k * 6 + 5, none⟩) l2).trans e5
      have hE : eqI ⟨x.k, x.a, x.b, x.c, x.op, x.imm⟩ ⟨x.k, x.a, x.b, x.c, x.op, x.imm⟩ = true := by rw [eqI_iff]; simp
      clear c0 c1 c2 c3 c4 c5 e0 e1 e2 e3 e4 e5
      go_wp2
      go_quiet (fail)
      go_wp2
      go_roundw
      case rel => exact ⟨k + 1, by omega, by go_num, below_drewN B.out nq⟩
      case measure => simp [intOf]; omega
    · go_wp2
      go_ret
      exact ⟨rfl, B.out⟩
end Go.Proofs.Ytonbmijhbbodnaa
