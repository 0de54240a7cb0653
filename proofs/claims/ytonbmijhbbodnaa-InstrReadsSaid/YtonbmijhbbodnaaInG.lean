/-
  instr.Encode.
-/
import Derived.Test.YtonbmijhbbodnaaZInE
import Derived.Test.YtonbmijhbbodnaaZInB
namespace Go.Proofs.Ytonbmijhbbodnaa
open Go.RowKit

set_option maxRecDepth 100000 in
set_option maxHeartbeats 8000000 in
theorem encode_any (K : Nat → Prop) (a : Option Addr) (len cap : Nat) (l : List Ins) (w : World) (r : InsL K w a len cap l) : Calls Try.prog 24 #[.slice a len cap] w (EncRet l w) := by
  have R := Lib.hid r
  have hll := r.hlen
  have hsz := r.hsz
  clear r
  go_enter Try.func24, Try.ntmps24
  by_cases hbig : 1024 < len
  · have E1 := Lib.hid (encE_long (l := l) (by omega))
    go_wp2
    exact bodyPost_ret (v := .tuple #[.slice none 0 0, .int .i64 4]) (by simp [results, Try.results24, go_sem]) rfl ⟨.slice none 0 0, by rw [E1.out.1], by rw [E1.out.2]; exact World.ownsRow_nil _ _ _ _, Below.refl _ _⟩
  · go_wp2
    go_loopw [4, 13] (fun v i wr => ∃ k : Nat, k ≤ len ∧ i = .int .i64 k ∧ Good (l.take k) ∧ wr.ownsRow w.heap.size 5 1 v (8 * k) (bcs (encs (l.take k))) ∧ Below w.heap.size w wr) (fun _ i _ => len - (intOf i).toNat)
    case atStart => exact ⟨0, Nat.zero_le _, rfl, fun _ h => by simp at h, World.ownsRow_nil _ _ _ _, Below.refl _ _⟩
    case round =>
      obtain ⟨k, hk, rfl, hg, h1, h2⟩ := hrel
      obtain ⟨va, vc, rfl⟩ := flat_form h1
      have H1 := Lib.hid h1; have H2 := Lib.hid h2; have HG := Lib.hid hg; clear h1 h2 hg
      by_cases hlt : k < len
      · obtain ⟨b, o, x, rfl, hx, hin, _, hbw, c0, c1, c2, c3, c4, c5⟩ := InsL.get R.out hlt
        have d0 := (H2.out.cell (p := ⟨b, o + k * 6, none⟩) hbw).trans c0
        have d1 := (H2.out.cell (p := ⟨b, o + k * 6 + 1, none⟩) hbw).trans c1
        have d2 := (H2.out.cell (p := ⟨b, o + k * 6 + 2, none⟩) hbw).trans c2
        have d3 := (H2.out.cell (p := ⟨b, o + k * 6 + 3, none⟩) hbw).trans c3
        have d4 := (H2.out.cell (p := ⟨b, o + k * 6 + 4, none⟩) hbw).trans c4
        have d5 := (H2.out.cell (p := ⟨b, o + k * 6 + 5, none⟩) hbw).trans c5
        have HX := Lib.hid hx; have HI := Lib.hid hin
        have N1 := Lib.hid (Has.new wr (ICells x) 50)
        clear c0 c1 c2 c3 c4 c5 hx hin
        go_wp2_with fail
        refine (check_any x _).mono ?_
        rintro e w1 ⟨rfl, hb1⟩
        have B1 := Lib.hid (H2.out.trans (((Below.refl wr.heap.size wr).alloc (Nat.le_refl _) _).trans (hb1.mono (by simp)) |>.mono H2.out.size))
        have N2 := Lib.hid (N1.out.below hb1 (by simp))
        have H3 := Lib.hid (flat_below (flat_below H1.out ((Below.refl _ _).alloc (Nat.le_refl _) (.cells (ICells x).toArray 50))) hb1)
        have HS1 := Lib.hid hb1.size
        clear N1 H1 H2 hb1 d0 d1 d2 d3 d4 d5
        have e0 := N2.out.cell 0 _ rfl; have e1 := N2.out.cell 1 _ rfl; have e2 := N2.out.cell 2 _ rfl; have e3 := N2.out.cell 3 _ rfl; have e4 := N2.out.cell 4 _ rfl; have e5 := N2.out.cell 5 _ rfl
        by_cases hc : chkI x = 0
        · have S := small_of hc
          obtain ⟨k0, k1, a0, a1, b0, b1, c0, c1, o0, o1, i0, i1⟩ := S
          rw [hc]
          go_wp2_with fail
          refine (join_any _ _ 8 8 [x.k, 16 * x.a + x.b, x.c, x.op, x.imm / 16777216, x.imm / 65536, x.imm / 256, x.imm] _ (ints_new w1 _ 8 3 rfl (by omega) (by simp; omega)) (by omega)).mono ?_
          rintro e w2 ⟨jv, rfl, hj, hb2⟩
          obtain ⟨ja, jc, rfl⟩ := flat_form hj
          obtain ⟨jg, rfl, _, _, _, _, _, hjc⟩ := flat_cells hj (by simp)
          have H4 := Lib.hid (flat_below (flat_below H3.out ((Below.refl _ _).alloc (Nat.le_refl _) _)) hb2)
          have B2 := Lib.hid (B1.out.trans ((((Below.refl _ _).alloc (Nat.le_refl _) _).trans (hb2.mono (by simp))).mono B1.out.size))
          have HJ := Lib.hid hjc
          clear hj hb2 hjc e0 e1 e2 e3 e4 e5 H3
          go_wp2_with (at_builtin; refine wpList_append_flat rfl _ _ 47 rfl 5 Try.underlying47 info_u8 rfl (by decide) H4.out rfl B2.out.size ⟨jg, 0, none⟩ 8 jc (bcs (enc8 x)) rfl rfl (fun j u hu => by rw [Go.WideShapes.add_plain, Nat.zero_add]; exact HJ.out j u hu) bcs_one (by decide) (by omega) (by decide) ?_; intro g c6 w6 hap)
          have C6 := Lib.hid (hap.out.non H4.out (M := Non) (Chg.of_below B2.out) (Nat.le_refl _)).below0
          have Q6 := Lib.hid hap.out.owns
          have HG2 := Lib.hid (good_take HX.out HG.out hc)
          clear hap
          go_roundw
          case rel => exact ⟨k + 1, by omega, by go_num, HG2.out, by rw [encs_take HX.out, bcs_append, Nat.mul_add]; exact Q6.out, C6.out⟩
          case measure => simp [intOf]; omega
        · have E1 := Lib.hid (encE_bad (by omega) (bad_of HX.out HG.out hc))
          go_wp2
          exact bodyPost_ret (v := .tuple #[.slice none 0 0, .int .i64 (chkI x)]) (by simp [results, Try.results24, go_sem]) rfl ⟨.slice none 0 0, by rw [E1.out.1], by rw [E1.out.2]; exact World.ownsRow_nil _ _ _ _, B1.out⟩
      · have e : k = l.length := by omega
        subst e
        rw [List.take_length] at H1 HG
        have E1 := Lib.hid (encE_good (by omega) HG.out)
        go_wp2
        exact bodyPost_ret (v := .tuple #[.slice va (8 * l.length) vc, .int .i64 0]) (by simp [results, Try.results24, go_sem]) rfl ⟨_, by rw [E1.out.1], by rw [E1.out.2, encs_length]; exact H1.out, H2.out⟩
end Go.Proofs.Ytonbmijhbbodnaa
