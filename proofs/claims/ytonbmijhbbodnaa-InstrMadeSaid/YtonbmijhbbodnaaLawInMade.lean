/-
  timeboundlaw19.InstrMade returns true, whatever its arguments are. No condition.
-/
import Derived.Test.YtonbmijhbbodnaaInR
import Derived.Test.YtonbmijhbbodnaaInU
import Derived.Test.YtonbmijhbbodnaaInW
import Derived.Test.YtonbmijhbbodnaaHeadr
import Derived.Deep.CutBlock
namespace Go.Proofs.Ytonbmijhbbodnaa
open Go.RowKit

def mkL (zk za zb zc zn : List Int) (j : Nat) : List Ins := (List.range j).map fun i => ofI (zk.getD i 0) (za.getD i 0) (zb.getD i 0) (zc.getD i 0) (zn.getD i 0)
theorem mkL_succ (zk za zb zc zn : List Int) (j : Nat) : mkL zk za zb zc zn (j + 1) = mkL zk za zb zc zn j ++ [ofI (zk.getD j 0) (za.getD j 0) (zb.getD j 0) (zc.getD j 0) (zn.getD j 0)] := by unfold mkL; rw [List.range_succ, List.map_append]; rfl
theorem mkL_length (zk za zb zc zn : List Int) (j : Nat) : (mkL zk za zb zc zn j).length = j := by simp [mkL]
set_option maxRecDepth 100000 in
set_option maxHeartbeats 16000000 in
theorem made_law (a0 : Option Addr) (len0 cap0 : Nat) (z0 : List Int) (a1 : Option Addr) (len1 cap1 : Nat) (z1 : List Int) (a2 : Option Addr) (len2 cap2 : Nat) (z2 : List Int) (a3 : Option Addr) (len3 cap3 : Nat) (z3 : List Int) (a4 : Option Addr) (len4 cap4 : Nat) (z4 : List Int) (a5 a6 : Int)
    (w5 : (Lit.int .i64 a5).wf = true) (w6 : (Lit.int .u8 a6).wf = true) (w : World) (r0 : IsRow .u8 w a0 len0 cap0 z0) (r1 : IsRow .u8 w a1 len1 cap1 z1) (r2 : IsRow .u8 w a2 len2 cap2 z2) (r3 : IsRow .u8 w a3 len3 cap3 z3) (r4 : IsRow .i32 w a4 len4 cap4 z4) :
    Calls Try.prog 5 #[.slice a0 len0 cap0, .slice a1 len1 cap1, .slice a2 len2 cap2, .slice a3 len3 cap3, .slice a4 len4 cap4, .int .i64 a5, .int .u8 a6] w (TrueRet w) := by
  have R0 := Lib.hid r0; have R1 := Lib.hid r1; have R2 := Lib.hid r2; have R3 := Lib.hid r3; have R4 := Lib.hid r4
  have l0 := r0.lens; have l1 := r1.lens; have l2 := r2.lens; have l3 := r3.lens; have l4 := r4.lens
  have W5 := wf_i64 w5; have W6 := wf_u8 w6
  clear r0 r1 r2 r3 r4 w5 w6
  go_enter Try.func5, Try.ntmps5
  go_wp2
  go_loopw [15, 16] (fun v i wr => ∃ k : Nat, k ≤ 30 ∧ i = .int .i64 k ∧ (∀ x ∈ mkL z0 z1 z2 z3 z4 k, x.In) ∧ wr.ownsRow w.heap.size 50 6 v k (ics (mkL z0 z1 z2 z3 z4 k)) ∧ Below w.heap.size w wr) (fun _ i _ => 30 - (intOf i).toNat)
  case atStart => exact ⟨0, Nat.zero_le _, rfl, fun x hx => by simp [mkL] at hx, World.ownsRow_nil _ _ _ _, Below.refl _ _⟩
  case round =>
    obtain ⟨k, hk, rfl, hin, h1, h2⟩ := hrel
    obtain ⟨va, vc, rfl⟩ := flat_form h1
    have H1 := Lib.hid h1; have H2 := Lib.hid h2; have HI := Lib.hid hin
    clear h1 h2 hin
    obtain ⟨go, hgo⟩ : ∃ go, go = (decide (k < len0) && decide (k < len1) && decide (k < len2) && decide (k < len3) && decide (k < len4) && decide (k < 30)) := ⟨_, rfl⟩
    have HGO := Lib.hid hgo
    clear hgo
    go_upto_region 3 with fail
    go_cut [50] (fun s wx => s = .bool go ∧ wr = wx)
    case first =>
      by_cases b0 : k < len0
      · by_cases b1 : k < len1
        · by_cases b2 : k < len2
          · by_cases b3 : k < len3
            · by_cases b4 : k < len4
              · by_cases b5 : k < 30
                · go_wp2
                  go_meet
                  exact ⟨by rw [HGO.out]; simp [b0, b1, b2, b3, b4, b5]; omega, rfl⟩
                · go_wp2
                  go_meet
                  exact ⟨by rw [HGO.out]; simp [b5]; omega, rfl⟩
              · go_wp2
                go_meet
                exact ⟨by rw [HGO.out]; simp [b4], rfl⟩
            · go_wp2
              go_meet
              exact ⟨by rw [HGO.out]; simp [b3], rfl⟩
          · go_wp2
            go_meet
            exact ⟨by rw [HGO.out]; simp [b2], rfl⟩
        · go_wp2
          go_meet
          exact ⟨by rw [HGO.out]; simp [b1], rfl⟩
      · go_wp2
        go_meet
        exact ⟨by rw [HGO.out]; simp [b0], rfl⟩
    case rest =>
      obtain ⟨rfl, hwx⟩ := hcut
      subst hwx
      cases go with
      | true =>
        have hb := HGO.out.symm
        simp only [Bool.and_eq_true, decide_eq_true_eq] at hb
        obtain ⟨⟨⟨⟨⟨b0, b1⟩, b2⟩, b3⟩, b4⟩, b5⟩ := hb
        obtain ⟨p0, o0, rfl, c0, t0, x0⟩ := IsRow.get R0.out b0
        obtain ⟨p1, o1, rfl, c1, t1, x1⟩ := IsRow.get R1.out b1
        obtain ⟨p2, o2, rfl, c2, t2, x2⟩ := IsRow.get R2.out b2
        obtain ⟨p3, o3, rfl, c3, t3, x3⟩ := IsRow.get R3.out b3
        obtain ⟨p4, o4, rfl, c4, t4, x4⟩ := IsRow.get R4.out b4
        obtain ⟨q0, e0⟩ : ∃ q, q = z0.getD k 0 := ⟨_, rfl⟩
        obtain ⟨q1, e1⟩ : ∃ q, q = z1.getD k 0 := ⟨_, rfl⟩
        obtain ⟨q2, e2⟩ : ∃ q, q = z2.getD k 0 := ⟨_, rfl⟩
        obtain ⟨q3, e3⟩ : ∃ q, q = z3.getD k 0 := ⟨_, rfl⟩
        obtain ⟨q4, e4⟩ : ∃ q, q = z4.getD k 0 := ⟨_, rfl⟩
        rw [← e0] at c0 x0; rw [← e1] at c1 x1; rw [← e2] at c2 x2; rw [← e3] at c3 x3; rw [← e4] at c4 x4
        have y0 := wf_u8 x0; have y1 := wf_u8 x1; have y2 := wf_u8 x2; have y3 := wf_u8 x3; have y4 := wf_i32 x4
        have CC := Lib.hid (show ∀ wq, Below w.heap.size w wq → wq.cell? ⟨p0, o0 + k, none⟩ = some (.int .u8 q0) ∧ wq.cell? ⟨p1, o1 + k, none⟩ = some (.int .u8 q1) ∧ wq.cell? ⟨p2, o2 + k, none⟩ = some (.int .u8 q2) ∧ wq.cell? ⟨p3, o3 + k, none⟩ = some (.int .u8 q3) ∧ wq.cell? ⟨p4, o4 + k, none⟩ = some (.int .i32 q4) from fun wq hq => ⟨(hq.cell (p := ⟨p0, o0 + k, none⟩) t0).trans c0, (hq.cell (p := ⟨p1, o1 + k, none⟩) t1).trans c1, (hq.cell (p := ⟨p2, o2 + k, none⟩) t2).trans c2, (hq.cell (p := ⟨p3, o3 + k, none⟩) t3).trans c3, (hq.cell (p := ⟨p4, o4 + k, none⟩) t4).trans c4⟩)
        have d0 := (H2.out.cell (p := ⟨p0, o0 + k, none⟩) t0).trans c0
        have d1 := (H2.out.cell (p := ⟨p1, o1 + k, none⟩) t1).trans c1
        have d2 := (H2.out.cell (p := ⟨p2, o2 + k, none⟩) t2).trans c2
        have d3 := (H2.out.cell (p := ⟨p3, o3 + k, none⟩) t3).trans c3
        have d4 := (H2.out.cell (p := ⟨p4, o4 + k, none⟩) t4).trans c4
        obtain ⟨X, hX⟩ : ∃ X, X = ofI q0 q1 q2 q3 q4 := ⟨_, rfl⟩
        have HX := Lib.hid (show mkL z0 z1 z2 z3 z4 (k + 1) = mkL z0 z1 z2 z3 z4 k ++ [X] by rw [mkL_succ, hX, e0, e1, e2, e3, e4])
        have XI := Lib.hid (show X.In by rw [hX]; exact ofI_in y4)
        have HXX := Lib.hid hX
        have HO := Lib.hid (show ∀ wq, Calls Try.prog 19 #[.int .u8 q0, .int .u8 q1, .int .u8 q2, .int .u8 q3, .int .i32 q4] wq (OfRet X wq) from fun wq => by rw [hX]; exact of_any q0 q1 q2 q3 q4 wq y0 y1 y2 y3 y4)
        clear hX e0 e1 e2 e3 e4 c0 c1 c2 c3 c4 t0 t1 t2 t3 t4 x0 x1 x2 x3 x4 y0 y1 y2 y3 y4
        go_upto_region 5 with fail
        have u0 := d0; have u1 := d1; have u2 := d2; have u3 := d3; have u4 := d4
        have HD1 := Lib.hid (show wr.drew.ownsRow w.heap.size 50 6 (.slice va k vc) k (ics (mkL z0 z1 z2 z3 z4 k)) from H1.out)
        have HD2 := Lib.hid H2.out.drew
        refine hd_start_e 25 (fun w' => w'.cell? ⟨p0, o0 + k, none⟩ = some (.int .u8 q0) ∧ w'.cell? ⟨p1, o1 + k, none⟩ = some (.int .u8 q1) ∧ w'.cell? ⟨p2, o2 + k, none⟩ = some (.int .u8 q2) ∧ w'.cell? ⟨p3, o3 + k, none⟩ = some (.int .u8 q3) ∧ w'.cell? ⟨p4, o4 + k, none⟩ = some (.int .i32 q4)) (by kernel_rfl) ⟨by kernel_rfl, by rfl⟩ (by refine ⟨d0, d1, d2, d3, d4⟩) (fun ok => ?_)
        refine hd_take_e (i := 0) (v := ?_) ok rfl (by decide) (by kernel_rfl) (by kernel_rfl) (fun _ _ _ h => h) (Or.inl ⟨by kernel_rfl, ?_⟩) ?_
        rotate_left
        · (intro w hSw; (try dsimp only at hSw); (try go_split_ands); go_simp; (try (with_reducible rfl)))
        go_frame
        refine hd_take_e (i := 1) (v := ?_) ok rfl (by decide) (by kernel_rfl) (by kernel_rfl) (fun _ _ _ h => h) (Or.inl ⟨by kernel_rfl, ?_⟩) ?_
        rotate_left
        · (intro w hSw; (try dsimp only at hSw); (try go_split_ands); go_simp; (try (with_reducible rfl)))
        go_frame
        refine hd_take_e (i := 2) (v := ?_) ok rfl (by decide) (by kernel_rfl) (by kernel_rfl) (fun _ _ _ h => h) (Or.inl ⟨by kernel_rfl, ?_⟩) ?_
        rotate_left
        · (intro w hSw; (try dsimp only at hSw); (try go_split_ands); go_simp; (try (with_reducible rfl)))
        go_frame
        refine hd_take_e (i := 3) (v := ?_) ok rfl (by decide) (by kernel_rfl) (by kernel_rfl) (fun _ _ _ h => h) (Or.inl ⟨by kernel_rfl, ?_⟩) ?_
        rotate_left
        · (intro w hSw; (try dsimp only at hSw); (try go_split_ands); go_simp; (try (with_reducible rfl)))
        go_frame
        refine hd_take_e (i := 4) (v := ?_) ok rfl (by decide) (by kernel_rfl) (by kernel_rfl) (fun _ _ _ h => h) (Or.inl ⟨by kernel_rfl, ?_⟩) ?_
        rotate_left
        · (intro w hSw; (try dsimp only at hSw); (try go_split_ands); go_simp; (try (with_reducible rfl)))
        go_frame
        refine hd_take_e (i := 5) (v := ?_) ok rfl (by decide) (by kernel_rfl) (by kernel_rfl) (fun _ _ _ h => h) (Or.inl ⟨by kernel_rfl, ?_⟩) ?_
        rotate_left
        · (intro w hSw; (try dsimp only at hSw); (try go_split_ands); go_simp; (try (with_reducible rfl)))
        go_frame
        refine hd_take_e (i := 6) (v := ?_) ok rfl (by decide) (by kernel_rfl) (by kernel_rfl) (fun _ _ _ h => h) (Or.inl ⟨by kernel_rfl, ?_⟩) ?_
        rotate_left
        · (intro w hSw; (try dsimp only at hSw); (try go_split_ands); go_simp; (try (with_reducible rfl)))
        go_frame
        refine hd_take_e (i := 7) (v := ?_) ok rfl (by decide) (by kernel_rfl) (by kernel_rfl) (fun _ _ _ h => h) (Or.inl ⟨by kernel_rfl, ?_⟩) ?_
        rotate_left
        · (intro w hSw; (try dsimp only at hSw); (try go_split_ands); go_simp; (try (with_reducible rfl)))
        go_frame
        refine hd_take_e (i := 8) (v := ?_) ok rfl (by decide) (by kernel_rfl) (by kernel_rfl) (fun _ _ _ h => h) (Or.inl ⟨by kernel_rfl, ?_⟩) ?_
        rotate_left
        · (intro w hSw; (try dsimp only at hSw); (try go_split_ands); go_simp; (try (with_reducible rfl)))
        go_frame
        refine hd_take_e (i := 9) (v := ?_) ok rfl (by decide) (by kernel_rfl) (by kernel_rfl) (fun _ _ _ h => h) (Or.inl ⟨by kernel_rfl, ?_⟩) ?_
        rotate_left
        · (intro w hSw; (try dsimp only at hSw); (try go_split_ands); go_simp; (try (with_reducible rfl)))
        go_frame
        refine hd_take_e (i := 10) (v := ?_) ok rfl (by decide) (by kernel_rfl) (by kernel_rfl) (fun _ _ _ h => h) (Or.inl ⟨by kernel_rfl, ?_⟩) ?_
        rotate_left
        · (intro w hSw; (try dsimp only at hSw); (try go_split_ands); go_simp; (try (with_reducible rfl)))
        go_frame
        refine hd_take_e (i := 11) (v := ?_) ok rfl (by decide) (by kernel_rfl) (by kernel_rfl) (fun _ _ _ h => h) (Or.inl ⟨by kernel_rfl, ?_⟩) ?_
        rotate_left
        · (intro w hSw; (try dsimp only at hSw); (try go_split_ands); go_simp; (try (with_reducible rfl)))
        go_frame
        refine hd_take_e (i := 12) (v := ?_) ok rfl (by decide) (by kernel_rfl) (by kernel_rfl) (fun _ _ _ h => h) (Or.inl ⟨by kernel_rfl, ?_⟩) ?_
        rotate_left
        · (intro w hSw; (try dsimp only at hSw); (try go_split_ands); go_simp; (try (with_reducible rfl)))
        go_frame
        refine hd_take_e (i := 13) (v := ?_) ok rfl (by decide) (by kernel_rfl) (by kernel_rfl) (fun _ _ _ h => h) (Or.inl ⟨by kernel_rfl, ?_⟩) ?_
        rotate_left
        · (intro w hSw; (try dsimp only at hSw); (try go_split_ands); go_simp; (try (with_reducible rfl)))
        go_frame
        refine hd_take_e (i := 14) (v := ?_) ok rfl (by decide) (by kernel_rfl) (by kernel_rfl) (fun _ _ _ h => h) (Or.inl ⟨by kernel_rfl, ?_⟩) ?_
        rotate_left
        · (intro w hSw; (try dsimp only at hSw); (try go_split_ands); go_simp; (try (with_reducible rfl)))
        go_frame
        refine hd_take_e (i := 15) (v := ?_) ok rfl (by decide) (by kernel_rfl) (by kernel_rfl) (fun _ _ _ h => h) (Or.inl ⟨by kernel_rfl, ?_⟩) ?_
        rotate_left
        · (intro w hSw; (try dsimp only at hSw); (try go_split_ands); go_simp; (try (with_reducible rfl)))
        go_frame
        refine hd_take_e (i := 16) (v := ?_) ok rfl (by decide) (by kernel_rfl) (by kernel_rfl) (fun _ _ _ h => h) (Or.inl ⟨by kernel_rfl, ?_⟩) ?_
        rotate_left
        · (intro w hSw; (try dsimp only at hSw); (try go_split_ands); go_simp; (try (with_reducible rfl)))
        go_frame
        refine hd_take_e (i := 17) (v := ?_) ok rfl (by decide) (by kernel_rfl) (by kernel_rfl) (fun _ _ _ h => h) (Or.inl ⟨by kernel_rfl, ?_⟩) ?_
        rotate_left
        · (intro w hSw; (try dsimp only at hSw); (try go_split_ands); go_simp; (try (with_reducible rfl)))
        go_frame
        refine hd_take_e (i := 18) (v := ?_) ok rfl (by decide) (by kernel_rfl) (by kernel_rfl) (fun _ _ _ h => h) (Or.inl ⟨by kernel_rfl, ?_⟩) ?_
        rotate_left
        · (intro w hSw; (try dsimp only at hSw); (try go_split_ands); go_simp; (try (with_reducible rfl)))
        go_frame
        refine hd_take_e (i := 19) (v := ?_) ok rfl (by decide) (by kernel_rfl) (by kernel_rfl) (fun _ _ _ h => h) (Or.inl ⟨by kernel_rfl, ?_⟩) ?_
        rotate_left
        · (intro w hSw; (try dsimp only at hSw); (try go_split_ands); go_simp; (try (with_reducible rfl)))
        go_frame
        refine hd_take_e (i := 20) (v := ?_) ok rfl (by decide) (by kernel_rfl) (by kernel_rfl) (fun _ _ _ h => h) (Or.inl ⟨by kernel_rfl, ?_⟩) ?_
        rotate_left
        · (intro w hSw; (try dsimp only at hSw); (try go_split_ands); go_simp; (try (with_reducible rfl)))
        go_frame
        refine hd_only_l (c := 21) rfl (by decide) (by kernel_rfl) (fun K hK => ?_)
        go_simp
        go_at_call 19
        refine (HO.out _).mono ?_
        rintro e v1 ⟨rfl, hv1⟩
        have V1 := Lib.hid (below_go HD2.out hv1)
        have G1 := Lib.hid (flat_below HD1.out hv1)
        clear d0 d1 d2 d3 d4 u0 u1 u2 u3 u4 hv1
        (try simp only [])
        refine hK _ _ (by refine ⟨?_, ?_, ?_, ?_, ?_⟩ <;> (first | exact (CC.out _ V1.out).1 | exact (CC.out _ V1.out).2.1 | exact (CC.out _ V1.out).2.2.1 | exact (CC.out _ V1.out).2.2.2.1 | exact (CC.out _ V1.out).2.2.2.2)) ?_
        clear hK K
        (try go_frame)
        have V2 := Lib.hid (V1.out.alloc V1.out.size (.cells (ics [X]).toArray 50))
        have G2 := Lib.hid (flat_below G1.out ((Below.refl _ _).alloc (Nat.le_refl _) (.cells (ics [X]).toArray 50)))
        have B2 := Lib.hid (Blk.new v1 (ics [X]) 50)
        refine hd_only_l (c := 22) rfl (by decide) (by kernel_rfl) (fun K hK => ?_)
        go_simp
        (try simp only [])
        refine hK _ _ (by refine ⟨?_, ?_, ?_, ?_, ?_⟩ <;> (first | exact (CC.out _ V2.out).1 | exact (CC.out _ V2.out).2.1 | exact (CC.out _ V2.out).2.2.1 | exact (CC.out _ V2.out).2.2.2.1 | exact (CC.out _ V2.out).2.2.2.2)) ?_
        clear hK K
        (try go_frame)
        refine hd_only_l (c := 23) rfl (by decide) (by kernel_rfl) (fun K hK => ?_)
        refine step_append_flat (by rfl) _ _ 27 (by rfl) 50 Try.underlying27 info_ins rfl (by decide) G2.out (by go_simp) V2.out.size ⟨v1.heap.size, 0, none⟩ 1 1 (ics [X]) (by go_simp) rfl (fun j u hu => by rw [Go.WideShapes.add_plain, Nat.zero_add]; exact B2.out.cell hu) ics_one (by decide) (by omega) (by decide) ?_
        intro g cap v6 hap
        have V6 := Lib.hid (hap.out.non G2.out (M := Non) (Chg.of_below V2.out) (Nat.le_refl _)).below0
        have Q6 := Lib.hid hap.out.owns
        clear hap
        (try simp only [])
        refine hK _ _ (by refine ⟨?_, ?_, ?_, ?_, ?_⟩ <;> (first | exact (CC.out _ V6.out).1 | exact (CC.out _ V6.out).2.1 | exact (CC.out _ V6.out).2.2.1 | exact (CC.out _ V6.out).2.2.2.1 | exact (CC.out _ V6.out).2.2.2.2)) ?_
        clear hK K
        (try go_frame)
        refine hd_take_e (i := 24) (v := ?_) ok rfl (by decide) (by kernel_rfl) (by kernel_rfl) (fun _ _ _ h => h) (Or.inl ⟨by kernel_rfl, ?_⟩) ?_
        rotate_left
        · (intro w hSw; (try dsimp only at hSw); (try go_split_ands); go_simp; (try (with_reducible rfl)))
        go_frame
        clear ok
        refine hd_end (by kernel_rfl) rfl ?_
        go_wp2
        go_roundw
        case rel => exact ⟨k + 1, by omega, by go_num, fun y hy => by rw [HX.out] at hy; rcases List.mem_append.1 hy with h | h; (exact HI.out y h); (simp at h; subst h; exact XI.out), by rw [HX.out, ics_append]; exact Q6.out, V6.out⟩
        case measure => simp [intOf]; omega
      | false =>
        obtain ⟨l, hl⟩ : ∃ l, l = mkL z0 z1 z2 z3 z4 k := ⟨_, rfl⟩
        rw [← hl] at H1 HI
        clear hl HGO
        have IL := Lib.hid (flat_ins (K := Ge w.heap.size) H1.out HI.out (by omega) (fun _ h => h))
        go_wp2_with fail
        refine (rencode_any _ va k vc l wr IL.out).mono ?_
        rintro e w1 ⟨ev, rfl, ho, hb⟩
        obtain ⟨ea, ec, rfl⟩ := flat_form ho
        obtain ⟨bs, hbs⟩ : ∃ bs, bs = encB l := ⟨_, rfl⟩
        have BY := Lib.hid (show Byt bs by rw [hbs]; exact encB_byt l)
        have hbl : bs.length ≤ 8192 := by rw [hbs]; exact encB_length l
        rw [← hbs] at ho ⊢
        have V1 := Lib.hid (below_go H2.out hb)
        have L1 := Lib.hid (flat_below H1.out hb)
        obtain ⟨L, hL⟩ : ∃ L, L = bs.length := ⟨_, rfl⟩
        rw [← hL] at ho hbl ⊢
        have HL := Lib.hid hL
        have O1 := Lib.hid ho
        have SB := Lib.hid hb.size
        have V0 := Lib.hid H2.out.size
        have lok : ∀ wq, wq.ownsRow w.heap.size 50 6 (.slice va k vc) k (ics l) → InsL (Ge w.heap.size) wq va k vc l := fun wq hq => flat_ins (K := Ge w.heap.size) hq HI.out (by omega) (fun _ h => h)
        have LOK := Lib.hid lok
        clear hb ho hL hbs lok IL
        by_cases hz : L = 0
        · subst hz
          have Q1 := Lib.hid (flat_bytes (K := fun _ => True) O1.out BY.out (by omega) (fun _ _ => trivial))
          go_wp2_with fail
          refine (agree_any _ _ _ _ _ l _ _ _ bs w1 (LOK.out _ L1.out) Q1.out BY.out).mono ?_
          rintro e w2 ⟨rfl, hb2⟩
          have V2 := Lib.hid (below_go V1.out hb2)
          go_wp2_with fail
          refine (awake_any w2).mono ?_
          rintro e w3 ⟨rfl, hb3⟩
          have V3 := Lib.hid (below_go V2.out hb3)
          go_wp2
          go_ret
          exact ⟨rfl, V3.out⟩
        · have hL0 : 0 < L := by omega
          obtain ⟨g, rfl, g1, g2, _, g4, g5, gc⟩ := flat_cells O1.out hL0
          go_wp2_with fail
          refine (dmod_any a5 (L : Int) (by omega) (by omega) W5.1 W5.2 _).mono ?_
          rintro e wm ⟨rfl, hwm⟩
          obtain ⟨i, hi⟩ := Int.eq_ofNat_of_zero_le (Int.emod_nonneg a5 (show (L : Int) ≠ 0 by omega))
          have hiL : i < L := by have := Int.emod_lt_of_pos a5 (show (0 : Int) < (L : Int) by omega); omega
          have hiL' : (i : Int) < (L : Int) := by omega
          rw [hi]
          subst hwm
          obtain ⟨z, hz2⟩ : ∃ z, bs[i]? = some z := ⟨_, List.getElem?_eq_getElem (by rw [← HL.out]; exact hiL)⟩
          have cz := gc i _ (bcs_get hz2)
          have fz := flat_free O1.out i
          have zb := BY.out z (List.mem_of_getElem? hz2)
          obtain ⟨y, hy⟩ : ∃ y, y = bits .xor .u8 z a6 := ⟨_, rfl⟩
          have yb : 0 ≤ y ∧ y ≤ 255 := by rw [hy]; exact xor_byt zb W6
          have HY := Lib.hid yb
          have hy' := hy.symm
          clear hy
          have C8 := Lib.hid (show Chg (fun j => j = g) wm (wm.setCell ⟨g, i, none⟩ (.int .u8 y)) from Chg.setCell (M := fun j => j = g) (Chg.refl wm) (fun _ => rfl) _)
          have Q0 := Lib.hid (flat_bytes (K := fun _ => True) O1.out BY.out (by omega) (fun _ _ => trivial))
          have Q8 := Lib.hid (show Bytes (fun _ => True) (wm.setCell ⟨g, i, none⟩ (.int .u8 y)) (some ⟨g, 0, none⟩) L ec (bs.set i y) by
            have := Bytes.setc Q0.out hiL HY.out
            rw [Nat.zero_add] at this
            exact this)
          have L8 := Lib.hid (ownsRow_of L1.out (w' := wm.setCell ⟨g, i, none⟩ (.int .u8 y)) (fun j hj => C8.out.block j (L1.out.lt j hj).2 (fun e => by have := (H1.out.lt j hj).2; omega)))
          have V8 := Lib.hid (V1.out.setCell (p := ⟨g, i, none⟩) (by have := V0.out; dsimp only; omega) (.int .u8 y))
          go_wp2_with fail
          refine (agree_any _ _ _ _ _ l _ _ _ (bs.set i y) _ (LOK.out _ L8.out) Q8.out (byt_set BY.out i HY.out)).mono ?_
          rintro e w2 ⟨rfl, hb2⟩
          have V2 := Lib.hid (below_go V8.out hb2)
          go_wp2_with fail
          refine (awake_any w2).mono ?_
          rintro e w3 ⟨rfl, hb3⟩
          have V3 := Lib.hid (below_go V2.out hb3)
          go_wp2
          go_ret
          exact ⟨rfl, V3.out⟩
end Go.Proofs.Ytonbmijhbbodnaa
