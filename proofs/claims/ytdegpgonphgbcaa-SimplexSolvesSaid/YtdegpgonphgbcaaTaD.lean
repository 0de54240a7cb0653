/-
  The document's table.
-/
import Derived.Deep.RegionHeld3
import Derived.Test.YtdegpgonphgbcaaTaC
namespace Go.Proofs.Ytdegpgonphgbcaa
open Go.RowKit
theorem levT_range {T : Tab} {c last : Nat} (lf : LevTFit T c last) (j : Nat) (hj : j ≤ T.rows.length) : (levAtT T c last j).1 = -1 ∨ ∃ t : Nat, t < j ∧ (levAtT T c last j).1 = (t : Int) ∧ Fit (levAtT T c last j).2 := by
  induction j with
  | zero => exact .inl rfl
  | succ j ih =>
    have ih := ih (by omega)
    unfold levAtT
    split
    · rcases ih with h | ⟨t, ht, h, h2⟩
      · exact .inl h
      · exact .inr ⟨t, by omega, h, h2⟩
    · rename_i hn
      split
      · rcases ih with h | ⟨t, ht, h, h2⟩
        · exact .inl h
        · exact .inr ⟨t, by omega, h, h2⟩
      · exact .inr ⟨j, by omega, rfl, lf.quo j (by omega) (by omega)⟩
theorem RunT.inv2 {n last k : Nat} {T T' : Tab} {b : Bool} (h : RunT n last k T b T') :
    (b = true ∧ T = T' ∧ entAtT T.goal n = -1) ∨ ∃ c : Nat, entAtT T.goal n = (c : Int) ∧ c < n ∧ LevTFit T c last ∧ ((b = false ∧ T = T' ∧ (levAtT T c last T.rows.length).1 = -1) ∨ ∃ k' i : Nat, k = k' + 1 ∧ (levAtT T c last T.rows.length).1 = (i : Int) ∧ i < T.rows.length ∧ PivTFit T i c ∧ RunT n last k' (pivT T i c) b T') := by
  rcases h.inv with h | ⟨c, hb, hT, he, hc, lf, hl⟩ | ⟨k', c, i, hk, he, hc, lf, hl, hi, pf, h⟩
  · exact .inl h
  · exact .inr ⟨c, he, hc, lf, .inl ⟨hb, hT, hl⟩⟩
  · exact .inr ⟨c, he, hc, lf, .inr ⟨k', i, hk, hl, hi, pf, h⟩⟩
theorem TbAt.basisAt {w : World} {B q : Nat} {T : Tab} {vR vB vG : Value} {us : List Value} {gs : List Nat} {g : Nat} (h : TbAt w B q T vR vB vG us gs g) (h0 : 0 < T.basis.length) : ∃ bB cB, vB = .slice (some ⟨bB, 0, none⟩) T.basis.length cB ∧ bB < w.heap.size ∧ ∀ i, i < T.basis.length → w.cell? ⟨bB, i, none⟩ = some (.int .i64 (T.basis.getD i 0 : Nat)) := by
  obtain ⟨bB, cB, sB, hvB, hbB, hcB, hBB⟩ := h.hB.at (by rw [bvs_length]; exact h0)
  rw [bvs_length] at hvB
  exact ⟨bB, cB, hvB, hbB.lt, fun i hi => hbB.cell (by rw [List.getElem?_append_left (by rw [bvs_length]; exact hi)]; exact bvs_get hi)⟩
theorem below_drewN {B : Nat} {a w : World} (h : Below B a w) (n : Nat) : Below B a (w.drewN n) := ⟨h.os, h.tape, h.output, h.size, h.block⟩
set_option maxRecDepth 100000 in
set_option maxHeartbeats 32000000 in
theorem trun_any (w : World) (B q : Nat) (T T' : Tab) (m last n k : Nat) (b : Bool) (ht : Tbl w B q T) (hl : TabLen T m (last + 1)) (hm : m ≤ 500) (hL : last ≤ 500) (hn : n ≤ last) (hc : RunT n last k T b T') (hB : B ≤ w.heap.size) :
    Calls Try.prog 41 #[.pointer (some ⟨q, 0, none⟩), .int .i64 n] w fun e w' => e = .returned (.bool b) ∧ Tbl w' B q T' ∧ Below B w w' := by
  have HT := Lib.hid ht; have HLN := Lib.hid hl; have HRUN := Lib.hid hc; have HBB := Lib.hid hB
  have x2 : ∃ g cG, w.cell? ⟨q, 2, none⟩ = some (.slice (some ⟨g, 0, none⟩) (last + 1) cG) := by
    obtain ⟨vR, vB, vG, us, gs, g, tb⟩ := ht
    obtain ⟨cG, sG, hvG, _⟩ := tb.goal
    have := tb.hq.cell (i := 2) (v := vG) rfl
    rw [hvG, hl.goal] at this
    exact ⟨_, _, this⟩
  obtain ⟨g0, cG0, x2⟩ := x2
  have wk : IntKind.i64.wrap (((last + 1 : Nat) : Int) - 1) = (last : Int) := by rw [Go.IntWalk.i64_in _ ⟨by omega, by omega⟩]; omega
  clear ht hl hc hB
  go_enter Try.func41, Try.ntmps41
  go_wp2
  clear x2
  go_loopg [6] (k + 1) (fun gg _ wr => ∃ (k' : Nat) (T1 : Tab), gg = k' + 1 ∧ RunT n last k' T1 b T' ∧ TabLen T1 m (last + 1) ∧ Tbl wr B q T1 ∧ Below B w wr)
  case atStart => exact ⟨k, T, rfl, HRUN.out, HLN.out, HT.out, Below.refl _ _⟩
  case round =>
    clear HRUN HLN HT wk
    obtain ⟨k1, T1, rfl, hrun, hln, htb, hbw⟩ := hrel
    obtain ⟨wo, rfl⟩ : ∃ wo : World, wo = wr := ⟨_, rfl⟩
    have RUN := Lib.hid hrun; have LN := Lib.hid hln; have TB := Lib.hid htb; have BW := Lib.hid hbw
    clear hrun hln htb hbw
    have x2 : ∃ g cG sG, wo.cell? ⟨q, 2, none⟩ = some (.slice (some ⟨g, 0, none⟩) (last + 1) cG) ∧ FBlk wo g T1.goal sG := by
      obtain ⟨vR, vB, vG, us, gs, g, tb⟩ := TB.out
      obtain ⟨cG, sG, hvG, hbG, _⟩ := tb.goal
      have := tb.hq.cell (i := 2) (v := vG) rfl
      rw [hvG, LN.out.goal] at this
      exact ⟨_, _, _, this, hbG⟩
    obtain ⟨g, cG, sG, x2, hbG⟩ := x2
    have GB := Lib.hid hbG
    clear hbG
    go_wp2
    go_loop [7, 6] (fun s7 s6 => ∃ j : Nat, j ≤ n ∧ s7 = .int .i64 j ∧ s6 = .int .i64 (entAtT T1.goal j)) (fun s7 _ => n - (intOf s7).toNat)
    case atStart => exact ⟨0, Nat.zero_le _, rfl, rfl⟩
    case round =>
      obtain ⟨j, hj, rfl, rfl⟩ := hrel
      obtain ⟨en, hen⟩ : ∃ en, en = entAtT T1.goal j := ⟨_, rfl⟩
      have hst : entAtT T1.goal (j + 1) = if entAtT T1.goal j < 0 ∧ (gR T1.goal j).num < 0 then (j : Int) else entAtT T1.goal j := rfl
      have hex : ¬ (j < n ∧ entAtT T1.goal j < 0) → entAtT T1.goal n = entAtT T1.goal j := fun h => by
        by_cases hjn : j < n
        · exact ent_stay (by have : ¬ entAtT T1.goal j < 0 := fun e => h ⟨hjn, e⟩; omega) hj
        · have : j = n := by omega
          rw [this]
      rw [← hen] at hst hex ⊢
      have HST := Lib.hid hst; have HEX := Lib.hid hex
      clear hen hst hex
      go_upto_region 4 with fail
      go_cut [27] (fun s wx => s = .bool (decide (j < n) && decide (en < 0)) ∧ wo = wx)
      case first =>
        clear x2
        by_cases h1 : j < n
        · have e1 : (j : Int) < (n : Int) := by omega
          by_cases h2 : en < 0
          · go_wp2
            go_meet
            exact ⟨by simp [h1, h2], rfl⟩
          · go_wp2
            go_meet
            exact ⟨by simp [h1, h2], rfl⟩
        · have e1 : ¬ (j : Int) < (n : Int) := by omega
          go_wp2
          go_meet
          exact ⟨by simp [h1], rfl⟩
      case rest =>
        obtain ⟨rfl, rfl⟩ := hcut
        by_cases hcond : j < n ∧ en < 0
        · obtain ⟨h1, h2⟩ := hcond
          rw [show (decide (j < n) && decide (en < 0)) = true by simp [h1, h2]]
          obtain ⟨y, hy⟩ : ∃ y, T1.goal[j]? = some y := ⟨_, List.getElem?_eq_getElem (by rw [LN.out.goal]; omega)⟩
          obtain ⟨y0, y1⟩ := FBlk.get GB.out hy
          have hst := HST.out
          rw [gR_of hy] at hst
          have HY := Lib.hid hst
          have hjl : (j : Int) < ((last + 1 : Nat) : Int) := by omega
          have hj0 : 0 ≤ (j : Int) := by omega
          clear hst hy
          by_cases h3 : y.num < 0
          · have HE := Lib.hid (HY.out.trans (if_pos ⟨h2, h3⟩))
            go_wp2
            go_round
            case rel => exact ⟨j + 1, by omega, by go_num, by rw [HE.out]⟩
            case measure => simp [intOf]; omega
          · have HE := Lib.hid (HY.out.trans (if_neg (fun h => h3 h.2)))
            go_wp2
            go_round
            case rel => exact ⟨j + 1, by omega, by go_num, by rw [HE.out]⟩
            case measure => simp [intOf]; omega
        · rw [show (decide (j < n) && decide (en < 0)) = false by
            by_cases h1 : j < n
            · have : ¬ en < 0 := fun e => hcond ⟨h1, e⟩
              simp [this]
            · simp [h1]]
          have HEN := Lib.hid (HEX.out hcond)
          clear hcond HEX HST x2 hj
          rcases RUN.out.inv2 with ⟨hb, hT, he⟩ | ⟨c, he, hcn, lf, hrest⟩
          · have een : en = -1 := HEN.out.symm.trans he
            subst een
            have FIN := Lib.hid (show b = true ∧ Tbl wo B q T' ∧ Below B w wo from ⟨hb, hT ▸ TB.out, BW.out⟩)
            clear hb hT he
            go_wp2
            go_ret
            exact ⟨by rw [FIN.out.1]; rfl, FIN.out.2⟩
          · obtain ⟨een, _⟩ : en = (c : Int) ∧ True := ⟨HEN.out.symm.trans he, trivial⟩
            have en0 : ¬ en < 0 := by omega
            subst een
            have LF := Lib.hid lf; have HREST := Lib.hid hrest
            clear he lf hrest HEN
            obtain ⟨vR, vB, vG, us, gs, gx, tb⟩ := TB.out
            obtain ⟨X, hX⟩ : ∃ X, X = wo.heap.size := ⟨_, rfl⟩
            have BX0 := Lib.hid (show Below X wo (wo.alloc (.cells #[.int .i64 0, .int .i64 0] 31)) by rw [hX]; exact (Below.refl _ _).alloc (Nat.le_refl _) _)
            have LB0 := Lib.hid (show Blk (wo.alloc (.cells #[.int .i64 0, .int .i64 0] 31)) X 31 (lbC (levAtT T1 c last 0)) by rw [hX]; exact Blk.new wo [.int .i64 0, .int .i64 0] 31)
            have HX := Lib.hid hX
            have TBX := Lib.hid tb
            have hrl := LN.out.rows
            obtain ⟨aR, cR, hvR⟩ := tb.hR.form
            rw [tb.rows.hu, hrl] at hvR
            subst hvR
            have HRL := Lib.hid hrl
            clear tb hrl
            have TB0 := Lib.hid (TBX.out.below (show Below wo.heap.size wo (wo.alloc (.cells #[.int .i64 0, .int .i64 0] 31)) by have h := BX0.out; rw [HX.out] at h; exact h))
            have x0 := TB0.out.hq.cell (i := 0) rfl
            go_upto_region 12 with fail
            rw [← HX.out]
            clear hX
            go_wp2
            clear x0
            go_loopw [47, 8] (fun s47 s8 wr => ∃ j : Nat, j ≤ m ∧ s47 = .int .i64 j ∧ s8 = .int .i64 (levAtT T1 c last j).1 ∧ Blk wr X 31 (lbC (levAtT T1 c last j)) ∧ Below X wo wr) (fun s47 _ _ => m - (intOf s47).toNat)
            case atStart => exact ⟨0, Nat.zero_le _, rfl, rfl, LB0.out, BX0.out⟩
            case round =>
              clear LB0 BX0 TB0
              obtain ⟨j, hj, rfl, rfl, hL', hBr⟩ := hrel
              obtain ⟨wi, rfl⟩ : ∃ wi : World, wi = wr := ⟨_, rfl⟩
              have LR := Lib.hid hL'; have BR := Lib.hid hBr
              clear hL' hBr
              have TBI := Lib.hid (TBX.out.below (show Below wo.heap.size wo wi by have h := BR.out; rw [HX.out] at h; exact h))
              have rg := Lib.hid (levT_range LF.out j (by rw [HRL.out]; exact hj))
              by_cases hlt : j < m
              · obtain ⟨bR, cR', sR, gi, ci, si, hvR, -, -, -, -, hgi, -, hbi, -, hBi, cu, x0⟩ := TBI.out.at (i := j) (by rw [HRL.out]; exact hlt)
                rw [HRL.out] at hvR x0
                rw [LN.out.len j hlt] at cu
                injection hvR with a1 a2 a3
                subst a1; subst a3
                clear a2
                obtain ⟨x, hx⟩ : ∃ x, (T1.row j)[c]? = some x := ⟨_, List.getElem?_eq_getElem (by rw [LN.out.len j hlt]; omega)⟩
                obtain ⟨y, hy⟩ : ∃ y, (T1.row j)[last]? = some y := ⟨_, List.getElem?_eq_getElem (by rw [LN.out.len j hlt]; omega)⟩
                obtain ⟨xx0, xx1⟩ := FBlk.get hbi hx
                obtain ⟨y0, y1⟩ := FBlk.get hbi hy
                have hst : levAtT T1 c last (j + 1) = if (gR (T1.row j) c).num ≤ 0 then levAtT T1 c last j else if 0 ≤ (levAtT T1 c last j).1 ∧ (0 < cmpR (gR (T1.row j) last / gR (T1.row j) c) (levAtT T1 c last j).2 ∨ cmpR (gR (T1.row j) last / gR (T1.row j) c) (levAtT T1 c last j).2 = 0 ∧ bsAt T1 (levAtT T1 c last j).1 < bsAt T1 (j : Int)) then levAtT T1 c last j else ((j : Int), gR (T1.row j) last / gR (T1.row j) c) := rfl
                rw [gR_of hx, gR_of hy] at hst
                have hrow := List.mem_of_getElem? (T1.row_some (show j < T1.rows.length by rw [HRL.out]; exact hlt))
                have fx : Fit x := (LF.out.all _ hrow).get hx
                have fy : Fit y := (LF.out.all _ hrow).get hy
                have HQ := Lib.hid (show 0 < x.num → Fit (y / x) from fun h => by have := LF.out.quo j (by rw [HRL.out]; exact hlt) (by rw [gR_of hx]; exact h); rwa [gR_of hx, gR_of hy] at this)
                have HST := Lib.hid hst
                have hjm : (j : Int) < (m : Int) := by omega
                have hj0 : 0 ≤ (j : Int) := by omega
                have hcl : (c : Int) < ((last + 1 : Nat) : Int) := by omega
                have hc0 : 0 ≤ (c : Int) := by omega
                have hll : (last : Int) < ((last + 1 : Nat) : Int) := by omega
                have hl0 : 0 ≤ (last : Int) := by omega
                have hcl2 : (c : Int) < (last : Int) + 1 := by omega
                have hll2 : (last : Int) < (last : Int) + 1 := by omega
                have LGI := Lib.hid hbi.lt
                clear hst hx hy hrow hbi hgi hBi
                by_cases hp : x.num ≤ 0
                · have HS := Lib.hid (HST.out.trans (if_pos hp))
                  clear y0 y1
                  go_wp2
                  go_roundw
                  case rel => exact ⟨j + 1, by omega, by go_num, by rw [HS.out], by rw [HS.out]; exact LR.out, BR.out⟩
                  case measure => simp [intOf]; omega
                · have HS := Lib.hid (HST.out.trans (if_neg hp))
                  have hx0 : x ≠ 0 := fun e => by rw [e] at hp; exact hp (by decide)
                  have FQ := HQ.out (by omega)
                  have DIV := Lib.hid (rdiv y x hx0 fy fx FQ)
                  obtain ⟨qt, hqt⟩ : ∃ l, l = y / x := ⟨_, rfl⟩
                  rw [← hqt] at DIV HS FQ
                  have FQT := Lib.hid FQ
                  clear hqt FQ HST HQ
                  go_upto_region 16 with fail
                  have lb0 := World.block_lt_of_cell? _ _ y0
                  have lb1 := World.block_lt_of_cell? _ _ y1
                  have lb2 := World.block_lt_of_cell? _ _ xx0
                  have lb3 := World.block_lt_of_cell? _ _ xx1
                  dsimp only at lb0 lb1 lb2 lb3
                  go_cut [12] (fun s wx => ∃ B10 : Nat, s = .pointer (some ⟨B10, 0, none⟩) ∧ wi.heap.size ≤ B10 ∧ Blk wx B10 31 (FrC (qt)) ∧ Below wi.heap.size wi wx)
                  case first =>
                    as_aux_lemma =>
                      refine hd_start_e 15 (fun w' => w'.cell? ⟨gi, last * 2, none⟩ = some (.int .i64 y.num) ∧ w'.cell? ⟨gi, last * 2 + 1, none⟩ = some (.int .i64 (y.den : Int)) ∧ w'.cell? ⟨gi, c * 2, none⟩ = some (.int .i64 x.num) ∧ w'.cell? ⟨gi, c * 2 + 1, none⟩ = some (.int .i64 (x.den : Int))) (by kernel_rfl) ⟨by kernel_rfl, by rfl⟩ (by refine ⟨y0, y1, xx0, xx1⟩) (fun ok => ?_)
                      refine he_t 0 ok rfl ?_
                      go_frame
                      refine he_t 1 ok rfl ?_
                      go_frame
                      refine he_t 2 ok rfl ?_
                      go_frame
                      refine he_t 3 ok rfl ?_
                      go_frame
                      refine he_t 4 ok rfl ?_
                      go_frame
                      refine he_t 5 ok rfl ?_
                      go_frame
                      refine he_t 6 ok rfl ?_
                      go_frame
                      refine he_t 7 ok rfl ?_
                      go_frame
                      refine hd_inv_s [(67, 8), (58, 9), (68, 10), (69, 11), (13, 14), (12, 12)] [13] (fun _ => undef) (fun b v w' => Below wi.heap.size wi w' ∧ (b 8 = true → v 8 = .tuple #[FrV qt, .int .i64 0]) ∧ (b 9 = true → v 9 = .tuple #[FrV qt, .int .i64 0]) ∧ (b 10 = true → v 10 = FrV qt) ∧ (b 11 = true → v 11 = .int .i64 0) ∧ (b 14 = true → v 14 = .int .i64 0) ∧ ∃ q7, (b 12 = true → v 12 = .pointer (some ⟨q7, 0, none⟩) ∧ wi.heap.size ≤ q7) ∧ (b 12 = true → b 13 = false → Blk w' q7 31 [.int .i64 0, .int .i64 0]) ∧ (b 13 = true → b 12 = true ∧ Blk w' q7 31 (FrC (qt)))) (.inr ok) ⟨by decide, by decide, by kernel_rfl, rfl⟩ (by kernel_rfl) (by kernel_rfl) (by kernel_rfl) (by decide) ⟨(Below.refl _ _).drew, (fun h => by cases h), (fun h => by cases h), (fun h => by cases h), (fun h => by cases h), (fun h => by cases h), 0, (fun h => by cases h), (fun h => by cases h), (fun h => by cases h)⟩ ?_ ?_
                      · intro iA oj hi ho bb vA aA w' hJ hv hr hb hdep hS K hK
                        obtain ⟨hB, j8, j9, j10, j11, j14, q7, jal, jz, jst⟩ := hJ
                        have hBs := hB.size
                        have hi4 : iA = 8 ∨ iA = 9 ∨ iA = 10 ∨ iA = 11 ∨ iA = 14 ∨ iA = 12 ∨ iA = 13 := by simpa using hi
                        try dsimp only at hS
                        obtain ⟨s0, s1, s2, s3⟩ := hS
                        rcases hi4 with rfl | rfl | rfl | rfl | rfl | rfl | rfl
                        · obtain rfl := Option.some.inj ho
                          have e62 : aA.tmps[62]?.getD undef = FrV y := (get_eval aA 62).trans (hr 62 (by decide))
                          have e66 : aA.tmps[66]?.getD undef = FrV x := (get_eval aA 66).trans (hr 66 (by decide))
                          go_simp
                          go_at_call 72
                          refine (DIV.out _).mono ?_
                          rintro e u ⟨rfl, hu⟩
                          exact hK _ _ ⟨cell_later hu s0, cell_later hu s1, cell_later hu s2, cell_later hu s3⟩ ⟨hB.trans (hu.mono hBs), fun _ => rfl, j9, j10, j11, j14, q7, jal, fun h1 h2 => (jz h1 h2).below hu (jz h1 h2).lt, fun h => ⟨(jst h).1, (jst h).2.below hu (jst h).2.lt⟩⟩
                        · obtain rfl := Option.some.inj ho
                          have d8 := hdep 8 (by kernel_rfl)
                          have e67 : aA.tmps[67]?.getD undef = .tuple #[FrV qt, .int .i64 0] := (get_eval aA 67).trans ((hv 67 8 (by decide) d8).trans (j8 d8))
                          go_simp
                          exact hK _ _ ⟨s0, s1, s2, s3⟩ ⟨hB, j8, fun _ => rfl, j10, j11, j14, q7, jal, jz, jst⟩
                        · obtain rfl := Option.some.inj ho
                          have d9 := hdep 9 (by kernel_rfl)
                          have e58 : aA.tmps[58]?.getD undef = .tuple #[FrV qt, .int .i64 0] := (get_eval aA 58).trans ((hv 58 9 (by decide) d9).trans (j9 d9))
                          go_simp
                          exact hK _ _ ⟨s0, s1, s2, s3⟩ ⟨hB, j8, j9, fun _ => rfl, j11, j14, q7, jal, jz, jst⟩
                        · obtain rfl := Option.some.inj ho
                          have d9 := hdep 9 (by kernel_rfl)
                          have e58 : aA.tmps[58]?.getD undef = .tuple #[FrV qt, .int .i64 0] := (get_eval aA 58).trans ((hv 58 9 (by decide) d9).trans (j9 d9))
                          go_simp
                          exact hK _ _ ⟨s0, s1, s2, s3⟩ ⟨hB, j8, j9, j10, fun _ => rfl, j14, q7, jal, jz, jst⟩
                        · obtain rfl := Option.some.inj ho
                          have d11 := hdep 11 (by kernel_rfl)
                          have e69 : aA.tmps[69]?.getD undef = .int .i64 0 := (get_eval aA 69).trans ((hv 69 11 (by decide) d11).trans (j11 d11))
                          go_simp
                          exact hK _ _ ⟨s0, s1, s2, s3⟩ ⟨hB, j8, j9, j10, j11, fun _ => rfl, q7, jal, jz, jst⟩
                        · obtain rfl := Option.some.inj ho
                          go_simp
                          have hu : Below w'.heap.size w' (w'.alloc (.cells #[.int .i64 0, .int .i64 0] 31)) := (Below.refl _ _).alloc (Nat.le_refl _) _
                          exact hK _ _ ⟨cell_later hu s0, cell_later hu s1, cell_later hu s2, cell_later hu s3⟩ ⟨hB.trans (hu.mono hBs), j8, j9, j10, j11, j14, w'.heap.size, fun _ => ⟨rfl, hBs⟩, fun _ _ => Blk.new w' [.int .i64 0, .int .i64 0] 31, fun h => by have := (jst h).1; rw [hb] at this; cases this⟩
                        · obtain rfl := Option.some.inj ho
                          have dal := hdep 12 (by kernel_rfl)
                          obtain ⟨val, lal⟩ := jal dal
                          have bz := jz dal hb
                          have e12 : aA.tmps[12]?.getD undef = .pointer (some ⟨q7, 0, none⟩) := (get_eval aA 12).trans ((hv 12 12 (by decide) dal).trans val)
                          have d10 := hdep 10 (by kernel_rfl)
                          have e68 : aA.tmps[68]?.getD undef = FrV qt := (get_eval aA 68).trans ((hv 68 10 (by decide) d10).trans (j10 d10))
                          have z0 := bz.cell (i := 0) rfl; have z1 := bz.cell (i := 1) rfl; have zf := bz.free
                          go_simp
                          have hc2 : Below wi.heap.size wi ((w'.setCell ⟨q7, 0, none⟩ (.int .i64 (qt).num)).setCell ⟨q7, 1, none⟩ (.int .i64 ((qt).den : Int))) := (hB.setCell lal _).setCell lal _
                          exact hK (.int .i64 0) _ ⟨cell_set (by omega) (cell_set (by omega) s0), cell_set (by omega) (cell_set (by omega) s1), cell_set (by omega) (cell_set (by omega) s2), cell_set (by omega) (cell_set (by omega) s3)⟩ ⟨hc2, j8, j9, j10, j11, j14, q7, jal, (fun _ h => by cases h), fun _ => ⟨dal, ((bz.set 0 _).set 1 _).at rfl⟩⟩
                      · intro bb vA w' hall hJ hS
                        obtain ⟨hB, j8, j9, j10, j11, j14, q7, jal, jz, jst⟩ := hJ
                        have v8 := j8 (hall 8 (by decide))
                        have v9 := j9 (hall 9 (by decide))
                        have v10 := j10 (hall 10 (by decide))
                        have v11 := j11 (hall 11 (by decide))
                        have v14 := j14 (hall 14 (by decide))
                        obtain ⟨val, lal⟩ := jal (hall 12 (by decide))
                        have R := Lib.hid (show ∃ B10 : Nat, Value.pointer (some ⟨q7, 0, none⟩) = .pointer (some ⟨B10, 0, none⟩) ∧ wi.heap.size ≤ B10 ∧ Blk w' B10 31 (FrC (qt)) ∧ Below wi.heap.size wi w' from ⟨q7, rfl, lal, (jst (hall 13 (by decide))).2, hB⟩)
                        simp only [putP, v8, v9, v10, v11, v14, val]
                        clear hB j8 j9 j10 j11 j14 jal jz jst v8 v9 v10 v11 v14 val lal hS hall ok
                        go_frame
                        refine hd_end (by kernel_rfl) rfl ?_
                        go_wp2_with fail
                        go_meet
                        exact R.out
                  case rest =>
                    obtain ⟨B8, rfl, lB8, b8, hB⟩ := hcut
                    obtain ⟨w5, hw5⟩ : ∃ w5 : World, w5 = wc := ⟨_, rfl⟩
                    rw [← hw5] at b8 hB ⊢
                    clear hw5
                    have LR5 := Lib.hid (LR.out.below hB LR.out.lt)
                    have BR5 := Lib.hid (BR.out.trans (hB.mono (by have := HX.out; have := BR.out.size; omega)))
                    have TB5 := Lib.hid (TBI.out.below hB)
                    have N8 := Lib.hid b8
                    have NX := Lib.hid (show X ≠ B8 by have := LR.out.lt; omega)
                    have nx1 : X ≠ B8 := NX.out
                    have nx2 : B8 ≠ X := fun e => nx1 e.symm
                    clear y0 y1 xx0 xx1 hB lB8 b8 cu x0 DIV
                    have t0 := N8.out.cell (i := 0) rfl; have t1 := N8.out.cell (i := 1) rfl
                    rcases rg.out with hb1 | ⟨t, htj, hb1, hft⟩
                    · have HT2 := Lib.hid (HS.out.trans (if_neg (fun h => by rw [hb1] at h; omega)))
                      rw [hb1]
                      clear hb1
                      have L0 := LR5.out
                      obtain ⟨g0', hg0⟩ := L0.some0 (i := 0) (by unfold lbC; split <;> simp)
                      obtain ⟨g1', hg1⟩ := L0.some0 (i := 1) (by unfold lbC; split <;> simp)
                      have gf := L0.free
                      clear L0
                      go_upto_region 20 with fail
                      refine hr_start 3 (fun w' => w'.cell? ⟨B8, 0, none⟩ = some (.int .i64 qt.num) ∧ w'.cell? ⟨B8, 1, none⟩ = some (.int .i64 (qt.den : Int))) (by kernel_rfl) (by kernel_rfl) (by refine ⟨t0, t1⟩) (fun ok => ?_)
                      refine hr_t 0 ok rfl ?_
                      go_frame
                      refine hr_t 1 ok rfl ?_
                      go_frame
                      refine hr_t 2 ok rfl ?_
                      go_frame
                      refine hr_only (c := 3) rfl (by kernel_rfl) (fun K hK => ?_)
                      go_simp
                      (try simp only [])
                      refine hK _ _ (pend_no (by kernel_rfl)) ?_
                      clear hK K
                      (try go_frame)
                      refine hr_end (by kernel_rfl) ?_
                      have FIN := Lib.hid (show Blk ((w5.setCell ⟨X, 0, none⟩ (.int .i64 qt.num)).setCell ⟨X, 1, none⟩ (.int .i64 (qt.den : Int))) X 31 (lbC (levAtT T1 c last (j + 1))) ∧ Below X wo ((w5.setCell ⟨X, 0, none⟩ (.int .i64 qt.num)).setCell ⟨X, 1, none⟩ (.int .i64 (qt.den : Int))).drew from ⟨by
                          rw [HT2.out]
                          have h := ((LR5.out.set 0 (.int .i64 qt.num)).set 1 (.int .i64 (qt.den : Int)))
                          refine h.at ?_
                          unfold lbC
                          rw [if_neg (show ¬ ((j : Int), qt).1 < 0 by simp)]
                          split <;> rfl, ((BR5.out.setCell (Nat.le_refl _) _).setCell (Nat.le_refl _) _).drew⟩)
                      clear hg0 hg1 gf t0 t1
                      go_wp2
                      go_roundw
                      case rel => exact ⟨j + 1, by omega, by go_num, by rw [HT2.out], FIN.out.1, FIN.out.2⟩
                      case measure => simp [intOf]; omega
                    · obtain ⟨bB, cB, hvB, lbB, hcells⟩ := TB5.out.basisAt (by rw [LN.out.basis]; omega)
                      obtain ⟨best, hbest⟩ : ∃ l, l = (levAtT T1 c last j).2 := ⟨_, rfl⟩
                      have HS2 := HS.out
                      rw [hb1, ← hbest] at HS2
                      have LB5 := Lib.hid (show Blk w5 X 31 (FrC best) by have h := LR5.out; unfold lbC at h; rw [if_neg (by rw [hb1]; omega), ← hbest] at h; exact h)
                      rw [← hbest] at hft
                      have CM := Lib.hid (rcmp qt best FQT.out hft)
                      have l0 := LB5.out.cell (i := 0) rfl
                      have l1 := LB5.out.cell (i := 1) rfl
                      have ht0 : 0 ≤ (t : Int) := by omega
                      have HB1 := Lib.hid hb1
                      rw [hb1]
                      obtain ⟨cv, hcv⟩ : ∃ c, c = cmpR qt best := ⟨_, rfl⟩
                      rw [← hcv] at CM HS2
                      have HS3 := Lib.hid HS2; have HCV := Lib.hid hcv
                      have HCELL := Lib.hid hcells
                      have LBB := Lib.hid lbB
                      have BLN := Lib.hid LN.out.basis
                      rw [LN.out.basis] at hvB
                      subst hvB
                      clear hb1 hbest HS2 hcv hft hcells lbB
                      have htm : (t : Int) < (m : Int) := by omega
                      go_wp2_with fail
                      refine (CM.out _).mono ?_
                      rintro e w6 ⟨rfl, hb⟩
                      have LR6 := Lib.hid (LR5.out.below hb LR5.out.lt)
                      have BR6 := Lib.hid (BR5.out.trans (hb.mono (by have := HX.out; have := BR5.out.size; omega)))
                      have TB6 := Lib.hid (TB5.out.below hb)
                      have N6 := Lib.hid (N8.out.below hb N8.out.lt)
                      have v0 := (hb.cell (p := ⟨bB, j, none⟩) LBB.out).trans (HCELL.out j (by rw [BLN.out]; exact hlt))
                      have v1 := (hb.cell (p := ⟨bB, t, none⟩) LBB.out).trans (HCELL.out t (by rw [BLN.out]; omega))
                      clear hb t0 t1 l0 l1
                      have t0 := N6.out.cell (i := 0) rfl
                      have t1 := N6.out.cell (i := 1) rfl
                      have x1 := TB6.out.hq.cell (i := 1) rfl
                      obtain ⟨bj, hbj⟩ : ∃ z, z = T1.basis.getD j 0 := ⟨_, rfl⟩
                      obtain ⟨bt, hbt⟩ : ∃ z, z = T1.basis.getD t 0 := ⟨_, rfl⟩
                      have HS4 := HS3.out
                      rw [show bsAt T1 (t : Int) = bt by rw [hbt]; rfl, show bsAt T1 (j : Int) = bj by rw [hbj]; rfl] at HS4
                      rw [← hbj] at v0; rw [← hbt] at v1
                      have HS5 := Lib.hid HS4
                      clear HS4 hbj hbt HS3
                      rcases cmpR_three qt best with h1 | h1 | h1
                      · have hc1 := HCV.out.trans h1
                        subst hc1
                        have HT2 := Lib.hid (HS5.out.trans (if_neg (fun h => by omega)))
                        clear h1 HCV v0 v1 x1
                        go_upto_region 19 with fail
                        go_quiet (fail)
                        have L0 := LR6.out
                        obtain ⟨g0', hg0⟩ := L0.some0 (i := 0) (by unfold lbC; split <;> simp)
                        obtain ⟨g1', hg1⟩ := L0.some0 (i := 1) (by unfold lbC; split <;> simp)
                        have gf := L0.free
                        clear L0
                        go_upto_region 20 with fail
                        refine hr_start 3 (fun w' => w'.cell? ⟨B8, 0, none⟩ = some (.int .i64 qt.num) ∧ w'.cell? ⟨B8, 1, none⟩ = some (.int .i64 (qt.den : Int))) (by kernel_rfl) (by kernel_rfl) (by refine ⟨t0, t1⟩) (fun ok => ?_)
                        refine hr_t 0 ok rfl ?_
                        go_frame
                        refine hr_t 1 ok rfl ?_
                        go_frame
                        refine hr_t 2 ok rfl ?_
                        go_frame
                        refine hr_only (c := 3) rfl (by kernel_rfl) (fun K hK => ?_)
                        go_simp
                        (try simp only [])
                        refine hK _ _ (pend_no (by kernel_rfl)) ?_
                        clear hK K
                        (try go_frame)
                        refine hr_end (by kernel_rfl) ?_
                        have FIN := Lib.hid (show Blk (((w6.drewN (nq + 1)).setCell ⟨X, 0, none⟩ (.int .i64 qt.num)).setCell ⟨X, 1, none⟩ (.int .i64 (qt.den : Int))) X 31 (lbC (levAtT T1 c last (j + 1))) ∧ Below X wo (((w6.drewN (nq + 1)).setCell ⟨X, 0, none⟩ (.int .i64 qt.num)).setCell ⟨X, 1, none⟩ (.int .i64 (qt.den : Int))) from ⟨by
                            rw [HT2.out]
                            have h := ((LR6.out.set 0 (.int .i64 qt.num)).set 1 (.int .i64 (qt.den : Int)))
                            refine h.at ?_
                            unfold lbC
                            rw [if_neg (show ¬ ((j : Int), qt).1 < 0 by simp)]
                            split <;> rfl, ((below_drewN BR6.out (nq + 1)).setCell (Nat.le_refl _) _).setCell (Nat.le_refl _) _⟩)
                        clear hg0 hg1 gf t0 t1
                        go_wp2
                        go_roundw
                        case rel => exact ⟨j + 1, by omega, by go_num, by rw [HT2.out], FIN.out.1, FIN.out.2⟩
                        case measure => simp [intOf]; omega
                      · have hc1 := HCV.out.trans h1
                        subst hc1
                        clear h1 HCV
                        by_cases hb2 : bt < bj
                        · have HT2 := Lib.hid (HS5.out.trans (if_pos ⟨ht0, .inr ⟨rfl, hb2⟩⟩))
                          have hb3 : (bt : Int) < (bj : Int) := by omega
                          have hd3 : decide ((bt : Int) < (bj : Int)) = true := by simpa using hb3
                          clear t0 t1
                          go_upto_region 19 with fail
                          go_quiet (fail)
                          go_wp2
                          go_roundw
                          case rel => exact ⟨j + 1, by omega, by go_num, by rw [HT2.out, HB1.out], by rw [HT2.out]; exact LR6.out, below_drewN BR6.out nq⟩
                          case measure => simp [intOf]; omega
                        · have HT2 := Lib.hid (HS5.out.trans (if_neg (fun h => by omega)))
                          have hb3 : ¬ (bt : Int) < (bj : Int) := by omega
                          have hd3 : decide ((bt : Int) < (bj : Int)) = false := by simpa using hb3
                          go_upto_region 19 with fail
                          go_quiet (fail)
                          clear v0 v1 x1
                          have L0 := LR6.out
                          obtain ⟨g0', hg0⟩ := L0.some0 (i := 0) (by unfold lbC; split <;> simp)
                          obtain ⟨g1', hg1⟩ := L0.some0 (i := 1) (by unfold lbC; split <;> simp)
                          have gf := L0.free
                          clear L0
                          go_upto_region 20 with fail
                          refine hr_start 3 (fun w' => w'.cell? ⟨B8, 0, none⟩ = some (.int .i64 qt.num) ∧ w'.cell? ⟨B8, 1, none⟩ = some (.int .i64 (qt.den : Int))) (by kernel_rfl) (by kernel_rfl) (by refine ⟨t0, t1⟩) (fun ok => ?_)
                          refine hr_t 0 ok rfl ?_
                          go_frame
                          refine hr_t 1 ok rfl ?_
                          go_frame
                          refine hr_t 2 ok rfl ?_
                          go_frame
                          refine hr_only (c := 3) rfl (by kernel_rfl) (fun K hK => ?_)
                          go_simp
                          (try simp only [])
                          refine hK _ _ (pend_no (by kernel_rfl)) ?_
                          clear hK K
                          (try go_frame)
                          refine hr_end (by kernel_rfl) ?_
                          have FIN := Lib.hid (show Blk (((w6.drewN (nq + 1)).setCell ⟨X, 0, none⟩ (.int .i64 qt.num)).setCell ⟨X, 1, none⟩ (.int .i64 (qt.den : Int))) X 31 (lbC (levAtT T1 c last (j + 1))) ∧ Below X wo (((w6.drewN (nq + 1)).setCell ⟨X, 0, none⟩ (.int .i64 qt.num)).setCell ⟨X, 1, none⟩ (.int .i64 (qt.den : Int))) from ⟨by
                              rw [HT2.out]
                              have h := ((LR6.out.set 0 (.int .i64 qt.num)).set 1 (.int .i64 (qt.den : Int)))
                              refine h.at ?_
                              unfold lbC
                              rw [if_neg (show ¬ ((j : Int), qt).1 < 0 by simp)]
                              split <;> rfl, ((below_drewN BR6.out (nq + 1)).setCell (Nat.le_refl _) _).setCell (Nat.le_refl _) _⟩)
                          clear hg0 hg1 gf t0 t1
                          go_wp2
                          go_roundw
                          case rel => exact ⟨j + 1, by omega, by go_num, by rw [HT2.out], FIN.out.1, FIN.out.2⟩
                          case measure => simp [intOf]; omega
                      · have hc1 := HCV.out.trans h1
                        subst hc1
                        have HT2 := Lib.hid (HS5.out.trans (if_pos ⟨ht0, .inl (by decide)⟩))
                        clear h1 HCV v0 v1 x1 t0 t1
                        go_upto_region 19 with fail
                        go_quiet (fail)
                        go_wp2
                        go_roundw
                        case rel => exact ⟨j + 1, by omega, by go_num, by rw [HT2.out, HB1.out], by rw [HT2.out]; exact LR6.out, below_drewN BR6.out nq⟩
                        case measure => simp [intOf]; omega
              · obtain rfl : j = m := by omega
                rcases HREST.out with ⟨hb, hT, hlv⟩ | ⟨k2, i, hk2, hlv, hi, pf, hrun2⟩
                · have FN := Lib.hid (show b = false ∧ T1 = T' from ⟨hb, hT⟩)
                  have hlv9 : (levAtT T1 c last j).1 = -1 := (by rw [show j = T1.rows.length from HRL.out.symm]; exact hlv)
                  rw [hlv9]
                  clear hlv9 hlv hb hT
                  have TF := Lib.hid (show b = false ∧ Tbl wi B q T' ∧ Below B w wi from ⟨FN.out.1, FN.out.2 ▸ ⟨_, _, _, _, _, _, TBI.out⟩, BW.out.trans (BR.out.mono (by rw [HX.out]; exact Nat.le_trans HBB.out BW.out.size))⟩)
                  go_wp2
                  go_ret
                  exact ⟨by rw [TF.out.1]; rfl, TF.out.2⟩
                · subst hk2
                  have HI := Lib.hid (show i < T1.rows.length ∧ PivTFit T1 i c ∧ RunT n last k2 (pivT T1 i c) b T' from ⟨hi, pf, hrun2⟩)
                  have hlv9 : (levAtT T1 c last j).1 = (i : Int) := (by rw [show j = T1.rows.length from HRL.out.symm]; exact hlv)
                  rw [hlv9]
                  clear hlv9 hlv hi pf hrun2
                  have hi0 : ¬ (i : Int) < 0 := by omega
                  have BWI := Lib.hid (show Below B w wi from BW.out.trans (BR.out.mono (by rw [HX.out]; exact Nat.le_trans HBB.out BW.out.size)))
                  go_wp2_with fail
                  refine (tpivot_any wi B q T1 j (last + 1) ⟨_, _, _, _, _, _, TBI.out⟩ LN.out (by omega) (by omega) i c (by rw [← HRL.out]; exact HI.out.1) (by omega) HI.out.2.1 (Nat.le_trans HBB.out BWI.out.size)).mono ?_
                  rintro e w9 ⟨rfl, htb9, hb9⟩
                  have FIN := Lib.hid (show RunT n last k2 (pivT T1 i c) b T' ∧ TabLen (pivT T1 i c) j (last + 1) ∧ Tbl w9 B q (pivT T1 i c) ∧ Below B w w9 from ⟨HI.out.2.2, LN.out.piv i c (by rw [← HRL.out]; exact HI.out.1), htb9, BWI.out.trans hb9⟩)
                  clear htb9 hb9
                  go_wp2
                  go_roundg (k2 + 1)
                  case measure => omega
                  case rel => exact ⟨k2, pivT T1 i c, rfl, FIN.out⟩
end Go.Proofs.Ytdegpgonphgbcaa
