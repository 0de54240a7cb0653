/-
  The document's Check of an image.
-/
import Derived.Test.YtonbmijhbbodnaaZMake
import Derived.Test.YtonbmijhbbodnaaInD
import Derived.Test.YtonbmijhbbodnaaImD
namespace Go.Proofs.Ytonbmijhbbodnaa
open Go.RowKit

theorem chain_node {cn : Nat} {e : Int} {l : List Nd} {a : Nat} {x : Nd} (h : Chain cn e l) (hx : l[a]? = some x) : x.first = endOf e (l.take a) ∧ 1 ≤ x.cnt ∧ x.cnt ≤ (cn : Int) - endOf e (l.take a) := by
  obtain ⟨ha, hg⟩ := List.getElem?_eq_some_iff.1 hx
  have e1 : l = l.take a ++ x :: l.drop (a + 1) := by
    conv => lhs; rw [← List.take_append_drop a l, List.drop_eq_getElem_cons ha, hg]
  rw [e1, chain_app] at h
  exact ⟨h.2.1, h.2.2.1, h.2.2.2.1⟩
theorem chain_take {cn : Nat} {e : Int} {l : List Nd} (h : Chain cn e l) (a : Nat) : Chain cn e (l.take a) := by
  rw [← List.take_append_drop a l, chain_app] at h
  exact h.1
theorem chain_succ {cn : Nat} {e : Int} {l : List Nd} {a : Nat} {x : Nd} (hx : l[a]? = some x) (h : Chain cn e (l.take a)) (h1 : x.first = endOf e (l.take a)) (h2 : 1 ≤ x.cnt) (h3 : x.cnt ≤ (cn : Int) - endOf e (l.take a)) : Chain cn e (l.take (a + 1)) := by
  rw [List.take_add_one, hx, chain_app]
  exact ⟨h, h1, h2, h3, trivial⟩
theorem endOf_succ {e : Int} {l : List Nd} {a : Nat} {x : Nd} (hx : l[a]? = some x) : endOf e (l.take (a + 1)) = endOf e (l.take a) + x.cnt := by
  rw [List.take_add_one, hx, endOf_app]
  simp [endOf]
theorem ends_succ {c : List Ins} {l : List Nd} {a : Nat} {x : Nd} (hx : l[a]? = some x) : endsN c (l.take (a + 1)) = endsN c (l.take a) + (if isEnd c x then 1 else 0) := by
  unfold endsN
  rw [List.take_add_one, hx, List.filter_append, List.length_append]
  simp only [Option.toList_some]
  by_cases h : isEnd c x = true
  · rw [List.filter_cons_of_pos h, if_pos h]; simp
  · rw [List.filter_cons_of_neg h, if_neg h]; simp
theorem not_limit {m : Img} (h1 : ¬ 1024 < m.code.length) (h2 : ¬ 1024 < m.data) (h3 : ¬ 6 < m.units.length) : ¬ Limit m := fun h => by
  rcases h with h | h | h
  · exact h1 h
  · exact h2 h
  · exact h3 h
set_option maxRecDepth 100000 in
set_option maxHeartbeats 16000000 in
theorem rcheckM_any (K : Nat → Prop) (ca : Option Addr) (cn cc : Nat) (D : Int) (ua : Option Addr) (un uc : Nat) (m : Img) (w : World) (h : IsImg K w ca cn cc D ua un uc m) :
    Calls Try.prog 38 #[MV ca cn cc D ua un uc] w (ChkMRet m w) := by
  obtain ⟨hc, rfl, hDI, hu⟩ := h
  obtain ⟨code, D, units⟩ := m
  simp only [] at hc hDI hu
  have hcl := hc.hlen
  have hul := hu.hlen
  have hcsz := hc.hsz
  have husz := hu.hsz
  have RC := Lib.hid hc; have RU := Lib.hid hu
  have hD0 := hDI.1; have hD1 := hDI.2
  clear hc hu hDI
  have F0 := Lib.hid (Fm.new (Fm.start Non w) rfl (MCells ca cn cc D ua un uc) 31)
  have t0 := F0.out.h0
  have m0 := t0.cell 0 _ rfl; have m1 := t0.cell 1 _ rfl; have m2 := t0.cell 2 _ rfl; have m3 := t0.cell 3 _ rfl
  clear t0
  go_enter Try.func38, Try.ntmps38
  by_cases hl1 : 1024 < cn
  · go_wp2
    go_ret
    exact ⟨4, rfl, .limit (.inl (by rw [hcl]; exact hl1)), F0.out.below⟩
  · by_cases hl2 : 1024 < D
    · go_wp2
      go_ret
      exact ⟨4, rfl, .limit (.inr (.inl hl2)), F0.out.below⟩
    · by_cases hl3 : 6 < un
      · go_wp2
        go_ret
        exact ⟨4, rfl, .limit (.inr (.inr (by rw [hul]; exact hl3))), F0.out.below⟩
      · have NL := Lib.hid (not_limit (m := ⟨code, D, units⟩) (by rw [hcl]; exact hl1) hl2 (by rw [hul]; exact hl3))
        go_wp2
        go_loopw [3, 4] (fun i _ wr => ∃ k : Nat, k ≤ cn ∧ i = .int .i64 k ∧ Good (code.take k) ∧ Fm Non w wr [MCells ca cn cc D ua un uc]) (fun i _ _ => cn - (intOf i).toNat)
        case atStart => exact ⟨0, Nat.zero_le _, rfl, fun x hx => by simp at hx, F0.out⟩
        case round =>
          obtain ⟨k, hk, rfl, hg, hF⟩ := hrel
          have F1 := Lib.hid hF; have HG := Lib.hid hg
          clear hF hg m0 m1 m2 m3
          have t0 := F1.out.h0
          have m0 := t0.cell 0 _ rfl; have m1 := t0.cell 1 _ rfl; have m2 := t0.cell 2 _ rfl; have m3 := t0.cell 3 _ rfl
          clear t0
          by_cases hlt : k < cn
          · obtain ⟨b, o, x, rfl, hx, _, _, lb, c0, c1, c2, c3, c4, c5⟩ := InsL.get (Row.below RIns.stays RC.out F1.out.below) hlt
            have HX := Lib.hid hx
            clear hx
            go_wp2_with fail
            refine (rcheck_any x _).mono ?_
            rintro e w2 ⟨rfl, hb2⟩
            have F2 := Lib.hid (Fm.call hb2 F1.out)
            clear hb2
            by_cases hch : chkI x = 0
            · have HG2 := Lib.hid (good_take HX.out HG.out hch)
              rw [hch]
              go_wp2
              go_roundw
              case rel => exact ⟨k + 1, by omega, by go_num, HG2.out, F2.out⟩
              case measure => simp [intOf]; omega
            · have HB := Lib.hid (bad_of HX.out HG.out hch)
              go_wp2
              go_ret
              exact ⟨chkI x, rfl, .code NL.out x HB.out, F2.out.below⟩
          · have htk : code.take k = code := List.take_of_length_le (by omega)
            rw [htk] at HG
            clear htk
            by_cases hneg : D < 0
            · go_wp2
              go_ret
              exact ⟨10, rfl, .neg NL.out HG.out hneg, F1.out.below⟩
            · go_wp2
              clear m0 m1 m2 m3
              go_loopw [5, 6] (fun e i wr => ∃ (j : Nat) (E : Int), j ≤ un ∧ i = .int .i64 j ∧ e = .int .i64 E ∧ 0 ≤ E ∧ E ≤ cn ∧ UPre code D units j E ∧ Fm Non w wr [MCells ca cn cc D ua un uc]) (fun _ i _ => un - (intOf i).toNat)
              case atStart => exact ⟨0, 0, Nat.zero_le _, rfl, rfl, by omega, by omega, upre_zero _ _ _, F1.out⟩
              case round =>
                obtain ⟨j, E, hj, rfl, rfl, E0, E1, hup, hF⟩ := hrel
                have F2 := Lib.hid hF; have UP := Lib.hid hup
                clear hF hup
                obtain ⟨wo, rfl⟩ : ∃ wo : World, wo = wr := ⟨_, rfl⟩
                have t0 := F2.out.h0
                have m0 := t0.cell 0 _ rfl; have m1 := t0.cell 1 _ rfl; have m2 := t0.cell 2 _ rfl; have m3 := t0.cell 3 _ rfl
                have lt0 := t0.lt (by simp)
                clear t0
                by_cases hju : j < un
                · obtain ⟨b, o, u, s, na, nl, nc, rfl, hu, _, lb, hnl, huc⟩ := UnL.get (Row.below RUn.stays RU.out F2.out.below) hju
                  have HU := Lib.hid hu
                  have c0 := huc 0 _ rfl; rw [Nat.add_zero] at c0; have c1 := huc 1 _ rfl; have c2 := huc 2 _ rfl; have c3 := huc 3 _ rfl; have c4 := huc 4 _ rfl; have c5 := huc 5 _ rfl; have c6 := huc 6 _ rfl; have c7 := huc 7 _ rfl; have c8 := huc 8 _ rfl; have c9 := huc 9 _ rfl
                  have hnll := hnl.hlen
                  have hnls := hnl.hsz
                  have G0 := Lib.hid (Fm.new (Fm.start Non wo) rfl (UCells s na nl nc) 79)
                  have NB := Lib.hid hnl
                  clear hu hnl huc
                  obtain ⟨wu, hwu⟩ : ∃ wu, wu = wo.alloc (.cells (UCells s na nl nc).toArray 79) := ⟨_, rfl⟩
                  go_upto_region 16 with fail
                  have hwu2 : wo.alloc (.cells #[.string s, .slice na nl nc, NIL, NIL, NIL, NIL, NIL, NIL, NIL, NIL] 79) = wu := hwu.symm
                  rw [hwu2]
                  have G1 := Lib.hid (show Fm Non wo wu [UCells s na nl nc] by rw [hwu]; exact G0.out)
                  have F3 := Lib.hid (show Fm Non w wu [MCells ca cn cc D (some ⟨b, o, none⟩) un uc] by rw [hwu]; exact F2.out.more _)
                  clear hwu hwu2 G0 c0 c1 c2 c3 c4 c5 c6 c7 c8 c9 m0 m1 m2 m3 lt0
                  have HL := Lib.hid hneg
                  have q1 := G1.out.h0
                  have v1 := q1.cell 1 _ rfl
                  have ltu := q1.lt (by simp)
                  clear q1
                  by_cases hz : nl = 0
                  · have HNO := Lib.hid (upre_no UP.out HU.out (fun h => h.ne (List.eq_nil_of_length_eq_zero (by rw [hnll]; exact hz))))
                    go_wp2
                    go_ret
                    exact ⟨10, rfl, .no NL.out HG.out (by dsimp only; omega) HNO.out, F3.out.below⟩
                  · by_cases hbig : 1024 < nl
                    · have HNO := Lib.hid (upre_no UP.out HU.out (fun h => by have := h.len; omega))
                      go_wp2
                      go_ret
                      exact ⟨10, rfl, .no NL.out HG.out (by dsimp only; omega) HNO.out, F3.out.below⟩
                    · have hz' : ((nl : Int) == 0) = false := by simp; omega
                      go_wp2
                      go_loopw [5, 8] (fun e i w2 => ∃ a : Nat, a ≤ nl ∧ i = .int .i64 a ∧ e = .int .i64 (endOf E (u.take a)) ∧ Chain cn E (u.take a) ∧ Fm Non w w2 [MCells ca cn cc D (some ⟨b, o, none⟩) un uc] ∧ Fm Non wo w2 [UCells s na nl nc]) (fun _ i _ => nl - (intOf i).toNat)
                      case atStart => exact ⟨0, Nat.zero_le _, rfl, by rw [List.take_zero, endOf_nil], trivial, F3.out, G1.out⟩
                      case round =>
                        obtain ⟨a, ha, rfl, rfl, hch, hF, hG⟩ := hrel
                        have F4 := Lib.hid hF; have G4 := Lib.hid hG; have HCH := Lib.hid hch
                        obtain ⟨E2, hE2⟩ : ∃ e, e = endOf E (u.take a) := ⟨_, rfl⟩
                        have b0 : 0 ≤ E2 := by rw [hE2]; have := chain_ge hch; omega
                        have b1 : E2 ≤ cn := by rw [hE2]; exact chain_le hch E1
                        rw [← hE2]
                        have HE2 := Lib.hid hE2
                        clear hF hG hch hE2 v1 ltu
                        have p0 := F4.out.h0; have q1 := G4.out.h0
                        have m0 := p0.cell 0 _ rfl; have m1 := p0.cell 1 _ rfl; have m2 := p0.cell 2 _ rfl; have m3 := p0.cell 3 _ rfl
                        have v1 := q1.cell 1 _ rfl
                        have lt0 := p0.lt (by simp); have ltu := q1.lt (by simp)
                        clear p0 q1
                        by_cases hlt : a < nl
                        · obtain ⟨nb, no, x, xa, xl, xc, aa, al, ac, rfl, hx, _, lnb, _, _, g0, g1, g2, g3, _, _⟩ := NdL.get (Row.below RNd.stays NB.out G4.out.below) hlt
                          have HX := Lib.hid hx
                          have F5 := Lib.hid (F4.out.more (.cells #[.int .i64 x.first, .int .i64 x.cnt, .slice xa xl xc, .slice aa al ac] 70))
                          have G5 := Lib.hid (G4.out.more (.cells #[.int .i64 x.first, .int .i64 x.cnt, .slice xa xl xc, .slice aa al ac] 70))
                          clear hx
                          by_cases d1 : x.first = E2
                          · have D1 := Lib.hid d1
                            have e1 : (x.first != E2) = false := by simpa using d1
                            clear d1
                            by_cases d2 : x.cnt < 1
                            · have HNO := Lib.hid (upre_no UP.out HU.out (fun h => by have := (chain_node h.chain HX.out).2.1; omega))
                              go_wp2
                              go_ret
                              exact ⟨10, rfl, .no NL.out HG.out (by dsimp only; omega) HNO.out, F5.out.below⟩
                            · by_cases d3 : (cn : Int) - E2 < x.cnt
                              · have HNO := Lib.hid (upre_no UP.out HU.out (fun h => by have := (chain_node h.chain HX.out).2.2; rw [← HE2.out, hcl] at this; omega))
                                go_wp2
                                go_ret
                                exact ⟨10, rfl, .no NL.out HG.out (by dsimp only; omega) HNO.out, F5.out.below⟩
                              · have HC2 := Lib.hid (chain_succ HX.out HCH.out (D1.out.trans HE2.out) (by omega) (by rw [← HE2.out]; omega))
                                have HS2 := Lib.hid (show endOf E (u.take (a + 1)) = E2 + x.cnt by rw [endOf_succ HX.out, ← HE2.out])
                                go_wp2
                                go_roundw
                                case rel => exact ⟨a + 1, by omega, by go_num, by rw [HS2.out], HC2.out, F5.out, G5.out⟩
                                case measure => simp [intOf]; omega
                          · have HNO := Lib.hid (upre_no UP.out HU.out (fun h => by have := (chain_node h.chain HX.out).1; rw [← HE2.out] at this; exact d1 this))
                            have e1 : (x.first != E2) = true := by simpa using d1
                            go_wp2
                            go_ret
                            exact ⟨10, rfl, .no NL.out HG.out (by dsimp only; omega) HNO.out, F5.out.below⟩
                        · have htk2 : u.take a = u := List.take_of_length_le (by omega)
                          rw [htk2] at HCH HE2
                          clear htk2
                          go_wp2
                          go_loopw [10, 11] (fun en i w2 => ∃ (a : Nat) (g : Int), a ≤ nl ∧ i = .int .i64 a ∧ en = .int .i64 g ∧ g = endsN code (u.take a) ∧ 0 ≤ g ∧ g ≤ a ∧ (∀ k x, k < a → u[k]? = some x → NodeOk code D u k x.first.toNat x.cnt.toNat x) ∧ Fm Non w w2 [MCells ca cn cc D (some ⟨b, o, none⟩) un uc] ∧ Fm Non wo w2 [UCells s na nl nc]) (fun _ i _ => nl - (intOf i).toNat)
                          case atStart => exact ⟨0, 0, Nat.zero_le _, rfl, rfl, by simp [endsN], by omega, by omega, fun k x hk => by omega, F4.out, G4.out⟩
                          case round =>
                            obtain ⟨a2, g, ha2, rfl, rfl, hg, hg0, hg1, hnk, hF, hG⟩ := hrel
                            have F6 := Lib.hid hF; have G6 := Lib.hid hG; have HNK := Lib.hid hnk; have HGG := Lib.hid hg
                            clear hF hG hnk hg m0 m1 m2 m3 v1 lt0 ltu
                            have p0 := F6.out.h0; have q1 := G6.out.h0
                            have m0 := p0.cell 0 _ rfl; have m1 := p0.cell 1 _ rfl; have m2 := p0.cell 2 _ rfl; have m3 := p0.cell 3 _ rfl
                            have u0 := q1.cell 0 _ rfl
                            have u1 := q1.cell 1 _ rfl
                            have u2 := q1.cell 2 _ rfl
                            have u3 := q1.cell 3 _ rfl
                            have u4 := q1.cell 4 _ rfl
                            have u5 := q1.cell 5 _ rfl
                            have u6 := q1.cell 6 _ rfl
                            have u7 := q1.cell 7 _ rfl
                            have u8 := q1.cell 8 _ rfl
                            have u9 := q1.cell 9 _ rfl
                            have lt0 := p0.lt (by simp); have ltu := q1.lt (by simp)
                            clear p0 q1
                            by_cases hlt2 : a2 < nl
                            · obtain ⟨nb, no, x, xa, xl, xc, aa, al, ac, hna, hx, _, lnb, i1, i2, g0, g1, g2, g3, _, _⟩ := NdL.get (Row.below RNd.stays NB.out G6.out.below) hlt2
                              subst hna
                              have CN := chain_node HCH.out hx
                              have hcg := chain_ge (chain_take HCH.out a2)
                              obtain ⟨f, hf⟩ := Int.eq_ofNat_of_zero_le (show 0 ≤ x.first by omega)
                              obtain ⟨n, hn⟩ := Int.eq_ofNat_of_zero_le (show 0 ≤ x.cnt by omega)
                              have hn1 : 1 ≤ n := by omega
                              have hfn : f + n ≤ cn := by omega
                              have HX := Lib.hid hx; have HF := Lib.hid hf; have HN := Lib.hid hn
                              rw [hf] at g0
                              rw [hn] at g1
                              clear hx CN hcg i1 i2 hf hn
                              obtain ⟨wn, hwn⟩ : ∃ wn, wn = wr.alloc (.cells #[.int .i64 (f : Int), .int .i64 (n : Int), .slice xa xl xc, .slice aa al ac] 70) := ⟨_, rfl⟩
                              go_upto_region 30 with fail
                              rw [← hwn]
                              have F7 := Lib.hid (show Fm Non w wn [MCells ca cn cc D (some ⟨b, o, none⟩) un uc] by rw [hwn]; exact F6.out.more _)
                              have G7 := Lib.hid (show Fm Non wo wn [UCells s (some ⟨nb, no, none⟩) nl nc] by rw [hwn]; exact G6.out.more _)
                              have N7 := Lib.hid (show Has wn wr.heap.size [.int .i64 (f : Int), .int .i64 (n : Int), .slice xa xl xc, .slice aa al ac] by rw [hwn]; exact Has.new wr [.int .i64 (f : Int), .int .i64 (n : Int), .slice xa xl xc, .slice aa al ac] 70)
                              have S7 := Lib.hid (show wr.heap.size < wn.heap.size by rw [hwn]; simp)
                              clear hwn m0 m1 m2 m3 u0 u1 u2 u3 u4 u5 u6 u7 u8 u9 lt0 ltu g0 g1 g2 g3
                              have p0 := F7.out.h0; have q1 := G7.out.h0
                              have m0 := p0.cell 0 _ rfl; have m1 := p0.cell 1 _ rfl; have m2 := p0.cell 2 _ rfl; have m3 := p0.cell 3 _ rfl
                              have u0 := q1.cell 0 _ rfl
                              have u1 := q1.cell 1 _ rfl
                              have u2 := q1.cell 2 _ rfl
                              have u3 := q1.cell 3 _ rfl
                              have u4 := q1.cell 4 _ rfl
                              have u5 := q1.cell 5 _ rfl
                              have u6 := q1.cell 6 _ rfl
                              have u7 := q1.cell 7 _ rfl
                              have u8 := q1.cell 8 _ rfl
                              have u9 := q1.cell 9 _ rfl
                              clear p0 q1
                              go_wp2_with fail
                              refine (rnode_any K ca cn cc D _ un uc s _ nl nc code u a2 x f n _ (Row.below RIns.stays RC.out F7.out.below) (Row.below RNd.stays NB.out G7.out.below) HX.out HF.out HN.out hn1 hfn (by omega) (by omega)).mono ?_
                              rintro e w3 ⟨bo, rfl, hiff, hb3⟩
                              have F8 := Lib.hid (Fm.call hb3 F7.out); have G8 := Lib.hid (Fm.call hb3 G7.out); have N8 := Lib.hid (N7.out.below hb3 S7.out)
                              clear hb3 m0 m1 m2 m3 u0 u1 u2 u3 u4 u5 u6 u7 u8 u9
                              have p0 := F8.out.h0
                              have m0 := p0.cell 0 _ rfl
                              have n0 := N8.out.cell 0 _ rfl; have n1 := N8.out.cell 1 _ rfl
                              clear p0
                              cases bo with
                              | false =>
                                have HNO := Lib.hid (upre_no UP.out HU.out (fun h => by
                                  have h2 := h.nodes a2 x HX.out
                                  rw [HF.out, HN.out, Int.toNat_natCast, Int.toNat_natCast] at h2
                                  exact absurd (hiff.2 h2) (by decide)))
                                clear hiff
                                go_wp2
                                go_ret
                                exact ⟨10, rfl, .no NL.out HG.out (by dsimp only; omega) HNO.out, F8.out.below⟩
                              | true =>
                                have HNK2 := Lib.hid (show ∀ k y, k < a2 + 1 → u[k]? = some y → NodeOk code D u k y.first.toNat y.cnt.toNat y from fun k y hk hy => by
                                  by_cases e : k = a2
                                  · subst e
                                    rw [HX.out] at hy
                                    cases hy
                                    rw [HF.out, HN.out, Int.toNat_natCast, Int.toNat_natCast]
                                    exact hiff.1 rfl
                                  · exact HNK.out k y (by omega) hy)
                                clear hiff
                                obtain ⟨ei, he⟩ : ∃ e, e + 1 = f + n := ⟨f + n - 1, by omega⟩
                                obtain ⟨cb, co, z, hca, hz', _, _, lcb, c0, _, _, _, _, _⟩ := InsL.get (Row.below RIns.stays RC.out F8.out.below) (show ei < cn by omega)
                                subst hca
                                have he2 : (f : Int) + (n : Int) - 1 = (ei : Int) := by omega
                                have HEND := Lib.hid (show isEnd code x = (z.k == 10) by unfold isEnd; rw [HF.out, HN.out, show ((f : Int) + (n : Int)).toNat - 1 = ei by omega, cAt_of hz'])
                                have HES := Lib.hid (ends_succ (c := code) HX.out)
                                clear hz'
                                by_cases hk10 : z.k = 10
                                · have HG2 := Lib.hid (show g + 1 = endsN code (u.take (a2 + 1)) by rw [HES.out, ← HGG.out, HEND.out, hk10]; rfl)
                                  have k10 : (z.k == 10) = true := by simpa using hk10
                                  clear hk10
                                  go_wp2
                                  go_roundw
                                  case rel => exact ⟨a2 + 1, g + 1, by omega, by go_num, rfl, HG2.out, by omega, by omega, HNK2.out, F8.out, G8.out⟩
                                  case measure => simp [intOf]; omega
                                · have k10 : (z.k == 10) = false := by simpa using hk10
                                  have HG2 := Lib.hid (show g = endsN code (u.take (a2 + 1)) by rw [HES.out, ← HGG.out, HEND.out, k10]; simp)
                                  clear hk10
                                  go_wp2
                                  go_roundw
                                  case rel => exact ⟨a2 + 1, g, by omega, by go_num, rfl, HG2.out, by omega, by omega, HNK2.out, F8.out, G8.out⟩
                                  case measure => simp [intOf]; omega
                            · have htk3 : u.take a2 = u := List.take_of_length_le (by omega)
                              rw [htk3] at HGG
                              clear htk3
                              by_cases h1 : g = 1
                              · have HU1 := Lib.hid (show UnitOk code D E u from ⟨fun h => hz (by rw [← hnll, h]; rfl), by omega, by rw [hcl]; exact HCH.out, fun k x hk => HNK.out k x (by have := (List.getElem?_eq_some_iff.1 hk).1; omega) hk, by rw [← HGG.out]; exact h1⟩)
                                have UP2 := Lib.hid (upre_next UP.out HU.out HU1.out)
                                have e1 : (g != 1) = false := by simpa using h1
                                clear h1
                                go_wp2_with fail
                                refine (runit_any s na nl nc _ (by omega)).mono ?_
                                rintro e w3 ⟨rfl, hb3⟩
                                have F7 := Lib.hid (Fm.call hb3 F6.out)
                                clear hb3
                                go_wp2
                                go_roundw
                                case rel => exact ⟨j + 1, E2, by omega, by go_num, rfl, b0, b1, by rw [HE2.out]; exact UP2.out, F7.out⟩
                                case measure => simp [intOf]; omega
                              · have HNO := Lib.hid (upre_no UP.out HU.out (fun h => h1 (by rw [HGG.out]; exact h.ends)))
                                have e1 : (g != 1) = true := by simpa using h1
                                go_wp2
                                go_ret
                                exact ⟨10, rfl, .no NL.out HG.out (by dsimp only; omega) HNO.out, F6.out.below⟩
                · have hUE := upre_end UP.out (show units.length ≤ j by omega)
                  by_cases hee : E = cn
                  · have HOK := Lib.hid (hUE.2 (by rw [hcl]; exact hee))
                    subst hee
                    go_wp2
                    go_ret
                    exact ⟨0, rfl, .ok NL.out HG.out (by dsimp only; omega) HOK.out, F2.out.below⟩
                  · have HNO := Lib.hid (show ¬ UnitsOk code D 0 units from fun h => hee (by have := hUE.1 h; rw [hcl] at this; exact this))
                    clear hUE
                    go_wp2
                    go_ret
                    exact ⟨10, rfl, .no NL.out HG.out (by dsimp only; omega) HNO.out, F2.out.below⟩
end Go.Proofs.Ytonbmijhbbodnaa
