/-
  Images of straight code (timeboundlaw21.straight): what they are (plain), that they are right; how they lie in memory while they are made. Small laws.
  instr.Encode.
-/
import Derived.Test.YtonbmijhbbodnaaZMake
import Derived.Test.YtonbmijhbbodnaaZInE
import Derived.Test.YtonbmijhbbodnaaZInA
namespace Go.Proofs.Ytonbmijhbbodnaa
abbrev iEnd : Ins := ⟨10, 0, 0, 0, 0, 0⟩
open Go.RowKit

def skN (n i : Nat) (x : Ins) : List Int := if x.k = 6 then [(n : Int)] else if x.k = 7 then [((i + 1 : Nat) : Int), x.imm] else [((i + 1 : Nat) : Int)]
def skA (i : Nat) (x : Ins) : List Acc := if x.k = 4 ∨ x.k = 5 then [⟨i, 0, 5⟩] else []
/-- Instruction and node i of n. -/
structure SOk (n i : Nat) (x : Ins) (z : Nd) : Prop where
  chk : chkI x = 0
  k9 : x.k ≠ 10
  jump : x.k = 6 → x.imm = (n : Int)
  zero : x.k = 7 → 0 ≤ x.imm ∧ x.imm ≤ (n : Int)
  nd : z = ⟨i, 1, skN n i x, skA i x⟩
structure StOk (n j : Nat) (code : List Ins) (nds : List Nd) : Prop where
  lc : code.length = j
  ln : nds.length = j
  at_ : ∀ i x z, code[i]? = some x → nds[i]? = some z → SOk n i x z
theorem StOk.nil (n : Nat) : StOk n 0 [] [] := ⟨rfl, rfl, fun i x z h => by simp at h⟩
theorem StOk.snoc {n j : Nat} {code : List Ins} {nds : List Nd} (h : StOk n j code nds) {x : Ins} {z : Nd} (s : SOk n j x z) : StOk n (j + 1) (code ++ [x]) (nds ++ [z]) := by
  refine ⟨by simp [h.lc], by simp [h.ln], fun i y u hy hu => ?_⟩
  by_cases hi : i < j
  · rw [List.getElem?_append_left (by rw [h.lc]; exact hi)] at hy
    rw [List.getElem?_append_left (by rw [h.ln]; exact hi)] at hu
    exact h.at_ i y u hy hu
  · have hl := (List.getElem?_eq_some_iff.1 hy).1
    simp [h.lc] at hl
    have e : i = j := by omega
    subst e
    rw [List.getElem?_append_right (by rw [h.lc]; omega), h.lc, Nat.sub_self] at hy
    rw [List.getElem?_append_right (by rw [h.ln]; omega), h.ln, Nat.sub_self] at hu
    cases hy; cases hu
    exact s
abbrev ndE (n : Nat) : Nd := ⟨n, 1, [], []⟩
def stImg (n : Nat) (code : List Ins) (nds : List Nd) : Img := ⟨code ++ [iEnd], 6, [nds ++ [ndE n]]⟩
variable {n : Nat} {code : List Ins} {nds : List Nd}
theorem st_first (h : StOk n n code nds) {i : Nat} (hi : i ≤ n) : ∃ z, (nds ++ [ndE n])[i]? = some z ∧ z.first = i ∧ z.cnt = 1 := by
  by_cases e : i < n
  · obtain ⟨x, hc⟩ : ∃ x, code[i]? = some x := ⟨_, List.getElem?_eq_getElem (by rw [h.lc]; exact e)⟩
    obtain ⟨z, hd⟩ : ∃ z, nds[i]? = some z := ⟨_, List.getElem?_eq_getElem (by rw [h.ln]; exact e)⟩
    refine ⟨z, by rw [List.getElem?_append_left (by rw [h.ln]; exact e)]; exact hd, ?_⟩
    rw [(h.at_ i _ _ hc hd).nd]
    exact ⟨rfl, rfl⟩
  · have e : i = n := by omega
    subst e
    exact ⟨ndE i, by rw [List.getElem?_append_right (by rw [h.ln]; omega), h.ln, Nat.sub_self]; rfl, rfl, rfl⟩
theorem st_at (h : StOk n n code nds) {i : Nat} (hi : i ≤ n) : atI (nds ++ [ndE n]) (i : Int) = i := by
  have key : ∀ m k, k + m = i → atF (nds ++ [ndE n]) (i : Int) k = i := by
    intro m
    induction m with
    | zero =>
      intro k hk
      have e : k = i := by omega
      subst e
      obtain ⟨z, hz, h1, _⟩ := st_first h hi
      exact atF_hit hz h1
    | succ m ih =>
      intro k hk
      obtain ⟨z, hz, h1, _⟩ := st_first h (i := k) (by omega)
      rw [atF_next hz (by rw [h1]; omega)]
      exact ih (k + 1) (by omega)
  exact key i 0 (by omega)
theorem st_code (h : StOk n n code nds) {i : Nat} (hi : i < n) : ∃ x z, code[i]? = some x ∧ nds[i]? = some z ∧ cAt (code ++ [iEnd]) i = x ∧ SOk n i x z := by
  obtain ⟨x, hc⟩ : ∃ x, code[i]? = some x := ⟨_, List.getElem?_eq_getElem (by rw [h.lc]; exact hi)⟩
  obtain ⟨z, hd⟩ : ∃ z, nds[i]? = some z := ⟨_, List.getElem?_eq_getElem (by rw [h.ln]; exact hi)⟩
  exact ⟨_, _, hc, hd, cAt_of (by rw [List.getElem?_append_left (by rw [h.lc]; exact hi)]; exact hc), h.at_ i _ _ hc hd⟩
theorem st_end (h : StOk n n code nds) : cAt (code ++ [iEnd]) n = iEnd :=
  cAt_of (by rw [List.getElem?_append_right (by rw [h.lc]; omega), h.lc, Nat.sub_self]; rfl)
theorem st_node (h : StOk n n code nds) (hn : n ≤ 1000) (i : Nat) (z : Nd) (hz : (nds ++ [ndE n])[i]? = some z) : NodeOk (code ++ [iEnd]) 6 (nds ++ [ndE n]) i z.first.toNat z.cnt.toNat z := by
  have hL : (nds ++ [ndE n]).length = n + 1 := by simp [h.ln]
  have hi : i ≤ n := by have := (List.getElem?_eq_some_iff.1 hz).1; omega
  obtain ⟨z', hz', f1, f2⟩ := st_first h hi
  rw [hz] at hz'
  cases hz'
  rw [f1, f2]
  simp only [Int.toNat_natCast]
  have t1 : (1 : Int).toNat = 1 := rfl
  rw [t1]
  by_cases e : i < n
  · obtain ⟨x, y, hx, hy, hc, s⟩ := st_code h e
    rw [List.getElem?_append_left (by rw [h.ln]; exact e), hy] at hz
    cases hz
    have hw : wantP (code ++ [iEnd]) i 1 = if isMem x then [(i : Int)] else [] := by simp [wantP, hc]
    have hnx : nextI (code ++ [iEnd]) (nds ++ [ndE n]) i 1 i = skN n i x := by
      unfold nextI skN
      rw [Nat.add_sub_cancel, hc]
      dsimp only
      rw [if_neg s.k9]
      by_cases h6 : x.k = 6
      · rw [if_pos h6, if_pos h6, s.jump h6, st_at h (Nat.le_refl _)]
      · rw [if_neg h6, if_neg h6]
        by_cases h7 : x.k = 7
        · rw [if_pos h7, if_pos h7]
          obtain ⟨a, b⟩ := s.zero h7
          obtain ⟨q, hq⟩ := Int.eq_ofNat_of_zero_le a
          rw [hq, st_at h (by omega)]
        · rw [if_neg h7, if_neg h7]
    refine ⟨fun j hj => .inl (by omega), ?_, ?_, by rw [hnx, s.nd], ?_⟩
    · rw [hw, s.nd]
      unfold skA
      by_cases hm : isMem x
      · rw [if_pos hm, if_pos (show x.k = 4 ∨ x.k = 5 from hm)]; rfl
      · rw [if_neg hm, if_neg (show ¬ (x.k = 4 ∨ x.k = 5) from hm)]; rfl
    · intro j a p hj ha hp
      rw [hw] at hp
      rw [s.nd] at ha
      unfold skA at ha
      dsimp only at ha
      by_cases hm : isMem x
      · rw [if_pos (show x.k = 4 ∨ x.k = 5 from hm)] at ha
        rw [if_pos hm] at hp
        match j, ha, hp with
        | 0, ha, hp => cases ha; cases hp; exact ⟨rfl, by show (0 : Int) ≤ 0; decide, by show (0 : Int) ≤ 5; decide, by show (5 : Int) < 6; decide⟩
      · rw [if_neg (show ¬ (x.k = 4 ∨ x.k = 5) from hm)] at ha
        simp at ha
    · rw [hnx, hL]
      unfold skN allI inB
      split
      · simp; omega
      · split
        · rename_i h7
          obtain ⟨a, b⟩ := s.zero h7
          simp; omega
        · simp; omega
  · have e : i = n := by omega
    subst e
    rw [List.getElem?_append_right (by rw [h.ln]; omega), h.ln, Nat.sub_self] at hz
    cases hz
    have hc := st_end h
    have hnx : nextI (code ++ [iEnd]) (nds ++ [ndE i]) i 1 i = [] := by
      unfold nextI
      rw [Nat.add_sub_cancel, hc]
      rfl
    refine ⟨fun j hj => .inl (by omega), by simp [wantP, hc, isMem], fun j a p _ ha => by simp at ha, hnx.symm, by rw [hnx]; rfl⟩
theorem st_good (h : StOk n n code nds) : Good (code ++ [iEnd]) := by
  intro x hx
  rcases List.mem_append.1 hx with h1 | h1
  · obtain ⟨i, hi⟩ := List.getElem?_of_mem h1
    obtain ⟨y, z, hy, _, _, s⟩ := st_code h (i := i) (by have := (List.getElem?_eq_some_iff.1 hi).1; rw [h.lc] at this; exact this)
    rw [hi] at hy
    cases hy
    exact s.chk
  · simp at h1; subst h1; decide
theorem st_chain (cn : Nat) : ∀ (l : List Nd) (e : Nat), (∀ i z, l[i]? = some z → z.first = ((e + i : Nat) : Int) ∧ z.cnt = 1) → e + l.length ≤ cn → Chain cn e l ∧ endOf e l = ((e + l.length : Nat) : Int)
  | [], e, _, _ => ⟨trivial, by rw [endOf_nil]; simp⟩
  | z :: l, e, h, hl => by
    obtain ⟨h1, h2⟩ := h 0 z rfl
    have ih := st_chain cn l (e + 1) (fun i y hy => by have := h (i + 1) y (by simpa using hy); rwa [show e + 1 + i = e + (i + 1) by omega]) (by simp at hl; omega)
    simp only [List.length_cons] at hl
    refine ⟨⟨by simpa using h1, by omega, by omega, by rw [h2]; exact ih.1⟩, ?_⟩
    rw [endOf_cons, h2]
    have := ih.2
    rw [show ((e : Int) + 1) = ((e + 1 : Nat) : Int) by omega, this]
    simp only [List.length_cons]
    congr 1
    omega
theorem st_ends (h : StOk n n code nds) : endsN (code ++ [iEnd]) (nds ++ [ndE n]) = 1 := by
  unfold endsN
  have h0 : nds.filter (isEnd (code ++ [iEnd])) = [] := by
    rw [List.filter_eq_nil_iff]
    intro z hz
    obtain ⟨i, hi⟩ := List.getElem?_of_mem hz
    obtain ⟨x, y, _, hy, hc, s⟩ := st_code h (i := i) (by have := (List.getElem?_eq_some_iff.1 hi).1; rw [h.ln] at this; exact this)
    rw [hi] at hy
    cases hy
    have : isEnd (code ++ [iEnd]) z = (x.k == 10) := by
      unfold isEnd
      rw [s.nd]
      dsimp only
      rw [show (((i : Int) + 1).toNat - 1) = i by omega, hc]
    rw [this]
    simpa using s.k9
  have h1 : isEnd (code ++ [iEnd]) (ndE n) = true := by
    unfold isEnd
    dsimp only
    rw [show (((n : Int) + 1).toNat - 1) = n by omega, st_end h]
    rfl
  rw [List.filter_append, h0, List.filter_cons, h1]
  rfl
/-- The image is right. -/
theorem st_chk (h : StOk n n code nds) (hn : n ≤ 1000) : ChkIs (stImg n code nds) 0 := by
  have hl : (nds ++ [ndE n]).length = n + 1 := by simp [h.ln]
  have hcl : (code ++ [iEnd]).length = n + 1 := by simp [h.lc]
  have hch := st_chain (n + 1) (nds ++ [ndE n]) 0 (fun i z hz => by
    obtain ⟨z', hz', f1, f2⟩ := st_first h (i := i) (by have := (List.getElem?_eq_some_iff.1 hz).1; omega)
    rw [hz] at hz'; cases hz'
    exact ⟨by rw [f1, Nat.zero_add], f2⟩) (by omega)
  refine .ok (fun hL => ?_) (st_good h) (by show ¬ (6 : Int) < 0; decide) ?_
  · unfold Limit stImg at hL
    simp only [hcl, List.length_singleton] at hL
    omega
  · show UnitsOk (code ++ [iEnd]) 6 0 [nds ++ [ndE n]]
    refine ⟨⟨by simp, by omega, by rw [hcl]; exact hch.1, fun k x hx => st_node h hn k x hx, st_ends h⟩, ?_⟩
    show endOf 0 _ = _
    rw [show (0 : Int) = ((0 : Nat) : Int) by rfl, hch.2, hl, hcl]
    simp

set_option maxRecDepth 100000 in
set_option maxHeartbeats 8000000 in
theorem encode_any (K : Nat → Prop) (a : Option Addr) (len cap : Nat) (l : List Ins) (w : World) (r : InsL K w a len cap l) : Calls Try.prog 24 #[.slice a len cap] w (EncRet l w) := by
  have R := Lib.hid r
  have hll := r.hlen
  have hsz := r.hsz
  clear r
  go_enter Try.func24, Try.ntmps24
  by_cases hbig : 1024 < len
  · have E1 := Lib.hid (encE_long (l := l) (by omega))
    go_wp2
    exact bodyPost_ret (v := .tuple #[.slice none 0 0, .int .i64 4]) (by simp [results, Try.results24, go_sem]) rfl ⟨.slice none 0 0, by rw [E1.out.1], by rw [E1.out.2]; exact World.ownsRow_nil _ _ _ _, Below.refl _ _⟩
  · go_wp2
    go_loopw [4, 13] (fun v i wr => ∃ k : Nat, k ≤ len ∧ i = .int .i64 k ∧ Good (l.take k) ∧ wr.ownsRow w.heap.size 5 1 v (8 * k) (bcs (encs (l.take k))) ∧ Below w.heap.size w wr) (fun _ i _ => len - (intOf i).toNat)
    case atStart => exact ⟨0, Nat.zero_le _, rfl, fun _ h => by simp at h, World.ownsRow_nil _ _ _ _, Below.refl _ _⟩
    case round =>
      obtain ⟨k, hk, rfl, hg, h1, h2⟩ := hrel
      obtain ⟨va, vc, rfl⟩ := flat_form h1
      have H1 := Lib.hid h1; have H2 := Lib.hid h2; have HG := Lib.hid hg; clear h1 h2 hg
      by_cases hlt : k < len
      · obtain ⟨b, o, x, rfl, hx, hin, _, hbw, c0, c1, c2, c3, c4, c5⟩ := InsL.get R.out hlt
        have d0 := (H2.out.cell (p := ⟨b, o + k * 6, none⟩) hbw).trans c0
        have d1 := (H2.out.cell (p := ⟨b, o + k * 6 + 1, none⟩) hbw).trans c1
        have d2 := (H2.out.cell (p := ⟨b, o + k * 6 + 2, none⟩) hbw).trans c2
        have d3 := (H2.out.cell (p := ⟨b, o + k * 6 + 3, none⟩) hbw).trans c3
        have d4 := (H2.out.cell (p := ⟨b, o + k * 6 + 4, none⟩) hbw).trans c4
        have d5 := (H2.out.cell (p := ⟨b, o + k * 6 + 5, none⟩) hbw).trans c5
        have HX := Lib.hid hx; have HI := Lib.hid hin
        have N1 := Lib.hid (Has.new wr (ICells x) 50)
        clear c0 c1 c2 c3 c4 c5 hx hin
        go_wp2_with fail
        refine (check_any x _).mono ?_
        rintro e w1 ⟨rfl, hb1⟩
        have B1 := Lib.hid (H2.out.trans (((Below.refl wr.heap.size wr).alloc (Nat.le_refl _) _).trans (hb1.mono (by simp)) |>.mono H2.out.size))
        have N2 := Lib.hid (N1.out.below hb1 (by simp))
        have H3 := Lib.hid (flat_below (flat_below H1.out ((Below.refl _ _).alloc (Nat.le_refl _) (.cells (ICells x).toArray 50))) hb1)
        have HS1 := Lib.hid hb1.size
        clear N1 H1 H2 hb1 d0 d1 d2 d3 d4 d5
        have e0 := N2.out.cell 0 _ rfl; have e1 := N2.out.cell 1 _ rfl; have e2 := N2.out.cell 2 _ rfl; have e3 := N2.out.cell 3 _ rfl; have e4 := N2.out.cell 4 _ rfl; have e5 := N2.out.cell 5 _ rfl
        by_cases hc : chkI x = 0
        · have S := small_of hc
          obtain ⟨k0, k1, a0, a1, b0, b1, c0, c1, o0, o1, i0, i1⟩ := S
          rw [hc]
          go_wp2_with fail
          refine (join_any _ _ 8 8 [x.k, 16 * x.a + x.b, x.c, x.op, x.imm / 16777216, x.imm / 65536, x.imm / 256, x.imm] _ (ints_new w1 _ 8 3 rfl (by omega) (by simp; omega)) (by omega)).mono ?_
          rintro e w2 ⟨jv, rfl, hj, hb2⟩
          obtain ⟨ja, jc, rfl⟩ := flat_form hj
          obtain ⟨jg, rfl, _, _, _, _, _, hjc⟩ := flat_cells hj (by simp)
          have H4 := Lib.hid (flat_below (flat_below H3.out ((Below.refl _ _).alloc (Nat.le_refl _) _)) hb2)
          have B2 := Lib.hid (B1.out.trans ((((Below.refl _ _).alloc (Nat.le_refl _) _).trans (hb2.mono (by simp))).mono B1.out.size))
          have HJ := Lib.hid hjc
          clear hj hb2 hjc e0 e1 e2 e3 e4 e5 H3
          go_wp2_with (at_builtin; refine wpList_append_flat rfl _ _ 47 rfl 5 Try.underlying47 info_u8 rfl (by decide) H4.out rfl B2.out.size ⟨jg, 0, none⟩ 8 jc (bcs (enc8 x)) rfl rfl (fun j u hu => by rw [Go.WideShapes.add_plain, Nat.zero_add]; exact HJ.out j u hu) bcs_one (by decide) (by omega) (by decide) ?_; intro g c6 w6 hap)
          have C6 := Lib.hid (hap.out.non H4.out (M := Non) (Chg.of_below B2.out) (Nat.le_refl _)).below0
          have Q6 := Lib.hid hap.out.owns
          have HG2 := Lib.hid (good_take HX.out HG.out hc)
          clear hap
          go_roundw
          case rel => exact ⟨k + 1, by omega, by go_num, HG2.out, by rw [encs_take HX.out, bcs_append, Nat.mul_add]; exact Q6.out, C6.out⟩
          case measure => simp [intOf]; omega
        · have E1 := Lib.hid (encE_bad (by omega) (bad_of HX.out HG.out hc))
          go_wp2
          exact bodyPost_ret (v := .tuple #[.slice none 0 0, .int .i64 (chkI x)]) (by simp [results, Try.results24, go_sem]) rfl ⟨.slice none 0 0, by rw [E1.out.1], by rw [E1.out.2]; exact World.ownsRow_nil _ _ _ _, B1.out⟩
      · have e : k = l.length := by omega
        subst e
        rw [List.take_length] at H1 HG
        have E1 := Lib.hid (encE_good (by omega) HG.out)
        go_wp2
        exact bodyPost_ret (v := .tuple #[.slice va (8 * l.length) vc, .int .i64 0]) (by simp [results, Try.results24, go_sem]) rfl ⟨_, by rw [E1.out.1], by rw [E1.out.2, encs_length]; exact H1.out, H2.out⟩
end Go.Proofs.Ytonbmijhbbodnaa
