/-
  Small laws for the walk of InstrMade: one cell of an argument; an append in a region that draws; a byte that is changed.
  The instructions that the law makes are right ones, and are decoded from their bytes (plain).
  The image that the law makes of an instruction (plain), and how it lies in memory. Small laws.
-/
import Derived.Laws.BitsAllLaws
import Derived.Test.YtonbmijhbbodnaaInT
import Derived.Test.YtonbmijhbbodnaaInV
import Derived.Test.YtonbmijhbbodnaaZDeck
import Derived.Test.YtonbmijhbbodnaaInK
import Derived.Test.YtonbmijhbbodnaaStF
namespace Go.Proofs.Ytonbmijhbbodnaa
open Go.RowKit

theorem IsRow.get {k : IntKind} {w : World} {a : Option Addr} {len cap : Nat} {zs : List Int} (h : IsRow k w a len cap zs) {i : Nat} (hi : i < len) :
    ∃ b o, a = some ⟨b, o, none⟩ ∧ w.cell? ⟨b, o + i, none⟩ = some (.int k (zs.getD i 0)) ∧ b < w.heap.size ∧ (Lit.int k (zs.getD i 0)).wf = true := by
  have hh := h
  rcases h with ⟨rfl, rfl, rfl, rfl⟩ | ⟨x, rfl, h1, h2, h3, h4, h5⟩
  · omega
  · obtain ⟨b, o, rfl⟩ := hh.place (by omega)
    have hc := add_at _ _ _ _ (h4 i (by omega)) b o rfl
    refine ⟨b, o, rfl, hc, World.block_lt_of_cell? w _ hc, h5 _ ?_⟩
    rw [List.getD_eq_getElem?_getD, List.getElem?_eq_getElem (show i < zs.length by omega)]
    exact List.getElem_mem _
theorem wf_u8 {z : Int} (h : (Lit.int .u8 z).wf = true) : 0 ≤ z ∧ z ≤ 255 := by simpa [Lit.wf, IntKind.min, IntKind.max, IntKind.signed, IntKind.bits] using h
theorem wf_i32 {z : Int} (h : (Lit.int .i32 z).wf = true) : -2147483648 ≤ z ∧ z ≤ 2147483647 := by simpa [Lit.wf, IntKind.min, IntKind.max, IntKind.signed, IntKind.bits] using h
theorem wf_i64 {z : Int} (h : (Lit.int .i64 z).wf = true) : -9223372036854775808 ≤ z ∧ z ≤ 9223372036854775807 := by simpa [Lit.wf, IntKind.min, IntKind.max, IntKind.signed, IntKind.bits] using h
theorem step_append_flat {P : Program} {ops : Array Oper} {o : Oper} {a : Act} {w : World} {K : Act → World → Prop} {Q : Exit → Act → World → Prop} {E : Prop} (hgd : o.guard = none) (s y : Operand) (t : TypeId)
    (ho : o.op = .call { callee := .builtin .append, args := #[s, y], argTypes := #[t, t] }) (e : TypeId) (ht : P.underlying t = some (.slice e)) {z : Value} {sz bytes : Nat} (hinfo : (P.info? e).map (fun i => (i.zero, i.size, i.bytes)) = some (some z, sz, bytes)) (hz : z.cells.size = sz) (hsz : 0 < sz)
    {B : Nat} {v : Value} {n : Nat} {cs : List Value} (r : w.ownsRow B e sz v n cs) (hs : a.eval s = v) (hB : B ≤ w.heap.size)
    (ad : Addr) (m c : Nat) (news : List Value) (hy : a.eval y = .slice (some ad) m c) (hl : news.length = m * sz) (hnews : ∀ j u, news[j]? = some u → w.cell? (ad.add j) = some u) (h1 : ∀ u ∈ news, u.oneCell' = true)
    (hm : 0 < m) (h63 : n + m ≤ 1000000) (hby : bytes ≤ 1000)
    (h : ∀ g cap w', Hid (FApp e sz B v n m cs news w w' (.slice (some ⟨g, 0, none⟩) (n + m) cap)) → K (a.put o.dst (.slice (some ⟨g, 0, none⟩) (n + m) cap)) w') :
    if Region.wanted o (yielded ops a.tmps) = true then Oper.wp P o a w K Q else E := by
  obtain ⟨i, hi, hzz⟩ := Option.map_eq_some_iff.1 hinfo
  simp only [Prod.mk.injEq] at hzz
  refine step_append_lies w hgd s y t ho B e i z sz bytes ht hi hzz.1 hzz.2.1 hzz.2.2 hz hsz v n cs hs r ad m c news hy hl hnews h1 hm (by unfold maxLen; omega) (Nat.le_trans (Nat.mul_le_mul h63 hby) (by decide)) hB w.heap.size rfl ?_
  intro g cap w' hown hgrow _ _
  exact h g cap w' ⟨hown, Chg.of_grown hgrow⟩
theorem flat_free {w : World} {B : Nat} {e : TypeId} {size : Nat} {g n c k : Nat} {xs : List Value} (h : w.ownsRow B e size (.slice (some ⟨g, 0, none⟩) n c) k xs) : ∀ o, w.frozen? ⟨g, o, none⟩ = false := fun o => by
  rcases h.2 with ⟨h1, _⟩ | ⟨g', cap, cur, h1, h2, h3, _⟩
  · cases h1
  · cases h1
    simp [World.frozen?, h3]
theorem Bytes.setc {K : Nat → Prop} {w : World} {b o len cap : Nat} {xs : List Int} (r : Bytes K w (some ⟨b, o, none⟩) len cap xs) {i : Nat} (_hi : i < len) {y : Int} (hy : 0 ≤ y ∧ y ≤ 255) : Bytes K (w.setCell ⟨b, o + i, none⟩ (.int .u8 y)) (some ⟨b, o, none⟩) len cap (xs.set i y) := by
  refine ⟨by rw [List.length_set]; exact r.hlen, r.hcap, r.hmax, r.hsz, fun j x hx => ?_⟩
  have hj := (List.getElem?_eq_some_iff.1 hx).1
  rw [List.length_set] at hj
  obtain ⟨b1, o1, z1, e1, hz1, hc1, _, _, hK, hb⟩ := Bytes.get r (show j < len by rw [← r.hlen]; exact hj)
  cases e1
  refine ⟨b, o, rfl, hK, by simpa using hb, ?_⟩
  rw [Nat.mul_one]
  rw [List.getElem?_set] at hx
  by_cases e : i = j
  · subst e
    rw [if_pos rfl, if_pos hj] at hx
    cases hx
    exact ⟨World.cell?_setCell_same w _ _ hc1, hy⟩
  · rw [if_neg e] at hx
    obtain ⟨b2, o2, e2, _, _, h2⟩ := r.row j x hx
    cases e2
    rw [Nat.mul_one] at h2
    exact ⟨(World.cell?_setCell_other w ⟨b, o + i, none⟩ ⟨b, o + j, none⟩ _ (fun h => e (by injection h with _ h2; omega))).trans h2.1, h2.2⟩
theorem byt_set {xs : List Int} (h : Byt xs) (i : Nat) {y : Int} (hy : 0 ≤ y ∧ y ≤ 255) : Byt (xs.set i y) := fun z hz => by
  rcases List.mem_or_eq_of_mem_set hz with h1 | h1
  · exact h z h1
  · subst h1; exact hy
theorem xor_byt {x y : Int} (hx : 0 ≤ x ∧ x ≤ 255) (hy : 0 ≤ y ∧ y ≤ 255) : 0 ≤ bits .xor .u8 x y ∧ bits .xor .u8 x y ≤ 255 := by
  rw [u8_xor x y hx.1 (by omega) hy.1 (by omega)]
  have : x.toNat ^^^ y.toNat < 2 ^ 8 := Nat.xor_lt_two_pow (by omega) (by omega)
  omega
theorem zI_in {K A B C O N M L : Int} (h1 : 0 ≤ K ∧ K ≤ 10) (h2 : 0 ≤ A ∧ A < 8) (h3 : 0 ≤ B ∧ B < 8) (h4 : 0 ≤ C ∧ C < 8) (h5 : 1 ≤ O ∧ O ≤ 14) (h6 : -2147483648 ≤ N ∧ N ≤ 2147483647) (h7 : 0 ≤ M ∧ M < 1000) (h8 : 0 ≤ L ∧ L < 4) : (zI K A B C O N M L).In := by
  unfold zI
  repeat' split
  all_goals (constructor <;> (unfold I64; dsimp only; omega))
theorem ofB_in {k a b c n : Int} (hn : -2147483648 ≤ n ∧ n ≤ 2147483647) : (ofB k a b c n).In := by
  unfold ofB
  exact zI_in (by omega) (by omega) (by omega) (by omega) (by omega) hn (by omega) (by omega)
theorem ofI_in {k a b c n : Int} (hn : -2147483648 ≤ n ∧ n ≤ 2147483647) : (ofI k a b c n).In := by
  have h := ofB_in (k := k) (a := a) (b := b) (c := c) hn
  have hc : 0 ≤ (ofB k a b c n).c ∧ (ofB k a b c n).c < 8 := by unfold ofB; exact zI_c (by omega)
  unfold ofI
  split
  · exact ⟨h.k, h.a, h.b, ⟨by dsimp only; omega, by dsimp only; omega⟩, h.op, h.imm⟩
  · exact h
end Go.Proofs.Ytonbmijhbbodnaa
namespace Go.Proofs.Ytonbmijhbbodnaa
open Go.RowKit

theorem zI_ok {K A B C O N M L : Int} (h1 : 0 ≤ K ∧ K ≤ 10) (h2 : 0 ≤ A ∧ A < 8) (h3 : 0 ≤ B ∧ B < 8) (h4 : 0 ≤ C ∧ C < 8) (h5 : 1 ≤ O ∧ O ≤ 14) (h6 : -2147483648 ≤ N ∧ N ≤ 2147483647) (h7 : 0 ≤ M ∧ M < 1000) (h8 : 0 ≤ L ∧ L < 4) : chkI (zI K A B C O N M L) = 0 := by
  have hK : K = 0 ∨ K = 1 ∨ K = 2 ∨ K = 3 ∨ K = 4 ∨ K = 5 ∨ K = 6 ∨ K = 7 ∨ K = 8 ∨ K = 9 ∨ K = 10 := by omega
  rcases hK with rfl | rfl | rfl | rfl | rfl | rfl | rfl | rfl | rfl | rfl | rfl
  all_goals
    simp [zI, chkI, kn, fldOf, goodI, regB, opB]
    try omega
theorem ofB_ok {k a b c n : Int} (hn : -2147483648 ≤ n ∧ n ≤ 2147483647) : chkI (ofB k a b c n) = 0 := by
  unfold ofB
  exact zI_ok (by omega) (by omega) (by omega) (by omega) (by omega) hn (by omega) (by omega)
/-- A right instruction is decoded from its bytes. -/
theorem mkI_enc {x : Ins} (h : chkI x = 0) : mkI x.k (16 * x.a + x.b) x.c x.op (x.imm / 16777216 % 256) (x.imm / 65536 % 256) (x.imm / 256 % 256) (x.imm % 256) = x := by
  obtain ⟨k0, k1, a0, a1, b0, b1, c0, c1, o0, o1, i0, i1⟩ := small_of h
  obtain ⟨k, a, b, c, o, i⟩ := x
  simp only [mkI, w32] at *
  have e1 : (16 * a + b) / 16 = a := by omega
  have e2 : (16 * a + b) % 16 = b := by omega
  have e3 : i / 16777216 % 256 * 16777216 + i / 65536 % 256 * 65536 + i / 256 % 256 * 256 + i % 256 = i % 4294967296 := by omega
  rw [e1, e2, e3]
  have e4 : (i % 4294967296 + 2147483648) % 4294967296 - 2147483648 = i := by omega
  rw [e4]
theorem insAt_pre {bs rest pre : List Int} {x : Ins} (h : chkI x = 0) (hb : bs = pre ++ enc8 x ++ rest) : insAt bs pre.length = x := by
  have hx := enc8_small h
  subst hb
  have g : ∀ j z, (enc8s x)[j]? = some z → (pre ++ enc8 x ++ rest)[pre.length + j]? = some z := fun j z hz => by
    rw [hx, List.append_assoc, List.getElem?_append_right (by omega), Nat.add_sub_cancel_left, List.getElem?_append_left (List.getElem?_eq_some_iff.1 hz).1]
    exact hz
  rw [insAt_of (k := pre.length) (g 0 _ rfl) (g 1 _ rfl) (g 2 _ rfl) (g 3 _ rfl) (g 4 _ rfl) (g 5 _ rfl) (g 6 _ rfl) (g 7 _ rfl)]
  exact mkI_enc h
theorem dec_two {x y : Ins} (hx : chkI x = 0) (hy : chkI y = 0) : decE (enc8 x ++ enc8 y) = 0 ∧ decO (enc8 x ++ enc8 y) = [x, y] := by
  have hl : (enc8 x ++ enc8 y).length = 16 := by simp [enc8]
  have h0 : insAt (enc8 x ++ enc8 y) 0 = x := insAt_pre (pre := []) (rest := enc8 y) hx rfl
  have h1 : insAt (enc8 x ++ enc8 y) 8 = y := insAt_pre (pre := enc8 x) (rest := []) hy (by simp)
  have hd : decL (enc8 x ++ enc8 y) = [x, y] := by
    unfold decL
    rw [hl]
    show decP _ 2 = _
    simp [decP, List.range, List.range.loop, h0, h1]
  have hn : ¬ decBad (enc8 x ++ enc8 y) := by unfold decBad; rw [hl]; omega
  have hg : Good (decL (enc8 x ++ enc8 y)) := by rw [hd]; intro z hz; simp at hz; rcases hz with rfl | rfl <;> assumption
  have := decE_good hn hg
  rw [hd] at this
  exact this
theorem enc8_inj {x y : Ins} (hx : chkI x = 0) (hy : chkI y = 0) (h : enc8 x = enc8 y) : x = y := by
  have h0 : insAt (enc8 x) 0 = x := insAt_pre (pre := []) (rest := []) hx (by simp)
  have h1 : insAt (enc8 y) 0 = y := insAt_pre (pre := []) (rest := []) hy (by simp)
  rw [← h0, ← h1, h]
theorem enc_list {l : List Ins} (hl : l.length ≤ 1024) (h : Good l) : encE l = 0 ∧ encB l = encs l := encE_good (by omega) h
end Go.Proofs.Ytonbmijhbbodnaa
namespace Go.Proofs.Ytonbmijhbbodnaa
open Go.RowKit

abbrev iEnd : Ins := ⟨10, 0, 0, 0, 0, 0⟩
/-- The instruction as it stands in the image. -/
def imI (x : Ins) : Ins :=
  if x.k = 4 ∨ x.k = 5 then ⟨x.k, x.a, x.b, x.c, x.op, x.imm % 4⟩ else
  if x.k = 6 ∨ x.k = 7 then ⟨x.k, x.a, x.b, x.c, x.op, 1⟩ else x
def imN (x : Ins) : List Int := if x.k = 7 then [1, 1] else [1]
def imA (x : Ins) : List Acc := if x.k = 4 ∨ x.k = 5 then [⟨0, 0, 3⟩] else []
def imgOf (x : Ins) : Img := ⟨[imI x, iEnd], 4, [[⟨0, 1, imN x, imA x⟩, ⟨1, 1, [], []⟩]]⟩
def ImgRet (x : Ins) (w : World) (e : Ending) (w' : World) : Prop := ∃ bc bu, e = .returned (MV (some ⟨bc, 0, none⟩) 2 2 4 (some ⟨bu, 0, none⟩) 1 1) ∧ IsImg (Ge w.heap.size) w' (some ⟨bc, 0, none⟩) 2 2 4 (some ⟨bu, 0, none⟩) 1 1 (imgOf x) ∧ Below w.heap.size w w'
theorem imI_ok {x : Ins} (h : chkI x = 0) : chkI (imI x) = 0 := by
  have i := imm_of h
  have hk := h
  unfold imI
  split
  · rename_i h45
    obtain ⟨k, a, b, c, o, im⟩ := x
    simp only [] at h45
    rcases h45 with rfl | rfl
    all_goals
      simp [fldOf] at i
      simp [chkI, kn, fldOf, goodI, regB, opB] at h ⊢
      omega
  · split
    · rename_i h45
      obtain ⟨k, a, b, c, o, im⟩ := x
      simp only [] at h45
      rcases h45 with rfl | rfl
      all_goals
        simp [chkI, kn, fldOf, goodI, regB, opB] at h ⊢
        omega
    · exact h
theorem small_in {x : Ins} (h : chkI x = 0) : x.In := by
  obtain ⟨k0, k1, a0, a1, b0, b1, c0, c1, o0, o1, i0, i1⟩ := small_of h
  constructor <;> (unfold I64; omega)
theorem end_in : iEnd.In := by constructor <;> (unfold I64; decide)
/-- The blocks of an image of two instructions and one unit of two nodes. -/
theorem img_of {w : World} {K : Nat → Prop} {bc bn bu n1 : Nat} {x : Ins} {na : Value} (hx : (imI x).In) (hs : bc < w.heap.size ∧ bn < w.heap.size ∧ bu < w.heap.size) (hK : K bc ∧ K bn ∧ K bu)
    (hc : Has w bc (ICells (imI x) ++ ICells iEnd)) (hn : Has w bn [.int .i64 0, .int .i64 1, .slice (some ⟨n1, 0, none⟩) (imN x).length (imN x).length, na, .int .i64 1, .int .i64 1, NIL, NIL]) (hu : Has w bu (.string ⟨#[]⟩ :: .slice (some ⟨bn, 0, none⟩) 2 2 :: List.replicate 8 NIL))
    (h1 : Ints K w (some ⟨n1, 0, none⟩) (imN x).length (imN x).length (imN x)) (ha : ∃ a n c, na = .slice a n c ∧ Row RAcc 3 K w a n c (imA x)) : IsImg K w (some ⟨bc, 0, none⟩) 2 2 4 (some ⟨bu, 0, none⟩) 1 1 (imgOf x) := by
  have nl : NdL K w (some ⟨bn, 0, none⟩) 2 2 [⟨0, 1, imN x, imA x⟩, ⟨1, 1, [], []⟩] := by
    refine ⟨rfl, by omega, by omega, by simp, fun i y hy => ?_⟩
    obtain ⟨a, n, c, rfl, hac⟩ := ha
    match i, hy with
    | 0, hy =>
      cases hy
      exact ⟨bn, 0, rfl, hK.2.1, hs.2.1, hn.cell 0 _ rfl, hn.cell 1 _ rfl, by show I64 _; dsimp only; unfold I64; omega, by show I64 _; dsimp only; unfold I64; omega, ⟨_, _, _, hn.cell 2 _ rfl, h1⟩, ⟨_, _, _, hn.cell 3 _ rfl, hac⟩⟩
    | 1, hy =>
      cases hy
      exact ⟨bn, 0, rfl, hK.2.1, hs.2.1, hn.cell 4 _ rfl, hn.cell 5 _ rfl, by show I64 _; dsimp only; unfold I64; omega, by show I64 _; dsimp only; unfold I64; omega, ⟨_, _, _, hn.cell 6 _ rfl, Row.nil _ _ _ _ _ (by omega)⟩, ⟨_, _, _, hn.cell 7 _ rfl, Row.nil _ _ _ _ _ (by omega)⟩⟩
  refine ⟨⟨rfl, by omega, by omega, by simp, fun i y hy => ?_⟩, rfl, by show I64 4; unfold I64; omega, ⟨rfl, by omega, by omega, by simp, fun i y hy => ?_⟩⟩
  · match i, hy with
    | 0, hy =>
      cases hy
      exact ⟨bc, 0, rfl, hK.1, hs.1, fun j v hj => by rw [Nat.zero_mul, Nat.zero_add]; exact hc.cell j v (by rw [List.getElem?_append_left (List.getElem?_eq_some_iff.1 hj).1]; exact hj), hx⟩
    | 1, hy =>
      cases hy
      exact ⟨bc, 0, rfl, hK.1, hs.1, fun j v hj => by rw [Nat.zero_add]; exact hc.cell _ v (by rw [List.getElem?_append_right (by simp), show 1 * 6 + j - (ICells (imI x)).length = j by simp]; exact hj), end_in⟩
  · match i, hy with
    | 0, hy =>
      cases hy
      refine ⟨bu, 0, rfl, hK.2.2, hs.2.2, ⟨_, hu.cell 0 _ rfl⟩, ⟨_, _, _, hu.cell 1 _ rfl, nl⟩, fun i h2 h10 => ?_⟩
      have : ((Value.string ⟨#[]⟩ :: .slice (some ⟨bn, 0, none⟩) 2 2 :: List.replicate 8 NIL)[i]?) = some NIL := by
        match i, h2, h10 with
        | 2, _, _ => rfl
        | 3, _, _ => rfl
        | 4, _, _ => rfl
        | 5, _, _ => rfl
        | 6, _, _ => rfl
        | 7, _, _ => rfl
        | 8, _, _ => rfl
        | 9, _, _ => rfl
      rw [Nat.zero_mul, Nat.zero_add]
      exact hu.cell i _ this
/-- Blocks that hold ints alone. -/
theorem ints_has {w : World} {K : Nat → Prop} {b n : Nat} {l : List Int} (h : Has w b (ivs l)) (hb : b < w.heap.size) (hK : K b) (hn : n = l.length) (hl : ∀ z ∈ l, I64 z) (hm : n ≤ 1000) : Ints K w (some ⟨b, 0, none⟩) n n l :=
  ⟨hn.symm, Nat.le_refl _, by omega, by omega, fun i x hx => ⟨b, 0, rfl, hK, hb, by rw [Nat.zero_add, Nat.mul_one]; exact h.cell i _ (ivs_get hx), hl x (List.mem_of_getElem? hx)⟩⟩
theorem acc_has {w : World} {K : Nat → Prop} {b : Nat} (h : Has w b [.int .i64 0, .int .i64 0, .int .i64 3]) (hb : b < w.heap.size) (hK : K b) : Row RAcc 3 K w (some ⟨b, 0, none⟩) 1 1 [⟨0, 0, 3⟩] :=
  ⟨rfl, Nat.le_refl _, by omega, by omega, fun i x hx => by
    match i, hx with
    | 0, hx => cases hx; exact ⟨b, 0, rfl, hK, hb, h.cell 0 _ rfl, h.cell 1 _ rfl, h.cell 2 _ rfl, by show I64 _; dsimp only; unfold I64; omega, by show I64 _; dsimp only; unfold I64; omega, by unfold I64; decide⟩⟩
end Go.Proofs.Ytonbmijhbbodnaa
