/-
  Small laws for the walk of InstrMade: one cell of an argument; an append in a region that draws; a byte that is changed.
  The instructions that the law makes are right ones, and are decoded from their bytes (plain).
  Straight images while they are made: code and nodes under construction in memory. Small laws.
-/
import Derived.Laws.BitsAllLaws
import Derived.Test.YtonbmijhbbodnaaZInT
import Derived.Test.YtonbmijhbbodnaaZMake
import Derived.Test.YtonbmijhbbodnaaDeck
import Derived.Test.YtonbmijhbbodnaaZMsB
namespace Go.Proofs.Ytonbmijhbbodnaa
open Go.RowKit

theorem IsRow.get {k : IntKind} {w : World} {a : Option Addr} {len cap : Nat} {zs : List Int} (h : IsRow k w a len cap zs) {i : Nat} (hi : i < len) :
    ∃ b o, a = some ⟨b, o, none⟩ ∧ w.cell? ⟨b, o + i, none⟩ = some (.int k (zs.getD i 0)) ∧ b < w.heap.size ∧ (Lit.int k (zs.getD i 0)).wf = true := by
  have hh := h
  rcases h with ⟨rfl, rfl, rfl, rfl⟩ | ⟨x, rfl, h1, h2, h3, h4, h5⟩
  · omega
  · obtain ⟨b, o, rfl⟩ := hh.place (by omega)
    have hc := add_at _ _ _ _ (h4 i (by omega)) b o rfl
    refine ⟨b, o, rfl, hc, World.block_lt_of_cell? w _ hc, h5 _ ?_⟩
    rw [List.getD_eq_getElem?_getD, List.getElem?_eq_getElem (show i < zs.length by omega)]
    exact List.getElem_mem _
theorem wf_u8 {z : Int} (h : (Lit.int .u8 z).wf = true) : 0 ≤ z ∧ z ≤ 255 := by simpa [Lit.wf, IntKind.min, IntKind.max, IntKind.signed, IntKind.bits] using h
theorem wf_i32 {z : Int} (h : (Lit.int .i32 z).wf = true) : -2147483648 ≤ z ∧ z ≤ 2147483647 := by simpa [Lit.wf, IntKind.min, IntKind.max, IntKind.signed, IntKind.bits] using h
theorem wf_i64 {z : Int} (h : (Lit.int .i64 z).wf = true) : -9223372036854775808 ≤ z ∧ z ≤ 9223372036854775807 := by simpa [Lit.wf, IntKind.min, IntKind.max, IntKind.signed, IntKind.bits] using h
theorem step_append_flat {P : Program} {ops : Array Oper} {o : Oper} {a : Act} {w : World} {K : Act → World → Prop} {Q : Exit → Act → World → Prop} {E : Prop} (hgd : o.guard = none) (s y : Operand) (t : TypeId)
    (ho : o.op = .call { callee := .builtin .append, args := #[s, y], argTypes := #[t, t] }) (e : TypeId) (ht : P.underlying t = some (.slice e)) {z : Value} {sz bytes : Nat} (hinfo : (P.info? e).map (fun i => (i.zero, i.size, i.bytes)) = some (some z, sz, bytes)) (hz : z.cells.size = sz) (hsz : 0 < sz)
    {B : Nat} {v : Value} {n : Nat} {cs : List Value} (r : w.ownsRow B e sz v n cs) (hs : a.eval s = v) (hB : B ≤ w.heap.size)
    (ad : Addr) (m c : Nat) (news : List Value) (hy : a.eval y = .slice (some ad) m c) (hl : news.length = m * sz) (hnews : ∀ j u, news[j]? = some u → w.cell? (ad.add j) = some u) (h1 : ∀ u ∈ news, u.oneCell' = true)
    (hm : 0 < m) (h63 : n + m ≤ 1000000) (hby : bytes ≤ 1000)
    (h : ∀ g cap w', Hid (FApp e sz B v n m cs news w w' (.slice (some ⟨g, 0, none⟩) (n + m) cap)) → K (a.put o.dst (.slice (some ⟨g, 0, none⟩) (n + m) cap)) w') :
    if Region.wanted o (yielded ops a.tmps) = true then Oper.wp P o a w K Q else E := by
  obtain ⟨i, hi, hzz⟩ := Option.map_eq_some_iff.1 hinfo
  simp only [Prod.mk.injEq] at hzz
  refine step_append_lies w hgd s y t ho B e i z sz bytes ht hi hzz.1 hzz.2.1 hzz.2.2 hz hsz v n cs hs r ad m c news hy hl hnews h1 hm (by unfold maxLen; omega) (Nat.le_trans (Nat.mul_le_mul h63 hby) (by decide)) hB w.heap.size rfl ?_
  intro g cap w' hown hgrow _ _
  exact h g cap w' ⟨hown, Chg.of_grown hgrow⟩
theorem flat_free {w : World} {B : Nat} {e : TypeId} {size : Nat} {g n c k : Nat} {xs : List Value} (h : w.ownsRow B e size (.slice (some ⟨g, 0, none⟩) n c) k xs) : ∀ o, w.frozen? ⟨g, o, none⟩ = false := fun o => by
  rcases h.2 with ⟨h1, _⟩ | ⟨g', cap, cur, h1, h2, h3, _⟩
  · cases h1
  · cases h1
    simp [World.frozen?, h3]
theorem Bytes.setc {K : Nat → Prop} {w : World} {b o len cap : Nat} {xs : List Int} (r : Bytes K w (some ⟨b, o, none⟩) len cap xs) {i : Nat} (_hi : i < len) {y : Int} (hy : 0 ≤ y ∧ y ≤ 255) : Bytes K (w.setCell ⟨b, o + i, none⟩ (.int .u8 y)) (some ⟨b, o, none⟩) len cap (xs.set i y) := by
  refine ⟨by rw [List.length_set]; exact r.hlen, r.hcap, r.hmax, r.hsz, fun j x hx => ?_⟩
  have hj := (List.getElem?_eq_some_iff.1 hx).1
  rw [List.length_set] at hj
  obtain ⟨b1, o1, z1, e1, hz1, hc1, _, _, hK, hb⟩ := Bytes.get r (show j < len by rw [← r.hlen]; exact hj)
  cases e1
  refine ⟨b, o, rfl, hK, by simpa using hb, ?_⟩
  rw [Nat.mul_one]
  rw [List.getElem?_set] at hx
  by_cases e : i = j
  · subst e
    rw [if_pos rfl, if_pos hj] at hx
    cases hx
    exact ⟨World.cell?_setCell_same w _ _ hc1, hy⟩
  · rw [if_neg e] at hx
    obtain ⟨b2, o2, e2, _, _, h2⟩ := r.row j x hx
    cases e2
    rw [Nat.mul_one] at h2
    exact ⟨(World.cell?_setCell_other w ⟨b, o + i, none⟩ ⟨b, o + j, none⟩ _ (fun h => e (by injection h with _ h2; omega))).trans h2.1, h2.2⟩
theorem byt_set {xs : List Int} (h : Byt xs) (i : Nat) {y : Int} (hy : 0 ≤ y ∧ y ≤ 255) : Byt (xs.set i y) := fun z hz => by
  rcases List.mem_or_eq_of_mem_set hz with h1 | h1
  · exact h z h1
  · subst h1; exact hy
theorem xor_byt {x y : Int} (hx : 0 ≤ x ∧ x ≤ 255) (hy : 0 ≤ y ∧ y ≤ 255) : 0 ≤ bits .xor .u8 x y ∧ bits .xor .u8 x y ≤ 255 := by
  rw [u8_xor x y hx.1 (by omega) hy.1 (by omega)]
  have : x.toNat ^^^ y.toNat < 2 ^ 8 := Nat.xor_lt_two_pow (by omega) (by omega)
  omega
theorem zI_in {K A B C O N M L : Int} (h1 : 0 ≤ K ∧ K ≤ 10) (h2 : 0 ≤ A ∧ A < 8) (h3 : 0 ≤ B ∧ B < 8) (h4 : 0 ≤ C ∧ C < 8) (h5 : 1 ≤ O ∧ O ≤ 14) (h6 : -2147483648 ≤ N ∧ N ≤ 2147483647) (h7 : 0 ≤ M ∧ M < 1000) (h8 : 0 ≤ L ∧ L < 4) : (zI K A B C O N M L).In := by
  unfold zI
  repeat' split
  all_goals (constructor <;> (unfold I64; dsimp only; omega))
theorem ofB_in {k a b c n : Int} (hn : -2147483648 ≤ n ∧ n ≤ 2147483647) : (ofB k a b c n).In := by
  unfold ofB
  exact zI_in (by omega) (by omega) (by omega) (by omega) (by omega) hn (by omega) (by omega)
theorem ofI_in {k a b c n : Int} (hn : -2147483648 ≤ n ∧ n ≤ 2147483647) : (ofI k a b c n).In := by
  have h := ofB_in (k := k) (a := a) (b := b) (c := c) hn
  have hc : 0 ≤ (ofB k a b c n).c ∧ (ofB k a b c n).c < 8 := by unfold ofB; exact zI_c (by omega)
  unfold ofI
  split
  · exact ⟨h.k, h.a, h.b, ⟨by dsimp only; omega, by dsimp only; omega⟩, h.op, h.imm⟩
  · exact h

theorem zI_ok {K A B C O N M L : Int} (h1 : 0 ≤ K ∧ K ≤ 10) (h2 : 0 ≤ A ∧ A < 8) (h3 : 0 ≤ B ∧ B < 8) (h4 : 0 ≤ C ∧ C < 8) (h5 : 1 ≤ O ∧ O ≤ 14) (h6 : -2147483648 ≤ N ∧ N ≤ 2147483647) (h7 : 0 ≤ M ∧ M < 1000) (h8 : 0 ≤ L ∧ L < 4) : chkI (zI K A B C O N M L) = 0 := by
  have hK : K = 0 ∨ K = 1 ∨ K = 2 ∨ K = 3 ∨ K = 4 ∨ K = 5 ∨ K = 6 ∨ K = 7 ∨ K = 8 ∨ K = 9 ∨ K = 10 := by omega
  rcases hK with rfl | rfl | rfl | rfl | rfl | rfl | rfl | rfl | rfl | rfl | rfl
  all_goals
    simp [zI, chkI, kn, fldOf, goodI, regB, opB]
    try omega
theorem ofB_ok {k a b c n : Int} (hn : -2147483648 ≤ n ∧ n ≤ 2147483647) : chkI (ofB k a b c n) = 0 := by
  unfold ofB
  exact zI_ok (by omega) (by omega) (by omega) (by omega) (by omega) hn (by omega) (by omega)
/-- A right instruction is decoded from its bytes. -/
theorem mkI_enc {x : Ins} (h : chkI x = 0) : mkI x.k (16 * x.a + x.b) x.c x.op (x.imm / 16777216 % 256) (x.imm / 65536 % 256) (x.imm / 256 % 256) (x.imm % 256) = x := by
  obtain ⟨k0, k1, a0, a1, b0, b1, c0, c1, o0, o1, i0, i1⟩ := small_of h
  obtain ⟨k, a, b, c, o, i⟩ := x
  simp only [mkI, w32] at *
  have e1 : (16 * a + b) / 16 = a := by omega
  have e2 : (16 * a + b) % 16 = b := by omega
  have e3 : i / 16777216 % 256 * 16777216 + i / 65536 % 256 * 65536 + i / 256 % 256 * 256 + i % 256 = i % 4294967296 := by omega
  rw [e1, e2, e3]
  have e4 : (i % 4294967296 + 2147483648) % 4294967296 - 2147483648 = i := by omega
  rw [e4]
theorem insAt_pre {bs rest pre : List Int} {x : Ins} (h : chkI x = 0) (hb : bs = pre ++ enc8 x ++ rest) : insAt bs pre.length = x := by
  have hx := enc8_small h
  subst hb
  have g : ∀ j z, (enc8s x)[j]? = some z → (pre ++ enc8 x ++ rest)[pre.length + j]? = some z := fun j z hz => by
    rw [hx, List.append_assoc, List.getElem?_append_right (by omega), Nat.add_sub_cancel_left, List.getElem?_append_left (List.getElem?_eq_some_iff.1 hz).1]
    exact hz
  rw [insAt_of (k := pre.length) (g 0 _ rfl) (g 1 _ rfl) (g 2 _ rfl) (g 3 _ rfl) (g 4 _ rfl) (g 5 _ rfl) (g 6 _ rfl) (g 7 _ rfl)]
  exact mkI_enc h
theorem dec_two {x y : Ins} (hx : chkI x = 0) (hy : chkI y = 0) : decE (enc8 x ++ enc8 y) = 0 ∧ decO (enc8 x ++ enc8 y) = [x, y] := by
  have hl : (enc8 x ++ enc8 y).length = 16 := by simp [enc8]
  have h0 : insAt (enc8 x ++ enc8 y) 0 = x := insAt_pre (pre := []) (rest := enc8 y) hx rfl
  have h1 : insAt (enc8 x ++ enc8 y) 8 = y := insAt_pre (pre := enc8 x) (rest := []) hy (by simp)
  have hd : decL (enc8 x ++ enc8 y) = [x, y] := by
    unfold decL
    rw [hl]
    show decP _ 2 = _
    simp [decP, List.range, List.range.loop, h0, h1]
  have hn : ¬ decBad (enc8 x ++ enc8 y) := by unfold decBad; rw [hl]; omega
  have hg : Good (decL (enc8 x ++ enc8 y)) := by rw [hd]; intro z hz; simp at hz; rcases hz with rfl | rfl <;> assumption
  have := decE_good hn hg
  rw [hd] at this
  exact this
theorem enc8_inj {x y : Ins} (hx : chkI x = 0) (hy : chkI y = 0) (h : enc8 x = enc8 y) : x = y := by
  have h0 : insAt (enc8 x) 0 = x := insAt_pre (pre := []) (rest := []) hx (by simp)
  have h1 : insAt (enc8 y) 0 = y := insAt_pre (pre := []) (rest := []) hy (by simp)
  rw [← h0, ← h1, h]
theorem enc_list {l : List Ins} (hl : l.length ≤ 1024) (h : Good l) : encE l = 0 ∧ encB l = encs l := encE_good (by omega) h

/-- A list in a block of its own, or nil. -/
def BlkO (w : World) (B : Nat) (t : TypeId) (cs : List Value) : Option Nat → Prop
  | none => cs = []
  | some b => Blk w b t cs ∧ B ≤ b
def adO (o : Option Nat) : Option Addr := o.map fun b => ⟨b, 0, none⟩
structure RawN where
  f : Int
  c : Int
  nb : Option Nat
  nl : Nat
  ab : Option Nat
  al : Nat
def rawC (r : RawN) : List Value := [.int .i64 r.f, .int .i64 r.c, .slice (adO r.nb) r.nl r.nl, .slice (adO r.ab) r.al r.al]
def acC (l : List Acc) : List Value := l.flatMap fun a => [.int .i64 a.at_, .int .i64 a.lo, .int .i64 a.hi]
structure RawOk (w : World) (B : Nat) (r : RawN) (z : Nd) : Prop where
  f : r.f = z.first
  c : r.c = z.cnt
  fi : I64 z.first
  ci : I64 z.cnt
  nl : r.nl = z.next.length
  al : r.al = z.acc.length
  n1000 : r.nl ≤ 1000 ∧ r.al ≤ 1000
  ni : ∀ y ∈ z.next, I64 y
  ai : ∀ a ∈ z.acc, I64 a.at_ ∧ I64 a.lo ∧ I64 a.hi
  nb : BlkO w B 3 (ivs z.next) r.nb
  ab : BlkO w B 89 (acC z.acc) r.ab
structure RawsOk (w : World) (B : Nat) (rs : List RawN) (zs : List Nd) : Prop where
  len : rs.length = zs.length
  ok : ∀ (i : Nat) (r : RawN) (z : Nd), rs[i]? = some r → zs[i]? = some z → RawOk w B r z
def ncs (rs : List RawN) : List Value := rs.flatMap rawC
theorem BlkO.keep {w w' : World} {B : Nat} {t : TypeId} {cs : List Value} {o : Option Nat} (h : BlkO w B t cs o) {M : Nat → Prop} (c : Chg M w w') (hM : ∀ b, B ≤ b → M b → ∃ s ys, Blk w b s ys ∧ s ≠ t) : BlkO w' B t cs o := by
  cases o with
  | none => exact h
  | some b =>
    refine ⟨h.1.chg c (fun hm => ?_), h.2⟩
    obtain ⟨s, ys, h2, hs⟩ := hM b h.2 hm
    have h1 := h.1
    unfold Blk at h1 h2
    rw [h1] at h2
    injection h2 with h2
    injection h2 with _ h2
    exact hs h2.symm
theorem RawOk.keep {w w' : World} {B : Nat} {r : RawN} {z : Nd} (h : RawOk w B r z) {M : Nat → Prop} (c : Chg M w w') (hM : ∀ b, B ≤ b → M b → ∃ s ys, Blk w b s ys ∧ s ≠ 3 ∧ s ≠ 89) : RawOk w' B r z :=
  { h with
    nb := h.nb.keep c (fun b hb hm => by obtain ⟨s, ys, h1, h2, _⟩ := hM b hb hm; exact ⟨s, ys, h1, h2⟩)
    ab := h.ab.keep c (fun b hb hm => by obtain ⟨s, ys, h1, _, h2⟩ := hM b hb hm; exact ⟨s, ys, h1, h2⟩) }
theorem RawsOk.keep {w w' : World} {B : Nat} {rs : List RawN} {zs : List Nd} (h : RawsOk w B rs zs) {M : Nat → Prop} (c : Chg M w w') (hM : ∀ b, B ≤ b → M b → ∃ s ys, Blk w b s ys ∧ s ≠ 3 ∧ s ≠ 89) : RawsOk w' B rs zs :=
  ⟨h.len, fun i r z h1 h2 => (h.ok i r z h1 h2).keep c hM⟩
theorem RawsOk.snoc {w : World} {B : Nat} {rs : List RawN} {zs : List Nd} (h : RawsOk w B rs zs) {r : RawN} {z : Nd} (s : RawOk w B r z) : RawsOk w B (rs ++ [r]) (zs ++ [z]) := by
  refine ⟨by simp [h.len], fun i y u hy hu => ?_⟩
  by_cases hi : i < rs.length
  · rw [List.getElem?_append_left hi] at hy
    rw [List.getElem?_append_left (by rw [← h.len]; exact hi)] at hu
    exact h.ok i y u hy hu
  · have hl := (List.getElem?_eq_some_iff.1 hy).1
    simp at hl
    have e : i = rs.length := by omega
    subst e
    rw [List.getElem?_append_right (Nat.le_refl _), Nat.sub_self] at hy
    rw [List.getElem?_append_right (by rw [h.len]; exact Nat.le_refl _), h.len, Nat.sub_self] at hu
    cases hy; cases hu
    exact s
theorem own_tag {w : World} {B : Nat} {e : TypeId} {sz : Nat} {v : Value} {n : Nat} {xs : List Value} (h : w.ownsRow B e sz v n xs) {k : Nat} (hk : v.ownBlock = some k) : ∃ cs, Blk w k e cs := by
  rcases h.2 with ⟨rfl, _⟩ | ⟨g, cap, cur, rfl, hg, hb, _⟩
  · simp [Value.ownBlock] at hk
  · have : g = k := by simpa [Value.ownBlock] using hk
    subst this
    exact ⟨cur.toList, by unfold Blk; rw [Array.toArray_toList]; exact hb⟩
theorem tag_same {w : World} {b : Nat} {s t : TypeId} {xs ys : List Value} (h : Blk w b s xs) (k : Blk w b t ys) : s = t := by
  unfold Blk at h k
  rw [h] at k
  injection k with k
  injection k with _ k
abbrev ESTR : ByteArray := ⟨#[]⟩
/-- The image and its unit under construction: kc instructions, kn nodes. -/
structure StAt (w : World) (d kc kn : Nat) (code : List Ins) (nds : List Nd) (cv nv : Value) (raws : List RawN) (wr : World) : Prop where
  hr : Has wr w.heap.size [NIL, .int .i64 0, NIL, NIL]
  hm : Has wr (w.heap.size + 1) [cv, .int .i64 6, NIL, NIL]
  hu : Has wr (w.heap.size + 1 + 1) [.string ESTR, nv, NIL, NIL, NIL, NIL, NIL, NIL, NIL, NIL]
  code : wr.ownsRow (w.heap.size + 3) 50 6 cv kc (ics code)
  nodes : wr.ownsRow (w.heap.size + 3) 70 4 nv kn (ncs raws)
  raw : RawsOk wr (w.heap.size + 3) raws nds
  deck : Deck wr d
  but : But d w wr
  dlt : d < w.heap.size
variable {w wr : World} {d kc kn : Nat} {code : List Ins} {nds : List Nd} {cv nv : Value} {raws : List RawN}
theorem StAt.size (h : StAt w d kc kn code nds cv nv raws wr) : w.heap.size + 3 ≤ wr.heap.size := by have := h.hu.lt (by simp); omega
theorem StAt.to (h : StAt w d kc kn code nds cv nv raws wr) {w' : World} (b : But d wr w') (hd : Deck w' d) : StAt w d kc kn code nds cv nv raws w' := by
  have hs := h.size; have hl := h.dlt
  have no : ∀ k, w.heap.size ≤ k → ¬ k = d := fun k hk e => by omega
  refine ⟨b.has h.hr (by omega) (by omega), b.has h.hm (by omega) (by omega), b.has h.hu (by omega) (by omega), ?_, ?_, ?_, hd, h.but.trans b, h.dlt⟩
  · exact flat_of h.code (M := fun k => k = d) ⟨b.os, b.tape, b.output, b.size, fun k hk hm => b.block k hk hm⟩ (fun k hk _ e => by omega)
  · exact flat_of h.nodes (M := fun k => k = d) ⟨b.os, b.tape, b.output, b.size, fun k hk hm => b.block k hk hm⟩ (fun k hk _ e => by omega)
  · exact h.raw.keep (M := fun k => k = d) ⟨b.os, b.tape, b.output, b.size, fun k hk hm => b.block k hk hm⟩ (fun k hk e => by omega)
theorem deck_chg {M : Nat → Prop} {w w' : World} {d : Nat} (h : Deck w d) (k : Chg M w w') (hM : ∀ j, j < w.heap.size → j ≤ d → ¬ M j) : Deck w' d := by
  obtain ⟨a, len, cap, zs, i, h1, h2, h3, h4⟩ := h
  refine ⟨a, len, cap, zs, i, ?_, h2, k.has h3 (h3.lt (by simp)) (hM d (h3.lt (by simp)) (Nat.le_refl _)), h4⟩
  rcases h1 with h1 | ⟨x, rfl, k1, k2, k3, k4, k5⟩
  · exact .inl h1
  · refine .inr ⟨x, rfl, k1, k2, k3, fun j hj => ?_, k5⟩
    have hx := h2 x rfl (by omega)
    have hc := k4 j hj
    have hlt : x.block < w.heap.size := by rw [← add_block x j]; exact World.block_lt_of_cell? w _ hc
    exact (World.cell?_of_block (w := w) (a := x.add j) (by rw [add_block]; exact k.block _ hlt (hM _ hlt (by omega)))).trans hc
theorem but_chg {M : Nat → Prop} {d : Nat} {w w1 w2 : World} (h : But d w w1) (k : Chg M w1 w2) (hM : ∀ j, j < w.heap.size → ¬ M j) : But d w w2 :=
  ⟨k.os.trans h.os, k.tape.trans h.tape, k.output.trans h.output, Nat.le_trans h.size k.size, fun j hj hd => (k.block j (Nat.lt_of_lt_of_le hj h.size) (hM j hj)).trans (h.block j hj hd)⟩
theorem info_nd : (Try.prog.info? 70).map (fun i => (i.zero, i.size, i.bytes)) = some (some (.agg #[.int .i64 0, .int .i64 0, NIL, NIL]), 4, 64) := by kernel_rfl
theorem rawC_one (r : RawN) : ∀ v ∈ rawC r, v.oneCell' = true := fun v h => by
  simp [rawC] at h
  rcases h with rfl | rfl | rfl | rfl <;> rfl
/-- One instruction more. -/
theorem StAt.addCode (h : StAt w d kc kn code nds cv nv raws wr) {x : Ins} {q1 : World} {v' : Value} (hap : FApp 50 6 (w.heap.size + 3) cv kc 1 (ics code) (ics [x]) (wr.alloc (.cells (ICells x).toArray 50)) q1 v') :
    StAt w d (kc + 1) kn (code ++ [x]) nds v' nv raws (q1.setCell ⟨w.heap.size + 1, 0, none⟩ v') := by
  have hs := h.size; have hl := h.dlt
  have A1 := (Below.refl wr.heap.size wr).alloc (Nat.le_refl _) (.cells (ICells x).toArray 50)
  have ho := flat_below h.code A1
  have hge : ∀ k, cv.ownBlock = some k → w.heap.size + 3 ≤ k := fun k e => (ho.lt k e).1
  have hc := hap.chg
  have hr := hc.has (h.hr.below A1 (by omega)) (by simp; omega) (fun e => by have := hge _ e; omega)
  have hm := hc.has (h.hm.below A1 (by omega)) (by simp; omega) (fun e => by have := hge _ e; omega)
  have hu := hc.has (h.hu.below A1 (by omega)) (by simp; omega) (fun e => by have := hge _ e; omega)
  have hz : wr.heap.size + 1 ≤ q1.heap.size := by have := hc.size; simpa using this
  refine ⟨hr.other (by simp), hm.set0 _, hu.other (by simp), ?_, ?_, ?_, ?_, ?_, h.dlt⟩
  · rw [ics_append]
    exact flat_of hap.owns (M := fun k => k = w.heap.size + 1) (Chg.setCell (M := fun k => k = w.heap.size + 1) (Chg.refl _) (fun _ => rfl) _) (fun k hk _ e => by omega)
  · have hn := flat_below h.nodes A1
    refine flat_of (ownsRow_of (w' := q1) hn (fun k hk => hc.block k (hn.lt k hk).2 (fun e => ?_))) (M := fun k => k = w.heap.size + 1) (Chg.setCell (M := fun k => k = w.heap.size + 1) (Chg.refl _) (fun _ => rfl) _) (fun k hk _ e => by omega)
    obtain ⟨_, b1⟩ := own_tag hn hk
    obtain ⟨_, b2⟩ := own_tag ho e
    have := tag_same b1 b2
    revert this; decide
  · have r1 := (h.raw.keep (M := Non) (Chg.of_below A1) (fun _ _ e => e.elim)).keep hc (fun b _ e => by
      obtain ⟨ys, b2⟩ := own_tag ho e
      exact ⟨_, ys, b2, by decide, by decide⟩)
    exact r1.keep (M := fun k => k = w.heap.size + 1) (Chg.setCell (M := fun k => k = w.heap.size + 1) (Chg.refl _) (fun _ => rfl) _) (fun k hk e => by omega)
  · exact (deck_chg (h.deck.below A1 (Nat.le_refl _)) hc (fun j _ hj e => by have := hge _ e; omega)).other (by simp; omega) _
  · exact (but_chg (h.but.trans (But.of_below (d := d) A1)) hc (fun j hj e => by have := hge _ e; omega)).other (by simp) _
theorem StAt.codeHm (h : StAt w d kc kn code nds cv nv raws wr) {x : Ins} {q1 : World} {v' : Value} (hap : FApp 50 6 (w.heap.size + 3) cv kc 1 (ics code) (ics [x]) (wr.alloc (.cells (ICells x).toArray 50)) q1 v') : Has q1 (w.heap.size + 1) [cv, .int .i64 6, NIL, NIL] := by
  have hs := h.size
  have A1 := (Below.refl wr.heap.size wr).alloc (Nat.le_refl _) (.cells (ICells x).toArray 50)
  have ho := flat_below h.code A1
  exact hap.chg.has (h.hm.below A1 (by omega)) (by simp; omega) (fun e => by have := (ho.lt _ e).1; omega)
theorem StAt.nodeHu (h : StAt w d kc kn code nds cv nv raws wr) {r : RawN} {q1 : World} {v' : Value} (hap : FApp 70 4 (w.heap.size + 3) nv kn 1 (ncs raws) (rawC r) (wr.alloc (.cells (rawC r).toArray 70)) q1 v') : Has q1 (w.heap.size + 1 + 1) [.string ESTR, nv, NIL, NIL, NIL, NIL, NIL, NIL, NIL, NIL] := by
  have hs := h.size
  have A1 := (Below.refl wr.heap.size wr).alloc (Nat.le_refl _) (.cells (rawC r).toArray 70)
  have ho := flat_below h.nodes A1
  exact hap.chg.has (h.hu.below A1 (by omega)) (by simp; omega) (fun e => by have := (ho.lt _ e).1; omega)
theorem StAt.codeHas (_h : StAt w d kc kn code nds cv nv raws wr) {w' : World} (c : Chg (fun b => cv.ownBlock = some b ∨ b = w.heap.size + 1) wr w') {p : Nat} {vs : List Value} (hp : Has wr p vs) (hl : p < wr.heap.size) (h0 : w.heap.size + 3 ≤ p) (hn : ∀ k, cv.ownBlock = some k → k ≠ p) : Has w' p vs :=
  c.has hp hl (fun e => by rcases e with e | e; exact hn p e rfl; omega)
theorem StAt.codeChg (_h : StAt w d kc kn code nds cv nv raws wr) {x : Ins} {q1 : World} {v' : Value} (hap : FApp 50 6 (w.heap.size + 3) cv kc 1 (ics code) (ics [x]) (wr.alloc (.cells (ICells x).toArray 50)) q1 v') :
    Chg (fun b => cv.ownBlock = some b ∨ b = w.heap.size + 1) wr (q1.setCell ⟨w.heap.size + 1, 0, none⟩ v') :=
  ((Chg.of_below ((Below.refl wr.heap.size wr).alloc (Nat.le_refl _) _)).trans hap.chg (fun _k _ e => .inl e)).setCell (fun _ => .inr rfl) _
theorem StAt.codeRaw (h : StAt w d kc kn code nds cv nv raws wr) {w' : World} (c : Chg (fun b => cv.ownBlock = some b ∨ b = w.heap.size + 1) wr w') {r : RawN} {z : Nd} (hz : RawOk wr (w.heap.size + 3) r z) : RawOk w' (w.heap.size + 3) r z :=
  hz.keep c (fun b hb e => by
    rcases e with e | e
    · obtain ⟨ys, b2⟩ := own_tag h.code e
      exact ⟨_, ys, b2, by decide, by decide⟩
    · omega)
/-- One node more. -/
theorem StAt.addNode (h : StAt w d kc kn code nds cv nv raws wr) {r : RawN} {z : Nd} (hz : RawOk wr (w.heap.size + 3) r z) {q1 : World} {v' : Value} (hap : FApp 70 4 (w.heap.size + 3) nv kn 1 (ncs raws) (rawC r) (wr.alloc (.cells (rawC r).toArray 70)) q1 v') :
    StAt w d kc (kn + 1) code (nds ++ [z]) cv v' (raws ++ [r]) (q1.setCell ⟨w.heap.size + 1 + 1, 1, none⟩ v') := by
  have hs := h.size; have hl := h.dlt
  have A1 := (Below.refl wr.heap.size wr).alloc (Nat.le_refl _) (.cells (rawC r).toArray 70)
  have ho := flat_below h.nodes A1
  have hge : ∀ k, nv.ownBlock = some k → w.heap.size + 3 ≤ k := fun k e => (ho.lt k e).1
  have hc := hap.chg
  have hr := hc.has (h.hr.below A1 (by omega)) (by simp; omega) (fun e => by have := hge _ e; omega)
  have hm := hc.has (h.hm.below A1 (by omega)) (by simp; omega) (fun e => by have := hge _ e; omega)
  have hu := hc.has (h.hu.below A1 (by omega)) (by simp; omega) (fun e => by have := hge _ e; omega)
  have tg : ∀ b, w.heap.size + 3 ≤ b → nv.ownBlock = some b → ∃ s ys, Blk (wr.alloc (.cells (rawC r).toArray 70)) b s ys ∧ s ≠ 3 ∧ s ≠ 89 := fun b _ e => by
    obtain ⟨ys, b2⟩ := own_tag ho e
    exact ⟨_, ys, b2, by decide, by decide⟩
  refine ⟨hr.other (by simp; omega), hm.other (by simp), hu.set1 _, ?_, ?_, ?_, ?_, ?_, h.dlt⟩
  · have hn := flat_below h.code A1
    refine flat_of (ownsRow_of (w' := q1) hn (fun k hk => hc.block k (hn.lt k hk).2 (fun e => ?_))) (M := fun k => k = w.heap.size + 1 + 1) (Chg.setCell (M := fun k => k = w.heap.size + 1 + 1) (Chg.refl _) (fun _ => rfl) _) (fun k hk _ e => by omega)
    obtain ⟨_, b1⟩ := own_tag hn hk
    obtain ⟨_, b2⟩ := own_tag ho e
    have := tag_same b1 b2
    revert this; decide
  · have e : ncs (raws ++ [r]) = ncs raws ++ rawC r := by unfold ncs; rw [List.flatMap_append]; simp
    rw [e]
    exact flat_of hap.owns (M := fun k => k = w.heap.size + 1 + 1) (Chg.setCell (M := fun k => k = w.heap.size + 1 + 1) (Chg.refl _) (fun _ => rfl) _) (fun k hk _ e => by omega)
  · have r1 := (h.raw.snoc hz).keep (M := Non) (Chg.of_below A1) (fun _ _ e => e.elim) |>.keep hc tg
    exact r1.keep (M := fun k => k = w.heap.size + 1 + 1) (Chg.setCell (M := fun k => k = w.heap.size + 1 + 1) (Chg.refl _) (fun _ => rfl) _) (fun k hk e => by omega)
  · exact (deck_chg (h.deck.below A1 (Nat.le_refl _)) hc (fun j _ hj e => by have := hge _ e; omega)).other (by simp; omega) _
  · exact (but_chg (h.but.trans (But.of_below (d := d) A1)) hc (fun j hj e => by have := hge _ e; omega)).other (by simp; omega) _
theorem ncs_len (rs : List RawN) : (ncs rs).length = rs.length * 4 := by
  induction rs with
  | nil => rfl
  | cons x l ih => unfold ncs at ih ⊢; rw [List.flatMap_cons, List.length_append, ih]; simp [rawC]; omega
theorem ncs_get : ∀ {l : List RawN} {i j : Nat} {x : RawN} {v : Value}, l[i]? = some x → (rawC x)[j]? = some v → (ncs l)[i * 4 + j]? = some v
  | [], i, j, x, v, h, _ => by simp at h
  | y :: l, 0, j, x, v, h, hv => by
    simp at h; subst h
    unfold ncs
    rw [List.flatMap_cons, Nat.zero_mul, Nat.zero_add, List.getElem?_append_left (List.getElem?_eq_some_iff.1 hv).1]
    exact hv
  | y :: l, i + 1, j, x, v, h, hv => by
    have ih := ncs_get (l := l) (i := i) (j := j) (x := x) (v := v) (by simpa using h) hv
    unfold ncs at ih ⊢
    rw [List.flatMap_cons, List.getElem?_append_right (by simp [rawC]; omega)]
    rw [show (i + 1) * 4 + j - (rawC y).length = i * 4 + j by simp [rawC]; omega]
    exact ih
theorem acC_get : ∀ {l : List Acc} {i j : Nat} {x : Acc} {v : Value}, l[i]? = some x → [Value.int .i64 x.at_, .int .i64 x.lo, .int .i64 x.hi][j]? = some v → (acC l)[i * 3 + j]? = some v
  | [], i, j, x, v, h, _ => by simp at h
  | y :: l, 0, j, x, v, h, hv => by
    simp at h; subst h
    unfold acC
    rw [List.flatMap_cons, Nat.zero_mul, Nat.zero_add, List.getElem?_append_left (List.getElem?_eq_some_iff.1 hv).1]
    exact hv
  | y :: l, i + 1, j, x, v, h, hv => by
    have ih := acC_get (l := l) (i := i) (j := j) (x := x) (v := v) (by simpa using h) hv
    unfold acC at ih ⊢
    rw [List.flatMap_cons, List.getElem?_append_right (by simp; omega)]
    rw [show (i + 1) * 3 + j - [Value.int .i64 y.at_, .int .i64 y.lo, .int .i64 y.hi].length = i * 3 + j by simp; omega]
    exact ih
theorem raw_next {w : World} {B : Nat} {r : RawN} {z : Nd} (h : RawOk w B r z) {K : Nat → Prop} (hK : ∀ j, B ≤ j → K j) : Ints K w (adO r.nb) r.nl r.nl z.next := by
  have hn := h.nb; have hl := h.nl; have hm := h.n1000
  cases hnb : r.nb with
  | none =>
    rw [hnb] at hn
    have e : z.next = [] := by
      have : (ivs z.next).length = 0 := by rw [show ivs z.next = [] from hn]; rfl
      rw [ivs_length] at this
      exact List.length_eq_zero_iff.1 this
    rw [e] at hl ⊢
    rw [show r.nl = 0 from hl]
    exact Row.nil _ _ _ _ _ (by omega)
  | some b =>
    rw [hnb] at hn
    exact ⟨hl.symm, Nat.le_refl _, by omega, by omega, fun i x hx => ⟨b, 0, rfl, hK b hn.2, hn.1.lt, by rw [Nat.zero_add, Nat.mul_one]; exact hn.1.cell (ivs_get hx), h.ni x (List.mem_of_getElem? hx)⟩⟩
theorem raw_acc {w : World} {B : Nat} {r : RawN} {z : Nd} (h : RawOk w B r z) {K : Nat → Prop} (hK : ∀ j, B ≤ j → K j) : Row RAcc 3 K w (adO r.ab) r.al r.al z.acc := by
  have hn := h.ab; have hl := h.al; have hm := h.n1000
  cases hnb : r.ab with
  | none =>
    rw [hnb] at hn
    have e : z.acc = [] := by
      cases hz : z.acc with
      | nil => rfl
      | cons a l => rw [hz] at hn; simp [BlkO, acC] at hn
    rw [e] at hl ⊢
    rw [show r.al = 0 from hl]
    exact Row.nil _ _ _ _ _ (by omega)
  | some b =>
    rw [hnb] at hn
    refine ⟨hl.symm, Nat.le_refl _, by omega, by omega, fun i x hx => ⟨b, 0, rfl, hK b hn.2, hn.1.lt, ?_⟩⟩
    have hi := h.ai x (List.mem_of_getElem? hx)
    rw [Nat.zero_add]
    exact ⟨hn.1.cell (acC_get (j := 0) hx rfl), hn.1.cell (acC_get (j := 1) hx rfl), hn.1.cell (acC_get (j := 2) hx rfl), hi⟩
theorem flat_nds {w : World} {B B' n c k : Nat} {a : Option Addr} {rs : List RawN} {zs : List Nd} (h : w.ownsRow B 70 4 (.slice a n c) k (ncs rs)) (hr : RawsOk w B' rs zs) (hm : k ≤ 1000000) {K : Nat → Prop} (hK : ∀ j, B ≤ j → K j) (hK' : ∀ j, B' ≤ j → K j) : NdL K w a n c zs := by
  have hlen : rs.length = k := by have := h.1; rw [ncs_len] at this; omega
  obtain ⟨h1, h2, h3⟩ := flat_len h
  refine ⟨by rw [← hr.len]; omega, h2, by unfold maxLen at h3; omega, by omega, fun i z hz => ?_⟩
  have hi := (List.getElem?_eq_some_iff.1 hz).1
  rw [← hr.len] at hi
  obtain ⟨r, hri⟩ : ∃ r, rs[i]? = some r := ⟨_, List.getElem?_eq_getElem hi⟩
  have ro := hr.ok i r z hri hz
  obtain ⟨g, rfl, g1, g2, _, _, _, hc⟩ := flat_cells h (by omega)
  refine ⟨g, 0, rfl, hK g g1, g2, ?_⟩
  rw [Nat.zero_add]
  have c0 := hc _ _ (ncs_get (j := 0) hri rfl); have c1 := hc _ _ (ncs_get (j := 1) hri rfl); have c2 := hc _ _ (ncs_get (j := 2) hri rfl); have c3 := hc _ _ (ncs_get (j := 3) hri rfl)
  rw [ro.f] at c0; rw [ro.c] at c1
  exact ⟨c0, c1, ro.fi, ro.ci, ⟨_, _, _, c2, raw_next ro hK'⟩, ⟨_, _, _, c3, raw_acc ro hK'⟩⟩
theorem in_of {x : Ins} (h : chkI x = 0) : x.In := by
  obtain ⟨k0, k1, a0, a1, b0, b1, c0, c1, o0, o1, i0, i1⟩ := small_of h
  constructor <;> (unfold I64; omega)
/-- The image, done. -/
theorem StAt.img {n : Nat} {code : List Ins} {nds : List Nd} (h : StAt w d (n + 1) (n + 1) (code ++ [iEnd]) (nds ++ [ndE n]) cv nv raws wr) (s : StOk n n code nds) (hn : n ≤ 1000) {w' : World} {bu : Nat} (b : Chg (fun j => j < w.heap.size + 3) wr w') (hb : Has w' bu [.string ESTR, nv, NIL, NIL, NIL, NIL, NIL, NIL, NIL, NIL]) (hbu : w.heap.size + 3 ≤ bu) :
    ∃ ca cc, cv = .slice ca (n + 1) cc ∧ IsImg (Ge (w.heap.size + 3)) w' ca (n + 1) cc 6 (some ⟨bu, 0, none⟩) 1 1 (stImg n code nds) := by
  obtain ⟨ca, cc, rfl⟩ := flat_form h.code
  obtain ⟨na, nc, rfl⟩ := flat_form h.nodes
  refine ⟨ca, cc, rfl, ?_, rfl, by show I64 6; unfold I64; omega, ?_⟩
  · exact Row.chg RIns.stays (flat_ins h.code (fun x hx => in_of (st_good s x hx)) (by omega) (fun j hj => by unfold Ge; omega)) b (fun j hj e => by unfold Ge at hj; omega)
  · have hN : NdL (Ge (w.heap.size + 3)) wr na (n + 1) nc (nds ++ [ndE n]) := flat_nds h.nodes h.raw (by omega) (fun j hj => by unfold Ge; omega) (fun j hj => by unfold Ge; omega)
    refine ⟨rfl, by omega, by omega, by omega, fun i x hx => ?_⟩
    match i, hx with
    | 0, hx =>
      cases hx
      refine ⟨bu, 0, rfl, hbu, hb.lt (by simp), ⟨_, hb.cell 0 _ rfl⟩, ⟨_, _, _, hb.cell 1 _ rfl, Row.chg RNd.stays hN b (fun j hj e => by unfold Ge at hj; omega)⟩, fun i h1 h2 => ?_⟩
      rw [Nat.zero_mul, Nat.zero_add]
      match i, h1, h2 with
      | 2, _, _ => exact hb.cell 2 _ rfl
      | 3, _, _ => exact hb.cell 3 _ rfl
      | 4, _, _ => exact hb.cell 4 _ rfl
      | 5, _, _ => exact hb.cell 5 _ rfl
      | 6, _, _ => exact hb.cell 6 _ rfl
      | 7, _, _ => exact hb.cell 7 _ rfl
      | 8, _, _ => exact hb.cell 8 _ rfl
      | 9, _, _ => exact hb.cell 9 _ rfl
    | i + 1, hx => simp [stImg] at hx
end Go.Proofs.Ytonbmijhbbodnaa
