/-
  Small laws for the walk of InstrMade: one cell of an argument; an append in a region that draws; a byte that is changed.
-/
import Derived.Test.YtonbmijhbbodnaaInT
import Derived.Test.YtonbmijhbbodnaaInV
import Derived.Laws.BitsAllLaws
import Derived.Test.YtonbmijhbbodnaaDeck
namespace Go.Proofs.Ytonbmijhbbodnaa
open Go.RowKit

theorem IsRow.get {k : IntKind} {w : World} {a : Option Addr} {len cap : Nat} {zs : List Int} (h : IsRow k w a len cap zs) {i : Nat} (hi : i < len) :
    ∃ b o, a = some ⟨b, o, none⟩ ∧ w.cell? ⟨b, o + i, none⟩ = some (.int k (zs.getD i 0)) ∧ b < w.heap.size ∧ (Lit.int k (zs.getD i 0)).wf = true := by
  have hh := h
  rcases h with ⟨rfl, rfl, rfl, rfl⟩ | ⟨x, rfl, h1, h2, h3, h4, h5⟩
  · omega
  · obtain ⟨b, o, rfl⟩ := hh.place (by omega)
    have hc := add_at _ _ _ _ (h4 i (by omega)) b o rfl
    refine ⟨b, o, rfl, hc, World.block_lt_of_cell? w _ hc, h5 _ ?_⟩
    rw [List.getD_eq_getElem?_getD, List.getElem?_eq_getElem (show i < zs.length by omega)]
    exact List.getElem_mem _
theorem wf_u8 {z : Int} (h : (Lit.int .u8 z).wf = true) : 0 ≤ z ∧ z ≤ 255 := by simpa [Lit.wf, IntKind.min, IntKind.max, IntKind.signed, IntKind.bits] using h
theorem wf_i32 {z : Int} (h : (Lit.int .i32 z).wf = true) : -2147483648 ≤ z ∧ z ≤ 2147483647 := by simpa [Lit.wf, IntKind.min, IntKind.max, IntKind.signed, IntKind.bits] using h
theorem wf_i64 {z : Int} (h : (Lit.int .i64 z).wf = true) : -9223372036854775808 ≤ z ∧ z ≤ 9223372036854775807 := by simpa [Lit.wf, IntKind.min, IntKind.max, IntKind.signed, IntKind.bits] using h
theorem step_append_flat {P : Program} {ops : Array Oper} {o : Oper} {a : Act} {w : World} {K : Act → World → Prop} {Q : Exit → Act → World → Prop} {E : Prop} (hgd : o.guard = none) (s y : Operand) (t : TypeId)
    (ho : o.op = .call { callee := .builtin .append, args := #[s, y], argTypes := #[t, t] }) (e : TypeId) (ht : P.underlying t = some (.slice e)) {z : Value} {sz bytes : Nat} (hinfo : (P.info? e).map (fun i => (i.zero, i.size, i.bytes)) = some (some z, sz, bytes)) (hz : z.cells.size = sz) (hsz : 0 < sz)
    {B : Nat} {v : Value} {n : Nat} {cs : List Value} (r : w.ownsRow B e sz v n cs) (hs : a.eval s = v) (hB : B ≤ w.heap.size)
    (ad : Addr) (m c : Nat) (news : List Value) (hy : a.eval y = .slice (some ad) m c) (hl : news.length = m * sz) (hnews : ∀ j u, news[j]? = some u → w.cell? (ad.add j) = some u) (h1 : ∀ u ∈ news, u.oneCell' = true)
    (hm : 0 < m) (h63 : n + m ≤ 1000000) (hby : bytes ≤ 1000)
    (h : ∀ g cap w', Hid (FApp e sz B v n m cs news w w' (.slice (some ⟨g, 0, none⟩) (n + m) cap)) → K (a.put o.dst (.slice (some ⟨g, 0, none⟩) (n + m) cap)) w') :
    if Region.wanted o (yielded ops a.tmps) = true then Oper.wp P o a w K Q else E := by
  obtain ⟨i, hi, hzz⟩ := Option.map_eq_some_iff.1 hinfo
  simp only [Prod.mk.injEq] at hzz
  refine step_append_lies w hgd s y t ho B e i z sz bytes ht hi hzz.1 hzz.2.1 hzz.2.2 hz hsz v n cs hs r ad m c news hy hl hnews h1 hm (by unfold maxLen; omega) (Nat.le_trans (Nat.mul_le_mul h63 hby) (by decide)) hB w.heap.size rfl ?_
  intro g cap w' hown hgrow _ _
  exact h g cap w' ⟨hown, Chg.of_grown hgrow⟩
theorem flat_free {w : World} {B : Nat} {e : TypeId} {size : Nat} {g n c k : Nat} {xs : List Value} (h : w.ownsRow B e size (.slice (some ⟨g, 0, none⟩) n c) k xs) : ∀ o, w.frozen? ⟨g, o, none⟩ = false := fun o => by
  rcases h.2 with ⟨h1, _⟩ | ⟨g', cap, cur, h1, h2, h3, _⟩
  · cases h1
  · cases h1
    simp [World.frozen?, h3]
theorem Bytes.setc {K : Nat → Prop} {w : World} {b o len cap : Nat} {xs : List Int} (r : Bytes K w (some ⟨b, o, none⟩) len cap xs) {i : Nat} (_hi : i < len) {y : Int} (hy : 0 ≤ y ∧ y ≤ 255) : Bytes K (w.setCell ⟨b, o + i, none⟩ (.int .u8 y)) (some ⟨b, o, none⟩) len cap (xs.set i y) := by
  refine ⟨by rw [List.length_set]; exact r.hlen, r.hcap, r.hmax, r.hsz, fun j x hx => ?_⟩
  have hj := (List.getElem?_eq_some_iff.1 hx).1
  rw [List.length_set] at hj
  obtain ⟨b1, o1, z1, e1, hz1, hc1, _, _, hK, hb⟩ := Bytes.get r (show j < len by rw [← r.hlen]; exact hj)
  cases e1
  refine ⟨b, o, rfl, hK, by simpa using hb, ?_⟩
  rw [Nat.mul_one]
  rw [List.getElem?_set] at hx
  by_cases e : i = j
  · subst e
    rw [if_pos rfl, if_pos hj] at hx
    cases hx
    exact ⟨World.cell?_setCell_same w _ _ hc1, hy⟩
  · rw [if_neg e] at hx
    obtain ⟨b2, o2, e2, _, _, h2⟩ := r.row j x hx
    cases e2
    rw [Nat.mul_one] at h2
    exact ⟨(World.cell?_setCell_other w ⟨b, o + i, none⟩ ⟨b, o + j, none⟩ _ (fun h => e (by injection h with _ h2; omega))).trans h2.1, h2.2⟩
theorem byt_set {xs : List Int} (h : Byt xs) (i : Nat) {y : Int} (hy : 0 ≤ y ∧ y ≤ 255) : Byt (xs.set i y) := fun z hz => by
  rcases List.mem_or_eq_of_mem_set hz with h1 | h1
  · exact h z h1
  · subst h1; exact hy
theorem xor_byt {x y : Int} (hx : 0 ≤ x ∧ x ≤ 255) (hy : 0 ≤ y ∧ y ≤ 255) : 0 ≤ bits .xor .u8 x y ∧ bits .xor .u8 x y ≤ 255 := by
  rw [u8_xor x y hx.1 (by omega) hy.1 (by omega)]
  have : x.toNat ^^^ y.toNat < 2 ^ 8 := Nat.xor_lt_two_pow (by omega) (by omega)
  omega
theorem zI_in {K A B C O N M L : Int} (h1 : 0 ≤ K ∧ K ≤ 10) (h2 : 0 ≤ A ∧ A < 8) (h3 : 0 ≤ B ∧ B < 8) (h4 : 0 ≤ C ∧ C < 8) (h5 : 1 ≤ O ∧ O ≤ 14) (h6 : -2147483648 ≤ N ∧ N ≤ 2147483647) (h7 : 0 ≤ M ∧ M < 1000) (h8 : 0 ≤ L ∧ L < 4) : (zI K A B C O N M L).In := by
  unfold zI
  repeat' split
  all_goals (constructor <;> (unfold I64; dsimp only; omega))
theorem ofB_in {k a b c n : Int} (hn : -2147483648 ≤ n ∧ n ≤ 2147483647) : (ofB k a b c n).In := by
  unfold ofB
  exact zI_in (by omega) (by omega) (by omega) (by omega) (by omega) hn (by omega) (by omega)
theorem ofI_in {k a b c n : Int} (hn : -2147483648 ≤ n ∧ n ≤ 2147483647) : (ofI k a b c n).In := by
  have h := ofB_in (k := k) (a := a) (b := b) (c := c) hn
  have hc : 0 ≤ (ofB k a b c n).c ∧ (ofB k a b c n).c < 8 := by unfold ofB; exact zI_c (by omega)
  unfold ofI
  split
  · exact ⟨h.k, h.a, h.b, ⟨by dsimp only; omega, by dsimp only; omega⟩, h.op, h.imm⟩
  · exact h
end Go.Proofs.Ytonbmijhbbodnaa
