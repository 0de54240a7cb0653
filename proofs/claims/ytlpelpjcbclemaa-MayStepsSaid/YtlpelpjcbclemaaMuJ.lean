/-
  The document's Copy and Top: lists of lists that are built by append.
-/
import Derived.Test.YtlpelpjcbclemaaMuI
namespace Go.Proofs.Ytlpelpjcbclemaa
open Go.RowKit

/-- A list that is built by append, in blocks from B to N. -/
def LstN {α : Type} (R : Ow α) (t : TypeId) (B N : Nat) (w : World) (v : Value) (xs : List α) : Prop := ∃ us fq, Grw R t w B N v us fq xs
theorem LstN.nil {α : Type} (R : Ow α) (t : TypeId) {w : World} {B : Nat} (h : B ≤ w.heap.size) : LstN R t B B w (.slice none 0 0) [] := ⟨_, _, Grw.nil _ _ _ _ h⟩
theorem LstN.chg {α : Type} {R : Ow α} (hR : Local R) {t : TypeId} {B N : Nat} {M : Nat → Prop} {w w' : World} {v : Value} {xs : List α} (r : LstN R t B N w v xs) (h : Chg M w w') (hM : ∀ k, B ≤ k → k < N → ¬ M k) : LstN R t B N w' v xs := by
  obtain ⟨us, fq, g⟩ := r; exact ⟨us, fq, g.chg hR h hM⟩
theorem LstN.call {α : Type} {R : Ow α} (hR : Local R) {t : TypeId} {B N : Nat} {w w' : World} {v : Value} {xs : List α} (r : LstN R t B N w v xs) (h : Below w.heap.size w w') : LstN R t B N w' v xs := by
  obtain ⟨us, fq, g⟩ := r; exact ⟨us, fq, g.below hR h⟩
theorem LstN.alloc {α : Type} {R : Ow α} (hR : Local R) {t : TypeId} {B N : Nat} {w : World} {v : Value} {xs : List α} (r : LstN R t B N w v xs) (o : Obj) : LstN R t B N (w.alloc o) v xs := r.call hR ((Below.refl _ _).alloc (Nat.le_refl _) o)
theorem LstN.form {α : Type} {R : Ow α} {t : TypeId} {B N : Nat} {w : World} {v : Value} {xs : List α} (r : LstN R t B N w v xs) {n : Nat} (h : xs.length = n) : ∃ a cap, v = .slice a n cap := by obtain ⟨us, fq, g⟩ := r; exact g.form h
theorem LstN.done {α : Type} {R : Ow α} {t : TypeId} {B N : Nat} {w : World} {v : Value} {xs : List α} (r : LstN R t B N w v xs) (hl : xs.length ≤ 17592186044416) : OwnRow R t w (Ge B) v xs := by obtain ⟨us, fq, g⟩ := r; exact g.done hl
theorem LstN.bd {α : Type} {R : Ow α} {t : TypeId} {B N : Nat} {w : World} {v : Value} {xs : List α} (r : LstN R t B N w v xs) : B ≤ N ∧ N ≤ w.heap.size := by obtain ⟨us, fq, g⟩ := r; exact ⟨g.hB, g.hN⟩
def AppdN {α : Type} (R : Ow α) (t : TypeId) (B N n : Nat) (xs : List α) (w : World) (g cap : Nat) (w' : World) : Prop := LstN R t B w'.heap.size w' (.slice (some ⟨g, 0, none⟩) (n + 1) cap) xs ∧ Chg (fun k => B ≤ k ∧ k < N) w w'
theorem wpList_append_g {P : Program} {w : World} {ops : Array Oper} {rest : List Oper} {o : Oper} {a : Act} {Q : Exit → Act → World → Prop} (n : Nat) (hgd : o.guard = none) (s y : Operand) (t : TypeId)
    (ho : o.op = .call { callee := .builtin .append, args := #[s, y], argTypes := #[t, t] }) (e : TypeId) (ht : P.underlying t = some (.slice e)) {z : Value} {bytes : Nat} (hinfo : (P.info? e).map (fun i => (i.zero, i.size, i.bytes)) = some (some z, 1, bytes)) (hz : z.cells.size = 1)
    {α : Type} {R : Ow α} (hR : Local R) {B N : Nat} {v : Value} {xs : List α} (r : LstN R e B N w v xs) (hs : a.eval s = v)
    (ab : Nat) (u : Value) (t' : TypeId) (hb : Blk w ab t' [u]) (hy : a.eval y = .slice (some ⟨ab, 0, none⟩) 1 1) {f : Nat → Prop} {x : α} (hx : R w f u x) (hf : ∀ k, f k → N ≤ k ∧ k < w.heap.size) (h1 : u.oneCell' = true)
    (hn : xs.length = n) (h63 : n < 1000000) (hby : bytes ≤ 1000)
    (h : ∀ g cap w', Hid (AppdN R e B N n (xs ++ [x]) w g cap w') → wpList P ops Q rest (a.put o.dst (.slice (some ⟨g, 0, none⟩) (n + 1) cap)) w') : wpList P ops Q (o :: rest) a w := by
  obtain ⟨us, fq, q⟩ := r
  refine wpList_append_n n hgd s y t ho e ht hinfo hz hR q hs ab u t' hb hy hx hf h1 hn h63 hby ?_
  intro g cap w' hap
  refine h g cap w' ⟨?_, hap.out.chg.mono fun k _ hk => q.own k hk⟩
  have := hap.out.grw
  rw [hn] at this
  exact ⟨_, _, this⟩
theorem step_append_g {P : Program} {ops : Array Oper} {o : Oper} {a : Act} {w : World} {K : Act → World → Prop} {Q : Exit → Act → World → Prop} {E : Prop} (n : Nat) (hgd : o.guard = none) (s y : Operand) (t : TypeId)
    (ho : o.op = .call { callee := .builtin .append, args := #[s, y], argTypes := #[t, t] }) (e : TypeId) (ht : P.underlying t = some (.slice e)) {z : Value} {bytes : Nat} (hinfo : (P.info? e).map (fun i => (i.zero, i.size, i.bytes)) = some (some z, 1, bytes)) (hz : z.cells.size = 1)
    {α : Type} {R : Ow α} (hR : Local R) {B N : Nat} {v : Value} {xs : List α} (r : LstN R e B N w v xs) (hs : a.eval s = v)
    (ab : Nat) (u : Value) (t' : TypeId) (hb : Blk w ab t' [u]) (hy : a.eval y = .slice (some ⟨ab, 0, none⟩) 1 1) {f : Nat → Prop} {x : α} (hx : R w f u x) (hf : ∀ k, f k → N ≤ k ∧ k < w.heap.size) (h1 : u.oneCell' = true)
    (hn : xs.length = n) (h63 : n < 1000000) (hby : bytes ≤ 1000)
    (h : ∀ g cap w', Hid (AppdN R e B N n (xs ++ [x]) w g cap w') → K (a.put o.dst (.slice (some ⟨g, 0, none⟩) (n + 1) cap)) w') : if Region.wanted o (yielded ops a.tmps) = true then Oper.wp P o a w K Q else E := by
  obtain ⟨us, fq, q⟩ := r
  refine step_append_n n hgd s y t ho e ht hinfo hz hR q hs ab u t' hb hy hx hf h1 hn h63 hby ?_
  intro g cap w' hap
  refine h g cap w' ⟨?_, hap.out.chg.mono fun k _ hk => q.own k hk⟩
  have := hap.out.grw
  rw [hn] at this
  exact ⟨_, _, this⟩
theorem take_snoc' {α : Type} {m : List α} {k : Nat} {x : α} (h : m[k]? = some x) : m.take (k + 1) = m.take k ++ [x] := by rw [List.take_add_one, h]; rfl
theorem take_len {α : Type} {m : List α} {k : Nat} (h : k ≤ m.length) : (m.take k).length = k := by rw [List.length_take]; omega

set_option maxHeartbeats 4000000 in
theorem rcopy3_any (K : Nat → Prop) (a : Option Addr) (len cap : Nat) (m : List (List (List Int))) (w : World) (r : Cube K w a len cap m) (hf : Fews m) :
    Calls Try.prog 53 #[.slice a len cap] w (CubRet m w) := by
  have hl := r.hlen
  subst hl
  have hml := hf.1
  have HR := Lib.hid r; have HF := Lib.hid hf.2
  clear r hf
  go_enter Try.func53, Try.ntmps53
  go_wp2
  go_loopw [3, 11] (fun v i wr => ∃ k N : Nat, k ≤ m.length ∧ i = .int .i64 k ∧ LstN OMat 42 w.heap.size N wr v (m.take k) ∧ Below w.heap.size w wr) (fun _ i _ => m.length - (intOf i).toNat)
  case atStart => exact ⟨0, _, Nat.zero_le _, rfl, LstN.nil _ _ (Nat.le_refl _), Below.refl _ _⟩
  case round =>
    obtain ⟨k, N, hk, rfl, ho, hB⟩ := hrel
    have hsz := hB.size
    obtain ⟨va, vc, rfl⟩ := ho.form (take_len hk)
    have O1 := Lib.hid ho; have B1 := Lib.hid hB
    have hN := ho.bd
    clear ho hB
    by_cases hlt : k < m.length
    · obtain ⟨gb, go, g, ra, rl, rc, rfl, hx, hcw, hrx, _, hbw⟩ := Rows.get HR.out hlt
      have hrl := hrx.hlen; have hr6 := hrx.hsz
      subst hrl
      obtain ⟨hg1, hg2⟩ := HF.out g (List.mem_of_getElem? hx)
      have hcw' := (B1.out.cell (p := ⟨gb, go + k, none⟩) hbw).trans hcw
      have HX := Lib.hid hx; have RX := Lib.hid hrx; have HG := Lib.hid hg2
      clear hx hcw hrx hg2
      obtain ⟨wo, hwo⟩ : ∃ wo : World, wo = wr := ⟨_, rfl⟩
      subst hwo
      go_wp2
      go_loopw [6, 17] (fun v i wr => ∃ j M : Nat, j ≤ g.length ∧ i = .int .i64 j ∧ LstN OInts 22 wo.heap.size M wr v (g.take j) ∧ LstN OMat 42 w.heap.size N wr (.slice va k vc) (m.take k) ∧ Below w.heap.size w wr ∧ wo.heap.size ≤ wr.heap.size) (fun _ i _ => g.length - (intOf i).toNat)
      case atStart => exact ⟨0, _, Nat.zero_le _, rfl, LstN.nil _ _ (Nat.le_refl _), O1.out, B1.out, Nat.le_refl _⟩
      case round =>
        obtain ⟨j, M, hj, rfl, hq, ho, hB, hws⟩ := hrel
        have hsz2 := hB.size
        obtain ⟨qa, qc, rfl⟩ := hq.form (take_len hj)
        have Q2 := Lib.hid hq; have O2 := Lib.hid ho; have B2 := Lib.hid hB
        have hM := hq.bd
        clear hq ho hB
        by_cases hlj : j < g.length
        · obtain ⟨lb, lo, l, la, ll, lc, rfl, hz, hcz, hrz, _, hbz⟩ := Rows.get RX.out hlj
          have hcz' := (B2.out.cell (p := ⟨lb, lo + j, none⟩) hbz).trans hcz
          have hql := HG.out l (List.mem_of_getElem? hz)
          have hlql := hrz.hlen
          subst hlql
          have HZ := Lib.hid hz
          have RZ := Lib.hid (show Ints K wr la l.length lc l from hrz.keeps RInt.stays (fun i _ hi => B2.out.block i hi) B2.out.size)
          have TL := Lib.hid (take_len (m := g) hj)
          clear hz hcz hrz
          go_wp2_with (first
            | (at_builtin; refine wpList_append_row rfl _ (.tmp 22) 22 rfl Try.underlying22 info_int (Lst.nil (B := wr.heap.size) (Nat.le_refl _)) rfl RZ.out rfl (by simp; omega) ?_; intro v5 w5 hap; have L5 := Lib.hid (hap.out.1.done (by simp; omega)).lt; have B5 := Lib.hid hap.out.2; obtain ⟨v5n, v5a, v5c, rfl⟩ : ∃ n a c, v5 = .slice a n c := (by obtain ⟨a, c, h⟩ := L5.out.form; exact ⟨_, a, c, h⟩); have s5 := B5.out.size; have Q5 := Lib.hid ((Q2.out.call OInts.loc B5.out).alloc OInts.loc (.cells #[.slice v5a v5n v5c] 22)); have L6 := Lib.hid (OInts.loc.below L5.out ((Below.refl _ _).alloc (Nat.le_refl _) (.cells #[.slice v5a v5n v5c] 22))); clear hap)
            | (at_builtin; refine wpList_append_g j rfl (.tmp 21) (.tmp 24) 42 rfl 22 Try.underlying42 info_sl rfl OInts.loc Q5.out rfl w5.heap.size (.slice v5a v5n v5c) 22 (Blk.new w5 [.slice v5a v5n v5c] 22) rfl L6.out (fun i hi => ⟨by have := hi.1; unfold Ge at this; omega, by have := hi.2; simp; omega⟩) rfl TL.out (by omega) (by decide) ?_; intro g7 c7 w7 hap))
          have Q7 := Lib.hid hap.out.1
          have C7 := Lib.hid (show Chg (fun i => wo.heap.size ≤ i ∧ i < M) wr w7 from ((Chg.of_below B5.out).alloc _).trans hap.out.2 (fun _ _ h => h))
          have O7 := Lib.hid (O2.out.chg OMat.loc C7.out (fun i _ hi h => by omega))
          have B7 := Lib.hid (B2.out.trans (C7.out.below (fun i hi h => by omega) hsz2))
          have W7 := C7.out.size
          have TS := Lib.hid (take_snoc' HZ.out)
          clear hap
          go_roundw
          case rel => exact ⟨j + 1, _, by omega, by go_num, by rw [TS.out]; exact Q7.out, O7.out, B7.out, by omega⟩
          case measure => simp [intOf]; omega
        · have hjl : j = g.length := by omega
          subst hjl
          rw [List.take_length] at Q2
          have L6 := Lib.hid (OMat.loc.below (Q2.out.done (by omega)).lt ((Below.refl _ _).alloc (Nat.le_refl _) (.cells #[.slice qa g.length qc] 42)))
          have O6 := Lib.hid (O2.out.alloc OMat.loc (.cells #[.slice qa g.length qc] 42))
          have TL := Lib.hid (take_len (m := m) hk)
          go_wp2_with (at_builtin; refine wpList_append_g k rfl (.tmp 27) (.tmp 29) 29 rfl 42 Try.underlying29 info_sl2 rfl OMat.loc O6.out rfl wr.heap.size (.slice qa g.length qc) 42 (Blk.new wr [.slice qa g.length qc] 42) rfl L6.out (fun i hi => ⟨by have := hi.1; unfold Ge at this; omega, by have := hi.2; simp; omega⟩) rfl TL.out (by omega) (by decide) ?_; intro g7 c7 w7 hap)
          have Q7 := Lib.hid hap.out.1
          have C7 := Lib.hid (show Chg (fun i => w.heap.size ≤ i ∧ i < N) wr w7 from ((Chg.refl wr).alloc _).trans hap.out.2 (fun _ _ h => h))
          have B7 := Lib.hid (B2.out.trans (C7.out.below (fun i hi h => by omega) hsz2))
          have TS := Lib.hid (take_snoc' HX.out)
          clear hap
          go_roundw
          case rel => exact ⟨k + 1, _, by omega, by go_num, by rw [TS.out]; exact Q7.out, B7.out⟩
          case measure => simp [intOf]; omega
    · have hkl : k = m.length := by omega
      subst hkl
      rw [List.take_length] at O1
      go_wp2
      go_ret
      exact ⟨_, _, _, rfl, O1.out.done (by omega), B1.out⟩
end Go.Proofs.Ytlpelpjcbclemaa
