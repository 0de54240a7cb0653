/-
  ages.Use: the ages in a set behind the use of a line.
  append of a whole row; one element of a list of lists in the midst of a walk. Small laws.
-/
import Derived.Maps.AppendAt
import Derived.Lib.AppendZeros
import Derived.Test.YtlpelpjcbclemaaMuF
import Derived.Test.YtlpelpjcbclemaaCacheD
namespace Go.Proofs.Ytlpelpjcbclemaa
open Go.RowKit

/-- Lines of few numbers. -/
structure Lns (U : List Int) (P : Int → Prop) : Prop where
  sub : ∀ x, P x → x ∈ U ∧ 0 ≤ x ∧ x ≤ 1048576
  len : U.length ≤ 1000
theorem Lns.short {U : List Int} {P : Int → Prop} (h : Lns U P) {W : Nat} {g : List (List Int)} (hg : WSet P W g) : ∀ (i : Nat) l, g[i]? = some l → Asc l ∧ l.length ≤ 10000 := fun i l hl =>
  ⟨hg.asc i l hl, by
    have := asc_short (U := U) (hg.asc i l hl) fun x hx => (h.sub x (hg.mem i x ⟨l, hl, hx⟩)).1
    have := h.len; omega⟩
theorem Lns.range {U : List Int} {P : Int → Prop} (h : Lns U P) {x : Int} (hx : P x) : -9223372036854775808 ≤ x ∧ x ≤ 9223372036854775807 := by have := h.sub x hx; omega
theorem OMat.nils {w : World} {fp : Nat → Prop} {b n : Nat} (h : Blk w b 22 (zeros (.slice none 0 0) n)) (hf : fp b) (hn : n ≤ 1000000) : OMat w fp (.slice (some ⟨b, 0, none⟩) n n) (List.replicate n []) := by
  refine .inr ⟨b, n, zeros (.slice none 0 0) n, [], fun _ _ => False, by rw [List.length_replicate], ⟨by rw [List.append_nil]; exact h, by rw [zeros_length, List.length_replicate], by simp, by omega, by rw [List.length_replicate]; omega, hf, fun i x hx => ?_, fun _ _ _ h => h.elim, fun _ _ _ _ _ h => h.elim⟩⟩
  rw [List.getElem?_replicate] at hx
  split at hx
  · cases hx; exact ⟨_, zeros_get (by assumption), .inl ⟨rfl, rfl⟩⟩
  · cases hx
def MatRet (g : List (List Int)) (w : World) (e : Ending) (w' : World) : Prop := ∃ v, e = .returned v ∧ OMat w' (Ge w.heap.size) v g ∧ Below w.heap.size w w'
/-- What an operation in place leaves of a list that a call owns from B on. -/
theorem OMat.step {B : Nat} {w w' : World} {v : Value} {g : List (List Int)} (r : OMat w' (Grown (Ge B) w) v g) (hB : B ≤ w.heap.size) : OMat w' (Ge B) v g := OwnRow.wid _ w' _ _ v g (fun _k hk => hk.elim id (fun h => Nat.le_trans hB h)) r
end Go.Proofs.Ytlpelpjcbclemaa
namespace Go.Proofs.Ytlpelpjcbclemaa
open Go.RowKit

theorem Lst.owns {B : Nat} {w : World} {v : Value} {xs : List Int} (h : Lst B w v xs) : w.ownsRow B 3 1 v xs.length (ivs xs) ∧ (∀ z ∈ xs, -9223372036854775808 ≤ z ∧ z ≤ 9223372036854775807) ∧ (∀ k, v.ownBlock = some k → B ≤ k ∧ k < w.heap.size) ∧ B ≤ w.heap.size := by
  obtain ⟨M, us, fq, g⟩ := h
  have e : us = ivs xs := by
    apply List.ext_getElem?
    intro i
    rcases Nat.lt_or_ge i xs.length with hi | hi
    · obtain ⟨u, hu, hr⟩ := g.row i _ (List.getElem?_eq_getElem hi)
      rw [hu, hr.1, ivs_get (List.getElem?_eq_getElem hi)]
    · have hl := g.owns.1
      rw [List.getElem?_eq_none (by omega), List.getElem?_eq_none (by rw [ivs_length]; exact hi)]
  subst e
  refine ⟨g.owns, fun z hz => ?_, fun k hk => ⟨(g.own k hk).1, Nat.lt_of_lt_of_le (g.own k hk).2 g.hN⟩, Nat.le_trans g.hB g.hN⟩
  obtain ⟨i, hi⟩ := List.getElem?_of_mem hz
  obtain ⟨_, _, hr⟩ := g.row i z hi
  exact hr.2
theorem Lst.of {B : Nat} {w : World} {v : Value} {xs : List Int} (h : w.ownsRow B 3 1 v xs.length (ivs xs)) (hr : ∀ z ∈ xs, -9223372036854775808 ≤ z ∧ z ≤ 9223372036854775807) (ho : ∀ k, v.ownBlock = some k → B ≤ k ∧ k < w.heap.size) (hB : B ≤ w.heap.size) : Lst B w v xs :=
  ⟨w.heap.size, ivs xs, fun _ _ => False, h, fun _i x e => ⟨_, ivs_get e, rfl, hr x (List.mem_of_getElem? e)⟩, fun _ _ _ h => h.elim, fun _ _ _ _ _ h => h.elim, ho, hB, Nat.le_refl _⟩
theorem Ints.range {K : Nat → Prop} {w : World} {a : Option Addr} {len cap : Nat} {xs : List Int} (r : Ints K w a len cap xs) : ∀ z ∈ xs, -9223372036854775808 ≤ z ∧ z ≤ 9223372036854775807 := fun z hz => by
  obtain ⟨i, hi⟩ := List.getElem?_of_mem hz
  obtain ⟨b, o, _, _, _, h⟩ := r.row i z hi
  exact h.2
theorem append_none {P : Program} (w : World) (base : Nat) (t ty e : TypeId) (i : TypeInfo) (size : Nat) (ht : P.underlying t = some (.slice e)) (hi : P.info? e = some i)
    (v : Value) (n : Nat) (xs : List Value) (hown : w.ownsRow base e size v n xs) (c : Nat) : (Builtin.append_ #[t, t] ty #[v, .slice none 0 c]).run P w = .ok v w := by
  rcases hown.2 with ⟨rfl, rfl⟩ | ⟨g, cap, cur, rfl, _, _, hnc, _⟩
  · simp [Builtin.append_, run_underlying ht, sizeOf, typeInfo, hi, Builtin.lenOf, Builtin.firstCells]
  · simp [Builtin.append_, run_underlying ht, sizeOf, typeInfo, hi, Builtin.lenOf, Builtin.firstCells, hnc, storeCells]
def Appds (B : Nat) (xs : List Int) (w : World) (v : Value) (w' : World) : Prop := Lst B w' v xs ∧ Below B w w'
theorem run_append_row {P : Program} (w : World) (B : Nat) (t ty : TypeId) (ht : P.underlying t = some (.slice 3)) (hinfo : (P.info? 3).map (fun i => (i.zero, i.size, i.bytes)) = some (some (.int .i64 0), 1, 8))
    {v : Value} {xs : List Int} (r : Lst B w v xs) {L : Nat → Prop} {ra : Option Addr} {m rc : Nat} {ys : List Int} (q : Ints L w ra m rc ys) (hn : xs.length + m ≤ 1000000) :
    ∃ v' w', (Builtin.append_ #[t, t] ty #[v, .slice ra m rc]).run P w = .ok v' w' ∧ Appds B (xs ++ ys) w v' w' := by
  obtain ⟨i, hi, hz0, hz1, hz2⟩ := append_parts hinfo
  obtain ⟨h1, h2, h3, h4⟩ := r.owns
  have hl := q.hlen
  have fin : ∀ ad, ra = some ad → (∀ j u, (ivs ys)[j]? = some u → w.cell? (ad.add j) = some u) → ∃ v' w', (Builtin.append_ #[t, t] ty #[v, .slice (some ad) m rc]).run P w = .ok v' w' ∧ Appds B (xs ++ ys) w v' w' := fun ad _ hc => by
    obtain ⟨v', w', k1, k2, k3, _, k5⟩ := run_append_own_at (P := P) w B t ty 3 i (.int .i64 0) 1 8 ht hi hz0 hz1 hz2 rfl (by omega) v xs.length (ivs xs) h1 ad m rc (ivs ys) (by rw [ivs_length]; omega) hc ivs_one (by unfold maxLen; omega) (Nat.le_trans (Nat.mul_le_mul hn (Nat.le_refl 8)) (by decide)) h4
    refine ⟨v', w', k1, Lst.of (by rw [List.length_append, hl, ivs_append]; exact k2) (fun z hz => ?_) (fun k hk => ?_) (Nat.le_trans h4 k3.size), (Below.refl _ _).grown k3 h4 (fun k hk => (h3 k hk).1)⟩
    · rcases List.mem_append.1 hz with h | h
      · exact h2 z h
      · exact q.range z h
    · rcases k2.2 with ⟨e, _⟩ | ⟨g, cap, cur, e, hg, hb, _⟩
      · rw [e] at hk; simp [Value.ownBlock] at hk
      · rw [e] at hk
        simp [Value.ownBlock] at hk
        subst hk
        exact ⟨hg, (Array.getElem?_eq_some_iff.1 hb).1⟩
  by_cases hm : 0 < m
  · obtain ⟨b, o, rfl, _, _, hc⟩ := q.src hm
    exact fin _ rfl hc
  · have hy : ys = [] := List.eq_nil_of_length_eq_zero (by omega)
    subst hy
    cases ra with
    | none =>
      have hm0 : m = 0 := by omega
      subst hm0
      exact ⟨v, w, append_none w B t ty 3 i 1 ht hi v _ _ h1 rc, by rw [List.append_nil]; exact r, Below.refl _ _⟩
    | some ad => exact fin ad rfl (fun j u h => by simp [ivs] at h)
theorem wpList_append_row {P : Program} {w : World} {ops : Array Oper} {rest : List Oper} {o : Oper} {a : Act} {Q : Exit → Act → World → Prop} (hgd : o.guard = none) (s y : Operand) (t : TypeId)
    (ho : o.op = .call { callee := .builtin .append, args := #[s, y], argTypes := #[t, t] }) (ht : P.underlying t = some (.slice 3)) (hinfo : (P.info? 3).map (fun i => (i.zero, i.size, i.bytes)) = some (some (.int .i64 0), 1, 8))
    {B : Nat} {v : Value} {xs : List Int} (r : Lst B w v xs) (hs : a.eval s = v) {L : Nat → Prop} {ra : Option Addr} {m rc : Nat} {ys : List Int} (q : Ints L w ra m rc ys) (hy : a.eval y = .slice ra m rc) (hn : xs.length + m ≤ 1000000)
    (h : ∀ v' w', Hid (Appds B (xs ++ ys) w v' w') → wpList P ops Q rest (a.put o.dst v') w') : wpList P ops Q (o :: rest) a w := by
  obtain ⟨v', w', k1, k2⟩ := run_append_row (P := P) w B t o.type ht hinfo r q hn
  exact Lib.wpList_append_run w hgd s y t t ho v _ hs hy v' w' k1 (h v' w' k2)
theorem step_append_row {P : Program} {ops : Array Oper} {o : Oper} {a : Act} {w : World} {K : Act → World → Prop} {Q : Exit → Act → World → Prop} {E : Prop} (hgd : o.guard = none) (s y : Operand) (t : TypeId)
    (ho : o.op = .call { callee := .builtin .append, args := #[s, y], argTypes := #[t, t] }) (ht : P.underlying t = some (.slice 3)) (hinfo : (P.info? 3).map (fun i => (i.zero, i.size, i.bytes)) = some (some (.int .i64 0), 1, 8))
    {B : Nat} {v : Value} {xs : List Int} (r : Lst B w v xs) (hs : a.eval s = v) {L : Nat → Prop} {ra : Option Addr} {m rc : Nat} {ys : List Int} (q : Ints L w ra m rc ys) (hy : a.eval y = .slice ra m rc) (hn : xs.length + m ≤ 1000000)
    (h : ∀ v' w', Hid (Appds B (xs ++ ys) w v' w') → K (a.put o.dst v') w') : if Region.wanted o (yielded ops a.tmps) = true then Oper.wp P o a w K Q else E := by
  obtain ⟨v', w', k1, k2⟩ := run_append_row (P := P) w B t o.type ht hinfo r q hn
  have hw : Region.wanted o (yielded ops a.tmps) = true := by simp [Region.wanted, hgd]
  rw [if_pos hw]
  unfold Oper.wp execOp
  simp only [ho, resolve, invoke, builtin, Sem.run_bind, Sem.run_pure, Result.andThen_ok, List.map_toArray, List.map_cons, List.map_nil, hs, hy, k1]
  exact h v' w' k2

/-! ### One element of an owned list of lists -/
structure Pick {α : Type} (R : Ow α) (t : TypeId) (w : World) (fp : Nat → Prop) (v : Value) (X : List α) (k : Nat) (Y : α) (b cap : Nat) (u : Value) (fq : Nat → Prop) : Prop where
  form : v = .slice (some ⟨b, 0, none⟩) X.length cap
  klt : k < X.length
  hcap : X.length ≤ cap
  hmax : cap ≤ 9223372036854775807
  cell : w.cell? ⟨b, k, none⟩ = some u
  free : w.frozen? ⟨b, k, none⟩ = false
  lt : b < w.heap.size
  own : fp b
  nb : ¬ fq b
  sub : ∀ j, fq j → fp j ∧ j < w.heap.size
  elem : R w fq u Y
  same : ∀ (w2 : World) (f : Nat → Prop) (Z : α), Chg fq w w2 → R w2 f u Z → (∀ j, f j → (fq j ∨ w.heap.size ≤ j) ∧ j < w2.heap.size) → OwnRow R t w2 (Grown fp w) v (X.set k Z)
  swap : ∀ (w2 : World) (f : Nat → Prop) (u' : Value) (Z : α), Chg fq w w2 → R w2 f u' Z → (∀ j, f j → (fq j ∨ w.heap.size ≤ j) ∧ j < w2.heap.size) → OwnRow R t (w2.setCell ⟨b, k, none⟩ u') (Grown fp w) v (X.set k Z)
theorem OwnAt.grow {α : Type} {R : Ow α} (hR : Local R) {t : TypeId} {w w2 : World} {fp : Nat → Prop} {b cap : Nat} {vs sp : List Value} {fps : Nat → Nat → Prop} {xs : List α} (r : OwnAt R t w fp b cap vs sp fps xs)
    {i : Nat} (hi : i < xs.length) (h : Chg (fps i) w w2) {f : Nat → Prop} (hf : ∀ k, f k → (fps i k ∨ w.heap.size ≤ k) ∧ k < w2.heap.size) {u : Value} (hu : vs[i]? = some u) {x : α} (hx : R w2 f u x) :
    OwnAt R t w2 (fun k => fp k ∨ w.heap.size ≤ k) b cap vs sp (fun j => if j = i then f else fps j) (xs.set i x) := by
  have hb : ¬ fps i b := fun hk => (r.sub i b hi hk).2.1 rfl
  have hbl := r.blk.lt
  refine ⟨r.blk.chg h hb, by simp only [List.length_set]; exact r.hlen, by rw [List.length_set]; exact r.hcap, r.hmax, by rw [List.length_set]; exact r.hsz, .inl r.own, fun j y hj => ?_, fun j k hj hk => ?_, fun j l k hj hl h1 h2 => ?_⟩
  · rw [List.getElem?_set] at hj
    by_cases e : i = j
    · subst e
      rw [if_pos rfl, if_pos hi] at hj
      cases hj
      refine ⟨u, hu, ?_⟩
      simp only [if_true]
      exact hx
    · rw [if_neg e] at hj
      have hjl := (List.getElem?_eq_some_iff.1 hj).1
      obtain ⟨v, hv, hr⟩ := r.row j y hj
      refine ⟨v, hv, ?_⟩
      rw [if_neg (fun h => e h.symm)]
      exact hR.chg hr h fun k hk _ hm => e (r.apart i j k hi hjl hm hk)
  · simp only [List.length_set] at hj
    split at hk
    · have := hf k hk
      refine ⟨this.1.elim (fun h1 => .inl (r.sub i k hi h1).1) .inr, fun e => ?_, this.2⟩
      subst e
      rcases this.1 with h1 | h1
      · exact hb h1
      · omega
    · have := r.sub j k hj hk
      exact ⟨.inl this.1, this.2.1, Nat.lt_of_lt_of_le this.2.2 h.size⟩
  · simp only [List.length_set] at hj hl
    split at h1 <;> split at h2
    · omega
    · rename_i e1 e2
      rcases (hf k h1).1 with h3 | h3
      · exact absurd (r.apart i l k hi hl h3 h2) (fun e => e2 e.symm)
      · have := (r.sub l k hl h2).2.2; omega
    · rename_i e1 e2
      rcases (hf k h2).1 with h3 | h3
      · exact absurd (r.apart i j k hi hj h3 h1) (fun e => e1 e.symm)
      · have := (r.sub j k hj h1).2.2; omega
    · exact r.apart j l k hj hl h1 h2
theorem OwnRow.pick {α : Type} {R : Ow α} (hR : Local R) {t : TypeId} {w : World} {fp : Nat → Prop} {v : Value} {X : List α} (r : OwnRow R t w fp v X) {k : Nat} {Y : α} (hY : X[k]? = some Y) : ∃ b cap u fq, Pick R t w fp v X k Y b cap u fq := by
  have hk := (List.getElem?_eq_some_iff.1 hY).1
  rcases r with ⟨_, rfl⟩ | ⟨b, cap, vs, sp, fps, hv, r⟩
  · simp at hk
  · obtain ⟨u, hu, hr⟩ := r.row k Y hY
    have hfu := List.getElem?_append_left (l₂ := sp) (show k < vs.length by rw [r.hlen]; exact hk)
    refine ⟨b, cap, u, fps k, hv, hk, by have := r.hcap; omega, r.hmax, r.blk.cell (by rw [hfu]; exact hu), r.blk.free k, r.blk.lt, r.own, fun h => (r.sub k b hk h).2.1 rfl, fun j h => ⟨(r.sub k j hk h).1, (r.sub k j hk h).2.2⟩, hr, fun w2 f Z hc hz hf => ?_, fun w2 f u' Z hc hz hf => ?_⟩
    · exact .inr ⟨b, cap, vs, sp, _, by rw [List.length_set]; exact hv, r.grow hR hk hc hf hu hz⟩
    · exact .inr ⟨b, cap, _, sp, _, by rw [List.length_set]; exact hv, r.swap hR hk hc hf hz⟩
abbrev OCub := OwnRow OMat 42
theorem OCub.loc : Local OCub := OwnRow.loc OMat.loc _
theorem OCub.read {w : World} {fp K : Nat → Prop} {a : Option Addr} {len cap : Nat} {xs : List (List (List Int))} (hK : ∀ k, fp k → K k) (r : OCub w fp (.slice a len cap) xs) : Cube K w a len cap xs := OwnRow.read (OwnRow.reads (OwnRow.reads OInt.reads _) _) hK r
theorem OwnRow.step {α : Type} {R : Ow α} {t : TypeId} {B : Nat} {w w' : World} {v : Value} {g : List α} (r : OwnRow R t w' (Grown (Ge B) w) v g) (hB : B ≤ w.heap.size) : OwnRow R t w' (Ge B) v g := OwnRow.wid t w' _ _ v g (fun _k hk => hk.elim id (fun h => Nat.le_trans hB h)) r
/-- One list of numbers in an owned list of lists of lists. -/
structure Pick2 (w : World) (fp : Nat → Prop) (v : Value) (X : List (List (List Int))) (k : Nat) (Y : List (List Int)) (a : Nat) (Z : List Int) (b cap c dap : Nat) (u : Value) (fq : Nat → Prop) : Prop where
  form : v = .slice (some ⟨b, 0, none⟩) X.length cap
  klt : k < X.length
  hcap : X.length ≤ cap
  hmax : cap ≤ 9223372036854775807
  cell : w.cell? ⟨b, k, none⟩ = some (.slice (some ⟨c, 0, none⟩) Y.length dap)
  lt : b < w.heap.size
  alt : a < Y.length
  hcap2 : Y.length ≤ dap
  hmax2 : dap ≤ 9223372036854775807
  cell2 : w.cell? ⟨c, a, none⟩ = some u
  free2 : w.frozen? ⟨c, a, none⟩ = false
  lt2 : c < w.heap.size
  nb : ¬ fq b
  nc : ¬ fq c
  elem : OInts w fq u Z
  sub : ∀ j, fq j → fp j ∧ j < w.heap.size
  ownb : fp b
  ownc : fp c
  ne : c ≠ b
  swap : ∀ (w2 : World) (f : Nat → Prop) (u' : Value) (Z' : List Int), Chg fq w w2 → OInts w2 f u' Z' → (∀ j, f j → (fq j ∨ w.heap.size ≤ j) ∧ j < w2.heap.size) → OCub (w2.setCell ⟨c, a, none⟩ u') (Grown fp w) v (X.set k (Y.set a Z')) ∧ Chg fp w (w2.setCell ⟨c, a, none⟩ u')
theorem OCub.pick2 {w : World} {fp : Nat → Prop} {v : Value} {X : List (List (List Int))} (r : OCub w fp v X) {k a : Nat} {Y : List (List Int)} {Z : List Int} (hY : X[k]? = some Y) (hZ : Y[a]? = some Z) : ∃ b cap c dap u fq, Pick2 w fp v X k Y a Z b cap c dap u fq := by
  obtain ⟨b, cap, u1, fq1, p⟩ := OwnRow.pick OMat.loc r hY
  obtain ⟨c, dap, u, fq, q⟩ := OwnRow.pick OInts.loc p.elem hZ
  have hfc := p.sub c q.own
  refine ⟨b, cap, c, dap, u, fq, p.form, p.klt, p.hcap, p.hmax, by rw [p.cell, q.form], p.lt, q.klt, q.hcap, q.hmax, q.cell, q.free, q.lt, fun h => p.nb (q.sub b h).1, q.nb, q.elem, fun j h => ⟨(p.sub j (q.sub j h).1).1, (q.sub j h).2⟩, p.own, hfc.1, fun e => p.nb (e ▸ q.own), fun w2 f u' Z' hc hz hf => ?_⟩
  have h1 := q.swap w2 f u' Z' hc hz hf
  have hc2 : Chg fq1 w (w2.setCell ⟨c, a, none⟩ u') := (hc.mono (fun j _ hj => (q.sub j hj).1)).setCell (fun _ => q.own) _
  refine ⟨p.same _ _ _ hc2 h1.lt (fun j hj => ⟨hj.1.elim (fun h => .inl h) .inr, hj.2⟩), hc2.mono fun j _ hj => (p.sub j hj).1⟩
end Go.Proofs.Ytlpelpjcbclemaa
