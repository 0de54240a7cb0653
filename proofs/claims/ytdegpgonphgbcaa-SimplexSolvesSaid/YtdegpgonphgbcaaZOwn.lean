/-
  Lists.
  make and copy in a walk.
  copy of lists of structs into a block that the cal.
  A region that draws its order and ends in operatio.
-/
import Derived.Deep.OwnRows
import Derived.Deep.RegionLaw
import Derived.OrdersHeld
import Derived.StillTail
import Derived.Deep.RegionHeld
import Derived.Maps.RangeWalk
import Derived.Test.YtdegpgonphgbcaaMem
import Derived.Test.YtdegpgonphgbcaaRows
namespace Go.Proofs.Ytdegpgonphgbcaa
open Go.RowKit
abbrev Ow (α : Type) := World → (Nat → Prop) → Value → α → Prop
def OInt : Ow Int := fun _ _ v z => v = .int .i64 z ∧ -9223372036854775808 ≤ z ∧ z ≤ 9223372036854775807
structure OwnAt {α : Type} (R : Ow α) (t : TypeId) (w : World) (fp : Nat → Prop) (b cap : Nat) (vs sp : List Value) (fps : Nat → Nat → Prop) (xs : List α) : Prop where
  blk : Blk w b t (vs ++ sp)
  hlen : vs.length = xs.length
  hcap : cap = xs.length + sp.length
  hmax : cap ≤ 9223372036854775807
  hsz : xs.length ≤ 17592186044416
  own : fp b
  row : ∀ i x, xs[i]? = some x → ∃ u, vs[i]? = some u ∧ R w (fps i) u x
  sub : ∀ i k, i < xs.length → fps i k → fp k ∧ k ≠ b ∧ k < w.heap.size
  apart : ∀ i j k, i < xs.length → j < xs.length → fps i k → fps j k → i = j
def OwnRow {α : Type} (R : Ow α) (t : TypeId) : Ow (List α) := fun w fp v xs =>
  (v = .slice none 0 0 ∧ xs = []) ∨ ∃ b cap vs sp fps, v = .slice (some ⟨b, 0, none⟩) xs.length cap ∧ OwnAt R t w fp b cap vs sp fps xs
abbrev OInts := OwnRow OInt 3
abbrev OMat := OwnRow OInts 22
def Ge (B : Nat) (k : Nat) : Prop := B ≤ k
def Local {α : Type} (R : Ow α) : Prop := ∀ (w w' : World) (fp : Nat → Prop) (v : Value) (x : α), (∀ k, fp k → k < w.heap.size → w'.heap[k]? = w.heap[k]?) → w.heap.size ≤ w'.heap.size → R w fp v x → R w' fp v x
theorem OInt.loc : Local OInt := fun _ _ _ _ _ _ _ h => h
theorem OwnAt.keeps {α : Type} {R : Ow α} (hR : Local R) {t : TypeId} {w w' : World} {fp : Nat → Prop} {b cap : Nat} {vs sp : List Value} {fps : Nat → Nat → Prop} {xs : List α} (h : ∀ k, fp k → k < w.heap.size → w'.heap[k]? = w.heap[k]?) (hs : w.heap.size ≤ w'.heap.size) (r : OwnAt R t w fp b cap vs sp fps xs) : OwnAt R t w' fp b cap vs sp fps xs :=
  ⟨r.blk.of (h b r.own r.blk.lt), r.hlen, r.hcap, r.hmax, r.hsz, r.own,
   fun i x e => by
    obtain ⟨u, hu, hr⟩ := r.row i x e
    exact ⟨u, hu, hR w w' _ u x (fun k hk hl => h k (r.sub i k (List.getElem?_eq_some_iff.1 e).1 hk).1 hl) hs hr⟩,
   fun i k hi hk => by have := r.sub i k hi hk; exact ⟨this.1, this.2.1, by omega⟩, r.apart⟩
theorem OwnRow.loc {α : Type} {R : Ow α} (hR : Local R) (t : TypeId) : Local (OwnRow R t) := fun w w' fp v x h hs r => by
  rcases r with r | ⟨b, cap, vs, sp, fps, hv, r⟩
  · exact .inl r
  · exact .inr ⟨b, cap, vs, sp, fps, hv, r.keeps hR h hs⟩
theorem OInts.loc : Local OInts := OwnRow.loc OInt.loc _
theorem OMat.loc : Local OMat := OwnRow.loc OInts.loc _
theorem Local.chg {α : Type} {R : Ow α} (hR : Local R) {M : Nat → Prop} {w w' : World} {fp : Nat → Prop} {v : Value} {x : α} (r : R w fp v x) (h : Chg M w w') (hM : ∀ k, fp k → k < w.heap.size → ¬ M k) : R w' fp v x :=
  hR w w' fp v x (fun k hk hl => h.block k hl (hM k hk hl)) h.size r
theorem Local.below {α : Type} {R : Ow α} (hR : Local R) {w w' : World} {fp : Nat → Prop} {v : Value} {x : α} (r : R w fp v x) (h : Below w.heap.size w w') : R w' fp v x :=
  hR w w' fp v x (fun k _ hl => h.block k hl) h.size r
def Reads {α : Type} (R : Ow α) (Q : Rd α) : Prop := ∀ (w : World) (fp K : Nat → Prop) (v : Value) (x : α) (b o : Nat), (∀ k, fp k → K k) → w.cell? ⟨b, o, none⟩ = some v → R w fp v x → Q K w b o x
theorem OInt.reads : Reads OInt RInt := fun _ _ _ _ _ _ _ _ hc h => ⟨h.1 ▸ hc, h.2⟩
theorem OwnAt.read {α : Type} {R : Ow α} {Q : Rd α} (hR : Reads R Q) {t : TypeId} {w : World} {fp K : Nat → Prop} {b cap : Nat} {vs sp : List Value} {fps : Nat → Nat → Prop} {xs : List α} (hK : ∀ k, fp k → K k) (r : OwnAt R t w fp b cap vs sp fps xs) : Row Q 1 K w (some ⟨b, 0, none⟩) xs.length cap xs :=
  ⟨rfl, by have := r.hcap; omega, r.hmax, r.hsz, fun i x e => by
    obtain ⟨u, hu, hr⟩ := r.row i x e
    have hi := (List.getElem?_eq_some_iff.1 e).1
    refine ⟨b, 0, rfl, hK _ r.own, r.blk.lt, hR w (fps i) K u x b _ (fun k hk => hK _ (r.sub i k hi hk).1) (r.blk.cell ?_) hr⟩
    rw [Nat.zero_add, Nat.mul_one, List.getElem?_append_left (by rw [r.hlen]; exact hi)]
    exact hu⟩
theorem OwnRow.read {α : Type} {R : Ow α} {Q : Rd α} (hR : Reads R Q) {t : TypeId} {w : World} {fp K : Nat → Prop} {a : Option Addr} {len cap : Nat} {xs : List α} (hK : ∀ k, fp k → K k) (r : OwnRow R t w fp (.slice a len cap) xs) : Row Q 1 K w a len cap xs := by
  rcases r with ⟨hv, rfl⟩ | ⟨b, cap', vs, sp, fps, hv, r⟩
  · cases hv; exact Row.nil Q 1 K w _ (by decide)
  · cases hv; exact r.read hR hK
theorem OwnRow.form {α : Type} {R : Ow α} {t : TypeId} {w : World} {fp : Nat → Prop} {v : Value} {xs : List α} (r : OwnRow R t w fp v xs) : ∃ a cap, v = .slice a xs.length cap := by
  rcases r with ⟨hv, rfl⟩ | ⟨b, cap', vs, sp, fps, hv, r⟩
  · exact ⟨_, _, hv⟩
  · exact ⟨_, _, hv⟩
theorem OwnRow.reads {α : Type} {R : Ow α} {Q : Rd α} (hR : Reads R Q) (t : TypeId) : Reads (OwnRow R t) (RSl Q 1) := fun w fp K v x b o hK hc r => by
  obtain ⟨a, cap, rfl⟩ := r.form
  exact ⟨a, _, cap, hc, r.read hR hK⟩
theorem OInts.read {w : World} {fp K : Nat → Prop} {a : Option Addr} {len cap : Nat} {xs : List Int} (hK : ∀ k, fp k → K k) (r : OInts w fp (.slice a len cap) xs) : Ints K w a len cap xs := OwnRow.read OInt.reads hK r
theorem OMat.read {w : World} {fp K : Nat → Prop} {a : Option Addr} {len cap : Nat} {xs : List (List Int)} (hK : ∀ k, fp k → K k) (r : OMat w fp (.slice a len cap) xs) : Mat K w a len cap xs := OwnRow.read (OwnRow.reads OInt.reads _) hK r
theorem OwnAt.inner {α : Type} {R : Ow α} (hR : Local R) {t : TypeId} {w w' : World} {fp : Nat → Prop} {b cap : Nat} {vs sp : List Value} {fps : Nat → Nat → Prop} {xs : List α} (r : OwnAt R t w fp b cap vs sp fps xs)
    {i : Nat} (hi : i < xs.length) {u : Value} (hu : vs[i]? = some u) {x : α} (h : Chg (fps i) w w') (hx : R w' (fps i) u x) : OwnAt R t w' fp b cap vs sp fps (xs.set i x) := by
  have hb : ¬ fps i b := fun hk => (r.sub i b hi hk).2.1 rfl
  refine ⟨r.blk.chg h hb, by rw [List.length_set]; exact r.hlen, by rw [List.length_set]; exact r.hcap, r.hmax, by rw [List.length_set]; exact r.hsz, r.own, fun j y hj => ?_, fun j k hj hk => ?_, fun j l k hj hl => r.apart j l k (by rwa [List.length_set] at hj) (by rwa [List.length_set] at hl)⟩
  · rw [List.getElem?_set] at hj
    by_cases e : i = j
    · subst e
      rw [if_pos rfl, if_pos hi] at hj
      cases hj
      exact ⟨u, hu, hx⟩
    · rw [if_neg e] at hj
      have hjl := (List.getElem?_eq_some_iff.1 hj).1
      obtain ⟨v, hv, hr⟩ := r.row j y hj
      exact ⟨v, hv, hR.chg hr h fun k hk _ hm => e (r.apart i j k hi hjl hm hk)⟩
  · have := r.sub j k (by rwa [List.length_set] at hj) hk
    exact ⟨this.1, this.2.1, by have := h.size; omega⟩
theorem OwnAt.put {α : Type} {R : Ow α} (hR : Local R) {t : TypeId} {w : World} {fp f : Nat → Prop} {b cap : Nat} {vs sp : List Value} {fps : Nat → Nat → Prop} {xs : List α} (r : OwnAt R t w fp b cap vs sp fps xs)
    {i : Nat} (hi : i < xs.length) {u : Value} {x : α} (hx : R w f u x) (hf : ∀ k, f k → fp k ∧ k ≠ b ∧ k < w.heap.size ∧ ∀ j, j < xs.length → j ≠ i → ¬ fps j k) :
    OwnAt R t (w.setCell ⟨b, i, none⟩ u) fp b cap (vs.set i u) sp (fun j => if j = i then f else fps j) (xs.set i x) := by
  have hc : Chg (fun k => k = b) w (w.setCell ⟨b, i, none⟩ u) := Chg.setCell (M := fun k => k = b) (Chg.refl w) (fun _ => rfl) u
  refine ⟨(r.blk.set i u).at (by rw [List.set_append_left _ _ (by rw [r.hlen]; exact hi)]), by simp only [List.length_set]; exact r.hlen, by rw [List.length_set]; exact r.hcap, r.hmax, by rw [List.length_set]; exact r.hsz, r.own, fun j y hj => ?_, fun j k hj hk => ?_, fun j l k hj hl h1 h2 => ?_⟩
  · rw [List.getElem?_set] at hj
    by_cases e : i = j
    · subst e
      rw [if_pos rfl, if_pos hi] at hj
      cases hj
      refine ⟨u, by rw [List.getElem?_set_self (by rw [r.hlen]; exact hi)], ?_⟩
      simp only [if_true]
      exact hR.chg hx hc fun k hk _ hm => (hf k hk).2.1 hm
    · rw [if_neg e] at hj
      have hjl := (List.getElem?_eq_some_iff.1 hj).1
      obtain ⟨v, hv, hr⟩ := r.row j y hj
      refine ⟨v, by rw [List.getElem?_set_ne e]; exact hv, ?_⟩
      rw [if_neg (fun h => e h.symm)]
      exact hR.chg hr hc fun k hk _ hm => (r.sub j k hjl hk).2.1 hm
  · simp only [List.length_set] at hj
    rw [World.size_setCell]
    split at hk
    · have := hf k hk; exact ⟨this.1, this.2.1, this.2.2.1⟩
    · exact r.sub j k hj hk
  · simp only [List.length_set] at hj hl
    split at h1 <;> split at h2
    · omega
    · exact absurd h2 ((hf k h1).2.2.2 l hl (by assumption))
    · exact absurd h1 ((hf k h2).2.2.2 j hj (by assumption))
    · exact r.apart j l k hj hl h1 h2
theorem info_int : (Try.prog.info? 3).map (fun i => (i.zero, i.size, i.bytes)) = some (some (.int .i64 0), 1, 8) := by kernel_rfl
def iv (z : Int) : Value := .int .i64 z
def ivs (l : List Int) : List Value := l.map iv
theorem ivs_length (l : List Int) : (ivs l).length = l.length := List.length_map _
theorem ivs_get {l : List Int} {i : Nat} {z : Int} (h : l[i]? = some z) : (ivs l)[i]? = some (.int .i64 z) := by unfold ivs; rw [List.getElem?_map, h]; rfl
def zeros (z : Value) (n : Nat) : List Value := List.replicate n z
theorem zeros_length (z : Value) (n : Nat) : (zeros z n).length = n := List.length_replicate
structure Laid (g : Nat) (t : TypeId) (vs : List Value) (w w' : World) : Prop where
  blk : Blk w' g t vs
  chg : Chg (fun k => k = g) w w'
  size : w'.heap.size = w.heap.size
theorem laid_setRow {w : World} {g : Nat} {t : TypeId} {cur vs : List Value} (h : Blk w g t cur) : Laid g t vs w (w.setRow g vs.toArray) :=
  ⟨setRow_heap w g _ _ t _ h, ⟨rfl, rfl, rfl, by rw [setRow_size]; exact Nat.le_refl _, fun k _ hk => setRow_other w g k _ hk⟩, setRow_size _ _ _⟩
theorem OwnAt.ints {w : World} {fp : Nat → Prop} {t : TypeId} {b cap : Nat} {vs sp : List Value} {fps : Nat → Nat → Prop} {xs : List Int} (r : OwnAt OInt t w fp b cap vs sp fps xs) : vs = ivs xs := by
  apply List.ext_getElem?
  intro i
  by_cases h : i < xs.length
  · obtain ⟨u, hu, rfl, _⟩ := r.row i _ (List.getElem?_eq_getElem h)
    rw [hu, ivs_get (List.getElem?_eq_getElem h)]
  · rw [List.getElem?_eq_none (by rw [r.hlen]; omega), List.getElem?_eq_none (by rw [ivs_length]; omega)]
theorem OInts.mk {w : World} {fp : Nat → Prop} {b cap n : Nat} {zs : List Int} {sp : List Value} (h : Blk w b 3 (ivs zs ++ sp)) (hn : n = zs.length) (hc : cap = zs.length + sp.length) (hm : cap ≤ 9223372036854775807) (hs : zs.length ≤ 17592186044416) (hf : fp b)
    (hz : ∀ z ∈ zs, -9223372036854775808 ≤ z ∧ z ≤ 9223372036854775807) : OInts w fp (.slice (some ⟨b, 0, none⟩) n cap) zs :=
  .inr ⟨b, cap, ivs zs, sp, fun _ _ => False, by rw [hn], h, ivs_length _, hc, hm, hs, hf, fun i x e => ⟨_, ivs_get e, rfl, hz x (List.mem_of_getElem? e)⟩, fun _ _ _ h => h.elim, fun _ _ _ _ _ h => h.elim⟩
theorem OwnAt.range {w : World} {fp : Nat → Prop} {t : TypeId} {b cap : Nat} {vs sp : List Value} {fps : Nat → Nat → Prop} {xs : List Int} (r : OwnAt OInt t w fp b cap vs sp fps xs) : ∀ z ∈ xs, -9223372036854775808 ≤ z ∧ z ≤ 9223372036854775807 := fun z hz => by
  obtain ⟨i, hi⟩ := List.getElem?_of_mem hz
  obtain ⟨u, _, _, h⟩ := r.row i z hi
  exact h
theorem Blk.some0 {w : World} {b : Nat} {t : TypeId} {vs : List Value} (h : Blk w b t vs) {i : Nat} (hi : i < vs.length) : ∃ v, w.cell? ⟨b, i, none⟩ = some v := ⟨_, h.cell (List.getElem?_eq_getElem hi)⟩
theorem run_copy_row_sz {P : Program} (w : World) (dT sT ty elem : TypeId) (sz m g o dLen dCap : Nat) (a : Addr) (sLen sCap : Nat) (cur : Array Value) (t : TypeId) (cs : List Value)
    (hu : P.underlying dT = some (.slice elem)) (hs : (P.info? elem).map (·.size) = some sz)
    (hg : w.heap[g]? = some (.cells cur t (0, 0))) (hm : m = Nat.min sLen dLen) (hn : cs.length = m * sz)
    (hsrc : ∀ j v, cs[j]? = some v → w.cell? (a.add j) = some v) (hfit : o + cs.length ≤ cur.size) (h1 : ∀ v ∈ cs, v.oneCell' = true) :
    (Builtin.copy_ #[dT, sT] ty #[.slice (some ⟨g, o, none⟩) dLen dCap, .slice (some a) sLen sCap]).run P w =
      .ok (goInt m) (w.setRow g (cur.toList.take o ++ cs ++ cur.toList.drop (o + cs.length)).toArray) := by
  have hl := run_loadCells_list (P := P) w a cs hsrc
  have hst := run_storeCells_at P g o t cs 0 cur w hg (by simpa using hfit) h1
  subst hm
  cases hq : P.info? elem with
  | none => simp [hq] at hs
  | some i =>
    have hi : i.size = sz := by simpa [hq] using hs
    rw [hn] at hl
    simp [Builtin.copy_, run_underlying hu, Builtin.lenOf, Builtin.firstCells, sizeOf, typeInfo, hq, hi, hl, hst]
theorem run_copy_none_sz {P : Program} (w : World) (dT sT ty elem : TypeId) (sz : Nat) (d a : Option Addr) (dLen dCap sLen sCap : Nat) (hu : P.underlying dT = some (.slice elem)) (hs : (P.info? elem).map (·.size) = some sz) (hn : Nat.min sLen dLen = 0) :
    (Builtin.copy_ #[dT, sT] ty #[.slice d dLen dCap, .slice a sLen sCap]).run P w = .ok (goInt 0) w := by
  cases hq : P.info? elem with
  | none => simp [hq] at hs
  | some i =>
    have hl : ∀ (x : Addr), (loadCells x 0).run P w = .ok #[] w := fun x => by simpa using run_loadCells_list (P := P) w x [] (by simp)
    cases d <;> cases a <;> simp [Builtin.copy_, run_underlying hu, Builtin.lenOf, Builtin.firstCells, sizeOf, typeInfo, hq, hn, storeCells, hl]
theorem run_copy_sz {P : Program} {w : World} (dT sT ty elem : TypeId) (sz m : Nat) (hu : P.underlying dT = some (.slice elem)) (hs : (P.info? elem).map (·.size) = some sz)
    (dp sp : Option Addr) (dLen dCap sLen sCap : Nat) (g off : Nat) (cur : List Value) (t : TypeId) (hg : Blk w g t cur) (cs : List Value) (hm : m = Nat.min sLen dLen) (hn : cs.length = m * sz)
    (hpos : 0 < m → dp = some ⟨g, off, none⟩ ∧ ∃ ad, sp = some ad ∧ ∀ j v, cs[j]? = some v → w.cell? (ad.add j) = some v)
    (hfit : off + cs.length ≤ cur.length) (h1 : ∀ v ∈ cs, v.oneCell' = true) :
    ∃ w', (Builtin.copy_ #[dT, sT] ty #[.slice dp dLen dCap, .slice sp sLen sCap]).run P w = .ok (goInt m) w' ∧ Laid g t (splice cur off cs) w w' := by
  by_cases h0 : m = 0
  · subst h0
    have hc : cs = [] := List.eq_nil_of_length_eq_zero (by omega)
    subst hc
    exact ⟨w, run_copy_none_sz w dT sT ty elem sz dp sp dLen dCap sLen sCap hu hs hm.symm, hg.at (by simp [splice]), Chg.refl _, rfl⟩
  · obtain ⟨rfl, ad, rfl, hsrc⟩ := hpos (by omega)
    exact ⟨_, run_copy_row_sz (P := P) w dT sT ty elem sz m g off dLen dCap ad sLen sCap cur.toArray t cs hu hs hg hm hn hsrc (by simpa using hfit) h1, by
      have e : (cur.toArray.toList.take off ++ cs ++ cur.toArray.toList.drop (off + cs.length)).toArray = (splice cur off cs).toArray := by simp [splice]
      rw [e]
      exact laid_setRow (vs := splice cur off cs) hg⟩
theorem wpList_copy_sz {P : Program} {w : World} {ops : Array Oper} {rest : List Oper} {o : Oper} {a : Act} {Q : Exit → Act → World → Prop} (hgd : o.guard = none) (d s : Operand) (dT sT : TypeId)
    (ho : o.op = .call { callee := .builtin .copy, args := #[d, s], argTypes := #[dT, sT] }) (elem : TypeId) (sz m : Nat) (hu : P.underlying dT = some (.slice elem)) (hs : (P.info? elem).map (·.size) = some sz)
    (dp sp : Option Addr) (dLen dCap sLen sCap : Nat) (hd : a.eval d = .slice dp dLen dCap) (hsp : a.eval s = .slice sp sLen sCap)
    (g off : Nat) (cur : List Value) (t : TypeId) (hg : Blk w g t cur) (cs : List Value) (hm : m = Nat.min sLen dLen) (hn : cs.length = m * sz)
    (hpos : 0 < m → dp = some ⟨g, off, none⟩ ∧ ∃ ad, sp = some ad ∧ ∀ j v, cs[j]? = some v → w.cell? (ad.add j) = some v)
    (hfit : off + cs.length ≤ cur.length) (h1 : ∀ v ∈ cs, v.oneCell' = true)
    (h : ∀ w', Hid (Laid g t (splice cur off cs) w w') → wpList P ops Q rest (a.put o.dst (goInt m)) w') :
    wpList P ops Q (o :: rest) a w := by
  obtain ⟨w', hr, hl⟩ := run_copy_sz dT sT o.type elem sz m hu hs dp sp dLen dCap sLen sCap g off cur t hg cs hm hn hpos hfit h1
  refine wpList_plain hgd fun K hK => ?_
  unfold Oper.wp execOp
  simp only [ho, resolve, invoke, builtin, Sem.run_bind, Sem.run_pure, Result.andThen_ok, List.map_toArray, List.map_cons, List.map_nil, hd, hsp, hr]
  exact hK _ _ (h w' hl)
theorem step_copy_sz {P : Program} {ops : Array Oper} {o : Oper} {a : Act} {w : World} {K : Act → World → Prop} {Q : Exit → Act → World → Prop} {E : Prop} (hgd : o.guard = none) (d s : Operand) (dT sT : TypeId)
    (ho : o.op = .call { callee := .builtin .copy, args := #[d, s], argTypes := #[dT, sT] }) (elem : TypeId) (sz m : Nat) (hu : P.underlying dT = some (.slice elem)) (hs : (P.info? elem).map (·.size) = some sz)
    (dp sp : Option Addr) (dLen dCap sLen sCap : Nat) (hd : a.eval d = .slice dp dLen dCap) (hsp : a.eval s = .slice sp sLen sCap)
    (g off : Nat) (cur : List Value) (t : TypeId) (hg : Blk w g t cur) (cs : List Value) (hm : m = Nat.min sLen dLen) (hn : cs.length = m * sz)
    (hpos : 0 < m → dp = some ⟨g, off, none⟩ ∧ ∃ ad, sp = some ad ∧ ∀ j v, cs[j]? = some v → w.cell? (ad.add j) = some v)
    (hfit : off + cs.length ≤ cur.length) (h1 : ∀ v ∈ cs, v.oneCell' = true)
    (h : ∀ w', Hid (Laid g t (splice cur off cs) w w') → K (a.put o.dst (goInt m)) w') :
    if Region.wanted o (yielded ops a.tmps) = true then Oper.wp P o a w K Q else E := by
  have hw : Region.wanted o (yielded ops a.tmps) = true := by simp [Region.wanted, hgd]
  rw [if_pos hw]
  obtain ⟨w', hr, hl⟩ := run_copy_sz dT sT o.type elem sz m hu hs dp sp dLen dCap sLen sCap g off cur t hg cs hm hn hpos hfit h1
  unfold Oper.wp
  simp [execOp, ho, resolve, invoke, builtin, hd, hsp, hr, Result.andThen]
  exact h w' hl
section
variable {P : Program} {ops : Array Oper} {Q : Exit → Act → World → Prop} {md : Region.Mode} {S : World → Prop} {n : Nat}
def wpHd (P : Program) (md : Region.Mode) (ops : Array Oper) (Q : Exit → Act → World → Prop) (S : World → Prop) (n : Nat) (T : Array Bool → Act → World → Prop) : Nat → Array Bool → Act → World → Prop
  | 0, listed, a, w => T listed a w
  | f + 1, listed, a, w => Region.ready md ops listed ≠ [] ∧ ∀ i ∈ Region.ready md ops listed, i < n ∧ wpOp P ops Q i (fun a' w' => S w' ∧ wpHd P md ops Q S n T f (listed.setIfInBounds i true) a' w') a w
theorem wpAny_of_hd {g : Nat} {T : Array Bool → Act → World → Prop} (hT : ∀ listed a w, T listed a w → wpAny P md ops Q g listed a w) :
    ∀ (f : Nat) (listed : Array Bool) (a : Act) (w : World), wpHd P md ops Q S n T f listed a w → wpAny P md ops Q (f + g) listed a w
  | 0, listed, a, w, h => by rw [Nat.zero_add]; exact hT _ _ _ h
  | f + 1, listed, a, w, h => by
    rw [show f + 1 + g = (f + g) + 1 by omega]
    exact ⟨fun h0 => absurd h0 h.1, fun i hi => wpOp_mono (fun a' w' h' => wpAny_of_hd hT f _ a' w' h'.2) (h.2 i hi).2⟩
theorem wpHd_first {i : Nat} {oi : Oper} {v : Value} {T : Array Bool → Act → World → Prop} (hi : ops[i]? = some oi) (hsel : ∀ (j : Nat) (o : Oper) cs b, ops[j]? = some o → o.op ≠ .select cs b)
    (hQ : ∀ c a w, Q (.panic c) (a.put oi.dst v) w → Q (.panic c) a w)
    (hs : Region.sinkB md ops n = true) (hc : Region.chainB md ops n = true) (hn : n < ops.size) (hin : i < n)
    (hdone : ∀ listed a w, T listed a w → ∀ j ∈ Region.ready md ops listed, n ≤ j) :
    ∀ (f : Nat) (listed : Array Bool) (a : Act) (w : World), HeadInv md ops n listed →
      (∀ j oj, ops[j]? = some oj → j ≠ i → listed.getD j true = false → (∀ e ∈ oj.after, Region.binds md e = true → e.on ≠ i) → oi.apart ops oj = true) →
      i ∈ Region.ready md ops listed → YieldsIf P ops S oi v a → S w →
      wpHd P md ops Q S n T f (listed.setIfInBounds i true) (a.put oi.dst v) w → wpHd P md ops Q S n T (f + 1) listed a w := by
  intro f
  induction f with
  | zero =>
    intro listed a w inv _ hr hy hS H
    have hun := (mem_ready.1 hr).1
    refine ⟨fun h => (by rw [h] at hr; cases hr), fun j hj => ?_⟩
    have hjn : j < n := by
      rcases Nat.lt_or_ge j n with h | h
      · exact h
      · exact absurd hj (tail_waits hs hc hn inv _ i rfl hin hun j h)
    refine ⟨hjn, ?_⟩
    by_cases hji : j = i
    · subst hji; exact hy.wpOp hi hS ⟨hS, H⟩
    · have := hdone _ _ _ H j (ready_mono hj hji)
      omega
  | succ f ih =>
    intro listed a w inv hfree hr hy hS H
    have hun := (mem_ready.1 hr).1
    refine ⟨fun h => (by rw [h] at hr; cases hr), fun j hj => ?_⟩
    have hjn : j < n := by
      rcases Nat.lt_or_ge j n with h | h
      · exact h
      · exact absurd hj (tail_waits hs hc hn inv _ i rfl hin hun j h)
    refine ⟨hjn, ?_⟩
    by_cases hji : j = i
    · subst hji; exact hy.wpOp hi hS ⟨hS, H⟩
    · have h1 := (H.2 j (ready_mono hj hji)).2
      obtain ⟨hjun, oj, hoj, hall⟩ := mem_ready.1 hj
      have hnot : ∀ e ∈ oj.after, Region.binds md e = true → e.on ≠ i := fun e he hb heq => by
        have h1 := hall e he hb
        rw [heq, getD_both hun] at h1
        cases h1
      have h2 := wpOp_putIf hoj (hfree j oj hoj hji hjun hnot) (fun cs b => hsel i oi cs b hi) (fun cs b => hsel j oj cs b hoj) hQ hy h1
      have hfree' : ∀ k ok, ops[k]? = some ok → k ≠ i → (listed.setIfInBounds j true).getD k true = false →
          (∀ e ∈ ok.after, Region.binds md e = true → e.on ≠ i) → oi.apart ops ok = true := fun k ok hk hki hun hno => by
        refine hfree k ok hk hki ?_ hno
        by_cases hjk : j = k
        · subst hjk; exact hjun
        · rw [getD_set_ne true hjk] at hun; exact hun
      refine wpOp_mono (fun a' w' h3 => ⟨h3.2.1, ih (listed.setIfInBounds j true) a' w' (inv.set hj hjn) hfree' (ready_mono hr (Ne.symm hji)) h3.1 h3.2.1 ?_⟩) h2
      rw [Array.setIfInBounds_comm _ _ hji]
      exact h3.2.2
def Tl (P : Program) (ops : Array Oper) (Q : Exit → Act → World → Prop) (n : Nat) (listed : Array Bool) (a : Act) (w : World) : Prop := Region.seqB .any ops (ops.size - n) n listed = true ∧ wpList P ops Q (ops.toList.drop n) a w
def HdG (P : Program) (ops : Array Oper) (Q : Exit → Act → World → Prop) (S : World → Prop) (n f : Nat) (listed : Array Bool) (a : Act) (w : World) : Prop := S w → HeadInv .any ops n listed → wpHd P .any ops Q S n (Tl P ops Q n) f listed a w
structure HdOk (ops : Array Oper) (n : Nat) : Prop where
  sel : Region.noSelect ops = true
  sink : Region.sinkB .any ops n = true
  chain : Region.chainB .any ops n = true
  lt : n < ops.size
theorem hd_take {i : Nat} {oi : Oper} {v : Value} {f : Nat} {listed : Array Bool} {a : Act} {w : World} (ok : HdOk ops n) (hi : ops[i]? = some oi) (hin : i < n) (hf : Region.free .any ops listed i = true) (hr : (Region.ready .any ops listed).contains i = true)
    (hQ : ∀ c a w, Q (.panic c) (a.put oi.dst v) w → Q (.panic c) a w) (hy : YieldsIf P ops S oi v a)
    (h : HdG P ops Q S n f (listed.setIfInBounds i true) (a.put oi.dst v) w) : HdG P ops Q S n (f + 1) listed a w := fun hS inv =>
  have hri : i ∈ Region.ready .any ops listed := by simpa using hr
  wpHd_first hi (Region.noSelect_spec ok.sel) hQ ok.sink ok.chain ok.lt hin (fun _ _ _ hT => seqB_ready hT.1) f listed a w inv (Region.free_spec hi hf) hri hy hS (h hS (inv.set hri hin))
theorem hd_only {c : Nat} {oc : Oper} {f : Nat} {listed : Array Bool} {a : Act} {w : World} (hc : ops[c]? = some oc) (hcn : c < n) (hr : Region.ready .any ops listed = [c])
    (h : ∀ K : Act → World → Prop, Shut (∀ a' w', S w' → HdG P ops Q S n f (listed.setIfInBounds c true) a' w' → K a' w') → if Region.wanted oc (yielded ops a.tmps) = true then Oper.wp P oc a w K Q else K (a.put oc.dst undef) w) : HdG P ops Q S n (f + 1) listed a w := fun _ inv => by
  refine ⟨fun h0 => (by rw [hr] at h0; cases h0), fun i hi => ?_⟩
  rw [hr] at hi
  have hic : i = c := by simpa using hi
  subst hic
  refine ⟨hcn, ?_⟩
  have hri : i ∈ Region.ready .any ops listed := by rw [hr]; simp
  exact wpOp_step hc (fun K hK => h K (fun a' w' hS hG => hK a' w' ⟨hS, hG hS (inv.set hri hcn)⟩))
theorem hd_done {listed : Array Bool} {a : Act} {w : World} (hB : Region.seqB .any ops (ops.size - n) n listed = true) (h : wpList P ops Q (ops.toList.drop n) a w) : HdG P ops Q S n 0 listed a w := fun _ _ => ⟨hB, h⟩
theorem hd_start {id : Nat} {a : Act} {w : World} {l : List Oper} (n : Nat) (S : World → Prop) (hm : P.follows .mixedOrders = true) (ok : HdOk l.toArray n) (hS : S w.drew)
    (h : HdOk l.toArray n → HdG P l.toArray Q S n n (Array.replicate l.length false) a w.drew) : (Code.region id l.toArray true).wp P Q a w := by
  refine wp_region_any hm ?_
  have hsz : l.toArray.size = l.length := by simp
  have inv : HeadInv .any l.toArray n (Array.replicate l.length false) :=
    ⟨by simp, (fun j oj hj hl => by rw [getD_replicate_false] at hl; cases hl), fun t ht ht' => by
      have h' : t < l.length := by simpa using ht'
      simp [h']⟩
  have h1 := h ok hS inv
  have hlt := ok.lt
  have h2 := wpAny_of_hd (Q := Q) (g := l.toArray.size - n) (fun listed a w hT => by
    have := wpAny_of_seq (md := .any) (ops := l.toArray) (Q' := Q) (l.toArray.toList.drop n) n listed a w (fun j => by simp [List.getElem?_drop]) (by rw [List.length_drop]; simpa using hT.1) hT.2
    rw [List.length_drop] at this
    simpa using this) n _ a w.drew h1
  have e : n + (l.toArray.size - n) = l.toArray.size := by omega
  rw [e, hsz] at h2
  rw [hsz]
  exact h2
theorem at_drop {l r : List Oper} {i : Nat} {oi : Oper} (h : l.drop i = oi :: r) : l.toArray[i]? = some oi := by
  have h2 : (l.drop i)[0]? = some oi := by rw [h]; rfl
  simpa [List.getElem?_drop] using h2
theorem hd_take_l {l r : List Oper} {i : Nat} {oi : Oper} {v : Value} {f : Nat} {listed : Array Bool} {a : Act} {w : World} (ok : HdOk l.toArray n) (hi : l.drop i = oi :: r) (hin : i < n) (hf : Region.free .any l.toArray listed i = true) (hr : (Region.ready .any l.toArray listed).contains i = true)
    (hQ : ∀ c a w, Q (.panic c) (a.put oi.dst v) w → Q (.panic c) a w) (hy : YieldsIf P l.toArray S oi v a)
    (h : HdG P l.toArray Q S n f (listed.setIfInBounds i true) (a.put oi.dst v) w) : HdG P l.toArray Q S n (f + 1) listed a w := hd_take ok (at_drop hi) hin hf hr hQ hy h
theorem hd_only_l {l r : List Oper} {c : Nat} {oc : Oper} {f : Nat} {listed : Array Bool} {a : Act} {w : World} (hc : l.drop c = oc :: r) (hcn : c < n) (hr : Region.ready .any l.toArray listed = [c])
    (h : ∀ K : Act → World → Prop, Shut (∀ a' w', S w' → HdG P l.toArray Q S n f (listed.setIfInBounds c true) a' w' → K a' w') → if Region.wanted oc (yielded l.toArray a.tmps) = true then Oper.wp P oc a w K Q else K (a.put oc.dst undef) w) : HdG P l.toArray Q S n (f + 1) listed a w := hd_only (at_drop hc) hcn hr h
theorem wpHd_first_e {i : Nat} {oi : Oper} {v : Value} {T : Array Bool → Act → World → Prop} (hi : ops[i]? = some oi) (hsel : ∀ (j : Nat) (o : Oper) cs b, ops[j]? = some o → o.op ≠ .select cs b)
    (hQ : ∀ c a w, Q (.panic c) (a.put oi.dst v) w → Q (.panic c) a w)
    (hn : n = ops.size) (hin : i < n)
    (hdone : ∀ listed a w, T listed a w → ∀ j ∈ Region.ready md ops listed, n ≤ j) :
    ∀ (f : Nat) (listed : Array Bool) (a : Act) (w : World), HeadInv md ops n listed →
      (∀ j oj, ops[j]? = some oj → j ≠ i → listed.getD j true = false → (∀ e ∈ oj.after, Region.binds md e = true → e.on ≠ i) → oi.apart ops oj = true) →
      i ∈ Region.ready md ops listed → YieldsIf P ops S oi v a → S w →
      wpHd P md ops Q S n T f (listed.setIfInBounds i true) (a.put oi.dst v) w → wpHd P md ops Q S n T (f + 1) listed a w := by
  intro f
  induction f with
  | zero =>
    intro listed a w inv _ hr hy hS H
    have hun := (mem_ready.1 hr).1
    refine ⟨fun h => (by rw [h] at hr; cases hr), fun j hj => ?_⟩
    have hjn : j < n := by
      obtain ⟨_, oj, hoj, _⟩ := mem_ready.1 hj
      rw [hn]; exact (Array.getElem?_eq_some_iff.1 hoj).1
    refine ⟨hjn, ?_⟩
    by_cases hji : j = i
    · subst hji; exact hy.wpOp hi hS ⟨hS, H⟩
    · have := hdone _ _ _ H j (ready_mono hj hji)
      omega
  | succ f ih =>
    intro listed a w inv hfree hr hy hS H
    have hun := (mem_ready.1 hr).1
    refine ⟨fun h => (by rw [h] at hr; cases hr), fun j hj => ?_⟩
    have hjn : j < n := by
      obtain ⟨_, oj, hoj, _⟩ := mem_ready.1 hj
      rw [hn]; exact (Array.getElem?_eq_some_iff.1 hoj).1
    refine ⟨hjn, ?_⟩
    by_cases hji : j = i
    · subst hji; exact hy.wpOp hi hS ⟨hS, H⟩
    · have h1 := (H.2 j (ready_mono hj hji)).2
      obtain ⟨hjun, oj, hoj, hall⟩ := mem_ready.1 hj
      have hnot : ∀ e ∈ oj.after, Region.binds md e = true → e.on ≠ i := fun e he hb heq => by
        have h1 := hall e he hb
        rw [heq, getD_both hun] at h1
        cases h1
      have h2 := wpOp_putIf hoj (hfree j oj hoj hji hjun hnot) (fun cs b => hsel i oi cs b hi) (fun cs b => hsel j oj cs b hoj) hQ hy h1
      have hfree' : ∀ k ok, ops[k]? = some ok → k ≠ i → (listed.setIfInBounds j true).getD k true = false →
          (∀ e ∈ ok.after, Region.binds md e = true → e.on ≠ i) → oi.apart ops ok = true := fun k ok hk hki hun hno => by
        refine hfree k ok hk hki ?_ hno
        by_cases hjk : j = k
        · subst hjk; exact hjun
        · rw [getD_set_ne true hjk] at hun; exact hun
      refine wpOp_mono (fun a' w' h3 => ⟨h3.2.1, ih (listed.setIfInBounds j true) a' w' (inv.set hj hjn) hfree' (ready_mono hr (Ne.symm hji)) h3.1 h3.2.1 ?_⟩) h2
      rw [Array.setIfInBounds_comm _ _ hji]
      exact h3.2.2
/-! ### The same where nothing waits for all: all operations are walked so -/
structure HdEnd (ops : Array Oper) (n : Nat) : Prop where
  sel : Region.noSelect ops = true
  all : n = ops.size
theorem hd_take_e {l r : List Oper} {i : Nat} {oi : Oper} {v : Value} {f : Nat} {listed : Array Bool} {a : Act} {w : World} (ok : HdEnd l.toArray n) (hi : l.drop i = oi :: r) (hin : i < n) (hf : Region.free .any l.toArray listed i = true) (hr : (Region.ready .any l.toArray listed).contains i = true)
    (hQ : ∀ c a w, Q (.panic c) (a.put oi.dst v) w → Q (.panic c) a w) (hy : YieldsIf P l.toArray S oi v a)
    (h : HdG P l.toArray Q S n f (listed.setIfInBounds i true) (a.put oi.dst v) w) : HdG P l.toArray Q S n (f + 1) listed a w := fun hS inv =>
  have hri : i ∈ Region.ready .any l.toArray listed := by simpa using hr
  wpHd_first_e (at_drop hi) (Region.noSelect_spec ok.sel) hQ ok.all hin (fun listed' _ _ hT => by
    have h1 := hT.1
    rw [← ok.all, Nat.sub_self] at h1
    have h2 : Region.ready .any l.toArray listed' = [] := by simpa [Region.seqB] using h1
    intro j hj; rw [h2] at hj; cases hj) f listed a w inv (Region.free_spec (at_drop hi) hf) hri hy hS (h hS (inv.set hri hin))
theorem hd_t {l rest : List Oper} (i : Nat) {oi : Oper} {v : Value} {f : Nat} {listed : Array Bool} {a : Act} {w : World} (ok : HdOk l.toArray n) (hi : l.drop i = oi :: rest)
    (h : HdG P l.toArray Q S n f (listed.setIfInBounds i true) (a.put oi.dst v) w)
    (hin : i < n := by decide) (hf : Region.free .any l.toArray listed i = true := by kernel_rfl) (hr : (Region.ready .any l.toArray listed).contains i = true := by kernel_rfl) (hQ : ∀ c a w, Q (.panic c) (a.put oi.dst v) w → Q (.panic c) a w := by exact fun _ _ _ h => h) (hw : Region.wanted oi (yielded l.toArray a.tmps) = true := by kernel_rfl)
    (he : ∀ w, S w → (execOp a.eval oi).run P w = .ok (.value v) w := by (intro w hSw; (try dsimp only at hSw); (try go_split_ands); go_simp; (try (with_reducible rfl)))) : HdG P l.toArray Q S n (f + 1) listed a w := hd_take_l ok hi hin hf hr hQ (.inl ⟨hw, he⟩) h
theorem he_t {l rest : List Oper} (i : Nat) {oi : Oper} {v : Value} {f : Nat} {listed : Array Bool} {a : Act} {w : World} (ok : HdEnd l.toArray n) (hi : l.drop i = oi :: rest)
    (h : HdG P l.toArray Q S n f (listed.setIfInBounds i true) (a.put oi.dst v) w)
    (hin : i < n := by decide) (hf : Region.free .any l.toArray listed i = true := by kernel_rfl) (hr : (Region.ready .any l.toArray listed).contains i = true := by kernel_rfl) (hQ : ∀ c a w, Q (.panic c) (a.put oi.dst v) w → Q (.panic c) a w := by exact fun _ _ _ h => h) (hw : Region.wanted oi (yielded l.toArray a.tmps) = true := by kernel_rfl)
    (he : ∀ w, S w → (execOp a.eval oi).run P w = .ok (.value v) w := by (intro w hSw; (try dsimp only at hSw); (try go_split_ands); go_simp; (try (with_reducible rfl)))) : HdG P l.toArray Q S n (f + 1) listed a w := hd_take_e ok hi hin hf hr hQ (.inl ⟨hw, he⟩) h
theorem hd_start_e {id : Nat} {a : Act} {w : World} {l : List Oper} (n : Nat) (S : World → Prop) (hm : P.follows .mixedOrders = true) (ok : HdEnd l.toArray n) (hS : S w.drew)
    (h : HdEnd l.toArray n → HdG P l.toArray Q S n n (Array.replicate l.length false) a w.drew) : (Code.region id l.toArray true).wp P Q a w := by
  refine wp_region_any hm ?_
  have hsz : l.toArray.size = l.length := by simp
  have inv : HeadInv .any l.toArray n (Array.replicate l.length false) :=
    ⟨by simp, (fun j oj hj hl => by rw [getD_replicate_false] at hl; cases hl), fun t ht ht' => by have := ok.all; omega⟩
  have h1 := h ok hS inv
  have h2 := wpAny_of_hd (Q := Q) (g := 0) (fun listed a w hT => by
    have h9 := ok.all
    have := wpAny_of_seq (md := .any) (ops := l.toArray) (Q' := Q) (l.toArray.toList.drop n) n listed a w (fun j => by simp [List.getElem?_drop]) (by rw [List.length_drop]; simpa using hT.1) hT.2
    rw [List.length_drop] at this
    have h8 : l.toArray.toList.length - n = 0 := by simp; omega
    rw [h8] at this
    exact this) n _ a w.drew h1
  rw [Nat.add_zero, ok.all, hsz] at h2
  rw [hsz]
  exact h2
theorem hd_end {l : List Oper} {listed : Array Bool} {a : Act} {w : World} (hB : (Region.ready .any l.toArray listed).isEmpty = true) (hn : n = l.length) (h : Q .normal a w) : HdG P l.toArray Q S n 0 listed a w := by
  subst hn
  refine fun _ _ => ⟨by simpa [Region.seqB] using hB, ?_⟩
  simp only [List.drop_length]
  exact h
end
end Go.Proofs.Ytdegpgonphgbcaa
