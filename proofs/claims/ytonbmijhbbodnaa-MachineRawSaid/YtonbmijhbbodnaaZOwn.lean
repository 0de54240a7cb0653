/-
  Lists, and lists of lists, in blocks that a call owns: every block of such a list belongs to one place of it alone. Small laws, no program in sight.
  make and copy in a walk, for cells of integers and of slices: the world behind them by blocks known whole. Small laws.
-/
import Derived.Deep.OwnRows
import Derived.Deep.RegionLaw
import Derived.Test.YtonbmijhbbodnaaMem
import Derived.Test.YtonbmijhbbodnaaRows
namespace Go.Proofs.Ytonbmijhbbodnaa
open Go.RowKit

/-- R w fp v x: the value v stands for x, its blocks are among fp, and may be written. -/
abbrev Ow (α : Type) := World → (Nat → Prop) → Value → α → Prop
def OInt : Ow Int := fun _ _ v z => v = .int .i64 z ∧ -9223372036854775808 ≤ z ∧ z ≤ 9223372036854775807
def OBool : Ow Bool := fun _ _ v z => v = .bool z
structure OwnAt {α : Type} (R : Ow α) (t : TypeId) (w : World) (fp : Nat → Prop) (b cap : Nat) (vs sp : List Value) (fps : Nat → Nat → Prop) (xs : List α) : Prop where
  blk : Blk w b t (vs ++ sp)
  hlen : vs.length = xs.length
  hcap : cap = xs.length + sp.length
  hmax : cap ≤ 9223372036854775807
  hsz : xs.length ≤ 17592186044416
  own : fp b
  row : ∀ i x, xs[i]? = some x → ∃ u, vs[i]? = some u ∧ R w (fps i) u x
  sub : ∀ i k, i < xs.length → fps i k → fp k ∧ k ≠ b ∧ k < w.heap.size
  apart : ∀ i j k, i < xs.length → j < xs.length → fps i k → fps j k → i = j
def OwnRow {α : Type} (R : Ow α) (t : TypeId) : Ow (List α) := fun w fp v xs =>
  (v = .slice none 0 0 ∧ xs = []) ∨ ∃ b cap vs sp fps, v = .slice (some ⟨b, 0, none⟩) xs.length cap ∧ OwnAt R t w fp b cap vs sp fps xs
abbrev OInts := OwnRow OInt 3
abbrev OMat := OwnRow OInts 22

def Ge (B : Nat) (k : Nat) : Prop := B ≤ k
def Local {α : Type} (R : Ow α) : Prop := ∀ (w w' : World) (fp : Nat → Prop) (v : Value) (x : α), (∀ k, fp k → k < w.heap.size → w'.heap[k]? = w.heap[k]?) → w.heap.size ≤ w'.heap.size → R w fp v x → R w' fp v x
def Wid {α : Type} (R : Ow α) : Prop := ∀ (w : World) (fp fp' : Nat → Prop) (v : Value) (x : α), (∀ k, fp k → fp' k) → R w fp v x → R w fp' v x
theorem OInt.loc : Local OInt := fun _ _ _ _ _ _ _ h => h
theorem OInt.wid : Wid OInt := fun _ _ _ _ _ _ h => h
theorem OwnAt.keeps {α : Type} {R : Ow α} (hR : Local R) {t : TypeId} {w w' : World} {fp : Nat → Prop} {b cap : Nat} {vs sp : List Value} {fps : Nat → Nat → Prop} {xs : List α} (h : ∀ k, fp k → k < w.heap.size → w'.heap[k]? = w.heap[k]?) (hs : w.heap.size ≤ w'.heap.size) (r : OwnAt R t w fp b cap vs sp fps xs) : OwnAt R t w' fp b cap vs sp fps xs :=
  ⟨r.blk.of (h b r.own r.blk.lt), r.hlen, r.hcap, r.hmax, r.hsz, r.own,
   fun i x e => by
    obtain ⟨u, hu, hr⟩ := r.row i x e
    exact ⟨u, hu, hR w w' _ u x (fun k hk hl => h k (r.sub i k (List.getElem?_eq_some_iff.1 e).1 hk).1 hl) hs hr⟩,
   fun i k hi hk => by have := r.sub i k hi hk; exact ⟨this.1, this.2.1, by omega⟩, r.apart⟩
theorem OwnRow.loc {α : Type} {R : Ow α} (hR : Local R) (t : TypeId) : Local (OwnRow R t) := fun w w' fp v x h hs r => by
  rcases r with r | ⟨b, cap, vs, sp, fps, hv, r⟩
  · exact .inl r
  · exact .inr ⟨b, cap, vs, sp, fps, hv, r.keeps hR h hs⟩
theorem OwnRow.wid {α : Type} {R : Ow α} (t : TypeId) : Wid (OwnRow R t) := fun w fp fp' v x h r => by
  rcases r with r | ⟨b, cap, vs, sp, fps, hv, r⟩
  · exact .inl r
  · exact .inr ⟨b, cap, vs, sp, fps, hv, r.blk, r.hlen, r.hcap, r.hmax, r.hsz, h _ r.own, r.row, fun i k hi hk => ⟨h _ (r.sub i k hi hk).1, (r.sub i k hi hk).2⟩, r.apart⟩
theorem OInts.loc : Local OInts := OwnRow.loc OInt.loc _
theorem OMat.loc : Local OMat := OwnRow.loc OInts.loc _
theorem Local.chg {α : Type} {R : Ow α} (hR : Local R) {M : Nat → Prop} {w w' : World} {fp : Nat → Prop} {v : Value} {x : α} (r : R w fp v x) (h : Chg M w w') (hM : ∀ k, fp k → k < w.heap.size → ¬ M k) : R w' fp v x :=
  hR w w' fp v x (fun k hk hl => h.block k hl (hM k hk hl)) h.size r
theorem Local.below {α : Type} {R : Ow α} (hR : Local R) {w w' : World} {fp : Nat → Prop} {v : Value} {x : α} (r : R w fp v x) (h : Below w.heap.size w w') : R w' fp v x :=
  hR w w' fp v x (fun k _ hl => h.block k hl) h.size r

/-- What is owned is read. -/
def Reads {α : Type} (R : Ow α) (Q : Rd α) : Prop := ∀ (w : World) (fp K : Nat → Prop) (v : Value) (x : α) (b o : Nat), (∀ k, fp k → K k) → w.cell? ⟨b, o, none⟩ = some v → R w fp v x → Q K w b o x
theorem OInt.reads : Reads OInt RInt := fun _ _ _ _ _ _ _ _ hc h => ⟨h.1 ▸ hc, h.2⟩
theorem OwnAt.read {α : Type} {R : Ow α} {Q : Rd α} (hR : Reads R Q) {t : TypeId} {w : World} {fp K : Nat → Prop} {b cap : Nat} {vs sp : List Value} {fps : Nat → Nat → Prop} {xs : List α} (hK : ∀ k, fp k → K k) (r : OwnAt R t w fp b cap vs sp fps xs) : Row Q 1 K w (some ⟨b, 0, none⟩) xs.length cap xs :=
  ⟨rfl, by have := r.hcap; omega, r.hmax, r.hsz, fun i x e => by
    obtain ⟨u, hu, hr⟩ := r.row i x e
    have hi := (List.getElem?_eq_some_iff.1 e).1
    refine ⟨b, 0, rfl, hK _ r.own, r.blk.lt, hR w (fps i) K u x b _ (fun k hk => hK _ (r.sub i k hi hk).1) (r.blk.cell ?_) hr⟩
    rw [Nat.zero_add, Nat.mul_one, List.getElem?_append_left (by rw [r.hlen]; exact hi)]
    exact hu⟩
theorem OwnRow.read {α : Type} {R : Ow α} {Q : Rd α} (hR : Reads R Q) {t : TypeId} {w : World} {fp K : Nat → Prop} {a : Option Addr} {len cap : Nat} {xs : List α} (hK : ∀ k, fp k → K k) (r : OwnRow R t w fp (.slice a len cap) xs) : Row Q 1 K w a len cap xs := by
  rcases r with ⟨hv, rfl⟩ | ⟨b, cap', vs, sp, fps, hv, r⟩
  · cases hv; exact Row.nil Q 1 K w _ (by decide)
  · cases hv; exact r.read hR hK
theorem OwnRow.form {α : Type} {R : Ow α} {t : TypeId} {w : World} {fp : Nat → Prop} {v : Value} {xs : List α} (r : OwnRow R t w fp v xs) : ∃ a cap, v = .slice a xs.length cap := by
  rcases r with ⟨hv, rfl⟩ | ⟨b, cap', vs, sp, fps, hv, r⟩
  · exact ⟨_, _, hv⟩
  · exact ⟨_, _, hv⟩
theorem OwnRow.reads {α : Type} {R : Ow α} {Q : Rd α} (hR : Reads R Q) (t : TypeId) : Reads (OwnRow R t) (RSl Q 1) := fun w fp K v x b o hK hc r => by
  obtain ⟨a, cap, rfl⟩ := r.form
  exact ⟨a, _, cap, hc, r.read hR hK⟩
theorem OInts.read {w : World} {fp K : Nat → Prop} {a : Option Addr} {len cap : Nat} {xs : List Int} (hK : ∀ k, fp k → K k) (r : OInts w fp (.slice a len cap) xs) : Ints K w a len cap xs := OwnRow.read OInt.reads hK r
theorem OMat.read {w : World} {fp K : Nat → Prop} {a : Option Addr} {len cap : Nat} {xs : List (List Int)} (hK : ∀ k, fp k → K k) (r : OMat w fp (.slice a len cap) xs) : Mat K w a len cap xs := OwnRow.read (OwnRow.reads OInt.reads _) hK r

/-- The element at i was changed in place, in its own blocks alone. -/
theorem OwnAt.inner {α : Type} {R : Ow α} (hR : Local R) {t : TypeId} {w w' : World} {fp : Nat → Prop} {b cap : Nat} {vs sp : List Value} {fps : Nat → Nat → Prop} {xs : List α} (r : OwnAt R t w fp b cap vs sp fps xs)
    {i : Nat} (hi : i < xs.length) {u : Value} (hu : vs[i]? = some u) {x : α} (h : Chg (fps i) w w') (hx : R w' (fps i) u x) : OwnAt R t w' fp b cap vs sp fps (xs.set i x) := by
  have hb : ¬ fps i b := fun hk => (r.sub i b hi hk).2.1 rfl
  refine ⟨r.blk.chg h hb, by rw [List.length_set]; exact r.hlen, by rw [List.length_set]; exact r.hcap, r.hmax, by rw [List.length_set]; exact r.hsz, r.own, fun j y hj => ?_, fun j k hj hk => ?_, fun j l k hj hl => r.apart j l k (by rwa [List.length_set] at hj) (by rwa [List.length_set] at hl)⟩
  · rw [List.getElem?_set] at hj
    by_cases e : i = j
    · subst e
      rw [if_pos rfl, if_pos hi] at hj
      cases hj
      exact ⟨u, hu, hx⟩
    · rw [if_neg e] at hj
      have hjl := (List.getElem?_eq_some_iff.1 hj).1
      obtain ⟨v, hv, hr⟩ := r.row j y hj
      exact ⟨v, hv, hR.chg hr h fun k hk _ hm => e (r.apart i j k hi hjl hm hk)⟩
  · have := r.sub j k (by rwa [List.length_set] at hj) hk
    exact ⟨this.1, this.2.1, by have := h.size; omega⟩
/-- The element at i is overwritten by a value that stands for x. -/
theorem OwnAt.put {α : Type} {R : Ow α} (hR : Local R) {t : TypeId} {w : World} {fp f : Nat → Prop} {b cap : Nat} {vs sp : List Value} {fps : Nat → Nat → Prop} {xs : List α} (r : OwnAt R t w fp b cap vs sp fps xs)
    {i : Nat} (hi : i < xs.length) {u : Value} {x : α} (hx : R w f u x) (hf : ∀ k, f k → fp k ∧ k ≠ b ∧ k < w.heap.size ∧ ∀ j, j < xs.length → j ≠ i → ¬ fps j k) :
    OwnAt R t (w.setCell ⟨b, i, none⟩ u) fp b cap (vs.set i u) sp (fun j => if j = i then f else fps j) (xs.set i x) := by
  have hc : Chg (fun k => k = b) w (w.setCell ⟨b, i, none⟩ u) := Chg.setCell (M := fun k => k = b) (Chg.refl w) (fun _ => rfl) u
  refine ⟨(r.blk.set i u).at (by rw [List.set_append_left _ _ (by rw [r.hlen]; exact hi)]), by simp only [List.length_set]; exact r.hlen, by rw [List.length_set]; exact r.hcap, r.hmax, by rw [List.length_set]; exact r.hsz, r.own, fun j y hj => ?_, fun j k hj hk => ?_, fun j l k hj hl h1 h2 => ?_⟩
  · rw [List.getElem?_set] at hj
    by_cases e : i = j
    · subst e
      rw [if_pos rfl, if_pos hi] at hj
      cases hj
      refine ⟨u, by rw [List.getElem?_set_self (by rw [r.hlen]; exact hi)], ?_⟩
      simp only [if_true]
      exact hR.chg hx hc fun k hk _ hm => (hf k hk).2.1 hm
    · rw [if_neg e] at hj
      have hjl := (List.getElem?_eq_some_iff.1 hj).1
      obtain ⟨v, hv, hr⟩ := r.row j y hj
      refine ⟨v, by rw [List.getElem?_set_ne e]; exact hv, ?_⟩
      rw [if_neg (fun h => e h.symm)]
      exact hR.chg hr hc fun k hk _ hm => (r.sub j k hjl hk).2.1 hm
  · simp only [List.length_set] at hj
    rw [World.size_setCell]
    split at hk
    · have := hf k hk; exact ⟨this.1, this.2.1, this.2.2.1⟩
    · exact r.sub j k hj hk
  · simp only [List.length_set] at hj hl
    split at h1 <;> split at h2
    · omega
    · exact absurd h2 ((hf k h1).2.2.2 l hl (by assumption))
    · exact absurd h1 ((hf k h2).2.2.2 j hj (by assumption))
    · exact r.apart j l k hj hl h1 h2

theorem info_int : (Try.prog.info? 3).map (fun i => (i.zero, i.size, i.bytes)) = some (some (.int .i64 0), 1, 8) := by kernel_rfl
def iv (z : Int) : Value := .int .i64 z
/-- The cells of a list of integers. -/
def ivs (l : List Int) : List Value := l.map iv
theorem ivs_length (l : List Int) : (ivs l).length = l.length := List.length_map _
theorem ivs_get {l : List Int} {i : Nat} {z : Int} (h : l[i]? = some z) : (ivs l)[i]? = some (.int .i64 z) := by unfold ivs; rw [List.getElem?_map, h]; rfl
theorem ivs_one {l : List Int} : ∀ v ∈ ivs l, v.oneCell' = true := fun v h => by
  obtain ⟨z, _, rfl⟩ := List.mem_map.1 h; rfl
theorem ivs_append (l m : List Int) : ivs (l ++ m) = ivs l ++ ivs m := List.map_append
/-- What make lays. -/
def zeros (z : Value) (n : Nat) : List Value := List.replicate n z
theorem zeros_length (z : Value) (n : Nat) : (zeros z n).length = n := List.length_replicate
theorem zeros_get {z : Value} {n i : Nat} (h : i < n) : (zeros z n)[i]? = some z := by unfold zeros; rw [List.getElem?_replicate, if_pos h]
theorem zeros_ints (n : Nat) : zeros (.int .i64 0) n = ivs (List.replicate n 0) := by unfold zeros ivs iv; rw [List.map_replicate]
theorem madeCells_zeros (z : Value) (n : Nat) : madeCells #[z] n = (zeros z n).toArray := by
  apply Array.ext_getElem?
  intro i
  simp only [madeCells, zeros]
  by_cases h : i < n <;> simp [h, Nat.mod_one]

theorem make_ints (n : Nat) (h : n ≤ 17592186044416) (w : World) (kl kc : IntKind) : (Instr.makeSlice 22 (.int kl (n : Int)) (.int kc (n : Int))).run Try.prog w = .ok (.slice (some ⟨w.heap.size, 0, none⟩) n n) (w.alloc (.cells (zeros (.int .i64 0) n).toArray 3)) := by
  rw [← madeCells_zeros]
  exact run_make_row' 22 3 (.int .i64 0) 8 Try.underlying22 info_int rfl kl kc n (by omega) (by omega) w

/-- The place where a slice of integers is read from. -/
theorem Ints.src {K : Nat → Prop} {w : World} {a : Option Addr} {len cap : Nat} {xs : List Int} (r : Ints K w a len cap xs) (h : 0 < len) : ∃ b o, a = some ⟨b, o, none⟩ ∧ K b ∧ b < w.heap.size ∧ ∀ j v, (ivs xs)[j]? = some v → w.cell? ((⟨b, o, none⟩ : Addr).add j) = some v := by
  obtain ⟨b, o, z, rfl, _, _, _, _, hK, hb⟩ := r.get h
  refine ⟨b, o, rfl, hK, hb, fun j v hv => ?_⟩
  unfold ivs at hv
  rw [List.getElem?_map] at hv
  cases hx : xs[j]? with
  | none => rw [hx] at hv; cases hv
  | some x =>
    rw [hx] at hv; cases hv
    obtain ⟨b', o', e, _, _, hc, _⟩ := r.row j x hx
    cases e
    rw [Nat.mul_one] at hc
    have hadd : (⟨b, o, none⟩ : Addr).add j = ⟨b, o + j, none⟩ := by unfold Addr.add; split <;> simp_all
    rw [hadd]; exact hc

/-- What a copy into block g leaves: the block anew, all else as it was. -/
structure Laid (g : Nat) (t : TypeId) (vs : List Value) (w w' : World) : Prop where
  blk : Blk w' g t vs
  chg : Chg (fun k => k = g) w w'
  size : w'.heap.size = w.heap.size

theorem laid_setRow {w : World} {g : Nat} {t : TypeId} {cur vs : List Value} (h : Blk w g t cur) : Laid g t vs w (w.setRow g vs.toArray) :=
  ⟨setRow_heap w g _ _ t _ h, ⟨rfl, rfl, rfl, by rw [setRow_size]; exact Nat.le_refl _, fun k _ hk => setRow_other w g k _ hk⟩, setRow_size _ _ _⟩

theorem wpList_copy_laid {P : Program} {w : World} {ops : Array Oper} {rest : List Oper} {o : Oper} {a : Act} {Q : Exit → Act → World → Prop} (hgd : o.guard = none) (d s : Operand) (dT sT : TypeId)
    (ho : o.op = .call { callee := .builtin .copy, args := #[d, s], argTypes := #[dT, sT] }) (elem : TypeId) (hu : P.underlying dT = some (.slice elem)) (hsz : (P.info? elem).map (·.size) = some 1)
    (dp sp : Option Addr) (dLen dCap sLen sCap : Nat) (hd : a.eval d = .slice dp dLen dCap) (hs : a.eval s = .slice sp sLen sCap)
    (g off : Nat) (cur : List Value) (t : TypeId) (hg : Blk w g t cur) (cs : List Value) (hn : cs.length = Nat.min sLen dLen)
    (hpos : 0 < cs.length → dp = some ⟨g, off, none⟩ ∧ ∃ ad, sp = some ad ∧ ∀ j v, cs[j]? = some v → w.cell? (ad.add j) = some v)
    (hfit : off + cs.length ≤ cur.length) (h1 : ∀ v ∈ cs, v.oneCell' = true)
    (h : ∀ w', Hid (Laid g t (splice cur off cs) w w') → wpList P ops Q rest (a.put o.dst (goInt cs.length)) w') :
    wpList P ops Q (o :: rest) a w := by
  by_cases h0 : cs.length = 0
  · obtain rfl : cs = [] := List.eq_nil_of_length_eq_zero h0
    refine wpList_copy_nothing hgd d s dT sT ho elem hu hsz dp sp dLen dCap sLen sCap hd hs (by simpa using hn.symm) ?_
    exact h w ⟨hg.at (by simp [splice]), Chg.refl _, rfl⟩
  · obtain ⟨rfl, ad, rfl, hsrc⟩ := hpos (by omega)
    refine wpList_copy_own hgd d s dT sT ho elem hu hsz g off dLen dCap ad sLen sCap hd hs cur.toArray t hg cs hn hsrc (by simpa using hfit) h1 ?_
    exact h _ (laid_setRow (vs := splice cur off cs) hg)
theorem step_copy_laid {P : Program} {ops : Array Oper} {o : Oper} {a : Act} {w : World} {K : Act → World → Prop} {Q : Exit → Act → World → Prop} {E : Prop} (hgd : o.guard = none) (d s : Operand) (dT sT : TypeId)
    (ho : o.op = .call { callee := .builtin .copy, args := #[d, s], argTypes := #[dT, sT] }) (elem : TypeId) (hu : P.underlying dT = some (.slice elem)) (hsz : (P.info? elem).map (·.size) = some 1)
    (dp sp : Option Addr) (dLen dCap sLen sCap : Nat) (hd : a.eval d = .slice dp dLen dCap) (hs : a.eval s = .slice sp sLen sCap)
    (g off : Nat) (cur : List Value) (t : TypeId) (hg : Blk w g t cur) (cs : List Value) (hn : cs.length = Nat.min sLen dLen)
    (hpos : 0 < cs.length → dp = some ⟨g, off, none⟩ ∧ ∃ ad, sp = some ad ∧ ∀ j v, cs[j]? = some v → w.cell? (ad.add j) = some v)
    (hfit : off + cs.length ≤ cur.length) (h1 : ∀ v ∈ cs, v.oneCell' = true)
    (h : ∀ w', Hid (Laid g t (splice cur off cs) w w') → K (a.put o.dst (goInt cs.length)) w') :
    if Region.wanted o (yielded ops a.tmps) = true then Oper.wp P o a w K Q else E := by
  have hw : Region.wanted o (yielded ops a.tmps) = true := by simp [Region.wanted, hgd]
  rw [if_pos hw]
  by_cases h0 : cs.length = 0
  · obtain rfl : cs = [] := List.eq_nil_of_length_eq_zero h0
    have hrun := run_copy_none (P := P) w dT sT o.type elem dp sp dLen dCap sLen sCap hu hsz (by simpa using hn.symm)
    unfold Oper.wp
    simp [execOp, ho, resolve, invoke, builtin, hd, hs, hrun, Result.andThen]
    exact h w ⟨hg.at (by simp [splice]), Chg.refl _, rfl⟩
  · obtain ⟨rfl, ad, rfl, hsrc⟩ := hpos (by omega)
    have hrun := run_copy_row (P := P) w dT sT o.type elem g off dLen dCap ad sLen sCap cur.toArray t cs hu hsz hg hn hsrc (by simpa using hfit) h1
    unfold Oper.wp
    simp [execOp, ho, resolve, invoke, builtin, hd, hs, hrun, Result.andThen]
    have e : (List.take off cur ++ (cs ++ List.drop (off + cs.length) cur)) = splice cur off cs := rfl
    rw [e]
    exact h _ (laid_setRow (vs := splice cur off cs) hg)
theorem OwnAt.ints {w : World} {fp : Nat → Prop} {t : TypeId} {b cap : Nat} {vs sp : List Value} {fps : Nat → Nat → Prop} {xs : List Int} (r : OwnAt OInt t w fp b cap vs sp fps xs) : vs = ivs xs := by
  apply List.ext_getElem?
  intro i
  by_cases h : i < xs.length
  · obtain ⟨u, hu, rfl, _⟩ := r.row i _ (List.getElem?_eq_getElem h)
    rw [hu, ivs_get (List.getElem?_eq_getElem h)]
  · rw [List.getElem?_eq_none (by rw [r.hlen]; omega), List.getElem?_eq_none (by rw [ivs_length]; omega)]
theorem OInts.mk {w : World} {fp : Nat → Prop} {b cap n : Nat} {zs : List Int} {sp : List Value} (h : Blk w b 3 (ivs zs ++ sp)) (hn : n = zs.length) (hc : cap = zs.length + sp.length) (hm : cap ≤ 9223372036854775807) (hs : zs.length ≤ 17592186044416) (hf : fp b)
    (hz : ∀ z ∈ zs, -9223372036854775808 ≤ z ∧ z ≤ 9223372036854775807) : OInts w fp (.slice (some ⟨b, 0, none⟩) n cap) zs :=
  .inr ⟨b, cap, ivs zs, sp, fun _ _ => False, by rw [hn], h, ivs_length _, hc, hm, hs, hf, fun i x e => ⟨_, ivs_get e, rfl, hz x (List.mem_of_getElem? e)⟩, fun _ _ _ h => h.elim, fun _ _ _ _ _ h => h.elim⟩
theorem OwnAt.range {w : World} {fp : Nat → Prop} {t : TypeId} {b cap : Nat} {vs sp : List Value} {fps : Nat → Nat → Prop} {xs : List Int} (r : OwnAt OInt t w fp b cap vs sp fps xs) : ∀ z ∈ xs, -9223372036854775808 ≤ z ∧ z ≤ 9223372036854775807 := fun z hz => by
  obtain ⟨i, hi⟩ := List.getElem?_of_mem hz
  obtain ⟨u, _, _, h⟩ := r.row i z hi
  exact h
theorem Blk.some0 {w : World} {b : Nat} {t : TypeId} {vs : List Value} (h : Blk w b t vs) {i : Nat} (hi : i < vs.length) : ∃ v, w.cell? ⟨b, i, none⟩ = some v := ⟨_, h.cell (List.getElem?_eq_getElem hi)⟩
theorem splice_all {α : Type} {L cs : List α} (h : L.length = cs.length) : splice L 0 cs = cs := by unfold splice; simp [h]
end Go.Proofs.Ytonbmijhbbodnaa
