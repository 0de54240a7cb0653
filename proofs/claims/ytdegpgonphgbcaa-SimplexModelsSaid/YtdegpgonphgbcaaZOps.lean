/-
  make and copy in a walk, for cells of integers and of slices: the world behind them by blocks known whole. Small laws.
  copy of lists of structs into a block that the call owns. No program in sight.
-/
import Derived.Deep.OwnRows
import Derived.Deep.RegionLaw
import Derived.Test.YtdegpgonphgbcaaRows
import Derived.Test.YtdegpgonphgbcaaOwn
namespace Go.Proofs.Ytdegpgonphgbcaa
open Go.RowKit

theorem info_int : (Try.prog.info? 3).map (fun i => (i.zero, i.size, i.bytes)) = some (some (.int .i64 0), 1, 8) := by kernel_rfl
def iv (z : Int) : Value := .int .i64 z
/-- The cells of a list of integers. -/
def ivs (l : List Int) : List Value := l.map iv
theorem ivs_length (l : List Int) : (ivs l).length = l.length := List.length_map _
theorem ivs_get {l : List Int} {i : Nat} {z : Int} (h : l[i]? = some z) : (ivs l)[i]? = some (.int .i64 z) := by unfold ivs; rw [List.getElem?_map, h]; rfl
theorem ivs_one {l : List Int} : ∀ v ∈ ivs l, v.oneCell' = true := fun v h => by
  obtain ⟨z, _, rfl⟩ := List.mem_map.1 h; rfl
theorem ivs_append (l m : List Int) : ivs (l ++ m) = ivs l ++ ivs m := List.map_append
/-- What make lays. -/
def zeros (z : Value) (n : Nat) : List Value := List.replicate n z
theorem zeros_length (z : Value) (n : Nat) : (zeros z n).length = n := List.length_replicate
theorem zeros_get {z : Value} {n i : Nat} (h : i < n) : (zeros z n)[i]? = some z := by unfold zeros; rw [List.getElem?_replicate, if_pos h]
theorem zeros_ints (n : Nat) : zeros (.int .i64 0) n = ivs (List.replicate n 0) := by unfold zeros ivs iv; rw [List.map_replicate]
theorem madeCells_zeros (z : Value) (n : Nat) : madeCells #[z] n = (zeros z n).toArray := by
  apply Array.ext_getElem?
  intro i
  simp only [madeCells, zeros]
  by_cases h : i < n <;> simp [h, Nat.mod_one]

theorem make_ints (n : Nat) (h : n ≤ 17592186044416) (w : World) (kl kc : IntKind) : (Instr.makeSlice 22 (.int kl (n : Int)) (.int kc (n : Int))).run Try.prog w = .ok (.slice (some ⟨w.heap.size, 0, none⟩) n n) (w.alloc (.cells (zeros (.int .i64 0) n).toArray 3)) := by
  rw [← madeCells_zeros]
  exact run_make_row' 22 3 (.int .i64 0) 8 Try.underlying22 info_int rfl kl kc n (by omega) (by omega) w

/-- The place where a slice of integers is read from. -/
theorem Ints.src {K : Nat → Prop} {w : World} {a : Option Addr} {len cap : Nat} {xs : List Int} (r : Ints K w a len cap xs) (h : 0 < len) : ∃ b o, a = some ⟨b, o, none⟩ ∧ K b ∧ b < w.heap.size ∧ ∀ j v, (ivs xs)[j]? = some v → w.cell? ((⟨b, o, none⟩ : Addr).add j) = some v := by
  obtain ⟨b, o, z, rfl, _, _, _, _, hK, hb⟩ := r.get h
  refine ⟨b, o, rfl, hK, hb, fun j v hv => ?_⟩
  unfold ivs at hv
  rw [List.getElem?_map] at hv
  cases hx : xs[j]? with
  | none => rw [hx] at hv; cases hv
  | some x =>
    rw [hx] at hv; cases hv
    obtain ⟨b', o', e, _, _, hc, _⟩ := r.row j x hx
    cases e
    rw [Nat.mul_one] at hc
    have hadd : (⟨b, o, none⟩ : Addr).add j = ⟨b, o + j, none⟩ := by unfold Addr.add; split <;> simp_all
    rw [hadd]; exact hc

/-- What a copy into block g leaves: the block anew, all else as it was. -/
structure Laid (g : Nat) (t : TypeId) (vs : List Value) (w w' : World) : Prop where
  blk : Blk w' g t vs
  chg : Chg (fun k => k = g) w w'
  size : w'.heap.size = w.heap.size

theorem laid_setRow {w : World} {g : Nat} {t : TypeId} {cur vs : List Value} (h : Blk w g t cur) : Laid g t vs w (w.setRow g vs.toArray) :=
  ⟨setRow_heap w g _ _ t _ h, ⟨rfl, rfl, rfl, by rw [setRow_size]; exact Nat.le_refl _, fun k _ hk => setRow_other w g k _ hk⟩, setRow_size _ _ _⟩

theorem wpList_copy_laid {P : Program} {w : World} {ops : Array Oper} {rest : List Oper} {o : Oper} {a : Act} {Q : Exit → Act → World → Prop} (hgd : o.guard = none) (d s : Operand) (dT sT : TypeId)
    (ho : o.op = .call { callee := .builtin .copy, args := #[d, s], argTypes := #[dT, sT] }) (elem : TypeId) (hu : P.underlying dT = some (.slice elem)) (hsz : (P.info? elem).map (·.size) = some 1)
    (dp sp : Option Addr) (dLen dCap sLen sCap : Nat) (hd : a.eval d = .slice dp dLen dCap) (hs : a.eval s = .slice sp sLen sCap)
    (g off : Nat) (cur : List Value) (t : TypeId) (hg : Blk w g t cur) (cs : List Value) (hn : cs.length = Nat.min sLen dLen)
    (hpos : 0 < cs.length → dp = some ⟨g, off, none⟩ ∧ ∃ ad, sp = some ad ∧ ∀ j v, cs[j]? = some v → w.cell? (ad.add j) = some v)
    (hfit : off + cs.length ≤ cur.length) (h1 : ∀ v ∈ cs, v.oneCell' = true)
    (h : ∀ w', Hid (Laid g t (splice cur off cs) w w') → wpList P ops Q rest (a.put o.dst (goInt cs.length)) w') :
    wpList P ops Q (o :: rest) a w := by
  by_cases h0 : cs.length = 0
  · obtain rfl : cs = [] := List.eq_nil_of_length_eq_zero h0
    refine wpList_copy_nothing hgd d s dT sT ho elem hu hsz dp sp dLen dCap sLen sCap hd hs (by simpa using hn.symm) ?_
    exact h w ⟨hg.at (by simp [splice]), Chg.refl _, rfl⟩
  · obtain ⟨rfl, ad, rfl, hsrc⟩ := hpos (by omega)
    refine wpList_copy_own hgd d s dT sT ho elem hu hsz g off dLen dCap ad sLen sCap hd hs cur.toArray t hg cs hn hsrc (by simpa using hfit) h1 ?_
    exact h _ (laid_setRow (vs := splice cur off cs) hg)
theorem step_copy_laid {P : Program} {ops : Array Oper} {o : Oper} {a : Act} {w : World} {K : Act → World → Prop} {Q : Exit → Act → World → Prop} {E : Prop} (hgd : o.guard = none) (d s : Operand) (dT sT : TypeId)
    (ho : o.op = .call { callee := .builtin .copy, args := #[d, s], argTypes := #[dT, sT] }) (elem : TypeId) (hu : P.underlying dT = some (.slice elem)) (hsz : (P.info? elem).map (·.size) = some 1)
    (dp sp : Option Addr) (dLen dCap sLen sCap : Nat) (hd : a.eval d = .slice dp dLen dCap) (hs : a.eval s = .slice sp sLen sCap)
    (g off : Nat) (cur : List Value) (t : TypeId) (hg : Blk w g t cur) (cs : List Value) (hn : cs.length = Nat.min sLen dLen)
    (hpos : 0 < cs.length → dp = some ⟨g, off, none⟩ ∧ ∃ ad, sp = some ad ∧ ∀ j v, cs[j]? = some v → w.cell? (ad.add j) = some v)
    (hfit : off + cs.length ≤ cur.length) (h1 : ∀ v ∈ cs, v.oneCell' = true)
    (h : ∀ w', Hid (Laid g t (splice cur off cs) w w') → K (a.put o.dst (goInt cs.length)) w') :
    if Region.wanted o (yielded ops a.tmps) = true then Oper.wp P o a w K Q else E := by
  have hw : Region.wanted o (yielded ops a.tmps) = true := by simp [Region.wanted, hgd]
  rw [if_pos hw]
  by_cases h0 : cs.length = 0
  · obtain rfl : cs = [] := List.eq_nil_of_length_eq_zero h0
    have hrun := run_copy_none (P := P) w dT sT o.type elem dp sp dLen dCap sLen sCap hu hsz (by simpa using hn.symm)
    unfold Oper.wp
    simp [execOp, ho, resolve, invoke, builtin, hd, hs, hrun, Result.andThen]
    exact h w ⟨hg.at (by simp [splice]), Chg.refl _, rfl⟩
  · obtain ⟨rfl, ad, rfl, hsrc⟩ := hpos (by omega)
    have hrun := run_copy_row (P := P) w dT sT o.type elem g off dLen dCap ad sLen sCap cur.toArray t cs hu hsz hg hn hsrc (by simpa using hfit) h1
    unfold Oper.wp
    simp [execOp, ho, resolve, invoke, builtin, hd, hs, hrun, Result.andThen]
    have e : (List.take off cur ++ (cs ++ List.drop (off + cs.length) cur)) = splice cur off cs := rfl
    rw [e]
    exact h _ (laid_setRow (vs := splice cur off cs) hg)
theorem OwnAt.ints {w : World} {fp : Nat → Prop} {t : TypeId} {b cap : Nat} {vs sp : List Value} {fps : Nat → Nat → Prop} {xs : List Int} (r : OwnAt OInt t w fp b cap vs sp fps xs) : vs = ivs xs := by
  apply List.ext_getElem?
  intro i
  by_cases h : i < xs.length
  · obtain ⟨u, hu, rfl, _⟩ := r.row i _ (List.getElem?_eq_getElem h)
    rw [hu, ivs_get (List.getElem?_eq_getElem h)]
  · rw [List.getElem?_eq_none (by rw [r.hlen]; omega), List.getElem?_eq_none (by rw [ivs_length]; omega)]
theorem OInts.mk {w : World} {fp : Nat → Prop} {b cap n : Nat} {zs : List Int} {sp : List Value} (h : Blk w b 3 (ivs zs ++ sp)) (hn : n = zs.length) (hc : cap = zs.length + sp.length) (hm : cap ≤ 9223372036854775807) (hs : zs.length ≤ 17592186044416) (hf : fp b)
    (hz : ∀ z ∈ zs, -9223372036854775808 ≤ z ∧ z ≤ 9223372036854775807) : OInts w fp (.slice (some ⟨b, 0, none⟩) n cap) zs :=
  .inr ⟨b, cap, ivs zs, sp, fun _ _ => False, by rw [hn], h, ivs_length _, hc, hm, hs, hf, fun i x e => ⟨_, ivs_get e, rfl, hz x (List.mem_of_getElem? e)⟩, fun _ _ _ h => h.elim, fun _ _ _ _ _ h => h.elim⟩
theorem OwnAt.range {w : World} {fp : Nat → Prop} {t : TypeId} {b cap : Nat} {vs sp : List Value} {fps : Nat → Nat → Prop} {xs : List Int} (r : OwnAt OInt t w fp b cap vs sp fps xs) : ∀ z ∈ xs, -9223372036854775808 ≤ z ∧ z ≤ 9223372036854775807 := fun z hz => by
  obtain ⟨i, hi⟩ := List.getElem?_of_mem hz
  obtain ⟨u, _, _, h⟩ := r.row i z hi
  exact h
theorem Blk.some0 {w : World} {b : Nat} {t : TypeId} {vs : List Value} (h : Blk w b t vs) {i : Nat} (hi : i < vs.length) : ∃ v, w.cell? ⟨b, i, none⟩ = some v := ⟨_, h.cell (List.getElem?_eq_getElem hi)⟩
theorem splice_all {α : Type} {L cs : List α} (h : L.length = cs.length) : splice L 0 cs = cs := by unfold splice; simp [h]
end Go.Proofs.Ytdegpgonphgbcaa
namespace Go.Proofs.Ytdegpgonphgbcaa
open Go.RowKit

theorem run_copy_row_sz {P : Program} (w : World) (dT sT ty elem : TypeId) (sz m g o dLen dCap : Nat) (a : Addr) (sLen sCap : Nat) (cur : Array Value) (t : TypeId) (cs : List Value)
    (hu : P.underlying dT = some (.slice elem)) (hs : (P.info? elem).map (·.size) = some sz)
    (hg : w.heap[g]? = some (.cells cur t (0, 0))) (hm : m = Nat.min sLen dLen) (hn : cs.length = m * sz)
    (hsrc : ∀ j v, cs[j]? = some v → w.cell? (a.add j) = some v) (hfit : o + cs.length ≤ cur.size) (h1 : ∀ v ∈ cs, v.oneCell' = true) :
    (Builtin.copy_ #[dT, sT] ty #[.slice (some ⟨g, o, none⟩) dLen dCap, .slice (some a) sLen sCap]).run P w =
      .ok (goInt m) (w.setRow g (cur.toList.take o ++ cs ++ cur.toList.drop (o + cs.length)).toArray) := by
  have hl := run_loadCells_list (P := P) w a cs hsrc
  have hst := run_storeCells_at P g o t cs 0 cur w hg (by simpa using hfit) h1
  subst hm
  cases hq : P.info? elem with
  | none => simp [hq] at hs
  | some i =>
    have hi : i.size = sz := by simpa [hq] using hs
    rw [hn] at hl
    simp [Builtin.copy_, run_underlying hu, Builtin.lenOf, Builtin.firstCells, sizeOf, typeInfo, hq, hi, hl, hst]
theorem run_copy_none_sz {P : Program} (w : World) (dT sT ty elem : TypeId) (sz : Nat) (d a : Option Addr) (dLen dCap sLen sCap : Nat) (hu : P.underlying dT = some (.slice elem)) (hs : (P.info? elem).map (·.size) = some sz) (hn : Nat.min sLen dLen = 0) :
    (Builtin.copy_ #[dT, sT] ty #[.slice d dLen dCap, .slice a sLen sCap]).run P w = .ok (goInt 0) w := by
  cases hq : P.info? elem with
  | none => simp [hq] at hs
  | some i =>
    have hl : ∀ (x : Addr), (loadCells x 0).run P w = .ok #[] w := fun x => by simpa using run_loadCells_list (P := P) w x [] (by simp)
    cases d <;> cases a <;> simp [Builtin.copy_, run_underlying hu, Builtin.lenOf, Builtin.firstCells, sizeOf, typeInfo, hq, hn, storeCells, hl]
theorem run_copy_sz {P : Program} {w : World} (dT sT ty elem : TypeId) (sz m : Nat) (hu : P.underlying dT = some (.slice elem)) (hs : (P.info? elem).map (·.size) = some sz)
    (dp sp : Option Addr) (dLen dCap sLen sCap : Nat) (g off : Nat) (cur : List Value) (t : TypeId) (hg : Blk w g t cur) (cs : List Value) (hm : m = Nat.min sLen dLen) (hn : cs.length = m * sz)
    (hpos : 0 < m → dp = some ⟨g, off, none⟩ ∧ ∃ ad, sp = some ad ∧ ∀ j v, cs[j]? = some v → w.cell? (ad.add j) = some v)
    (hfit : off + cs.length ≤ cur.length) (h1 : ∀ v ∈ cs, v.oneCell' = true) :
    ∃ w', (Builtin.copy_ #[dT, sT] ty #[.slice dp dLen dCap, .slice sp sLen sCap]).run P w = .ok (goInt m) w' ∧ Laid g t (splice cur off cs) w w' := by
  by_cases h0 : m = 0
  · subst h0
    have hc : cs = [] := List.eq_nil_of_length_eq_zero (by omega)
    subst hc
    exact ⟨w, run_copy_none_sz w dT sT ty elem sz dp sp dLen dCap sLen sCap hu hs hm.symm, hg.at (by simp [splice]), Chg.refl _, rfl⟩
  · obtain ⟨rfl, ad, rfl, hsrc⟩ := hpos (by omega)
    exact ⟨_, run_copy_row_sz (P := P) w dT sT ty elem sz m g off dLen dCap ad sLen sCap cur.toArray t cs hu hs hg hm hn hsrc (by simpa using hfit) h1, by
      have e : (cur.toArray.toList.take off ++ cs ++ cur.toArray.toList.drop (off + cs.length)).toArray = (splice cur off cs).toArray := by simp [splice]
      rw [e]
      exact laid_setRow (vs := splice cur off cs) hg⟩
theorem wpList_copy_sz {P : Program} {w : World} {ops : Array Oper} {rest : List Oper} {o : Oper} {a : Act} {Q : Exit → Act → World → Prop} (hgd : o.guard = none) (d s : Operand) (dT sT : TypeId)
    (ho : o.op = .call { callee := .builtin .copy, args := #[d, s], argTypes := #[dT, sT] }) (elem : TypeId) (sz m : Nat) (hu : P.underlying dT = some (.slice elem)) (hs : (P.info? elem).map (·.size) = some sz)
    (dp sp : Option Addr) (dLen dCap sLen sCap : Nat) (hd : a.eval d = .slice dp dLen dCap) (hsp : a.eval s = .slice sp sLen sCap)
    (g off : Nat) (cur : List Value) (t : TypeId) (hg : Blk w g t cur) (cs : List Value) (hm : m = Nat.min sLen dLen) (hn : cs.length = m * sz)
    (hpos : 0 < m → dp = some ⟨g, off, none⟩ ∧ ∃ ad, sp = some ad ∧ ∀ j v, cs[j]? = some v → w.cell? (ad.add j) = some v)
    (hfit : off + cs.length ≤ cur.length) (h1 : ∀ v ∈ cs, v.oneCell' = true)
    (h : ∀ w', Hid (Laid g t (splice cur off cs) w w') → wpList P ops Q rest (a.put o.dst (goInt m)) w') :
    wpList P ops Q (o :: rest) a w := by
  obtain ⟨w', hr, hl⟩ := run_copy_sz dT sT o.type elem sz m hu hs dp sp dLen dCap sLen sCap g off cur t hg cs hm hn hpos hfit h1
  refine wpList_plain hgd fun K hK => ?_
  unfold Oper.wp execOp
  simp only [ho, resolve, invoke, builtin, Sem.run_bind, Sem.run_pure, Result.andThen_ok, List.map_toArray, List.map_cons, List.map_nil, hd, hsp, hr]
  exact hK _ _ (h w' hl)
theorem step_copy_sz {P : Program} {ops : Array Oper} {o : Oper} {a : Act} {w : World} {K : Act → World → Prop} {Q : Exit → Act → World → Prop} {E : Prop} (hgd : o.guard = none) (d s : Operand) (dT sT : TypeId)
    (ho : o.op = .call { callee := .builtin .copy, args := #[d, s], argTypes := #[dT, sT] }) (elem : TypeId) (sz m : Nat) (hu : P.underlying dT = some (.slice elem)) (hs : (P.info? elem).map (·.size) = some sz)
    (dp sp : Option Addr) (dLen dCap sLen sCap : Nat) (hd : a.eval d = .slice dp dLen dCap) (hsp : a.eval s = .slice sp sLen sCap)
    (g off : Nat) (cur : List Value) (t : TypeId) (hg : Blk w g t cur) (cs : List Value) (hm : m = Nat.min sLen dLen) (hn : cs.length = m * sz)
    (hpos : 0 < m → dp = some ⟨g, off, none⟩ ∧ ∃ ad, sp = some ad ∧ ∀ j v, cs[j]? = some v → w.cell? (ad.add j) = some v)
    (hfit : off + cs.length ≤ cur.length) (h1 : ∀ v ∈ cs, v.oneCell' = true)
    (h : ∀ w', Hid (Laid g t (splice cur off cs) w w') → K (a.put o.dst (goInt m)) w') :
    if Region.wanted o (yielded ops a.tmps) = true then Oper.wp P o a w K Q else E := by
  have hw : Region.wanted o (yielded ops a.tmps) = true := by simp [Region.wanted, hgd]
  rw [if_pos hw]
  obtain ⟨w', hr, hl⟩ := run_copy_sz dT sT o.type elem sz m hu hs dp sp dLen dCap sLen sCap g off cur t hg cs hm hn hpos hfit h1
  unfold Oper.wp
  simp [execOp, ho, resolve, invoke, builtin, hd, hsp, hr, Result.andThen]
  exact h w' hl
end Go.Proofs.Ytdegpgonphgbcaa
