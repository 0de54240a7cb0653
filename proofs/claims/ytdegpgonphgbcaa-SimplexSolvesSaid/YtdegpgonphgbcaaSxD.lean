/-
  The dictionary of the simplex method in memory.
-/
import Derived.Test.YtdegpgonphgbcaaSxC
import Derived.Test.YtdegpgonphgbcaaZSxP
namespace Go.Proofs.Ytdegpgonphgbcaa
open Go.RowKit
theorem frs_cons (y : Rat) (l : List Rat) (sp : List Value) : frs (y :: l) ++ sp = .int .i64 y.num :: .int .i64 (y.den : Int) :: (frs l ++ sp) := by unfold frs; rw [List.flatMap_cons]; rfl
theorem frs_set {l : List Rat} {j : Nat} {x : Rat} (h : j < l.length) (sp : List Value) : ((frs l ++ sp).set (j * 2) (.int .i64 x.num)).set (j * 2 + 1) (.int .i64 (x.den : Int)) = frs (l.set j x) ++ sp := by
  induction l generalizing j with
  | nil => simp at h
  | cons y l ih =>
    cases j with
    | zero => rw [List.set_cons_zero, frs_cons, frs_cons]; rfl
    | succ j =>
      rw [List.set_cons_succ, frs_cons, frs_cons, ← ih (by simpa using h), show (j + 1) * 2 = j * 2 + 1 + 1 by omega]
      simp only [List.set_cons_succ]
abbrev FBlk (w : World) (b : Nat) (l : List Rat) (sp : List Value) : Prop := Blk w b 31 (frs l ++ sp)
theorem FBlk.get {w : World} {b : Nat} {l : List Rat} {sp : List Value} (h : FBlk w b l sp) {j : Nat} {x : Rat} (hx : l[j]? = some x) : w.cell? ⟨b, j * 2, none⟩ = some (.int .i64 x.num) ∧ w.cell? ⟨b, j * 2 + 1, none⟩ = some (.int .i64 (x.den : Int)) := by
  have hj := (List.getElem?_eq_some_iff.1 hx).1
  have := frs_get hx
  exact ⟨h.cell (by rw [List.getElem?_append_left (by rw [frs_length]; omega)]; exact this.1), h.cell (by rw [List.getElem?_append_left (by rw [frs_length]; omega)]; exact this.2)⟩
theorem FBlk.put {w : World} {b : Nat} {l : List Rat} {sp : List Value} (h : FBlk w b l sp) {j : Nat} (hj : j < l.length) (x : Rat) : FBlk ((w.setCell ⟨b, j * 2, none⟩ (.int .i64 x.num)).setCell ⟨b, j * 2 + 1, none⟩ (.int .i64 (x.den : Int))) b (l.set j x) sp :=
  ((h.set (j * 2) (.int .i64 x.num)).set (j * 2 + 1) (.int .i64 (x.den : Int))).at (frs_set hj sp)
theorem chg_put {w0 w : World} {b : Nat} {M : Nat → Prop} (h : Chg M w0 w) (hM : b < w0.heap.size → M b) (j : Nat) (u v : Value) : Chg M w0 ((w.setCell ⟨b, j * 2, none⟩ u).setCell ⟨b, j * 2 + 1, none⟩ v) := (h.setCell hM _).setCell hM _
abbrev ORows := OwnRow OFr 32
theorem OFr.loc : Local OFr := fun w w' fp v x h hs r => by
  rcases r with r | ⟨b, cap, sp, hv, r⟩
  · exact .inl r
  · exact .inr ⟨b, cap, sp, hv, r.blk.of (h b r.own r.blk.lt), r.hcap, r.hsz, r.own⟩
structure Dic (w : World) (fp : Nat → Prop) (q : Nat) (ins outs : List Int) (rows : List (List Rat)) (vI vO vR : Value) (fI fO fR : Nat → Prop) : Prop where
  has : Has w q [vI, vO, vR]
  hin : OInts w fI vI ins
  hout : OInts w fO vO outs
  hrows : ORows w fR vR rows
  sI : ∀ k, fI k → fp k
  sO : ∀ k, fO k → fp k
  sR : ∀ k, fR k → fp k
  sq : fp q
  io : ∀ k, fI k → ¬ fO k
  ir : ∀ k, fI k → ¬ fR k
  or_ : ∀ k, fO k → ¬ fR k
  qi : ¬ fI q
  qo : ¬ fO q
  qr : ¬ fR q
theorem Dic.chg {w w' : World} {fp M : Nat → Prop} {q : Nat} {ins outs : List Int} {rows : List (List Rat)} {vI vO vR : Value} {fI fO fR : Nat → Prop} (d : Dic w fp q ins outs rows vI vO vR fI fO fR) (h : Chg M w w') (hM : ∀ k, fp k → k < w.heap.size → ¬ M k) : Dic w' fp q ins outs rows vI vO vR fI fO fR :=
  ⟨h.has d.has (d.has.lt (by simp)) (hM q d.sq (d.has.lt (by simp))), OInts.loc.chg d.hin h (fun k hk hl => hM k (d.sI k hk) hl), OInts.loc.chg d.hout h (fun k hk hl => hM k (d.sO k hk) hl), (OwnRow.loc OFr.loc _).chg d.hrows h (fun k hk hl => hM k (d.sR k hk) hl), d.sI, d.sO, d.sR, d.sq, d.io, d.ir, d.or_, d.qi, d.qo, d.qr⟩
theorem Dic.drew {w : World} {fp : Nat → Prop} {q : Nat} {ins outs : List Int} {rows : List (List Rat)} {vI vO vR : Value} {fI fO fR : Nat → Prop} (d : Dic w fp q ins outs rows vI vO vR fI fO fR) : Dic w.drew fp q ins outs rows vI vO vR fI fO fR := d.chg (M := Non) (Chg.refl w).drew (fun _ _ _ h => h)
theorem own_put {w : World} {f : Nat → Prop} {b c : Nat} {vs sp : List Value} {fps : Nat → Nat → Prop} {l : List Int} (r : OwnAt OInt 3 w f b c vs sp fps l) {i : Nat} (hi : i < l.length) {z : Int} (hz : -9223372036854775808 ≤ z ∧ z ≤ 9223372036854775807) : OInts (w.setCell ⟨b, i, none⟩ (.int .i64 z)) f (.slice (some ⟨b, 0, none⟩) (l.set i z).length c) (l.set i z) :=
  .inr ⟨b, c, _, sp, _, rfl, r.put OInt.loc hi (u := .int .i64 z) (x := z) (f := fun _ => False) ⟨rfl, hz⟩ (fun _ h => h.elim)⟩
theorem dic_swap {w : World} {fp : Nat → Prop} {q : Nat} {ins outs : List Int} {rows : List (List Rat)} {vI vO vR : Value} {fI fO fR : Nat → Prop} (d : Dic w fp q ins outs rows vI vO vR fI fO fR)
    {bI cI bO cO : Nat} {viI spI viO spO : List Value} {fpsI fpsO : Nat → Nat → Prop} (hvI : vI = .slice (some ⟨bI, 0, none⟩) ins.length cI) (rI : OwnAt OInt 3 w fI bI cI viI spI fpsI ins) (hvO : vO = .slice (some ⟨bO, 0, none⟩) outs.length cO) (rO : OwnAt OInt 3 w fO bO cO viO spO fpsO outs)
    {i k : Nat} {zi zo : Int} (hi : i < ins.length) (hk : k < outs.length) (hzo : -9223372036854775808 ≤ zo ∧ zo ≤ 9223372036854775807) (hzi : -9223372036854775808 ≤ zi ∧ zi ≤ 9223372036854775807) :
    Dic ((w.setCell ⟨bI, i, none⟩ (.int .i64 zo)).setCell ⟨bO, k, none⟩ (.int .i64 zi)) fp q (ins.set i zo) (outs.set k zi) rows vI vO vR fI fO fR := by
  have hIO : bI ≠ bO := fun e => d.io bI rI.own (e ▸ rO.own)
  have c1 : Chg (fun x => x = bI) w (w.setCell ⟨bI, i, none⟩ (.int .i64 zo)) := Chg.setCell (M := fun x => x = bI) (p := ⟨bI, i, none⟩) (Chg.refl w) (fun _ => rfl) _
  have c2 : Chg (fun x => x = bO) (w.setCell ⟨bI, i, none⟩ (.int .i64 zo)) ((w.setCell ⟨bI, i, none⟩ (.int .i64 zo)).setCell ⟨bO, k, none⟩ (.int .i64 zi)) := Chg.setCell (M := fun x => x = bO) (p := ⟨bO, k, none⟩) (Chg.refl _) (fun _ => rfl) _
  have h1 := own_put rI hi hzo
  rw [List.length_set, ← hvI] at h1
  have rO1 : OwnAt OInt 3 (w.setCell ⟨bI, i, none⟩ (.int .i64 zo)) fO bO cO viO spO fpsO outs := rO.keeps OInt.loc (fun y hy hl => c1.block y hl (fun e => d.io bI rI.own (e ▸ hy))) c1.size
  have h2 := own_put rO1 hk hzi
  rw [List.length_set, ← hvO] at h2
  have qI : q ≠ bI := fun e => d.qi (e ▸ rI.own)
  have qO : q ≠ bO := fun e => d.qo (e ▸ rO.own)
  exact ⟨(d.has.other qI).other qO, OInts.loc.chg h1 c2 (fun y hy _ e => d.io y hy (e ▸ rO.own)), h2, (OwnRow.loc OFr.loc _).chg ((OwnRow.loc OFr.loc _).chg d.hrows c1 (fun y hy _ e => d.ir bI rI.own (e ▸ hy))) c2 (fun y hy _ e => d.or_ bO rO.own (e ▸ hy)), d.sI, d.sO, d.sR, d.sq, d.io, d.ir, d.or_, d.qi, d.qo, d.qr⟩
end Go.Proofs.Ytdegpgonphgbcaa
