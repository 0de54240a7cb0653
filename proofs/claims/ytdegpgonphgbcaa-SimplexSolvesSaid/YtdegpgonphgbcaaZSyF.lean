/-
  The document's Small.
  timeboundref32.
  What multipliers prove (plain).
  The document's Best.
-/
import Derived.Test.YtdegpgonphgbcaaZSyD
import Derived.Test.YtdegpgonphgbcaaZPrC
import Derived.Test.YtdegpgonphgbcaaTaD
namespace Go.Proofs.Ytdegpgonphgbcaa
open Go.RowKit
theorem TermsOk.most {l : List (Int × Int)} {cols m m' : Int} {k : Nat} (h : TermsOk l cols m k) (hm : m ≤ m') : TermsOk l cols m' k := fun i t hi ht => by
  obtain ⟨a, b, c, d, e, f⟩ := h i t hi ht
  exact ⟨a, b, c, d, by omega, by omega⟩
theorem SmallP.valid {cols : Int} {rows : List (List (Int × Int) × Int)} {goal : List (Int × Int)} {c0 : Int} (h : SmallP cols rows goal c0) : ValidP cols rows goal c0 :=
  ⟨h.1, by have := h.2.1; omega, by have := h.2.2.1; omega, h.2.2.2.1.most (by decide), by have := h.2.2.2.2.1; omega, by have := h.2.2.2.2.2.1; omega, fun x hx => ⟨(h.2.2.2.2.2.2 x hx).1.most (by decide), by have := (h.2.2.2.2.2.2 x hx).2; omega⟩⟩
set_option maxRecDepth 100000 in
set_option maxHeartbeats 8000000 in
theorem rsmall_any (K : Nat → Prop) (cols : Int) (rows : List (List (Int × Int) × Int)) (goal : List (Int × Int)) (c0 : Int) (ra : Option Addr) (rn rc : Nat) (ga : Option Addr) (gn gc : Nat) (w : World) (R : Row RRw 2 K w ra rn rc rows) (G : Row RTm 2 K w ga gn gc goal) :
    Calls Try.prog 28 #[MdV cols (.slice ra rn rc) ga gn gc c0] w (YesNo (SmallP cols rows goal c0) w) := by
  obtain ⟨wa, hwa⟩ : ∃ wa, wa = w.alloc (.cells (MdC cols (.slice ra rn rc) ga gn gc c0).toArray 28) := ⟨_, rfl⟩
  have BA := Lib.hid (show Below w.heap.size w wa by rw [hwa]; exact (Below.refl _ _).alloc (Nat.le_refl _) _)
  have MA := Lib.hid (show Blk wa w.heap.size 28 (MdC cols (.slice ra rn rc) ga gn gc c0) by rw [hwa]; exact Blk.new w _ _)
  have HWA := Lib.hid hwa; have HR := Lib.hid R; have HG := Lib.hid G; have HL := Lib.hid R.hlen
  have VA := Lib.hid (rvalidm_any K cols rows goal c0 ra rn rc ga gn gc wa (R.keeps RRw.stays (fun y _ hl => BA.out.block y hl) BA.out.size) (G.keeps RTm.stays (fun y _ hl => BA.out.block y hl) BA.out.size))
  have h6 := R.hsz
  have m0 := MA.out.cell (i := 0) rfl; have m1 := MA.out.cell (i := 1) rfl; have m2 := MA.out.cell (i := 2) rfl; have m3 := MA.out.cell (i := 3) rfl
  clear hwa R G
  go_enter Try.func28, Try.ntmps28
  go_upto_region 1 with fail
  rw [← HWA.out]
  go_wp2_with fail
  refine VA.out.mono ?_
  rintro e w1 ⟨rv, rfl, hrv, hb⟩
  have HV := Lib.hid hrv
  have B1 := Lib.hid (BA.out.trans (hb.mono BA.out.size))
  have M1 := Lib.hid (MA.out.below hb MA.out.lt)
  clear hrv hb m0 m1 m2 m3
  cases rv with
  | false =>
    have NO := Lib.hid (show ¬ SmallP cols rows goal c0 from fun h => by have := HV.out.2 h.valid; cases this)
    go_wp2
    go_ret
    exact no_ret NO.out B1.out rfl
  | true =>
    have V0 := Lib.hid (HV.out.1 rfl)
    have m0 := M1.out.cell (i := 0) rfl; have m1 := M1.out.cell (i := 1) rfl; have m2 := M1.out.cell (i := 2) rfl
    have TR := Lib.hid (rterms_any K goal cols 9 (by decide) w1 ga gn gc (HG.out.keeps RTm.stays (fun y _ hl => B1.out.block y hl) B1.out.size))
    clear HV
    by_cases q1 : 6 < cols
    · have NO := Lib.hid (show ¬ SmallP cols rows goal c0 from fun h => by have := h.2.1; omega)
      go_wp2
      go_ret
      exact no_ret NO.out B1.out rfl
    by_cases q2 : 6 < rn
    · have NO := Lib.hid (show ¬ SmallP cols rows goal c0 from fun h => by have := h.2.2.1; have := HL.out; omega)
      have q2' : (6 : Int) < (rn : Int) := by omega
      go_wp2
      go_ret
      exact no_ret NO.out B1.out rfl
    have q2' : ¬ (6 : Int) < (rn : Int) := by omega
    go_wp2_with fail
    refine TR.out.mono ?_
    rintro e w2 ⟨r, rfl, hr, hb⟩
    have HRR := Lib.hid hr
    have B2 := Lib.hid (B1.out.trans (hb.mono B1.out.size))
    have M2 := Lib.hid (M1.out.below hb M1.out.lt)
    clear hr hb m0 m1 m2
    have m3 := M2.out.cell (i := 3) rfl
    have m1 := M2.out.cell (i := 1) rfl
    cases r with
    | false =>
      have NO := Lib.hid (show ¬ SmallP cols rows goal c0 from fun h => by have := HRR.out.2 h.2.2.2.1; cases this)
      go_wp2
      go_ret
      exact no_ret NO.out B2.out rfl
    | true =>
      have T0 := Lib.hid (HRR.out.1 rfl)
      clear HRR
      by_cases q4 : c0 < -9
      · have NO := Lib.hid (show ¬ SmallP cols rows goal c0 from fun h => by have := h.2.2.2.2.1; omega)
        go_wp2
        go_ret
        exact no_ret NO.out B2.out rfl
      by_cases q5 : 9 < c0
      · have NO := Lib.hid (show ¬ SmallP cols rows goal c0 from fun h => by have := h.2.2.2.2.2.1; omega)
        go_wp2
        go_ret
        exact no_ret NO.out B2.out rfl
      go_wp2
      clear m1 m3
      go_loopw [40] (fun i wr => ∃ k : Nat, k ≤ rn ∧ i = .int .i64 k ∧ (∀ x, x ∈ rows.take k → RowOk x cols 9 50) ∧ Below w2.heap.size w2 wr) (fun i _ => rn - (intOf i).toNat)
      case atStart => exact ⟨0, Nat.zero_le _, rfl, by simp, Below.refl _ _⟩
      case round =>
        obtain ⟨k, hk, rfl, hT, hb⟩ := hrel
        have HT := Lib.hid hT; have HB := Lib.hid hb
        have HBW := Lib.hid (B2.out.trans (hb.mono B2.out.size))
        have MR := Lib.hid (M2.out.below hb M2.out.lt)
        clear hT hb
        by_cases hlt : k < rn
        · obtain ⟨⟨tm, x⟩, hx⟩ : ∃ t, rows[k]? = some t := ⟨_, List.getElem?_eq_getElem (by have := HL.out; omega)⟩
          obtain ⟨b, o, rfl, kb, lb, ⟨ta, tn, tc, t0, htm⟩, t1⟩ := (HR.out.keeps RRw.stays (fun y _ hl => HBW.out.block y hl) HBW.out.size).row k (tm, x) hx
          dsimp only at t0 t1
          have HX := Lib.hid hx
          obtain ⟨w3, hw3⟩ : ∃ w3, w3 = wr.alloc (.cells #[.slice ta tn tc, .int .i64 x] 50) := ⟨_, rfl⟩
          have A3 := Lib.hid (show Below wr.heap.size wr w3 by rw [hw3]; exact (Below.refl _ _).alloc (Nat.le_refl _) _)
          have X3 := Lib.hid (show Blk w3 wr.heap.size 50 [.slice ta tn tc, .int .i64 x] by rw [hw3]; exact Blk.new wr _ _)
          have CL := Lib.hid (rterms_any K tm cols 9 (by decide) w3 ta tn tc (htm.keeps RTm.stays (fun y _ hl => A3.out.block y hl) A3.out.size))
          have M3 := Lib.hid (MR.out.below A3.out MR.out.lt)
          have HW3 := Lib.hid hw3
          clear hx htm hw3
          go_upto_region 6 with fail
          rw [← HW3.out]
          have m0 := M3.out.cell (i := 0) rfl
          have x0 := X3.out.cell (i := 0) rfl
          go_wp2_with fail
          refine CL.out.mono ?_
          rintro e w4 ⟨r, rfl, hr, hb⟩
          have HRR := Lib.hid hr
          have x1 := (X3.out.below hb X3.out.lt).cell (i := 1) rfl
          have B4 := Lib.hid (HB.out.trans ((A3.out.trans (hb.mono A3.out.size)).mono HB.out.size))
          clear hr hb m0 x0 t0 t1
          cases r with
          | false =>
            have NO := Lib.hid (show ¬ SmallP cols rows goal c0 from fun h => by have := HRR.out.2 (h.2.2.2.2.2.2 _ (List.mem_of_getElem? HX.out)).1; cases this)
            go_wp2
            go_ret
            exact no_ret NO.out (B2.out.trans (B4.out.mono B2.out.size)) rfl
          | true =>
            have TT := Lib.hid (HRR.out.1 rfl)
            clear HRR
            by_cases q6 : x < -50
            · have NO := Lib.hid (show ¬ SmallP cols rows goal c0 from fun h => by have := (h.2.2.2.2.2.2 _ (List.mem_of_getElem? HX.out)).2; dsimp only at this; omega)
              go_wp2
              go_ret
              exact no_ret NO.out (B2.out.trans (B4.out.mono B2.out.size)) rfl
            by_cases q7 : 50 < x
            · have NO := Lib.hid (show ¬ SmallP cols rows goal c0 from fun h => by have := (h.2.2.2.2.2.2 _ (List.mem_of_getElem? HX.out)).2; dsimp only at this; omega)
              go_wp2
              go_ret
              exact no_ret NO.out (B2.out.trans (B4.out.mono B2.out.size)) rfl
            have HT2 := Lib.hid (show ∀ y, y ∈ rows.take (k + 1) → RowOk y cols 9 50 from fun y hy => by
              rw [List.take_add_one, HX.out, List.mem_append] at hy
              rcases hy with h | h
              · exact HT.out y h
              · have e : y = (tm, x) := by simpa using h
                subst e
                exact ⟨TT.out, by dsimp only; omega, by dsimp only; omega⟩)
            go_wp2
            go_roundw
            case rel => exact ⟨k + 1, by omega, by go_num, HT2.out, B4.out⟩
            case measure => simp [intOf]; omega
        · obtain rfl : k = rn := by omega
          have YES := Lib.hid (show SmallP cols rows goal c0 from ⟨V0.out.1, by omega, by rw [HL.out]; omega, T0.out, by omega, by omega, fun x hx => HT.out x (by rw [List.take_of_length_le (by rw [HL.out]; exact Nat.le_refl _)]; exact hx)⟩)
          go_wp2
          go_ret
          exact yes_ret YES.out HBW.out rfl
def ObeyP (rows : List (List (Int × Int) × Int)) (xs : List Rat) : Prop := ∀ r ∈ rows, dotAt r.1 xs r.1.length ≤ (r.2 : Rat)
theorem cmpR_gt (x y : Rat) : (0 < cmpR x y) ↔ ¬ x ≤ y := by
  unfold cmpR
  split
  · rename_i h; simp; grind
  · split
    · rename_i h1 h2; subst h2; simp
    · rename_i h1 h2; simp; grind
theorem small_rows {n : Int} {rows : List (List (Int × Int) × Int)} {goal : List (Int × Int)} {c0 : Int} (h : SmallP n rows goal c0) : ∀ x ∈ rows, TermsOk x.1 n 9 x.1.length ∧ -50 ≤ x.2 ∧ x.2 ≤ 50 := fun x hx => h.2.2.2.2.2.2 x hx
theorem terms_len {l : List (Int × Int)} {n m : Int} (h : TermsOk l n m l.length) (hn : 0 ≤ n) : (l.length : Int) ≤ n := by
  have key : ∀ k : Nat, k < l.length → ∃ t, l[k]? = some t ∧ (k : Int) ≤ t.1 := by
    intro k
    induction k with
    | zero => intro hk; exact ⟨l[0], List.getElem?_eq_getElem hk, by have := (h 0 _ hk (List.getElem?_eq_getElem hk)).1; omega⟩
    | succ k ih =>
      intro hk
      obtain ⟨t, ht, hle⟩ := ih (by omega)
      refine ⟨l[k + 1], List.getElem?_eq_getElem hk, ?_⟩
      have := (h (k + 1) _ hk (List.getElem?_eq_getElem hk)).2.2.1 k t rfl ht
      omega
  rcases Nat.eq_zero_or_pos l.length with h0 | h0
  · omega
  · obtain ⟨t, ht, hle⟩ := key (l.length - 1) (by omega)
    have := (h _ t (by omega) ht).2.1
    omega
abbrev MRow := List (Int × Int) × Int
def rowD (rows : List MRow) (k : Nat) : MRow := rows.getD k ([], 0)
theorem rowD_of {rows : List MRow} {k : Nat} {r : MRow} (h : rows[k]? = some r) : rowD rows k = r := by unfold rowD; rw [List.getD_eq_getElem?_getD, h]; rfl
def valAt (rows : List MRow) (c0 : Int) (ys : List Rat) : Nat → Rat
  | 0 => (c0 : Rat)
  | k + 1 => valAt rows c0 ys k + ((rowD rows k).2 : Rat) * gR ys k
def colAt (rows : List MRow) (ys : List Rat) (c : Int) : Nat → Rat
  | 0 => 0
  | k + 1 => colAt rows ys c k + (coefF (rowD rows k).1 c : Rat) * gR ys k
def ProveP (cols : Int) (rows : List MRow) (goal : List (Int × Int)) (ys : List Rat) : Prop := ∀ c : Int, 0 ≤ c → c < cols → (coefF goal c : Rat) ≤ colAt rows ys c rows.length
def PvRet (p : Prop) (v : Rat) (w : World) (e : Ending) (w' : World) : Prop := ∃ (x : Rat) (b : Bool), e = .returned (.tuple #[FrV x, .bool b]) ∧ (b = true ↔ p) ∧ (b = true → x = v) ∧ (b = false → x = 0) ∧ Below w.heap.size w w'
theorem pv_no {p : Prop} {v : Rat} {w w' : World} (h : ¬ p) (hb : Below w.heap.size w w') : PvRet p v w (.returned (.tuple #[FrV 0, .bool false])) w' := ⟨0, false, rfl, ⟨(fun h => by cases h), fun k => absurd k h⟩, (fun h => by cases h), fun _ => rfl, hb⟩
theorem pv_yes {p : Prop} {v : Rat} {w w' : World} (h : p) (hb : Below w.heap.size w w') : PvRet p v w (.returned (.tuple #[FrV v, .bool true])) w' := ⟨v, true, rfl, ⟨fun _ => h, fun _ => rfl⟩, fun _ => rfl, (fun h => by cases h), hb⟩
theorem coef_nine {n m : Int} {l : List (Int × Int)} (hm : 0 ≤ m) (h : TermsOk l n m l.length) (c : Int) : -m ≤ coefF l c ∧ coefF l c ≤ m := coefF_le hm (fun t ht => by obtain ⟨i, hi⟩ := List.getElem?_of_mem ht; exact (h i t (List.getElem?_eq_some_iff.1 hi).1 hi).2.2.2.2) c
section
variable {n : Int} {rows : List MRow} {goal : List (Int × Int)} {c0 : Int} (hs : SmallP n rows goal c0) {l : List (Int × Int)} (hf : Frs l)
include hs
theorem small_rowD (k : Nat) : TermsOk (rowD rows k).1 n 9 (rowD rows k).1.length ∧ -50 ≤ (rowD rows k).2 ∧ (rowD rows k).2 ≤ 50 := by
  by_cases hk : k < rows.length
  · rw [rowD_of (List.getElem?_eq_getElem hk)]
    exact small_rows hs _ (List.getElem_mem hk)
  · unfold rowD
    rw [List.getD_eq_getElem?_getD, List.getElem?_eq_none (by omega)]
    exact ⟨fun i t hi => absurd hi (Nat.not_lt_zero _), by decide, by decide⟩
include hf
end
theorem cmpR_lt (x y : Rat) : (cmpR x y < 0) ↔ ¬ y ≤ x := by
  unfold cmpR
  split
  · rename_i h; simp; grind
  · split
    · rename_i h1 h2; subst h2; simp
    · rename_i h1 h2; simp; grind
def sgI (x : MRow) : Int := if x.2 < 0 then -1 else 1
def trow1 (L : Nat) (x : MRow) (k : Nat) : List Rat := (x.1.take k).foldl (fun r t => r.set t.1.toNat ((sgI x * t.2 : Int) : Rat)) (List.replicate L 0)
def trow2 (n m L : Nat) (x : MRow) (i : Nat) : List Rat := ((trow1 L x x.1.length).set (n + i) ((sgI x : Int) : Rat)).set (n + m + m) ((sgI x * x.2 : Int) : Rat)
def trow (n m L : Nat) (x : MRow) (i : Nat) : List Rat := if x.2 < 0 then (trow2 n m L x i).set (n + m + i) 1 else trow2 n m L x i
def tgoal (n m : Nat) (G r : List Rat) : List Rat := (List.range G.length).map fun c => if c < n + m ∨ c = n + m + m then gR G c - gR r c else gR G c
def tbas (n m : Nat) (x : MRow) (i : Nat) : Nat := if x.2 < 0 then n + m + i else n + i
def tabAt (n m L : Nat) (rows : List MRow) : Nat → Tab
  | 0 => ⟨[], [], List.replicate L 0⟩
  | i + 1 => ⟨(tabAt n m L rows i).rows ++ [trow n m L (rowD rows i) i], (tabAt n m L rows i).basis ++ [tbas n m (rowD rows i) i], if (rowD rows i).2 < 0 then tgoal n m (tabAt n m L rows i).goal (trow n m L (rowD rows i) i) else (tabAt n m L rows i).goal⟩
theorem trow1_length (L : Nat) (x : MRow) (k : Nat) : (trow1 L x k).length = L := by
  unfold trow1
  have : ∀ (l : List (Int × Int)) (r : List Rat), (l.foldl (fun r t => r.set t.1.toNat ((sgI x * t.2 : Int) : Rat)) r).length = r.length := by
    intro l
    induction l with
    | nil => intro r; rfl
    | cons a l ih => intro r; rw [List.foldl_cons, ih, List.length_set]
  rw [this, List.length_replicate]
theorem trow1_succ {L : Nat} {x : MRow} {k : Nat} {t : Int × Int} (h : x.1[k]? = some t) : trow1 L x (k + 1) = (trow1 L x k).set t.1.toNat ((sgI x * t.2 : Int) : Rat) := by
  unfold trow1
  rw [List.take_add_one, h, List.foldl_append]; rfl
theorem trow2_length (n m L : Nat) (x : MRow) (i : Nat) : (trow2 n m L x i).length = L := by simp [trow2, trow1_length]
theorem trow_length (n m L : Nat) (x : MRow) (i : Nat) : (trow n m L x i).length = L := by unfold trow; split <;> simp [trow2_length]
theorem tgoal_length (n m : Nat) (G r : List Rat) : (tgoal n m G r).length = G.length := by simp [tgoal]
theorem tgoal_get {n m : Nat} {G r : List Rat} {c : Nat} {x : Rat} (h : G[c]? = some x) : (tgoal n m G r)[c]? = some (if c < n + m ∨ c = n + m + m then x - gR r c else x) := by
  have hj := (List.getElem?_eq_some_iff.1 h).1
  unfold tgoal
  rw [List.getElem?_map, List.getElem?_range hj]
  simp [gR_of h]
theorem tabAt_len (n m L : Nat) (rows : List MRow) : ∀ i, (tabAt n m L rows i).rows.length = i ∧ (tabAt n m L rows i).basis.length = i ∧ (tabAt n m L rows i).goal.length = L
  | 0 => ⟨rfl, rfl, by simp [tabAt]⟩
  | i + 1 => by
    obtain ⟨h1, h2, h3⟩ := tabAt_len n m L rows i
    refine ⟨by simp [tabAt, h1], by simp [tabAt, h2], ?_⟩
    unfold tabAt
    dsimp only
    split
    · rw [tgoal_length]; exact h3
    · exact h3
theorem owns_chg {w w' : World} {B : Nat} {e : TypeId} {sz : Nat} {v : Value} {n : Nat} {xs : List Value} (h : w.ownsRow B e sz v n xs) {M : Nat → Prop} (c : Chg M w w') (hM : ∀ b cs, v.ownBlock = some b → Blk w b e cs → ¬ M b) : w'.ownsRow B e sz v n xs := by
  refine ⟨h.1, ?_⟩
  rcases h.2 with h1 | ⟨g, cap, cur, h1, h2, h3, h4⟩
  · exact .inl h1
  · refine .inr ⟨g, cap, cur, h1, h2, ?_, h4⟩
    have hb : Blk w g e cur.toList := by unfold Blk; rw [Array.toArray_toList]; exact h3
    have := hb.chg c (hM g _ (by rw [h1]; rfl) hb)
    unfold Blk at this
    rwa [Array.toArray_toList] at this
structure BtAt (w : World) (B q : Nat) (T : Tab) (vR vB vG : Value) (us : List Value) (gs : List Nat) (g : Nat) : Prop where
  hq : Blk w q 75 [vR, vB, vG]
  qB : B ≤ q
  hR : w.ownsRow B 32 1 vR T.rows.length us
  hB : w.ownsRow B 3 1 vB T.basis.length (bvs T.basis)
  rows : BegRows w B us gs T.rows
  goal : RowAt w B vG T.goal g
  ng : g ∉ gs
section
variable {w w' : World} {B q : Nat} {T : Tab} {vR vB vG : Value} {us : List Value} {gs : List Nat} {g : Nat}
theorem BtAt.tb (h : BtAt w B q T vR vB vG us gs g) : TbAt w B q T vR vB vG us gs g :=
  ⟨h.hq, h.qB, slB_of_owns h.hR h.rows.hu, slB_of_owns h.hB (bvs_length _), h.rows, h.goal, h.ng⟩
theorem BtAt.chg (h : BtAt w B q T vR vB vG us gs g) {M : Nat → Prop} (c : Chg M w w') (hM : ∀ k, B ≤ k → k < w.heap.size → ¬ M k) : BtAt w' B q T vR vB vG us gs g :=
  ⟨h.hq.chg c (hM q h.qB h.hq.lt), h.qB, owns_chg h.hR c (fun b cs hb kb => hM b (by obtain ⟨_, _, x⟩ := owns_tag h.hR hb; exact x) kb.lt), owns_chg h.hB c (fun b cs hb kb => hM b (by obtain ⟨_, _, x⟩ := owns_tag h.hB hb; exact x) kb.lt), h.rows.chg c (fun k hk => by obtain ⟨_, hb, hB⟩ := h.rows.tag hk; exact hM k hB hb.lt), h.goal.chg c (by obtain ⟨_, hb, hB⟩ := h.goal.blk; exact hM g hB hb.lt), h.ng⟩
theorem BtAt.below (h : BtAt w B q T vR vB vG us gs g) (c : Below w.heap.size w w') : BtAt w' B q T vR vB vG us gs g := h.chg (M := Non) (Chg.of_below c) (fun _ _ _ h => h)
theorem BtAt.drew (h : BtAt w B q T vR vB vG us gs g) : BtAt w.drew B q T vR vB vG us gs g := h.chg (M := Non) (Chg.refl w).drew (fun _ _ _ h => h)
theorem BtAt.side (h : BtAt w B q T vR vB vG us gs g) {k : Nat} {cs : List Value} (tk : Blk w k 31 cs) (hk : k ∉ gs) (hkg : k ≠ g) (c : Chg (fun x => x = k) w w') : BtAt w' B q T vR vB vG us gs g :=
  ⟨h.hq.chg c (fun e => blk_tag h.hq tk (by decide) e), h.qB, owns_chg h.hR c (fun b cs hb kb e => blk_tag kb tk (by decide) e), owns_chg h.hB c (fun b cs hb kb e => blk_tag kb tk (by decide) e), h.rows.chg c (fun j hj e => hk (e ▸ hj)), h.goal.chg c (fun e => hkg e.symm), h.ng⟩
theorem BtAt.inGoal (h : BtAt w B q T vR vB vG us gs g) (c : Chg (fun x => x = g) w w') {r : List Rat} (hr : RowAt w' B vG r g) : BtAt w' B q ⟨T.rows, T.basis, r⟩ vR vB vG us gs g := by
  obtain ⟨sg, gb, gB⟩ := h.goal.blk
  exact ⟨h.hq.chg c (fun e => blk_tag h.hq gb (by decide) e), h.qB, owns_chg h.hR c (fun b cs hb kb e => blk_tag kb gb (by decide) e), owns_chg h.hB c (fun b cs hb kb e => blk_tag kb gb (by decide) e), h.rows.chg c (fun j hj e => h.ng (e ▸ hj)), hr, h.ng⟩
theorem BtAt.addBasis (h : BtAt w B q T vR vB vG us gs g) {z : Nat} {v' : Value} (hap : FApp 3 1 B vB T.basis.length 1 (bvs T.basis) [.int .i64 (z : Int)] w w' v') : BtAt (w'.setCell ⟨q, 1, none⟩ v') B q ⟨T.rows, T.basis ++ [z], T.goal⟩ vR v' vG us gs g := by
  have c := hap.chg
  have hne : ∀ {k : Nat} {e : TypeId} {cs : List Value}, Blk w k e cs → e ≠ 3 → ¬ vB.ownBlock = some k := fun kb hn he => by
    obtain ⟨_, k2, _⟩ := owns_tag h.hB he
    exact blk_tag kb k2 hn rfl
  have c2 : Chg (fun x => x = q) w' (w'.setCell ⟨q, 1, none⟩ v') := Chg.setCell (M := fun x => x = q) (p := ⟨q, 1, none⟩) (Chg.refl w') (fun _ => rfl) _
  have q' := h.hq.chg c (hne h.hq (by decide))
  have hB' : w'.ownsRow B 3 1 v' (T.basis ++ [z]).length (bvs (T.basis ++ [z])) := by
    have := hap.owns
    rw [List.length_append]
    unfold bvs at this ⊢
    rw [List.map_append]
    exact this
  have hR' := owns_chg h.hR c (fun b cs hb kb => hne kb (by decide))
  have rows' := h.rows.chg c (fun k hk => by obtain ⟨_, kb, _⟩ := h.rows.tag hk; exact hne kb (by decide))
  have goal' := h.goal.chg c (by obtain ⟨_, kb, _⟩ := h.goal.blk; exact hne kb (by decide))
  exact ⟨(q'.set 1 v').at rfl, h.qB, owns_chg hR' c2 (fun b cs hb kb e => blk_tag kb q' (by decide) e), owns_chg hB' c2 (fun b cs hb kb e => blk_tag kb q' (by decide) e), rows'.chg c2 (fun k hk e => by obtain ⟨_, kb, _⟩ := rows'.tag hk; exact blk_tag kb q' (by decide) e), goal'.chg c2 (fun e => by obtain ⟨_, kb, _⟩ := goal'.blk; exact blk_tag kb q' (by decide) e), h.ng⟩
theorem BtAt.addRow (h : BtAt w B q T vR vB vG us gs g) {u v' : Value} {r : List Rat} {k : Nat} (hr : RowAt w B u r k) (hk : k ∉ gs) (hkg : k ≠ g) (hap : FApp 32 1 B vR T.rows.length 1 us [u] w w' v') : BtAt (w'.setCell ⟨q, 0, none⟩ v') B q ⟨T.rows ++ [r], T.basis, T.goal⟩ v' vB vG (us ++ [u]) (gs ++ [k]) g := by
  have c := hap.chg
  have hne : ∀ {k : Nat} {e : TypeId} {cs : List Value}, Blk w k e cs → e ≠ 32 → ¬ vR.ownBlock = some k := fun kb hn he => by
    obtain ⟨_, k2, _⟩ := owns_tag h.hR he
    exact blk_tag kb k2 hn rfl
  have c2 : Chg (fun x => x = q) w' (w'.setCell ⟨q, 0, none⟩ v') := Chg.setCell (M := fun x => x = q) (p := ⟨q, 0, none⟩) (Chg.refl w') (fun _ => rfl) _
  have q' := h.hq.chg c (hne h.hq (by decide))
  have hR' : w'.ownsRow B 32 1 v' (T.rows ++ [r]).length (us ++ [u]) := by
    have := hap.owns
    rw [List.length_append]
    exact this
  have hB' := owns_chg h.hB c (fun b cs hb kb => hne kb (by decide))
  have rows' := (h.rows.snoc hr hk).chg c (fun k hk => by obtain ⟨_, kb, _⟩ := (h.rows.snoc hr (by assumption)).tag hk; exact hne kb (by decide))
  have goal' := h.goal.chg c (by obtain ⟨_, kb, _⟩ := h.goal.blk; exact hne kb (by decide))
  refine ⟨(q'.set 0 v').at rfl, h.qB, owns_chg hR' c2 (fun b cs hb kb e => blk_tag kb q' (by decide) e), owns_chg hB' c2 (fun b cs hb kb e => blk_tag kb q' (by decide) e), rows'.chg c2 (fun k hk e => by obtain ⟨_, kb, _⟩ := rows'.tag hk; exact blk_tag kb q' (by decide) e), goal'.chg c2 (fun e => by obtain ⟨_, kb, _⟩ := goal'.blk; exact blk_tag kb q' (by decide) e), ?_⟩
  intro hm
  rcases List.mem_append.1 hm with h' | h'
  · exact h.ng h'
  · exact hkg (List.mem_singleton.1 h').symm
theorem BtAt.fresh (h : BtAt w B q T vR vB vG us gs g) {k : Nat} (hk : w.heap.size ≤ k) : k ∉ gs ∧ k ≠ g := h.tb.fresh hk
end
theorem RowAt.put {w : World} {B k : Nat} {v : Value} {r : List Rat} (h : RowAt w B v r k) {j : Nat} (hj : j < r.length) (x : Rat) : RowAt ((w.setCell ⟨k, j * 2, none⟩ (.int .i64 x.num)).setCell ⟨k, j * 2 + 1, none⟩ (.int .i64 (x.den : Int))) B v (r.set j x) k := by
  obtain ⟨cap, sp, h1, h2, h3, h4, h5⟩ := h
  exact ⟨cap, sp, by rw [h1, List.length_set], h2.put hj x, by rw [List.length_set]; exact h3, h4, h5⟩
theorem RowAt.below {w w' : World} {B k : Nat} {v : Value} {r : List Rat} (h : RowAt w B v r k) (c : Below w.heap.size w w') : RowAt w' B v r k := by
  obtain ⟨cap, sp, h1, h2, h3, h4, h5⟩ := h
  exact ⟨cap, sp, h1, h2.below c h2.lt, h3, h4, h5⟩
theorem grow_side {w w' : World} {B q n o : Nat} {e : TypeId} {v u v' : Value} {xs cs : List Value} {r : List Rat} {k : Nat} (hown : w.ownsRow B e 1 v n xs) (he : e ≠ 31) (hq : Blk w q 75 cs) (he2 : e ≠ 75) (hqB : B ≤ q) (hr : RowAt w B u r k) (c : Chg (fun k => v.ownBlock = some k) w w') (hw : B ≤ w.heap.size) :
    RowAt (w'.setCell ⟨q, o, none⟩ v') B u r k ∧ Below B w (w'.setCell ⟨q, o, none⟩ v') := by
  obtain ⟨_, kb, _⟩ := hr.blk
  have h1 := hr.chg c (fun hb => by obtain ⟨_, k2, _⟩ := owns_tag hown hb; exact blk_tag kb k2 (fun h => he h.symm) rfl)
  have q1 := hq.chg c (fun hb => by obtain ⟨_, k2, _⟩ := owns_tag hown hb; exact blk_tag hq k2 (fun h => he2 h.symm) rfl)
  have c2 : Chg (fun x => x = q) w' (w'.setCell ⟨q, o, none⟩ v') := Chg.setCell (M := fun x => x = q) (p := ⟨q, o, none⟩) (Chg.refl w') (fun _ => rfl) _
  refine ⟨h1.chg c2 (fun h => by obtain ⟨_, kb, _⟩ := h1.blk; exact blk_tag kb q1 (by decide) h), (c.below (B := B) (fun y hy hb => by obtain ⟨_, _, h⟩ := owns_tag hown hb; omega) hw).setCell hqB _⟩
def BuildFit (n m L : Nat) (rows : List MRow) : Prop := ∀ i, i < m → (rowD rows i).2 < 0 → ∀ c, c < L → Fit (gR (tabAt n m L rows i).goal c) ∧ Fit (gR (trow n m L (rowD rows i) i) c) ∧ Fit (gR (tabAt n m L rows i).goal c - gR (trow n m L (rowD rows i) i) c)
inductive DriveT (N m : Nat) : Nat → Tab → Tab → Prop
  | done {T : Tab} : DriveT N m m T T
  | skip {i : Nat} {T T' : Tab} (hi : i < m) (hb : T.basis.getD i 0 < N) (h : DriveT N m (i + 1) T T') : DriveT N m i T T'
  | piv {i : Nat} {T T' : Tab} (c : Nat) (hi : i < m) (hb : ¬ T.basis.getD i 0 < N) (hc : c < N) (hz : ∀ c', c' < c → gR (T.row i) c' = 0) (pf : PivTFit T i c) (h : DriveT N m (i + 1) (pivT T i c) T') : DriveT N m i T T'
def ogoal (L : Nat) (goal : List (Int × Int)) (k : Nat) : List Rat := (goal.take k).foldl (fun r t => r.set t.1.toNat ((-t.2 : Int) : Rat)) (List.replicate L 0)
theorem ogoal_length (L : Nat) (goal : List (Int × Int)) (k : Nat) : (ogoal L goal k).length = L := by
  unfold ogoal
  have : ∀ (l : List (Int × Int)) (r : List Rat), (l.foldl (fun r t => r.set t.1.toNat ((-t.2 : Int) : Rat)) r).length = r.length := by
    intro l
    induction l with
    | nil => intro r; rfl
    | cons a l ih => intro r; rw [List.foldl_cons, ih, List.length_set]
  rw [this, List.length_replicate]
theorem ogoal_succ {L : Nat} {goal : List (Int × Int)} {k : Nat} {t : Int × Int} (h : goal[k]? = some t) : ogoal L goal (k + 1) = (ogoal L goal k).set t.1.toNat ((-t.2 : Int) : Rat) := by
  unfold ogoal
  rw [List.take_add_one, h, List.foldl_append]; rfl
def clrs (T : Tab) (G : List Rat) : Nat → List Rat
  | 0 => G
  | j + 1 => clr (clrs T G j) (T.row j) (T.basis.getD j 0)
theorem clrs_length (T : Tab) (G : List Rat) : ∀ j, (clrs T G j).length = G.length
  | 0 => rfl
  | j + 1 => by unfold clrs; rw [clr_length]; exact clrs_length T G j
structure ClrFit (T : Tab) (G : List Rat) (m L : Nat) : Prop where
  row : ∀ j, j < m → FitL (T.row j)
  goal : ∀ j, j ≤ m → FitL (clrs T G j)
  mul : ∀ j, j < m → ∀ c, c < L → Fit (gR (clrs T G j) (T.basis.getD j 0) * gR (T.row j) c)
  bas : ∀ j, j < m → T.basis.getD j 0 < L
def BestEnd (c0 : Int) (V : Nat) (b2 : Bool) (T3 : Tab) (code x y : Int) : Prop :=
  (b2 = false ∧ code = 35 ∧ x = 0 ∧ y = 0) ∨ (b2 = true ∧ code = 0 ∧ Fit (gR T3.goal V) ∧ Fit (gR T3.goal V + (c0 : Rat)) ∧ x = (gR T3.goal V + (c0 : Rat)).num ∧ y = ((gR T3.goal V + (c0 : Rat)).den : Int))
def BestQ (n m N V L : Nat) (rows : List MRow) (goal : List (Int × Int)) (c0 : Int) (code x y : Int) : Prop :=
  ∃ k b T1, RunT N V k (tabAt n m L rows m) b T1 ∧ ((gR T1.goal V ≠ 0 ∧ code = 34 ∧ x = 0 ∧ y = 0) ∨ (gR T1.goal V = 0 ∧ ∃ T2, DriveT N m 0 T1 T2 ∧ ClrFit T2 (ogoal L goal goal.length) m L ∧ ∃ k2 b2 T3, RunT N V k2 ⟨T2.rows, T2.basis, clrs T2 (ogoal L goal goal.length) m⟩ b2 T3 ∧ BestEnd c0 V b2 T3 code x y))
def BestP (n : Nat) (rows : List MRow) (goal : List (Int × Int)) (c0 : Int) (code x y : Int) : Prop :=
  BestQ n rows.length (n + rows.length) (n + rows.length + rows.length) (n + rows.length + rows.length + 1) rows goal c0 code x y
theorem tabAt_tlen (n m L : Nat) (rows : List MRow) : ∀ i, TabLen (tabAt n m L rows i) i L
  | 0 => ⟨rfl, rfl, fun r hr => by omega, by simp [tabAt]⟩
  | i + 1 => by
    have ih := tabAt_tlen n m L rows i
    obtain ⟨h1, h2, h3⟩ := tabAt_len n m L rows (i + 1)
    refine ⟨h1, h2, fun r hr => ?_, h3⟩
    by_cases hri : r < i
    · have e : (tabAt n m L rows (i + 1)).row r = (tabAt n m L rows i).row r := Tab.row_of (by
        show ((tabAt n m L rows i).rows ++ [_])[r]? = _
        rw [List.getElem?_append_left (by rw [ih.rows]; exact hri)]
        exact Tab.row_some (by rw [ih.rows]; exact hri))
      rw [e]; exact ih.len r hri
    · have : r = i := by omega
      subst this
      have e : (tabAt n m L rows (r + 1)).row r = trow n m L (rowD rows r) r := Tab.row_of (by
        show ((tabAt n m L rows r).rows ++ [_])[r]? = _
        rw [List.getElem?_append_right (by rw [ih.rows]; exact Nat.le_refl _), ih.rows, Nat.sub_self]; rfl)
      rw [e]; exact trow_length _ _ _ _ _
theorem DriveT.inv {N m i : Nat} {T T' : Tab} (h : DriveT N m i T T') : (i = m ∧ T = T') ∨ (i < m ∧ T.basis.getD i 0 < N ∧ DriveT N m (i + 1) T T') ∨ ∃ c, i < m ∧ ¬ T.basis.getD i 0 < N ∧ c < N ∧ (∀ c', c' < c → gR (T.row i) c' = 0) ∧ PivTFit T i c ∧ DriveT N m (i + 1) (pivT T i c) T' := by
  cases h with
  | done => exact .inl ⟨rfl, rfl⟩
  | skip hi hb h => exact .inr (.inl ⟨hi, hb, h⟩)
  | piv c hi hb hc hz pf h => exact .inr (.inr ⟨c, hi, hb, hc, hz, pf, h⟩)
theorem TbAt.inGoal {w w' : World} {B q : Nat} {T : Tab} {vR vB vG : Value} {us : List Value} {gs : List Nat} {g : Nat} (h : TbAt w B q T vR vB vG us gs g) (c : Chg (fun x => x = g) w w') {r : List Rat} (hr : RowAt w' B vG r g) : TbAt w' B q ⟨T.rows, T.basis, r⟩ vR vB vG us gs g := by
  obtain ⟨sg, gb, gB⟩ := h.goal.blk
  exact ⟨h.hq.chg c (fun e => blk_tag h.hq gb (by decide) e), h.qB, h.hR.chg c (fun b _ hb' _ e => blk_tag hb' gb (by decide) e), h.hB.chg c (fun b _ hb' _ e => blk_tag hb' gb (by decide) e), h.rows.chg c (fun j hj e => h.ng (e ▸ hj)), hr, h.ng⟩
end Go.Proofs.Ytdegpgonphgbcaa
