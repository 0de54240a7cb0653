/-
  simplex.
-/
import Derived.Test.YtdegpgonphgbcaaZSxJ
namespace Go.Proofs.Ytdegpgonphgbcaa
open Go.RowKit
theorem idx_cases (l : List Int) (z : Int) : idxP l z = -1 ∨ ∃ k : Nat, k < l.length ∧ idxP l z = (k : Int) := by
  unfold idxP
  cases h : l.findIdx? (· == z) with
  | none => exact .inl rfl
  | some i => exact .inr ⟨i, by have := (List.findIdx?_eq_some_iff_getElem.1 h).1; exact this, rfl⟩
def dropD (d : Dc) : Dc := if 0 ≤ idxP d.outs 0 then ⟨d.ins, d.outs.eraseIdx (idxP d.outs 0).toNat, d.rows.map fun r => r.eraseIdx ((idxP d.outs 0).toNat + 1)⟩ else d
theorem dropD_none {d : Dc} (h : idxP d.outs 0 = -1) : dropD d = d := by unfold dropD; rw [h]; rfl
theorem dropD_some {d : Dc} {k : Nat} (h : idxP d.outs 0 = (k : Int)) : dropD d = ⟨d.ins, d.outs.eraseIdx k, d.rows.map fun r => r.eraseIdx (k + 1)⟩ := by
  unfold dropD; rw [h, if_pos (by omega), Int.toNat_natCast]
structure DcFit (d : Dc) : Prop where
  rows : d.rows.length = d.ins.length + 1
  cols : ∀ r ∈ d.rows, r.length = d.outs.length + 1
  i8 : d.ins.length ≤ 8
  o8 : d.outs.length ≤ 8
theorem DcOk.fit {d : Dc} (h : DcOk d) : DcFit d := ⟨h.rows, h.cols, h.i8, h.o8⟩
theorem dropD_fit {d : Dc} (h : DcOk d) : DcFit (dropD d) := by
  rcases idx_cases d.outs 0 with e | ⟨k, hk, e⟩
  · rw [dropD_none e]; exact h.fit
  · rw [dropD_some e]
    refine ⟨by simpa using h.rows, fun r hr => ?_, h.i8, ?_⟩
    · obtain ⟨r0, h0, rfl⟩ := List.mem_map.1 hr
      have := h.cols r0 h0
      rw [List.length_eraseIdx_of_lt (by omega), List.length_eraseIdx_of_lt hk]
      omega
    · have := h.o8
      show (d.outs.eraseIdx k).length ≤ 8
      rw [List.length_eraseIdx_of_lt hk]
      omega
theorem OwnAt.renew {α : Type} {R : Ow α} (hR : Local R) {t : TypeId} {w w2 : World} {fp : Nat → Prop} {b cap : Nat} {vs sp : List Value} {fps : Nat → Nat → Prop} {xs : List α} (r : OwnAt R t w fp b cap vs sp fps xs)
    {i : Nat} (hi : i < xs.length) {u : Value} {x : α} (h : Chg (fps i) w w2) (hx : R (w2.setCell ⟨b, i, none⟩ u) (fps i) u x) : OwnAt R t (w2.setCell ⟨b, i, none⟩ u) fp b cap (vs.set i u) sp fps (xs.set i x) := by
  have hb : ¬ fps i b := fun hk => (r.sub i b hi hk).2.1 rfl
  have hc : Chg (fun k => k = b) w2 (w2.setCell ⟨b, i, none⟩ u) := Chg.setCell (M := fun k => k = b) (p := ⟨b, i, none⟩) (Chg.refl w2) (fun _ => rfl) u
  refine ⟨((r.blk.chg h hb).set i u).at (by rw [List.set_append_left _ _ (by rw [r.hlen]; exact hi)]), by simp only [List.length_set]; exact r.hlen, by rw [List.length_set]; exact r.hcap, r.hmax, by rw [List.length_set]; exact r.hsz, r.own, fun j y hj => ?_, fun j k hj hk => ?_, fun j l k hj hl => r.apart j l k (by rwa [List.length_set] at hj) (by rwa [List.length_set] at hl)⟩
  · rw [List.getElem?_set] at hj
    by_cases e : i = j
    · subst e
      rw [if_pos rfl, if_pos hi] at hj
      cases hj
      exact ⟨u, by rw [List.getElem?_set_self (by rw [r.hlen]; exact hi)], hx⟩
    · rw [if_neg e] at hj
      have hjl := (List.getElem?_eq_some_iff.1 hj).1
      obtain ⟨v, hv, hr⟩ := r.row j y hj
      have h1 : R w2 (fps j) v y := hR.chg hr h fun k hk _ hm => e (r.apart i j k hi hjl hm hk)
      exact ⟨v, by rw [List.getElem?_set_ne e]; exact hv, hR.chg h1 hc fun k hk _ hm => (r.sub j k hjl hk).2.1 hm⟩
  · have := r.sub j k (by rwa [List.length_set] at hj) hk
    exact ⟨this.1, this.2.1, by have := h.size; have := hc.size; omega⟩
theorem del_range {w : World} {f : Nat → Prop} {b c : Nat} {vs sp : List Value} {fps : Nat → Nat → Prop} {l : List Int} (r : OwnAt OInt 3 w f b c vs sp fps l) {k : Nat} (hk : k < l.length) {w2 : World} (h : Blk w2 b 3 (ivs (l.eraseIdx k) ++ ([.int .i64 0] ++ sp))) : OInts w2 f (.slice (some ⟨b, 0, none⟩) (l.eraseIdx k).length c) (l.eraseIdx k) := by
  have hl := List.length_eraseIdx_of_lt hk
  refine .inr ⟨b, c, ivs (l.eraseIdx k), [.int .i64 0] ++ sp, fun _ _ => False, rfl, h, ivs_length _, by have := r.hcap; simp; omega, r.hmax, by have := r.hsz; omega, r.own, fun i x hi => ⟨_, ivs_get hi, rfl, r.range x (List.mem_of_mem_eraseIdx (List.mem_of_getElem? hi))⟩, fun _ _ _ h => h.elim, fun _ _ _ _ _ h => h.elim⟩
theorem Dic.reout {w w2 : World} {fp : Nat → Prop} {q : Nat} {ins outs : List Int} {rows : List (List Rat)} {vI vO vR : Value} {fI fO fR : Nat → Prop} (d : Dic w fp q ins outs rows vI vO vR fI fO fR) (h : Chg fO w w2) {outs' : List Int} {vO' : Value} (ho : OInts w2 fO vO' outs') : Dic (w2.setCell ⟨q, 1, none⟩ vO') fp q ins outs' rows vI vO' vR fI fO fR := by
  have c2 : Chg (fun x => x = q) w2 (w2.setCell ⟨q, 1, none⟩ vO') := Chg.setCell (M := fun x => x = q) (p := ⟨q, 1, none⟩) (Chg.refl w2) (fun _ => rfl) _
  have h2 := h.has d.has (d.has.lt (by simp)) d.qo
  exact ⟨h2.set (k := 1) (by simp) vO', OInts.loc.chg (OInts.loc.chg d.hin h (fun x hx _ => d.io x hx)) c2 (fun x hx _ e => d.qi (e ▸ hx)), OInts.loc.chg ho c2 (fun x hx _ e => d.qo (e ▸ hx)),
    (OwnRow.loc OFr.loc _).chg ((OwnRow.loc OFr.loc _).chg d.hrows h (fun x hx _ hx2 => d.or_ x hx2 hx)) c2 (fun x hx _ e => d.qr (e ▸ hx)), d.sI, d.sO, d.sR, d.sq, d.io, d.ir, d.or_, d.qi, d.qo, d.qr⟩
abbrev MdV (cols : Int) (rv : Value) (ga : Option Addr) (gn gc : Nat) (c0 : Int) : Value := .agg #[.int .i64 cols, rv, .slice ga gn gc, .int .i64 c0]
abbrev MdC (cols : Int) (rv : Value) (ga : Option Addr) (gn gc : Nat) (c0 : Int) : List Value := [.int .i64 cols, rv, .slice ga gn gc, .int .i64 c0]
theorem OwnAt.fresh {α : Type} {R : Ow α} (hR : Local R) {t : TypeId} {w : World} {fp : Nat → Prop} {b cap : Nat} {vs sp : List Value} {fps : Nat → Nat → Prop} {xs : List α} (r : OwnAt R t w fp b cap vs sp fps xs)
    {i : Nat} (hi : i < xs.length) {G : Nat} (hG : G < w.heap.size) (hb : G ≠ b) (hn : ∀ j, j < xs.length → ¬ fps j G) {u : Value} {x : α} (hx : R w (fun k => k = G) u x) : OwnAt R t (w.setCell ⟨b, i, none⟩ u) (fun k => fp k ∨ k = G) b cap (vs.set i u) sp (fun j => if j = i then (fun k => k = G) else fps j) (xs.set i x) :=
  OwnAt.put hR (⟨r.blk, r.hlen, r.hcap, r.hmax, r.hsz, .inl r.own, r.row, fun i k hi hk => ⟨.inl (r.sub i k hi hk).1, (r.sub i k hi hk).2⟩, r.apart⟩ : OwnAt R t w (fun k => fp k ∨ k = G) b cap vs sp fps xs) hi hx (fun k hk => by subst hk; exact ⟨.inr rfl, hb, hG, fun j hj _ => hn j hj⟩)
def RTm : Rd (Int × Int) := fun _ w b o p => w.cell? ⟨b, o, none⟩ = some (.int .i64 p.1) ∧ w.cell? ⟨b, o + 1, none⟩ = some (.int .i64 p.2)
theorem RTm.stays : Stays RTm := fun _ _ _ _ _ _ h _ hK hr => ⟨cell_stays h hK hr.1, cell_stays h hK hr.2⟩
def goalAdd (g row : List Rat) (c : Int) : List Rat := (List.range g.length).map fun j => gR g j + (c : Rat) * gR row j
theorem goalAdd_length (g row : List Rat) (c : Int) : (goalAdd g row c).length = g.length := by simp [goalAdd]
theorem goalAdd_get {g row : List Rat} {c : Int} {j : Nat} {x y : Rat} (h : g[j]? = some x) (h2 : row[j]? = some y) : (goalAdd g row c)[j]? = some (x + (c : Rat) * y) := by
  have hj := (List.getElem?_eq_some_iff.1 h).1
  unfold goalAdd
  rw [List.getElem?_map, List.getElem?_range hj]
  simp [gR_of h, gR_of h2]
def goalStep (e : Dc) (g : List Rat) (t : Int × Int) : List Rat :=
  if 0 ≤ idxP e.outs (t.1 + 1) then g.set ((idxP e.outs (t.1 + 1)).toNat + 1) (gR g ((idxP e.outs (t.1 + 1)).toNat + 1) + (t.2 : Rat))
  else goalAdd g (e.rows.getD (idxP e.ins (t.1 + 1)).toNat []) t.2
theorem goalStep_length (e : Dc) (g : List Rat) (t : Int × Int) : (goalStep e g t).length = g.length := by
  unfold goalStep; split
  · simp
  · exact goalAdd_length _ _ _
def goalAt (e : Dc) (g0 : List Rat) (tm : List (Int × Int)) (i : Nat) : List Rat := (tm.take i).foldl (goalStep e) g0
theorem goalAt_zero (e : Dc) (g0 : List Rat) (tm : List (Int × Int)) : goalAt e g0 tm 0 = g0 := rfl
theorem goalAt_succ {e : Dc} {g0 : List Rat} {tm : List (Int × Int)} {i : Nat} {t : Int × Int} (h : tm[i]? = some t) : goalAt e g0 tm (i + 1) = goalStep e (goalAt e g0 tm i) t := by
  unfold goalAt
  rw [List.take_add_one, h, List.foldl_append]
  rfl
theorem goalAt_length (e : Dc) (g0 : List Rat) (tm : List (Int × Int)) (i : Nat) : (goalAt e g0 tm i).length = g0.length := by
  unfold goalAt
  generalize tm.take i = l
  induction l generalizing g0 with
  | nil => rfl
  | cons t l ih => rw [List.foldl_cons, ih, goalStep_length]
def goal0 (e : Dc) (c0 : Int) : List Rat := (List.replicate (e.outs.length + 1) 0).set 0 (c0 : Rat)
def goalP (e : Dc) (c0 : Int) (tm : List (Int × Int)) : List Rat := goalAt e (goal0 e c0) tm tm.length
def aimD (d : Dc) (c0 : Int) (tm : List (Int × Int)) : Dc := ⟨(dropD d).ins, (dropD d).outs, (dropD d).rows.set (dropD d).ins.length (goalP (dropD d) c0 tm)⟩
structure GFit (e : Dc) (g : List Rat) (t : Int × Int) : Prop where
  of_ : -1000000000 ≤ t.1 ∧ t.1 ≤ 1000000000
  coef : Fit (t.2 : Rat)
  all : FitL g
  one : ∀ k : Nat, idxP e.outs (t.1 + 1) = (k : Int) → Fit (gR g (k + 1) + (t.2 : Rat))
  row : idxP e.outs (t.1 + 1) = -1 → ∃ i : Nat, idxP e.ins (t.1 + 1) = (i : Int) ∧ ∀ row, e.rows[i]? = some row → FitL row ∧ ∀ (j : Nat) (x y : Rat), row[j]? = some y → g[j]? = some x → Fit ((t.2 : Rat) * y) ∧ Fit (x + (t.2 : Rat) * y)
def AimFit (e : Dc) (c0 : Int) (tm : List (Int × Int)) : Prop := ∀ (i : Nat) (t : Int × Int), tm[i]? = some t → GFit e (goalAt e (goal0 e c0) tm i) t
def AimRet (w : World) (fp : Nat → Prop) (q : Nat) (d : Dc) (vI : Value) (fI fO fR : Nat → Prop) (e : Ending) (w' : World) : Prop :=
  e = .returned (.tuple #[]) ∧ ∃ vO' vR' G, Dic w' (fun x => fp x ∨ x = G) q d.ins d.outs d.rows vI vO' vR' fI fO (fun x => fR x ∨ x = G) ∧ Chg fp w w' ∧ w.heap.size ≤ G ∧ G < w'.heap.size
set_option maxRecDepth 100000 in
set_option maxHeartbeats 8000000 in
theorem aim_any (w : World) (fp : Nat → Prop) (q : Nat) (d : Dc) (vI vO vR : Value) (fI fO fR : Nat → Prop) (hd : Dic w fp q d.ins d.outs d.rows vI vO vR fI fO fR) (ok : DcOk d) (hfp : ∀ x, fp x → x < w.heap.size)
    (cols : Int) (ra : Option Addr) (rn rc : Nat) (ga : Option Addr) (gn gc : Nat) (c0 : Int) (tm : List (Int × Int)) (K : Nat → Prop) (hT : Row RTm 2 K w ga gn gc tm) (hK : ∀ x, K x → ¬ fp x) (hK2 : ∀ x, K x → x < w.heap.size) (ho7 : (dropD d).outs.length ≤ 7) (hfit : AimFit (dropD d) c0 tm) :
    Calls Try.prog 34 #[.pointer (some ⟨q, 0, none⟩), MdV cols (.slice ra rn rc) ga gn gc c0] w (AimRet w fp q (aimD d c0 tm) vI fI fO fR) := by
  have HT := Lib.hid hT; have HKK := Lib.hid hK; have HK2 := Lib.hid hK2; have HFIT := Lib.hid hfit; have HO7 := Lib.hid ho7
  clear hT hK hK2 hfit ho7
  have OK := Lib.hid ok
  have HFP := Lib.hid hfp
  obtain ⟨nO, hnO⟩ : ∃ n, n = d.outs.length := ⟨_, rfl⟩
  obtain ⟨bO, cO, hvO, lbO, _⟩ := hd.out ok.ne
  have hDic0 := hd
  obtain ⟨w1, hw1⟩ : ∃ w1, w1 = w.alloc (.cells (MdC cols (.slice ra rn rc) ga gn gc c0).toArray 28) := ⟨_, rfl⟩
  have C1 := Lib.hid (show Chg Non w w1 by rw [hw1]; exact (Chg.refl w).alloc _)
  have B1 := Lib.hid (show Blk w1 w.heap.size 28 (MdC cols (.slice ra rn rc) ga gn gc c0) by rw [hw1]; exact Blk.new w _ _)
  have D1 := Lib.hid (hd.chg C1.out (fun _ _ _ h => h))
  have HW1 := Lib.hid hw1
  rw [hvO] at hd
  have q1 := D1.out.has.cell 1 _ rfl
  rw [hvO, ← hnO] at q1
  have hout := D1.out.hout
  rw [hvO, ← hnO] at hout
  have IX := Lib.hid (fun wq => sindex_any fO (some ⟨bO, 0, none⟩) nO cO d.outs 0 wq)
  have IR := Lib.hid (OInts.read (K := fO) (fun _ h => h) hout)
  have HNO := Lib.hid hnO; have HVO := Lib.hid hvO
  have hnO8 : nO ≤ 8 := by have := ok.o8; omega
  clear hd hDic0 ok hfp hvO hout hnO
  have hqw : q < w1.heap.size := D1.out.has.lt (by simp)
  have qf1 := D1.out.has.free 1
  go_enter Try.func34, Try.ntmps34
  go_upto_region 1 with fail
  rw [← HW1.out]
  clear hw1 HW1
  have ok8 := Lib.hid OK.out.o8
  go_wp2_with fail
  refine (IX.out _ IR.out).mono ?_
  rintro e w' ⟨rfl, hw'⟩
  subst hw'
  go_upto_if 19 with fail
  go_cut [4] (fun _ wx => ∃ vO', Dic wx fp q (dropD d).ins (dropD d).outs (dropD d).rows vI vO' vR fI fO fR ∧ Chg fp w1 wx)
  case first =>
    as_aux_lemma =>
      rcases idx_cases d.outs 0 with hx | ⟨k, hk, hx⟩
      · rw [hx]
        have R := Lib.hid (show ∃ vO', Dic w1 fp q (dropD d).ins (dropD d).outs (dropD d).rows vI vO' vR fI fO fR ∧ Chg fp w1 w1 from ⟨vO, by rw [dropD_none hx]; exact D1.out, Chg.refl _⟩)
        clear hx
        go_wp2
        go_meet
        exact R.out
      · rw [hx]
        have HX := Lib.hid hx; have HK := Lib.hid hk
        obtain ⟨k1, hk1⟩ : ∃ k1 : Nat, k1 = k + 1 := ⟨_, rfl⟩
        have wk : IntKind.i64.wrap ((k : Int) + 1) = (k1 : Int) := by have := ok8.out; have := hk; rw [Go.IntWalk.i64_in _ ⟨by omega, by omega⟩]; omega
        have hk0 : 0 ≤ (k : Int) := by omega
        have HK1 := Lib.hid hk1
        rcases D1.out.hout with ⟨_, h0⟩ | ⟨b, c, vs, sp, fps, hv, rO⟩
        · rw [h0] at hk; simp at hk
        have e1 := rO.ints
        rw [HVO.out] at hv
        obtain ⟨rfl, rfl⟩ : b = bO ∧ c = cO := by injection hv with h1 h2 h3; injection h1 with h1; injection h1 with h1; exact ⟨h1.symm, h3.symm⟩
        have SD := Lib.hid (fun wq h => sdel_int b c k k1 d.outs sp wq h rO.hcap rO.hmax hk hk1)
        have BO := Lib.hid (show Blk w1 b 3 (ivs d.outs ++ sp) by rw [← e1]; exact rO.blk)
        rw [← HNO.out] at SD
        have RO := Lib.hid rO
        have qb : q ≠ b := fun e => D1.out.qo (e ▸ rO.own)
        clear hx hk hk1 hv e1 rO q1 qf1
        have q1 := D1.out.has.cell 1 _ rfl
        rw [HVO.out, ← HNO.out] at q1
        go_wp2_with fail
        refine (SD.out _ BO.out).mono ?_
        rintro e w2 ⟨rfl, hb2, hc2⟩
        have DL := Lib.hid (del_range RO.out HK.out hb2)
        have CO := Lib.hid (hc2.mono (N := fO) (fun x _ e => e ▸ RO.out.own))
        have D3 := Lib.hid (D1.out.reout CO.out DL.out)
        have CF := Lib.hid (CO.out.mono (N := fp) (fun x _ h => D1.out.sO x h))
        have H2 := CO.out.has D1.out.has (D1.out.has.lt (by simp)) D1.out.qo
        have f1 := H2.free 1
        clear hb2 hc2 q1
        have q1 := H2.cell 1 _ rfl
        rw [HVO.out] at q1
        clear H2
        have HL := Lib.hid (List.length_eraseIdx_of_lt HK.out)
        rw [HL.out, ← HNO.out] at D3
        go_upto_region 4 with fail
        obtain ⟨w3, hw3⟩ : ∃ w3, w3 = w2.setCell ⟨q, 1, none⟩ (.slice (some ⟨b, 0, none⟩) (nO - 1) c) := ⟨_, rfl⟩
        rw [← hw3] at D3 ⊢
        have C3 := Lib.hid (show Chg fp w1 w3 by rw [hw3]; exact CF.out.setCell (fun _ => D1.out.sq) _)
        clear hw3 f1 q1 DL CO CF
        rcases D3.out.hrows with ⟨_, h0⟩ | ⟨bR, cR, vs0, spR, fps0, hvR, rR⟩
        · have := OK.out.rows; rw [h0] at this; simp at this
        obtain ⟨nR, hnR⟩ : ∃ n, n = d.rows.length := ⟨_, rfl⟩
        have q2 := D3.out.has.cell 2 _ rfl
        rw [hvR, ← hnR] at q2
        have HVR := Lib.hid hvR; have RR := Lib.hid rR; have HNR := Lib.hid hnR
        have nR9 : nR ≤ 9 := by have := OK.out.rows; have := OK.out.i8; omega
        obtain ⟨NR, hNR⟩ : ∃ N, N = d.rows.map fun r => r.eraseIdx (k + 1) := ⟨_, rfl⟩
        have NL := Lib.hid (show NR.length = d.rows.length by rw [hNR]; simp)
        have NG := Lib.hid (show ∀ (r : Nat) (o : List Rat), d.rows[r]? = some o → NR[r]? = some (o.eraseIdx k1) from fun r o h => by rw [hNR, List.getElem?_map, h, HK1.out]; rfl)
        have HNRR := Lib.hid hNR
        have Q3 := Lib.hid q2
        obtain ⟨k2, hk2⟩ : ∃ k2 : Nat, k2 = k1 + 1 := ⟨_, rfl⟩
        have wk2 : IntKind.i64.wrap ((k : Int) + 2) = (k2 : Int) := by have := ok8.out; have := HK.out; have := HK1.out; rw [Go.IntWalk.i64_in _ ⟨by omega, by omega⟩]; omega
        have HK2 := Lib.hid hk2
        clear hvR rR hnR hNR hk2
        go_wp2
        clear q2
        go_loopw [36] (fun i wr => ∃ r : Nat, r ≤ nR ∧ i = .int .i64 r ∧ (∃ vs fps, OwnAt OFr 32 wr fR bR cR vs spR fps (part NR d.rows r)) ∧ Chg fR w3 wr) (fun i _ => nR - (intOf i).toNat)
        case atStart => exact ⟨0, Nat.zero_le _, rfl, ⟨vs0, fps0, by rw [part_zero]; exact RR.out⟩, Chg.refl _⟩
        case round =>
          obtain ⟨r, hr, rfl, ⟨vs, fps, hown⟩, hch⟩ := hrel
          have OW := Lib.hid hown; have CR := Lib.hid hch
          clear hown hch
          by_cases hlt : r < nR
          · obtain ⟨o, ho⟩ : ∃ o, d.rows[r]? = some o := ⟨_, List.getElem?_eq_getElem (by have := HNR.out; omega)⟩
            have hol := OK.out.cols o (List.mem_of_getElem? ho)
            have hpr : (part NR d.rows r)[r]? = some o := by rw [part_get NL.out (by have := HNR.out; omega)]; exact ho
            have hri := (List.getElem?_eq_some_iff.1 hpr).1
            obtain ⟨u, hu, hof⟩ := OW.out.row r o hpr
            rcases hof with ⟨_, h0⟩ | ⟨b', cap', sp', hub, fa⟩
            · rw [h0] at hol; simp at hol
            subst hub
            have cr := OW.out.blk.cell (i := r) (v := .slice (some ⟨b', 0, none⟩) o.length cap') (by rw [List.getElem?_append_left (List.getElem?_eq_some_iff.1 hu).1]; exact hu)
            have q2 := CR.out.cell D3.out.qr Q3.out
            have hsub := OW.out.sub r b' hri fa.own
            have qb' : q ≠ b' := fun e => D3.out.qr (e ▸ hsub.1)
            have bRb' : bR ≠ b' := fun e => hsub.2.1 e.symm
            obtain ⟨n1, hn1⟩ : ∃ n1, n1 = o.length := ⟨_, rfl⟩
            have hk1o : k1 < o.length := by rw [hol, HK1.out]; have := HK.out; omega
            have HPOS := Lib.hid (show 0 < o.length by omega)
            have SD := Lib.hid (fun wq h => sdel_fr b' cap' k1 k2 o sp' wq h fa.hcap fa.hsz hk1o HK2.out)
            rw [← hn1] at cr SD
            have BB := Lib.hid fa.blk; have FA := Lib.hid fa; have HU := Lib.hid hu; have HO := Lib.hid ho; have HRI := Lib.hid hri; have EL := Lib.hid (List.length_eraseIdx_of_lt hk1o); have HN1 := Lib.hid hn1
            have hrR : (r : Int) < (nR : Int) := by omega
            have hr0 : 0 ≤ (r : Int) := by omega
            have cf := OW.out.blk.free r
            clear hol hpr hri hu fa hsub hk1o ho hn1
            go_wp2
            refine hr_start 12 (fun w' => w'.cell? ⟨q, 2, none⟩ = some (.slice (some ⟨bR, 0, none⟩) nR cR)) (by kernel_rfl) (by kernel_rfl) q2 (fun ok => ?_)
            refine hr_t 0 ok rfl ?_
            go_frame
            refine hr_t 1 ok rfl ?_
            go_frame
            refine hr_t 2 ok rfl ?_
            go_frame
            refine hr_t 3 ok rfl ?_
            go_frame
            refine hr_t 4 ok rfl ?_
            go_frame
            refine hr_t 5 ok rfl ?_
            go_frame
            refine hr_t 6 ok rfl ?_
            go_frame
            refine hr_t 7 ok rfl ?_
            go_frame
            refine hr_t 8 ok rfl ?_
            go_frame
            refine hr_t 9 ok rfl ?_
            go_frame
            refine hr_only (c := 10) rfl (by kernel_rfl) (fun K hK => ?_)
            go_simp
            refine (SD.out _ BB.out.drew).mono ?_
            rintro e w' ⟨rfl, hb, hch⟩
            have NB := Lib.hid hb; have NC := Lib.hid hch
            (try simp only [])
            refine hK _ _ (fun _ => by first | exact hch.cell qb' q2) ?_
            clear hK K
            (try go_frame)
            refine hr_t 11 ok rfl ?_
            go_frame
            have cw := hch.cell (w := wr.drew) bRb' cr
            have cfw := hch.frz (w := wr.drew) bRb' (OW.out.blk.lt) cf
            clear cr cf hb hch
            refine hr_only (c := 12) rfl (by kernel_rfl) (fun K hK => ?_)
            go_simp
            (try simp only [])
            refine hK _ _ (pend_no (by kernel_rfl)) ?_
            clear hK K
            (try go_frame)
            refine hr_end (by kernel_rfl) ?_
            obtain ⟨w5, hw5⟩ : ∃ w5, w5 = w'.setCell ⟨bR, r, none⟩ (.slice (some ⟨b', 0, none⟩) (n1 - 1) cap') := ⟨_, rfl⟩
            have CC := Lib.hid (show Chg (fps r) wr w' from ((Chg.refl wr).drew (M := fps r)).trans (NC.out.mono (N := fps r) (fun x _ e => e ▸ FA.out.own)) (fun _ _ h => h))
            have P1 := Lib.hid (show OwnAt OFr 32 w5 fR bR cR (vs.set r (.slice (some ⟨b', 0, none⟩) (n1 - 1) cap')) spR fps (part NR d.rows (r + 1)) by
              have h := OW.out.renew OFr.loc (i := r) HRI.out (u := .slice (some ⟨b', 0, none⟩) (n1 - 1) cap') (x := o.eraseIdx k1) CC.out (.inr ⟨b', cap', [.int .i64 0, .int .i64 0] ++ sp', by rw [EL.out, HN1.out], NB.out.other (fun e => bRb' e.symm) _, by have := FA.out.hcap; have := HPOS.out; have e := EL.out; simp only [List.length_append, List.length_cons, List.length_nil]; omega, FA.out.hsz, FA.out.own⟩)
              rw [part_succ NL.out (NG.out r o HO.out), ← hw5] at h
              exact h)
            have C5 := Lib.hid (show Chg fR w3 w5 by rw [hw5]; exact (CR.out.trans (CC.out.mono (N := fR) (fun x _ h => (OW.out.sub r x HRI.out h).1)) (fun _ _ h => h)).setCell (fun _ => RR.out.own) _)
            try rw [← hw5]
            clear hw5 cw cfw NB NC BB CC FA SD EL
            go_wp2
            go_roundw
            case rel => exact ⟨r + 1, by omega, by go_num, ⟨_, _, P1.out⟩, C5.out⟩
            case measure => simp [intOf]; omega
          · have hr2 : nR = r := by omega
            subst hr2
            have ROW := Lib.hid (show OwnAt OFr 32 wr fR bR cR vs spR fps NR by have h := OW.out; rw [HNR.out, part_all NL.out] at h; exact h)
            have R := Lib.hid (show ∃ vO', Dic wr fp q (dropD d).ins (dropD d).outs (dropD d).rows vI vO' vR fI fO fR ∧ Chg fp w1 wr from ⟨_, by
              rw [dropD_some HX.out]
              exact ⟨CR.out.has D3.out.has (D3.out.has.lt (by simp)) D3.out.qr, OInts.loc.chg D3.out.hin CR.out (fun y hy _ => D3.out.ir y hy), OInts.loc.chg D3.out.hout CR.out (fun y hy _ => D3.out.or_ y hy),
                .inr ⟨bR, cR, vs, spR, fps, by rw [← HNRR.out, NL.out]; exact HVR.out, by rw [← HNRR.out]; exact ROW.out⟩, D3.out.sI, D3.out.sO, D3.out.sR, D3.out.sq, D3.out.io, D3.out.ir, D3.out.or_, D3.out.qi, D3.out.qo, D3.out.qr⟩, C3.out.trans CR.out (fun x _ h => D3.out.sR x h)⟩)
            clear ROW OW CR
            go_wp2
            go_meet
            exact R.out
  case rest =>
    obtain ⟨vO', hdw, hcw⟩ := hcut
    obtain ⟨w2, rfl⟩ : ∃ w2 : World, w2 = wc := ⟨_, rfl⟩
    have EF := Lib.hid (dropD_fit OK.out)
    obtain ⟨e, he⟩ : ∃ e, e = dropD d := ⟨_, rfl⟩
    have HAD := Lib.hid (show aimD d c0 tm = ⟨e.ins, e.outs, e.rows.set e.ins.length (goalP e c0 tm)⟩ by rw [he]; rfl)
    rw [← he] at hdw HFIT HO7 EF
    have HE := Lib.hid he
    clear he
    have nb : ¬ fp w.heap.size := fun h => by have := HFP.out _ h; omega
    have B2 := Lib.hid (B1.out.chg hcw nb)
    have C2 := Lib.hid (show Chg fp w w2 from (C1.out.mono (fun _ _ h => h.elim)).trans hcw (fun _ _ h => h))
    have T2 := Lib.hid (HT.out.chg RTm.stays C2.out HKK.out)
    have D2 := Lib.hid hdw
    clear hdw hcw
    obtain ⟨aO, cO', hvO', _⟩ : ∃ a c, vO' = .slice a e.outs.length c ∧ True := by
      obtain ⟨a, c, h⟩ := OwnRow.form D2.out.hout
      exact ⟨a, c, h, trivial⟩
    obtain ⟨n, hn⟩ : ∃ n, n = e.outs.length := ⟨_, rfl⟩
    have q1 := D2.out.has.cell 1 _ rfl
    rw [hvO', ← hn] at q1
    have hn7 : n ≤ 7 := by have := HO7.out; omega
    obtain ⟨n1, hn1⟩ : ∃ n1, n1 = n + 1 := ⟨_, rfl⟩
    have wn : IntKind.i64.wrap ((n : Int) + 1) = (n1 : Int) := by rw [Go.IntWalk.i64_in _ ⟨by omega, by omega⟩]; omega
    have hn18 : n1 ≤ 8 := by omega
    have hn10 : 0 < n1 := by omega
    have HN := Lib.hid hn; have HN1 := Lib.hid hn1; have HVO' := Lib.hid hvO'
    clear hn hn1 hvO'
    go_wp2_with fail
    refine (zeros_any n1 hn18 _).mono ?_
    rintro e' w3 ⟨G, rfl, hG, hbk, hb⟩
    have FG := Lib.hid hbk; have B3 := Lib.hid hb; have LG := Lib.hid hG
    have D3 := Lib.hid (D2.out.chg (Chg.of_below (M := Non) hb) (fun _ _ _ h => h))
    have BB3 := Lib.hid (B2.out.below hb B2.out.lt)
    have x3 := BB3.out.cell (i := 3) rfl
    have x2 := BB3.out.cell (i := 2) rfl
    clear hbk hb hG q1
    go_wp2_with fail
    refine (whole_any c0 _).mono ?_
    rintro e' w4 ⟨rfl, hb⟩
    have FG4 := Lib.hid (FG.out.below hb FG.out.lt)
    have B4 := Lib.hid (B3.out.trans (hb.mono B3.out.size))
    have BB4 := Lib.hid (BB3.out.below hb BB3.out.lt)
    have D4 := Lib.hid (D3.out.chg (Chg.of_below (M := Non) hb) (fun _ _ _ h => h))
    obtain ⟨a0, a1⟩ := FBlk.get FG4.out (show (List.replicate n1 (0 : Rat))[0]? = some 0 by rw [List.getElem?_replicate, if_pos hn10])
    have af := FG4.out.free
    simp only [Nat.zero_mul, Nat.zero_add] at a0 a1
    clear hb x2 x3
    have x2 := BB4.out.cell (i := 2) rfl
    go_upto_region 11 with fail
    obtain ⟨w5, hw5⟩ : ∃ w5, w5 = (w4.setCell ⟨G, 0, none⟩ (.int .i64 c0)).setCell ⟨G, 1, none⟩ (.int .i64 1) := ⟨_, rfl⟩
    have LBG := Lib.hid (show w.heap.size ≠ G ∧ q ≠ G ∧ w2.heap.size ≤ G ∧ (∀ x, fp x → x ≠ G) ∧ w.heap.size ≤ G by
      have h1 := B2.out.lt; have h2 := LG.out
      refine ⟨by omega, fun e => ?_, h2, fun x hx e => ?_, by have := C2.out.size; omega⟩
      · have := D2.out.has.lt (by simp); omega
      · have := HFP.out x hx; have := C2.out.size; omega)
    have F5 := Lib.hid (show FBlk w5 G (goal0 e c0) [] by
      rw [hw5]
      have h := FBlk.put FG4.out (j := 0) (by simpa using hn10) (c0 : Rat)
      simp only [Nat.zero_mul, Nat.zero_add] at h
      unfold goal0
      rw [← HN.out, ← HN1.out]
      exact h)
    have C5 := Lib.hid (show Chg (fun x => x = G) w4 w5 by rw [hw5]; exact Chg.setCell (M := fun x => x = G) (p := ⟨G, 1, none⟩) (Chg.setCell (M := fun x => x = G) (p := ⟨G, 0, none⟩) (Chg.refl w4) (fun _ => rfl) _) (fun _ => rfl) _)
    have D5 := Lib.hid (D4.out.chg C5.out (fun x hx _ => LBG.out.2.2.2.1 x hx))
    have BB5 := Lib.hid (BB4.out.chg C5.out LBG.out.1)
    have T5 := Lib.hid ((T2.out.below RTm.stays B4.out).chg RTm.stays C5.out (fun x hx e => by have := HK2.out x hx; have := LBG.out.2.2.2.2; omega))
    have C6 := Lib.hid (show Chg fp w w5 from (C2.out.tr B4.out).trans (C5.out) (fun x hx e => by have := LBG.out.2.2.2.2; omega))
    rw [← hw5]
    clear hw5 a0 a1 af x2 C5 BB4 D4 FG4
    have x2 := BB5.out.cell (i := 2) rfl
    have HL0 := Lib.hid (show (goal0 e c0).length = n1 by unfold goal0; rw [List.length_set, List.length_replicate, ← HN.out, HN1.out])
    go_wp2
    clear x2
    have hgn : gn ≤ 17592186044416 := by have := T5.out.hsz; omega
    go_loopw [69] (fun s wr => ∃ i : Nat, i ≤ gn ∧ s = .int .i64 i ∧ FBlk wr G (goalAt e (goal0 e c0) tm i) [] ∧ Chg (fun x => x = G) w5 wr) (fun s _ => gn - (intOf s).toNat)
    case atStart => exact ⟨0, Nat.zero_le _, rfl, F5.out, Chg.refl _⟩
    case round =>
      obtain ⟨i, hi, rfl, hfb, hch⟩ := hrel
      have FR := Lib.hid hfb; have CR := Lib.hid hch
      clear hfb hch
      obtain ⟨wo, rfl⟩ : ∃ wo : World, wo = wr := ⟨_, rfl⟩
      by_cases hlt : i < gn
      · obtain ⟨⟨p, c⟩, htt⟩ : ∃ tt, tm[i]? = some tt := ⟨_, List.getElem?_eq_getElem (by have := T5.out.hlen; omega)⟩
        have TR := T5.out.chg RTm.stays CR.out (fun x hx e => by have := HK2.out x hx; have := LBG.out.2.2.2.2; omega)
        obtain ⟨bt, ot, hga, _, lbt, t0, t1⟩ := TR.row i (p, c) htt
        have GF := Lib.hid (HFIT.out i (p, c) htt)
        have GS := Lib.hid (goalAt_succ (e := e) (g0 := goal0 e c0) htt)
        subst hga
        dsimp only at t0 t1
        clear htt TR
        go_upto_region 14 with fail
        obtain ⟨w6, hw6⟩ : ∃ w6, w6 = wo.alloc (.cells #[.int .i64 p, .int .i64 c] 56) := ⟨_, rfl⟩
        have C66 := Lib.hid (show Chg Non wo w6 by rw [hw6]; exact (Chg.refl wo).alloc _)
        have X6 := Lib.hid (show Blk w6 wo.heap.size 56 [.int .i64 p, .int .i64 c] by rw [hw6]; exact Blk.new wo _ _)
        rw [← hw6]
        clear hw6 t0 t1
        have F6 := Lib.hid (FR.out.chg C66.out (fun h => h))
        have D6 := Lib.hid ((D5.out.chg CR.out (fun x hx _ => LBG.out.2.2.2.1 x hx)).chg C66.out (fun _ _ _ h => h))
        have C6G := Lib.hid (show Chg (fun x => x = G) w5 w6 from CR.out.trans C66.out (fun _ _ h => h.elim))
        have HXG := Lib.hid (show wo.heap.size ≠ G ∧ G < wo.heap.size from ⟨by have := FR.out.lt; omega, FR.out.lt⟩)
        generalize wo.heap.size = X9 at X6 HXG ⊢
        have xg : X9 ≠ G := HXG.out.1
        have gx : G ≠ X9 := fun h => xg h.symm
        have q1 := D6.out.has.cell 1 _ rfl
        rw [HVO'.out, ← HN.out] at q1
        have e0 := X6.out.cell (i := 0) rfl
        have hout := D6.out.drew.hout
        rw [HVO'.out, ← HN.out] at hout
        obtain ⟨p1, hp1⟩ : ∃ p1, p1 = p + 1 := ⟨_, rfl⟩
        have wp1 : IntKind.i64.wrap (p + 1) = p1 := by have := GF.out.of_; dsimp only at this; rw [Go.IntWalk.i64_in _ ⟨by omega, by omega⟩, hp1]
        have IX2 := Lib.hid (fun wq h => sindex_any fO aO n cO' e.outs p1 wq h)
        have IR2 := Lib.hid (OInts.read (K := fO) (fun _ h => h) hout)
        have HP1 := Lib.hid hp1
        clear hout hp1
        go_wp2
        refine hd_start 8 (fun w' => w'.cell? ⟨q, 1, none⟩ = some (.slice aO n cO') ∧ w'.cell? ⟨X9, 0, none⟩ = some (.int .i64 p)) (by kernel_rfl) ⟨by kernel_rfl, by kernel_rfl, by kernel_rfl, by decide⟩ (by refine ⟨q1, e0⟩) (fun ok => ?_)
        refine hd_t 0 ok rfl ?_
        go_frame
        refine hd_t 1 ok rfl ?_
        go_frame
        refine hd_t 2 ok rfl ?_
        go_frame
        refine hd_t 3 ok rfl ?_
        go_frame
        refine hd_t 4 ok rfl ?_
        go_frame
        refine hd_t 5 ok rfl ?_
        go_frame
        refine hd_t 6 ok rfl ?_
        go_frame
        refine hd_only_l (c := 7) rfl (by decide) (by kernel_rfl) (fun K hK => ?_)
        go_simp
        refine (IX2.out w6.drew IR2.out).mono ?_
        rintro e' w' ⟨rfl, hw'⟩
        subst hw'
        (try simp only [])
        refine hK _ _ (by refine ⟨?_, ?_⟩ <;> (first | exact q1 | exact e0)) ?_
        clear hK K
        (try go_frame)
        refine hd_done (by kernel_rfl) ?_
        simp only [List.drop_succ_cons, List.drop_zero]
        clear q1 e0
        obtain ⟨w7, hw7⟩ : ∃ w7, w7 = w6.drew := ⟨_, rfl⟩
        have F7 := Lib.hid (show FBlk w7 G (goalAt e (goal0 e c0) tm i) [] by rw [hw7]; exact F6.out)
        have X7 := Lib.hid (show Blk w7 X9 56 [.int .i64 p, .int .i64 c] by rw [hw7]; exact X6.out)
        have D7 := Lib.hid (show Dic w7 fp q e.ins e.outs e.rows vI vO' vR fI fO fR by rw [hw7]; exact D6.out.drew)
        have C7G := Lib.hid (show Chg (fun x => x = G) w5 w7 by rw [hw7]; exact C6G.out.drew)
        rw [← hw7]
        clear hw7 F6 X6 D6 C6G
        rcases idx_cases e.outs p1 with hx | ⟨k, hk, hx⟩
        · obtain ⟨i', hi', hfr⟩ := GF.out.row (by rw [← HP1.out]; exact hx)
          rw [← HP1.out] at hi'
          have hiI : i' < e.ins.length := by
            rcases idx_cases e.ins p1 with h | ⟨k, hk, h⟩ <;> rw [h] at hi' <;> omega
          obtain ⟨row, hrow⟩ : ∃ row, e.rows[i']? = some row := ⟨_, List.getElem?_eq_getElem (by have := EF.out.rows; omega)⟩
          obtain ⟨hfrow, hft⟩ := hfr row hrow
          have hrl : row.length = n1 := by have := EF.out.cols row (List.mem_of_getElem? hrow); have := HN.out; have := HN1.out; omega
          obtain ⟨g, hg⟩ : ∃ g, g = goalAt e (goal0 e c0) tm i := ⟨_, rfl⟩
          have hgl : g.length = n1 := by rw [hg, goalAt_length]; exact HL0.out
          have GSK := Lib.hid (show goalAt e (goal0 e c0) tm (i + 1) = goalAdd g row c by
            rw [GS.out]; unfold goalStep; rw [← HP1.out, hx, if_neg (by omega), hi', Int.toNat_natCast, ← hg, List.getD_eq_getElem?_getD, hrow]; rfl)
          obtain ⟨bR, cR, hvR, _, _, hrows⟩ := D7.out.row (by intro h; rw [h] at hrow; simp at hrow)
          obtain ⟨b, cap, sp, cr, fb, hfb⟩ := hrows i' row hrow (by intro h; rw [h] at hrl; simp at hrl; omega)
          rw [hrl] at cr
          obtain ⟨aI, cI, hvI, _⟩ := D7.out.inn
          obtain ⟨nI, hnI⟩ : ∃ n, n = e.ins.length := ⟨_, rfl⟩
          have hin := D7.out.drew.hin
          rw [hvI, ← hnI] at hin
          have q0 := D7.out.has.cell 0 _ rfl
          have q2 := D7.out.has.cell 2 _ rfl
          rw [hvI, ← hnI] at q0
          rw [hvR, EF.out.rows, ← hnI] at q2
          have e0 := X7.out.cell (i := 0) rfl
          have IX3 := fun wq h => sindex_any fI aI nI cI e.ins p1 wq h
          rw [hi'] at IX3
          have IX3 := Lib.hid IX3
          have IR3 := Lib.hid (OInts.read (K := fI) (fun _ h => h) hin)
          have FBR := Lib.hid fb
          have gb : b ≠ G := LBG.out.2.2.2.1 b hfb
          have hiJ : (i' : Int) < (nI : Int) + 1 := by omega
          have hi0 : 0 ≤ (i' : Int) := by omega
          rw [← hg] at hft
          have HFT := Lib.hid hft; have HGL := Lib.hid hgl; have HRL := Lib.hid hrl; have HFG := Lib.hid (show FitL g by rw [hg]; exact GF.out.all)
          have FRW := Lib.hid hfrow
          have F8 := Lib.hid (show FBlk w7 G g [] by rw [hg]; exact F7.out)
          rw [hx]
          clear hx hi' hfr hiI hrow hft hfrow hrl hg hgl hvR hrows fb hfb hvI hnI hin F7
          go_wp2
          refine hd_start_e 16 (fun w' => w'.cell? ⟨q, 2, none⟩ = some (.slice (some ⟨bR, 0, none⟩) (nI + 1) cR) ∧ w'.cell? ⟨q, 0, none⟩ = some (.slice aI nI cI) ∧ w'.cell? ⟨X9, 0, none⟩ = some (.int .i64 p) ∧ w'.cell? ⟨bR, i', none⟩ = some (.slice (some ⟨b, 0, none⟩) n1 cap)) (by kernel_rfl) ⟨by kernel_rfl, by rfl⟩ (by refine ⟨q2, q0, e0, cr⟩) (fun ok => ?_)
          refine he_t 0 ok rfl ?_
          go_frame
          refine he_t 1 ok rfl ?_
          go_frame
          refine he_t 2 ok rfl ?_
          go_frame
          refine he_t 3 ok rfl ?_
          go_frame
          refine he_t 4 ok rfl ?_
          go_frame
          refine he_t 5 ok rfl ?_
          go_frame
          refine he_t 6 ok rfl ?_
          go_frame
          refine he_t 7 ok rfl ?_
          go_frame
          refine he_t 8 ok rfl ?_
          go_frame
          refine he_t 9 ok rfl ?_
          go_frame
          refine he_t 10 ok rfl ?_
          go_frame
          refine he_t 15 ok rfl ?_
          go_frame
          refine hd_only_l (c := 11) rfl (by decide) (by kernel_rfl) (fun K hK => ?_)
          go_simp
          refine (IX3.out w7.drew IR3.out).mono ?_
          rintro e' w' ⟨rfl, hw'⟩
          subst hw'
          (try simp only [])
          refine hK _ _ (by refine ⟨?_, ?_, ?_, ?_⟩ <;> (first | exact q2 | exact q0 | exact e0 | exact cr)) ?_
          clear hK K
          (try go_frame)
          refine he_t 12 ok rfl ?_
          go_frame
          refine he_t 13 ok rfl ?_
          go_frame
          refine hd_only_l (c := 14) rfl (by decide) (by kernel_rfl) (fun K hK => ?_)
          go_simp
          (try simp only [])
          refine hK _ _ (by refine ⟨?_, ?_, ?_, ?_⟩ <;> (first | exact q2 | exact q0 | exact e0 | exact cr)) ?_
          clear hK K
          (try go_frame)
          refine hd_end (by kernel_rfl) rfl ?_
          clear q2 q0 e0 cr
          obtain ⟨w8, hw8⟩ : ∃ w8, w8 = w7.drew := ⟨_, rfl⟩
          have G8 := Lib.hid (show FBlk w8 G g [] by rw [hw8]; exact F8.out)
          have X8 := Lib.hid (show Blk w8 X9 56 [.int .i64 p, .int .i64 c] by rw [hw8]; exact X7.out)
          have R8 := Lib.hid (show FBlk w8 b row sp by rw [hw8]; exact FBR.out)
          have C8 := Lib.hid (show Chg (fun x => x = G) w5 w8 by rw [hw8]; exact C7G.out.drew)
          rw [← hw8]
          clear hw8 F8 X7 FBR C7G D7 IX3 IR3 IX2 IR2
          go_wp2
          go_loopw [111] (fun s wr => ∃ j : Nat, j ≤ n1 ∧ s = .int .i64 j ∧ FBlk wr G (part (goalAdd g row c) g j) [] ∧ Chg (fun x => x = G) w8 wr) (fun s _ => n1 - (intOf s).toNat)
          case atStart => exact ⟨0, Nat.zero_le _, rfl, by rw [part_zero]; exact G8.out, Chg.refl _⟩
          case round =>
            obtain ⟨j, hj, rfl, hfb, hch⟩ := hrel
            have FZ := Lib.hid hfb; have CZ := Lib.hid hch
            clear hfb hch
            by_cases hltj : j < n1
            · obtain ⟨y, hy⟩ : ∃ y, row[j]? = some y := ⟨_, List.getElem?_eq_getElem (by have := HRL.out; omega)⟩
              obtain ⟨x, hgx⟩ : ∃ x, g[j]? = some x := ⟨_, List.getElem?_eq_getElem (by have := HGL.out; omega)⟩
              obtain ⟨y0, y1⟩ := FBlk.get (R8.out.chg CZ.out gb) hy
              have hjn : (j : Int) < (n1 : Int) := by omega
              have hj0 : 0 ≤ (j : Int) := by omega
              have XZ := Lib.hid (X8.out.chg CZ.out xg)
              have FT := Lib.hid (HFT.out j x y hy hgx)
              have HNW := Lib.hid (goalAdd_get (c := c) hgx hy)
              have HX := Lib.hid hgx
              have FX := Lib.hid (HFG.out.get hgx); have FY := Lib.hid (FRW.out.get hy)
              go_upto_region 20 with fail
              obtain ⟨wy, hwy⟩ : ∃ wy, wy = wr.alloc (.cells #[.int .i64 y.num, .int .i64 (y.den : Int)] 31) := ⟨_, rfl⟩
              have CY := Lib.hid (show Chg Non wr wy by rw [hwy]; exact (Chg.refl wr).alloc _)
              have YB := Lib.hid (show Blk wy wr.heap.size 31 (FrC y) by rw [hwy]; exact Blk.new wr (FrC y) _)
              rw [← hwy]
              clear hwy y0 y1 hy hgx
              have FY2 := Lib.hid (FZ.out.chg CY.out (fun h => h))
              have XY := Lib.hid (XZ.out.chg CY.out (fun h => h))
              have CYG := Lib.hid (show Chg (fun x => x = G) w8 wy from CZ.out.trans CY.out (fun _ _ h => h.elim))
              generalize wr.heap.size = Y at YB ⊢
              obtain ⟨c1, c2⟩ := FBlk.get FY2.out (show (part (goalAdd g row c) g j)[j]? = some x by rw [part_get (goalAdd_length _ _ _) (by have := HGL.out; omega)]; exact HX.out)
              have e1 := XY.out.cell (i := 1) rfl
              have y0 := YB.out.cell (i := 0) rfl
              have y1 := YB.out.cell (i := 1) rfl
              obtain ⟨m, hm⟩ : ∃ m, m = (c : Rat) * y := ⟨_, rfl⟩
              obtain ⟨s, hs⟩ : ∃ s, s = x + m := ⟨_, rfl⟩
              have SM := Lib.hid (smul (c : Rat) y GF.out.coef FY.out FT.out.1)
              rw [← hm] at SM
              have SA := Lib.hid (sadd x m FX.out (by rw [hm]; exact FT.out.1) (by rw [hm]; exact FT.out.2))
              rw [← hs] at SA
              have HN2 := Lib.hid (show (goalAdd g row c)[j]? = some s by rw [HNW.out, hs, hm])
              clear hm hs FT HNW FX FY FZ CZ XZ CY
              go_wp2
              refine hr_start 13 (fun w' => w'.cell? ⟨G, j * 2, none⟩ = some (.int .i64 x.num) ∧ w'.cell? ⟨G, j * 2 + 1, none⟩ = some (.int .i64 (x.den : Int)) ∧ w'.cell? ⟨X9, 1, none⟩ = some (.int .i64 c) ∧ w'.cell? ⟨Y, 0, none⟩ = some (.int .i64 y.num) ∧ w'.cell? ⟨Y, 1, none⟩ = some (.int .i64 (y.den : Int))) (by kernel_rfl) (by kernel_rfl) (by refine ⟨c1, c2, e1, y0, y1⟩) (fun ok => ?_)
              refine hr_t 0 ok rfl ?_
              go_frame
              refine hr_t 1 ok rfl ?_
              go_frame
              refine hr_t 2 ok rfl ?_
              go_frame
              refine hr_t 3 ok rfl ?_
              go_frame
              refine hr_t 4 ok rfl ?_
              go_frame
              refine hr_t 5 ok rfl ?_
              go_frame
              refine hr_t 6 ok rfl ?_
              go_frame
              refine hr_t 7 ok rfl ?_
              go_frame
              refine hr_t 9 ok rfl ?_
              go_frame
              refine hr_only (c := 8) rfl (by kernel_rfl) (fun K hK => ?_)
              go_simp
              refine (whole_any c _).mono ?_
              rintro e' w' ⟨rfl, hb⟩
              have FB1 := Lib.hid (FY2.out.drew.below hb FY2.out.lt)
              have CH1 := Lib.hid (show Chg (fun x => x = G) w8 w' from CYG.out.drew.tr hb)
              have c1 := cell_later hb c1; have c2 := cell_later hb c2; have e1 := cell_later hb e1; have y0 := cell_later hb y0; have y1 := cell_later hb y1
              (try simp only [])
              refine hK _ _ (fun _ => by refine ⟨?_, ?_, ?_, ?_, ?_⟩ <;> (first | exact c1 | exact c2 | exact e1 | exact y0 | exact y1)) ?_
              clear hK K
              (try go_frame)
              clear hb
              refine hr_only (c := 10) rfl (by kernel_rfl) (fun K hK => ?_)
              go_simp
              refine (SM.out _).mono ?_
              rintro e' w'' ⟨rfl, hb⟩
              have FB2 := Lib.hid (FB1.out.below hb FB1.out.lt)
              have CH2 := Lib.hid (CH1.out.tr hb)
              have c1 := cell_later hb c1; have c2 := cell_later hb c2; have e1 := cell_later hb e1; have y0 := cell_later hb y0; have y1 := cell_later hb y1
              (try simp only [])
              refine hK _ _ (fun _ => by refine ⟨?_, ?_, ?_, ?_, ?_⟩ <;> (first | exact c1 | exact c2 | exact e1 | exact y0 | exact y1)) ?_
              clear hK K
              (try go_frame)
              clear hb FB1 CH1
              refine hr_only (c := 11) rfl (by kernel_rfl) (fun K hK => ?_)
              go_simp
              refine (SA.out _).mono ?_
              rintro e' w3' ⟨rfl, hb⟩
              have FB3 := Lib.hid (FB2.out.below hb FB2.out.lt)
              have CH3 := Lib.hid (CH2.out.tr hb)
              (try simp only [])
              refine hK _ _ (fun _ => by refine ⟨?_, ?_, ?_, ?_, ?_⟩ <;> (first | exact cell_later hb c1 | exact cell_later hb c2 | exact cell_later hb e1 | exact cell_later hb y0 | exact cell_later hb y1)) ?_
              clear hK K
              (try go_frame)
              refine hr_t 12 ok rfl ?_
              go_frame
              clear c1 c2 e1 y0 y1 hb FB2 CH2
              obtain ⟨c1, c2⟩ := FBlk.get FB3.out (show (part (goalAdd g row c) g j)[j]? = some x by rw [part_get (goalAdd_length _ _ _) (by have := HGL.out; omega)]; exact HX.out)
              have cf := FB3.out.free
              refine hr_only (c := 13) rfl (by kernel_rfl) (fun K hK => ?_)
              go_simp
              (try simp only [])
              refine hK _ _ (pend_no (by kernel_rfl)) ?_
              clear hK K
              (try go_frame)
              refine hr_end (by kernel_rfl) ?_
              have PS := Lib.hid (show FBlk ((w3'.setCell ⟨G, j * 2, none⟩ (.int .i64 s.num)).setCell ⟨G, j * 2 + 1, none⟩ (.int .i64 (s.den : Int))) G (part (goalAdd g row c) g (j + 1)) [] by
                rw [← part_succ (goalAdd_length _ _ _) HN2.out]
                exact FBlk.put FB3.out (by rw [part_length (goalAdd_length _ _ _) (by have := HGL.out; omega)]; have := HGL.out; omega) _)
              have PC := Lib.hid (chg_put (b := G) CH3.out (fun _ => rfl) j (.int .i64 s.num) (.int .i64 (s.den : Int)))
              clear c1 c2 cf FB3 CH3
              go_wp2
              go_roundw
              case rel => exact ⟨j + 1, by omega, by go_num, PS.out, PC.out⟩
              case measure => simp [intOf]; omega
            · have hj2 : n1 = j := by omega
              subst hj2
              have PS := Lib.hid (show FBlk wr G (goalAt e (goal0 e c0) tm (i + 1)) [] by have h := FZ.out; rw [← HGL.out, part_all (goalAdd_length _ _ _)] at h; rw [GSK.out]; exact h)
              have PC := Lib.hid (C8.out.trans CZ.out (fun _ _ h => h))
              clear FZ CZ
              go_wp2
              go_roundw
              case rel => exact ⟨i + 1, by omega, by go_num, PS.out, PC.out⟩
              case measure => simp [intOf]; omega
        · have GSK := Lib.hid (show goalAt e (goal0 e c0) tm (i + 1) = (goalAt e (goal0 e c0) tm i).set (k + 1) (gR (goalAt e (goal0 e c0) tm i) (k + 1) + (c : Rat)) by
            rw [GS.out]; unfold goalStep; rw [← HP1.out, hx, if_pos (by omega), Int.toNat_natCast])
          have HF1 := Lib.hid (GF.out.one k (by rw [← HP1.out]; exact hx))
          obtain ⟨g, hg⟩ : ∃ g, g = goalAt e (goal0 e c0) tm i := ⟨_, rfl⟩
          rw [← hg] at GSK HF1 F7
          have hgl : g.length = n1 := by rw [hg, goalAt_length]; exact HL0.out
          have hkn : k < n := by have := HN.out; omega
          obtain ⟨x, hgx⟩ : ∃ x, g[k + 1]? = some x := ⟨_, List.getElem?_eq_getElem (by have := HN1.out; omega)⟩
          rw [gR_of hgx] at GSK HF1
          have HFX := Lib.hid (show Fit x from by have := GF.out.all; rw [← hg] at this; exact this.get hgx)
          rw [hx]
          have hk0 : 0 ≤ (k : Int) := by omega
          obtain ⟨k1, hk1⟩ : ∃ k1, k1 = k + 1 := ⟨_, rfl⟩
          have wk : IntKind.i64.wrap ((k : Int) + 1) = (k1 : Int) := by rw [Go.IntWalk.i64_in _ ⟨by omega, by omega⟩]; omega
          rw [← hk1] at hgx GSK
          have hk1n : (k1 : Int) < (n1 : Int) := by have := HN1.out; omega
          have hk10 : 0 ≤ (k1 : Int) := by omega
          obtain ⟨c1, c2⟩ := FBlk.get F7.out hgx
          have e1 := X7.out.cell (i := 1) rfl
          obtain ⟨y, hy⟩ : ∃ y, y = x + (c : Rat) := ⟨_, rfl⟩
          have SA := Lib.hid (sadd x (c : Rat) HFX.out GF.out.coef HF1.out)
          rw [← hy] at SA GSK
          have HGL := Lib.hid hgl; have HGX := Lib.hid hgx
          clear hx hk hg hgl hgx hk1 hy HFX HF1
          go_wp2
          refine hr_start 13 (fun w' => w'.cell? ⟨G, k1 * 2, none⟩ = some (.int .i64 x.num) ∧ w'.cell? ⟨G, k1 * 2 + 1, none⟩ = some (.int .i64 (x.den : Int)) ∧ w'.cell? ⟨X9, 1, none⟩ = some (.int .i64 c)) (by kernel_rfl) (by kernel_rfl) (by refine ⟨c1, c2, e1⟩) (fun ok => ?_)
          refine hr_t 0 ok rfl ?_
          go_frame
          refine hr_t 1 ok rfl ?_
          go_frame
          refine hr_t 2 ok rfl ?_
          go_frame
          refine hr_t 3 ok rfl ?_
          go_frame
          refine hr_t 4 ok rfl ?_
          go_frame
          refine hr_t 5 ok rfl ?_
          go_frame
          refine hr_t 6 ok rfl ?_
          go_frame
          refine hr_t 7 ok rfl ?_
          go_frame
          refine hr_t 8 ok rfl ?_
          go_frame
          refine hr_t 9 ok rfl ?_
          go_frame
          refine hr_only (c := 10) rfl (by kernel_rfl) (fun K hK => ?_)
          go_simp
          refine (whole_any c _).mono ?_
          rintro e' w' ⟨rfl, hb⟩
          have FB' := Lib.hid (F7.out.drew.below hb F7.out.lt)
          have CH' := Lib.hid (show Chg (fun x => x = G) w5 w' from C7G.out.drew.tr hb)
          have c1 := cell_later hb c1; have c2 := cell_later hb c2; have e1 := cell_later hb e1
          (try simp only [])
          refine hK _ _ (fun _ => by refine ⟨?_, ?_, ?_⟩ <;> (first | exact c1 | exact c2 | exact e1)) ?_
          clear hK K
          (try go_frame)
          clear hb
          refine hr_only (c := 11) rfl (by kernel_rfl) (fun K hK => ?_)
          go_simp
          refine (SA.out _).mono ?_
          rintro e' w'' ⟨rfl, hb⟩
          have FB'' := Lib.hid (FB'.out.below hb FB'.out.lt)
          have CH'' := Lib.hid (CH'.out.tr hb)
          (try simp only [])
          refine hK _ _ (fun _ => by refine ⟨?_, ?_, ?_⟩ <;> (first | exact cell_later hb c1 | exact cell_later hb c2 | exact cell_later hb e1)) ?_
          clear hK K
          (try go_frame)
          refine hr_t 12 ok rfl ?_
          go_frame
          clear c1 c2 e1 hb
          obtain ⟨c1, c2⟩ := FBlk.get FB''.out HGX.out
          have cf := FB''.out.free
          refine hr_only (c := 13) rfl (by kernel_rfl) (fun K hK => ?_)
          go_simp
          (try simp only [])
          refine hK _ _ (pend_no (by kernel_rfl)) ?_
          clear hK K
          (try go_frame)
          refine hr_end (by kernel_rfl) ?_
          have PS := Lib.hid (show FBlk ((w''.setCell ⟨G, k1 * 2, none⟩ (.int .i64 y.num)).setCell ⟨G, k1 * 2 + 1, none⟩ (.int .i64 (y.den : Int))) G (goalAt e (goal0 e c0) tm (i + 1)) [] by
            rw [GSK.out]
            exact FBlk.put FB''.out (List.getElem?_eq_some_iff.1 HGX.out).1 _)
          have PC := Lib.hid (chg_put (b := G) CH''.out (fun _ => rfl) k1 (.int .i64 y.num) (.int .i64 (y.den : Int)))
          clear c1 c2 cf FB' CH' FB'' CH'' F7 C7G
          go_wp2
          go_roundw
          case rel => exact ⟨i + 1, by omega, by go_num, PS.out, PC.out⟩
          case measure => simp [intOf]; omega
      · have hi2 : gn = i := by omega
        subst hi2
        have D6 := Lib.hid (D5.out.chg CR.out (fun x hx _ => LBG.out.2.2.2.1 x hx))
        have FP := Lib.hid (show FBlk wo G (goalP e c0 tm) [] by have h := FR.out; unfold goalP; rw [T5.out.hlen]; exact h)
        have HLP := Lib.hid (show (goalP e c0 tm).length = n1 by unfold goalP; rw [goalAt_length]; exact HL0.out)
        rcases D6.out.hrows with ⟨_, h0⟩ | ⟨bR, cR, vs, sp, fps, hvR, rR⟩
        · have := EF.out.rows; rw [h0] at this; simp at this
        obtain ⟨nI, hnI⟩ : ∃ n, n = e.ins.length := ⟨_, rfl⟩
        have hnI8 : nI ≤ 8 := by have := EF.out.i8; omega
        have q2 := D6.out.has.cell 2 _ rfl
        rw [hvR, EF.out.rows, ← hnI] at q2
        have w2w := D6.out.sR
        have hbG : G ≠ bR := fun h => LBG.out.2.2.2.1 bR (w2w bR rR.own) h.symm
        have hOf : OFr wo (fun k => k = G) (.slice (some ⟨G, 0, none⟩) n1 n1) (goalP e c0 tm) := .inr ⟨G, n1, [], by rw [HLP.out], FP.out, by rw [HLP.out]; simp, by omega, rfl⟩
        have rN := rR.fresh OFr.loc (i := nI) (by have := EF.out.rows; omega) FP.out.lt hbG (fun j hj h => LBG.out.2.2.2.1 G (w2w G (rR.sub j G hj h).1) rfl) hOf
        obtain ⟨u0, hu0⟩ : ∃ u, (vs ++ sp)[nI]? = some u := ⟨_, List.getElem?_eq_getElem (by rw [List.length_append, rR.hlen]; have := EF.out.rows; omega)⟩
        have cr := rR.blk.cell hu0
        have cf := rR.blk.free nI
        have hbq : q ≠ bR := fun h => D6.out.qr (h ▸ rR.own)
        have cw : Chg (fun x => x = bR) wo (wo.setCell ⟨bR, nI, none⟩ (.slice (some ⟨G, 0, none⟩) n1 n1)) := Chg.setCell (M := fun x => x = bR) (p := ⟨bR, nI, none⟩) (Chg.refl wo) (fun _ => rfl) _
        have FIN := Lib.hid (show AimRet w fp q (aimD d c0 tm) vI fI fO fR (.returned (.tuple #[])) (wo.setCell ⟨bR, nI, none⟩ (.slice (some ⟨G, 0, none⟩) n1 n1)).drew by
          rw [HAD.out, ← hnI]
          have nG := LBG.out.2.2.2.1
          refine ⟨rfl, _, _, G, Dic.drew ⟨D6.out.has.other hbq, OInts.loc.chg D6.out.hin cw (fun y hy _ h => D6.out.ir y hy (h ▸ rR.own)), OInts.loc.chg D6.out.hout cw (fun y hy _ h => D6.out.or_ y hy (h ▸ rR.own)),
            .inr ⟨bR, cR, _, sp, _, by rw [List.length_set]; exact hvR, rN⟩, fun y h => .inl (D6.out.sI y h), fun y h => .inl (D6.out.sO y h), fun y h => h.elim (fun h => .inl (D6.out.sR y h)) .inr, .inl D6.out.sq, D6.out.io, fun y h h2 => h2.elim (D6.out.ir y h) (fun e => nG y (D6.out.sI y h) e), fun y h h2 => h2.elim (D6.out.or_ y h) (fun e => nG y (D6.out.sO y h) e), D6.out.qi, D6.out.qo, fun h => h.elim D6.out.qr (fun e => nG q D6.out.sq e)⟩, ?_, LBG.out.2.2.2.2, ?_⟩
          · exact ((C6.out.trans CR.out (fun x hx e => by have := LBG.out.2.2.2.2; omega)).trans cw (fun x _ e => e ▸ w2w bR rR.own)).drew
          · have := FP.out.lt; have := cw.size; exact Nat.lt_of_lt_of_le FP.out.lt cw.size)
        have wn2 : IntKind.i64.wrap (nI : Int) = (nI : Int) := Go.IntWalk.i64_in _ ⟨by omega, by omega⟩
        have hi1 : (nI : Int) < (nI : Int) + 1 := by omega
        have hi0 : 0 ≤ (nI : Int) := by omega
        have cs : (wo.cell? ⟨bR, nI, none⟩).isSome = true := by rw [cr]; rfl
        clear hvR rR rN hu0 hOf cw w2w hnI
        go_wp2
        refine hr_start 12 (fun w' => w'.cell? ⟨q, 2, none⟩ = some (.slice (some ⟨bR, 0, none⟩) (nI + 1) cR)) (by kernel_rfl) (by kernel_rfl) q2 (fun ok => ?_)
        refine hr_t 0 ok rfl ?_
        go_frame
        refine hr_t 1 ok rfl ?_
        go_frame
        refine hr_t 2 ok rfl ?_
        go_frame
        refine hr_t 3 ok rfl ?_
        go_frame
        refine hr_t 4 ok rfl ?_
        go_frame
        refine hr_t 5 ok rfl ?_
        go_frame
        refine hr_t 6 ok rfl ?_
        go_frame
        refine hr_t 7 ok rfl ?_
        go_frame
        refine hr_t 10 ok rfl ?_
        go_frame
        refine hr_only (c := 8) rfl (by kernel_rfl) (fun K hK => ?_)
        go_simp
        (try simp only [])
        refine hK _ _ (fun _ => by first | exact q2) ?_
        clear hK K
        (try go_frame)
        refine hr_t 9 ok rfl ?_
        go_frame
        refine hr_t 11 ok rfl ?_
        go_frame
        refine hr_only (c := 12) rfl (by kernel_rfl) (fun K hK => ?_)
        go_simp
        (try simp only [])
        refine hK _ _ (pend_no (by kernel_rfl)) ?_
        clear hK K
        (try go_frame)
        refine hr_end (by kernel_rfl) ?_
        go_wp2
        go_end0
        exact FIN.out
end Go.Proofs.Ytdegpgonphgbcaa
