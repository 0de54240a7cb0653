/-
  The state of contents: ages.Of, must.Of, the document's Of.
-/
import Derived.Test.YtlpelpjcbclemaaZMaD
namespace Go.Proofs.Ytlpelpjcbclemaa
open Go.RowKit

/-! ### append to a list of numbers among others -/
theorem OInts.owns0 {w : World} {f : Nat → Prop} {v : Value} {xs : List Int} (h : OInts w f v xs) : w.ownsRow 0 3 1 v xs.length (ivs xs) := by
  refine ⟨by rw [ivs_length]; omega, ?_⟩
  rcases OInts.get h with ⟨rfl, rfl⟩ | ⟨b, cap, sp, rfl, hb, hc, hm, _, _⟩
  · exact .inl ⟨rfl, rfl⟩
  · refine .inr ⟨b, cap, (ivs xs ++ sp).toArray, rfl, Nat.zero_le _, hb, by omega, by unfold maxLen; omega, by simp [ivs_length]; omega, ?_⟩
    simp only [Nat.mul_one]
    rw [List.take_append_of_le_length (by rw [ivs_length]; exact Nat.le_refl _), List.take_of_length_le (by rw [ivs_length]; exact Nat.le_refl _)]
theorem OInts.of_owns {w : World} {f : Nat → Prop} {v : Value} {xs : List Int} (h : w.ownsRow 0 3 1 v xs.length (ivs xs)) (hr : ∀ z ∈ xs, -9223372036854775808 ≤ z ∧ z ≤ 9223372036854775807) (hf : ∀ k, v.ownBlock = some k → f k) (hl : xs.length ≤ 17592186044416) : OInts w f v xs := by
  rcases h.2 with ⟨rfl, h0⟩ | ⟨g, cap, cur, rfl, _, hb, hn, hm, hs, ht⟩
  · exact .inl ⟨rfl, List.eq_nil_of_length_eq_zero h0⟩
  · rw [Nat.mul_one] at hs ht
    have e : cur = (ivs xs ++ cur.toList.drop xs.length).toArray := by rw [← ht, List.take_append_drop, Array.toArray_toList]
    refine OInts.mk (sp := cur.toList.drop xs.length) (by rw [Blk, ← e]; exact hb) rfl ?_ (by unfold maxLen at hm; omega) hl (hf _ rfl) hr
    have e2 : cur.toList.length = cur.size := Array.length_toList
    rw [List.length_drop]; omega
def AppO (f : Nat → Prop) (xs : List Int) (w : World) (v : Value) (w' : World) : Prop := OInts w' (Grown f w) v xs ∧ Chg f w w'
theorem run_append_o {P : Program} (w : World) (t ty : TypeId) (ht : P.underlying t = some (.slice 3)) (hinfo : (P.info? 3).map (fun i => (i.zero, i.size, i.bytes)) = some (some (.int .i64 0), 1, 8))
    {f : Nat → Prop} {v : Value} {xs : List Int} (r : OInts w f v xs) {L : Nat → Prop} {ra : Option Addr} {m rc : Nat} {ys : List Int} (q : Ints L w ra m rc ys) (hn : xs.length + m ≤ 1000000) :
    ∃ v' w', (Builtin.append_ #[t, t] ty #[v, .slice ra m rc]).run P w = .ok v' w' ∧ AppO f (xs ++ ys) w v' w' := by
  obtain ⟨i, hi, hz0, hz1, hz2⟩ := append_parts hinfo
  have h1 := r.owns0
  have hl := q.hlen
  have hx : ∀ z ∈ xs, -9223372036854775808 ≤ z ∧ z ≤ 9223372036854775807 := by
    rcases OInts.get r with ⟨_, rfl⟩ | ⟨b, cap, sp, _, _, _, _, _, h⟩
    · intro z hz; cases hz
    · exact h
  have hvf : ∀ k, v.ownBlock = some k → f k ∧ k < w.heap.size := fun k hk => by
    rcases OInts.get r with ⟨e, _⟩ | ⟨b, cap, sp, e, hb, _, _, hf, _⟩
    · rw [e] at hk; simp [Value.ownBlock] at hk
    · rw [e] at hk; simp [Value.ownBlock] at hk; subst hk; exact ⟨hf, hb.lt⟩
  have fin : ∀ ad, ra = some ad → (∀ j u, (ivs ys)[j]? = some u → w.cell? (ad.add j) = some u) → ∃ v' w', (Builtin.append_ #[t, t] ty #[v, .slice (some ad) m rc]).run P w = .ok v' w' ∧ AppO f (xs ++ ys) w v' w' := fun ad _ hc => by
    obtain ⟨v', w', k1, k2, k3, _, k5⟩ := run_append_own_at (P := P) w 0 t ty 3 i (.int .i64 0) 1 8 ht hi hz0 hz1 hz2 rfl (by omega) v xs.length (ivs xs) h1 ad m rc (ivs ys) (by rw [ivs_length]; omega) hc ivs_one (by unfold maxLen; omega) (Nat.le_trans (Nat.mul_le_mul hn (Nat.le_refl 8)) (by decide)) (Nat.zero_le _)
    refine ⟨v', w', k1, OInts.of_owns (by rw [List.length_append, hl, ivs_append]; exact k2) (fun z hz => ?_) (fun k hk => ?_) (by rw [List.length_append]; omega), (Chg.of_grown k3).mono fun k _ hk => (hvf k hk).1⟩
    · rcases List.mem_append.1 hz with h | h
      · exact hx z h
      · exact q.range z h
    · rcases k5 with e | e
      · exact .inl (hvf k (by rw [← e]; exact hk)).1
      · rw [e] at hk; cases hk; exact .inr (Nat.le_refl _)
  by_cases hm : 0 < m
  · obtain ⟨b, o, rfl, _, _, hc⟩ := q.src hm
    exact fin _ rfl hc
  · have hy : ys = [] := List.eq_nil_of_length_eq_zero (by omega)
    subst hy
    cases ra with
    | none =>
      have hm0 : m = 0 := by omega
      subst hm0
      exact ⟨v, w, append_none w 0 t ty 3 i 1 ht hi v _ _ h1 rc, by rw [List.append_nil]; exact OwnRow.wid _ w _ _ _ _ (fun _ h => .inl h) r, Chg.refl _⟩
    | some ad => exact fin ad rfl (fun j u h => by simp [ivs] at h)
theorem wpList_append_o {P : Program} {w : World} {ops : Array Oper} {rest : List Oper} {o : Oper} {a : Act} {Q : Exit → Act → World → Prop} (hgd : o.guard = none) (s y : Operand) (t : TypeId)
    (ho : o.op = .call { callee := .builtin .append, args := #[s, y], argTypes := #[t, t] }) (ht : P.underlying t = some (.slice 3)) (hinfo : (P.info? 3).map (fun i => (i.zero, i.size, i.bytes)) = some (some (.int .i64 0), 1, 8))
    {f : Nat → Prop} {v : Value} {xs : List Int} (r : OInts w f v xs) (hs : a.eval s = v) {L : Nat → Prop} {ra : Option Addr} {m rc : Nat} {ys : List Int} (q : Ints L w ra m rc ys) (hy : a.eval y = .slice ra m rc) (hn : xs.length + m ≤ 1000000)
    (h : ∀ v' w', Hid (AppO f (xs ++ ys) w v' w') → wpList P ops Q rest (a.put o.dst v') w') : wpList P ops Q (o :: rest) a w := by
  obtain ⟨v', w', k1, k2⟩ := run_append_o (P := P) w t o.type ht hinfo r q hn
  exact Lib.wpList_append_run w hgd s y t t ho v _ hs hy v' w' k1 (h v' w' k2)
theorem step_append_o {P : Program} {ops : Array Oper} {o : Oper} {a : Act} {w : World} {K : Act → World → Prop} {Q : Exit → Act → World → Prop} {E : Prop} (hgd : o.guard = none) (s y : Operand) (t : TypeId)
    (ho : o.op = .call { callee := .builtin .append, args := #[s, y], argTypes := #[t, t] }) (ht : P.underlying t = some (.slice 3)) (hinfo : (P.info? 3).map (fun i => (i.zero, i.size, i.bytes)) = some (some (.int .i64 0), 1, 8))
    {f : Nat → Prop} {v : Value} {xs : List Int} (r : OInts w f v xs) (hs : a.eval s = v) {L : Nat → Prop} {ra : Option Addr} {m rc : Nat} {ys : List Int} (q : Ints L w ra m rc ys) (hy : a.eval y = .slice ra m rc) (hn : xs.length + m ≤ 1000000)
    (h : ∀ v' w', Hid (AppO f (xs ++ ys) w v' w') → K (a.put o.dst v') w') : if Region.wanted o (yielded ops a.tmps) = true then Oper.wp P o a w K Q else E := by
  obtain ⟨v', w', k1, k2⟩ := run_append_o (P := P) w t o.type ht hinfo r q hn
  have hw : Region.wanted o (yielded ops a.tmps) = true := by simp [Region.wanted, hgd]
  rw [if_pos hw]
  unfold Oper.wp execOp
  simp only [ho, resolve, invoke, builtin, Sem.run_bind, Sem.run_pure, Result.andThen_ok, List.map_toArray, List.map_cons, List.map_nil, hs, hy, k1]
  exact h v' w' k2
theorem one_ints {w : World} {b : Nat} {x : Int} (h : Blk w b 3 [.int .i64 x]) (hx : -9223372036854775808 ≤ x ∧ x ≤ 9223372036854775807) : Ints (fun _ => True) w (some ⟨b, 0, none⟩) 1 1 [x] :=
  ⟨rfl, Nat.le_refl _, by decide, by decide, fun i z e => by
    obtain rfl : i = 0 := by have := (List.getElem?_eq_some_iff.1 e).1; simp at this; omega
    cases e
    exact ⟨b, 0, rfl, trivial, h.lt, h.cell (i := 0) rfl, hx⟩⟩
theorem one_own {w : World} {b : Nat} {x : Int} (h : Blk w b 3 [.int .i64 x]) (hx : -9223372036854775808 ≤ x ∧ x ≤ 9223372036854775807) : OInts w (fun k => k = b) (.slice (some ⟨b, 0, none⟩) 1 1) [x] :=
  OInts.mk (zs := [x]) (sp := []) h rfl rfl (by decide) (by simp) rfl (fun z hz => by simp at hz; subst hz; exact hx)

/-! ### The state of contents -/
def ofRow (x : List Int) : List (List Int) := x.map fun z => if 0 ≤ z then [z] else []
def ofM (ss : List (List Int)) : List (List (List Int)) := ss.map ofRow
theorem ofRow_len (x : List Int) : (ofRow x).length = x.length := List.length_map ..
theorem ofM_len (ss : List (List Int)) : (ofM ss).length = ss.length := List.length_map ..
theorem ofRow_get {x : List Int} {j : Nat} {z : Int} (h : x[j]? = some z) : (ofRow x)[j]? = some (if 0 ≤ z then [z] else []) := by unfold ofRow; rw [List.getElem?_map, h]; rfl
theorem ofM_get {ss : List (List Int)} {k : Nat} {x : List Int} (h : ss[k]? = some x) : (ofM ss)[k]? = some (ofRow x) := by unfold ofM; rw [List.getElem?_map, h]; rfl
theorem set_same {α : Type} {X : List α} {k : Nat} {z : α} (h : X[k]? = some z) : X.set k z = X := by
  apply List.ext_getElem?
  intro i
  rw [List.getElem?_set]
  have hk := (List.getElem?_eq_some_iff.1 h).1
  by_cases e : k = i
  · subst e; rw [if_pos rfl, if_pos hk, h]
  · rw [if_neg e]
theorem fil_skip {α : Type} {z : α} {m : List α} {j : Nat} (h : m[j]? = some z) : fil z m (j + 1) = fil z m j := by
  rw [← fil_set z h, set_same (fil_get z (List.getElem?_eq_some_iff.1 h).1)]

set_option maxHeartbeats 4000000 in
theorem aof_any (S W L : Nat) (hc : COk S W L) (K : Nat → Prop) (a : Option Addr) (len cap : Nat) (ss : List (List Int)) (hv : ValidP S W ss) (w : World) (r : Mat K w a len cap ss) :
    Calls Try.prog 50 #[CV S W L, .agg #[.slice a len cap]] w (CubRet (ofM ss) w) := by
  have hl := r.hlen; have h6 := r.hsz
  have hS : len = S := by have := hv.1; omega
  subst hS
  have hC := Lib.hid hc
  obtain ⟨g1, g2, g3, g4, g5, g6⟩ := hc
  have F0 := Lib.hid (Fm.new (Fm.new (Fm.start Non w) rfl [.int .i64 len, .int .i64 W, .int .i64 L] 26) (by simp) [.slice a len cap] 44)
  have TP := Lib.hid (fun w => atop_any len W L hC.out w)
  have HR := Lib.hid r; have HV := Lib.hid hv; have HL := Lib.hid hl
  clear r hv hl
  go_enter Try.func50, Try.ntmps50
  go_wp2_with fail
  refine (TP.out _).mono ?_
  rintro e w1 ⟨oa, on, oc, rfl, ho1, hb1⟩
  have F1 := Lib.hid (Fm.call hb1 F0.out)
  have s1 := F1.out.size
  simp only [List.length_append, List.length_cons, List.length_nil, Nat.zero_add] at s1
  have hon : len = on := by
    obtain ⟨_, _, e⟩ := ho1.form
    simp only [Value.slice.injEq] at e
    rw [e.2.1, topS_len]
  subst hon
  have O1 := Lib.hid (OwnRow.wid _ _ _ (Ge (w.heap.size + 2)) _ _ (fun i hi => by unfold Ge at *; simp at hi; omega) ho1)
  have c0 := F1.out.h1.cell 0 _ rfl; have lt0 := F1.out.h1.lt (by simp)
  have ML := Lib.hid (show (ofM ss).length = len by rw [ofM_len]; exact HL.out)
  have T0 := Lib.hid (show fil (List.replicate W []) (ofM ss) 0 = topS len W by rw [fil_zero, ML.out]; rfl)
  clear hb1 ho1
  go_wp2
  clear c0 lt0
  go_loopw [15] (fun i wr => ∃ k : Nat, k ≤ len ∧ i = .int .i64 k ∧ OCub wr (Ge (w.heap.size + 2)) (.slice oa len oc) (fil (List.replicate W []) (ofM ss) k) ∧ Chg (Ge (w.heap.size + 2)) w1 wr) (fun i _ => len - (intOf i).toNat)
  case atStart => exact ⟨0, Nat.zero_le _, rfl, by rw [T0.out]; exact O1.out, Chg.refl _⟩
  case round =>
    obtain ⟨k, hk, rfl, ho, hC1⟩ := hrel
    have O2 := Lib.hid ho; have C2 := Lib.hid hC1
    have F2 := Lib.hid (F1.out.chgd C2.out (fun j hj => .inr (by unfold Ge at hj; simp; omega)))
    clear ho hC1
    by_cases hlt : k < len
    · obtain ⟨gb, go, x, ra, rl, rc, rfl, hx, hcw, hrx, _, hbw⟩ := Rows.get HR.out hlt
      have hrl := hrx.hlen; have hr6 := hrx.hsz
      subst hrl
      have hxW : x.length = W := by have := (HV.out.2 k x hx).1; omega
      have hcw' := (F2.out.below.cell (p := ⟨gb, go + k, none⟩) hbw).trans hcw
      have HX := Lib.hid hx; have RX := Lib.hid hrx; have VX := Lib.hid (HV.out.2 k x hx).2
      have RL := Lib.hid (ofRow_len x)
      have I0 := Lib.hid (show (fil (List.replicate W []) (ofM ss) k).set k (fil [] (ofRow x) 0) = fil (List.replicate W []) (ofM ss) k by rw [fil_zero, RL.out, hxW]; exact set_same (fil_get _ (by rw [ML.out]; exact hlt)))
      clear hx hcw hrx hxW
      obtain ⟨wo, hwo⟩ : ∃ wo : World, wo = wr := ⟨_, rfl⟩
      subst hwo
      go_wp2
      go_loopw [22] (fun i wr => ∃ j : Nat, j ≤ x.length ∧ i = .int .i64 j ∧ OCub wr (Ge (w.heap.size + 2)) (.slice oa len oc) ((fil (List.replicate W []) (ofM ss) k).set k (fil [] (ofRow x) j)) ∧ Chg (Ge (w.heap.size + 2)) w1 wr) (fun i _ => x.length - (intOf i).toNat)
      case atStart => exact ⟨0, Nat.zero_le _, rfl, by rw [I0.out]; exact O2.out, C2.out⟩
      case round =>
        obtain ⟨j, hj, rfl, ho, hC3⟩ := hrel
        have O3 := Lib.hid ho; have C3 := Lib.hid hC3
        have F3 := Lib.hid (F1.out.chgd C3.out (fun j hj => .inr (by unfold Ge at hj; simp; omega)))
        have hs3 := C3.out.size
        clear ho hC3
        by_cases hlj : j < x.length
        · obtain ⟨lb, lo, z, rfl, hz, hcz, hz1, hz2, _, hbz⟩ := Ints.get RX.out hlj
          have hcz' := (F3.out.below.cell (p := ⟨lb, lo + j, none⟩) hbz).trans hcz
          have RG := Lib.hid (ofRow_get hz)
          clear hz hcz
          have hXl : k < (fil (List.replicate W []) (ofM ss) k).length := by rw [fil_length _ _ (by rw [ML.out]; exact hk), ML.out]; exact hlt
          by_cases hz0 : 0 ≤ z
          · obtain ⟨b2, bc2, c, dc, u, fq, p⟩ := OCub.pick2 O3.out (set_get hXl) (fil_get [] (m := ofRow x) (by rw [RL.out]; exact hlj))
            have pf := p.form
            rw [List.length_set, fil_length _ _ (by rw [ML.out]; exact hk), ML.out] at pf
            simp only [Value.slice.injEq] at pf
            obtain ⟨pf1, _, pf3⟩ := pf
            subst pf1
            obtain rfl : bc2 = oc := pf3.symm
            have e0 := p.cell; have e1 := p.cell2; have e2 := p.free2; have e3 := p.lt2; have e4 := p.lt; have e5 := p.hcap2; have e6 := p.hmax2; have e7 := p.hcap; have e8 := p.hmax
            rw [fil_length [] (ofRow x) (by rw [RL.out]; exact hj), RL.out] at e0 e5
            rw [List.length_set, fil_length _ _ (by rw [ML.out]; exact hk), ML.out] at e7
            have hne := p.ne
            obtain ⟨ua, uc, rfl⟩ := p.elem.form
            have PP := Lib.hid p
            clear p
            have h2 : (0 : Int) ≤ (j : Int) := by omega
            have h3 : (j : Int) < (x.length : Int) := by omega
            have h4 : (0 : Int) ≤ (k : Int) := by omega
            have h5 : (k : Int) < (len : Int) := by omega
            have h6 : j < x.length := hlj
            obtain ⟨WA, hWA⟩ : ∃ WA, WA = (wr.alloc (.cells #[.int .i64 z] 3)).drew := ⟨_, rfl⟩
            have CA := Lib.hid (show Chg Non wr WA from by rw [hWA]; exact ((Chg.refl wr).alloc _).drew)
            have IA := Lib.hid (show Ints (fun _ => True) WA (some ⟨wr.heap.size, 0, none⟩) 1 1 [z] from one_ints (by rw [hWA]; exact (Blk.new wr [.int .i64 z] 3).drew) ⟨hz1, hz2⟩)
            have EA := Lib.hid (OInts.loc.chg PP.out.elem CA.out (fun _ _ _ h => h))
            have sA := CA.out.size
            have EL := Lib.hid (show OInts ((wr.alloc (.cells #[.int .i64 z] 3)).drew) fq (.slice ua 0 uc) [] from by rw [← hWA]; exact EA.out)
            have IL := Lib.hid (show Ints (fun _ => True) ((wr.alloc (.cells #[.int .i64 z] 3)).drew) (some ⟨wr.heap.size, 0, none⟩) 1 1 [z] from by rw [← hWA]; exact IA.out)
            have HW := Lib.hid hWA
            have j1 : b2 < wr.heap.size + 1 := by omega
            have j2 : c < wr.heap.size + 1 := by omega
            clear hWA
            go_wp2
            go_region_law ((refine step_append_o (by rfl) _ _ 22 (by rfl) Try.underlying22 info_int (f := fq) (v := .slice ua 0 uc) (xs := []) (by exact EL.out) (by go_simp) (L := fun _ => True) (ra := some ⟨wr.heap.size, 0, none⟩) (m := 1) (rc := 1) (ys := [z]) (by exact IL.out) (by go_simp) (by decide) ?_; intro v6 w6 hap; rw [← HW.out] at hap; obtain ⟨v6n, v6a, v6c, rfl⟩ : ∃ n a c, v6 = .slice a n c := (by obtain ⟨a, c, h⟩ := hap.out.1.form; exact ⟨_, a, c, h⟩); have c6 : Chg fq wr w6 := (CA.out.mono (fun _ _ h => h.elim)).trans hap.out.2 (fun _ _ h => h); have f1 := c6.cell PP.out.nc e1; have f2 := c6.frz PP.out.nc e3 e2; have f3 : c < w6.heap.size := Nat.lt_of_lt_of_le e3 c6.size; have f4 := c6.cell PP.out.nb e0))
            all_goals
              have sw := PP.out.swap w6 _ (.slice v6a v6n v6c) _ c6 hap.out.1.lt (fun i hi => ⟨hi.1.elim .inl (fun h => .inr (by omega)), hi.2⟩)
              have RZ := RG.out
              rw [if_pos hz0] at RZ
              rw [set_twice, List.nil_append, fil_set [] RZ] at sw
              have O4 := Lib.hid (OwnRow.step sw.1 (by have := s1; omega))
              have C4 := Lib.hid (C3.out.trans sw.2 (fun i _ h => h))
              clear sw hap c6 f1 f2 f3 f4 RZ
              go_wp2
              go_roundw
              case rel => exact ⟨j + 1, by omega, by go_num, O4.out, C4.out⟩
              case measure => simp [intOf]; omega
          · have RZ := RG.out
            rw [if_neg hz0] at RZ
            have FS := Lib.hid (fil_skip RZ)
            clear RZ
            go_wp2
            go_roundw
            case rel => exact ⟨j + 1, by omega, by go_num, by rw [FS.out]; exact O3.out, C3.out⟩
            case measure => simp [intOf]; omega
        · have hjl : j = x.length := by omega
          subst hjl
          have hfa := fil_all [] (ofRow x)
          rw [RL.out] at hfa
          rw [hfa, fil_set _ (ofM_get HX.out)] at O3
          clear hfa
          go_wp2
          go_roundw
          case rel => exact ⟨k + 1, by omega, by go_num, O3.out, C3.out⟩
          case measure => simp [intOf]; omega
    · have hkl : k = len := by omega
      subst hkl
      have hfa := fil_all (List.replicate W []) (ofM ss)
      rw [ML.out] at hfa
      rw [hfa] at O2
      clear hfa
      go_wp2
      go_ret
      exact ⟨_, _, _, rfl, OwnRow.wid _ _ _ _ _ _ (fun i hi => by unfold Ge at *; omega) O2.out, F2.out.below⟩
set_option maxHeartbeats 4000000 in
theorem rof_any (S W L : Nat) (hc : COk S W L) (K : Nat → Prop) (a : Option Addr) (len cap : Nat) (ss : List (List Int)) (hv : ValidP S W ss) (w : World) (r : Mat K w a len cap ss) :
    Calls Try.prog 58 #[CV S W L, .agg #[.slice a len cap]] w (StRet (ofM ss) w) := by
  have hl := r.hlen; have h6 := r.hsz
  have hS : len = S := by have := hv.1; omega
  subst hS
  have hC := Lib.hid hc
  obtain ⟨g1, g2, g3, g4, g5, g6⟩ := hc
  have F0 := Lib.hid (Fm.new (Fm.new (Fm.new (Fm.start Non w) rfl [.int .i64 len, .int .i64 W, .int .i64 L] 26) (by simp) [.slice a len cap] 44) (by simp) [.slice none 0 0] 71)
  have TP := Lib.hid (fun w => rtop_any len W L hC.out w)
  have HR := Lib.hid r; have HV := Lib.hid hv; have HL := Lib.hid hl
  clear r hv hl
  go_enter Try.func58, Try.ntmps58
  go_wp2_with fail
  refine (TP.out _).mono ?_
  rintro e w1 ⟨oa, on, oc, rfl, ho1, hb1⟩
  have F1 := Lib.hid ((Fm.call hb1 F0.out).more (.cells #[.slice oa on oc] 71))
  have s1 := (Fm.call hb1 F0.out).size
  simp only [List.length_append, List.length_cons, List.length_nil, Nat.zero_add] at s1
  have hon : len = on := by
    obtain ⟨_, _, e⟩ := ho1.form
    simp only [Value.slice.injEq] at e
    rw [e.2.1, topS_len]
  subst hon
  have O1 := Lib.hid (OCub.loc.below (ho1.narrow (A := w.heap.size + 3) (by simp)) ((Below.refl _ _).alloc (Nat.le_refl _) (.cells #[.slice oa len oc] 71)))
  have X1 := Lib.hid (Has.new w1 [.slice oa len oc] 71)
  have t1 := Fm.call hb1 F0.out
  have c0 := t1.h1.cell 0 _ rfl; have lt0 := t1.h1.lt (by simp)
  have ML := Lib.hid (show (ofM ss).length = len by rw [ofM_len]; exact HL.out)
  have T0 := Lib.hid (show fil (List.replicate W []) (ofM ss) 0 = topS len W by rw [fil_zero, ML.out]; rfl)
  clear hb1 ho1 t1
  obtain ⟨wA, hA⟩ : ∃ wA, wA = w1.alloc (.cells #[.slice oa len oc] 71) := ⟨_, rfl⟩
  have hAs : wA.heap.size = w1.heap.size + 1 := by rw [hA]; simp
  have OA := Lib.hid (show OCub wA (fun i => Bt (w.heap.size + 3) w1.heap.size i ∨ wA.heap.size ≤ i) (.slice oa len oc) (topS len W) from OwnRow.wid _ _ _ _ _ _ (fun i hi => .inl hi) (by rw [hA]; exact O1.out))
  have FA := Lib.hid (show Fm Non w wA [[.int .i64 len, .int .i64 W, .int .i64 L], [.slice a len cap], [.slice none 0 0]] from by rw [hA]; exact F1.out)
  have XA := Lib.hid (show Has wA w1.heap.size [.slice oa len oc] from by rw [hA]; exact X1.out)
  have HA := Lib.hid hA
  clear hA O1 F1 X1
  go_wp2
  clear c0 lt0
  go_loopw [15] (fun i wr => ∃ k : Nat, k ≤ len ∧ i = .int .i64 k ∧ OCub wr (fun i => Bt (w.heap.size + 3) w1.heap.size i ∨ wA.heap.size ≤ i) (.slice oa len oc) (fil (List.replicate W []) (ofM ss) k) ∧ Chg (fun i => Bt (w.heap.size + 3) w1.heap.size i ∨ wA.heap.size ≤ i) wA wr) (fun i _ => len - (intOf i).toNat)
  case atStart => exact ⟨0, Nat.zero_le _, rfl, by rw [T0.out, ← HA.out]; exact OA.out, by rw [← HA.out]; exact Chg.refl _⟩
  case round =>
    obtain ⟨k, hk, rfl, ho, hC1⟩ := hrel
    have O2 := Lib.hid ho; have C2 := Lib.hid hC1
    have F2 := Lib.hid (FA.out.chgd C2.out (fun j hj => .inr (by simp; rcases hj with h | h; (have := h.1; omega); omega)))
    clear ho hC1
    by_cases hlt : k < len
    · obtain ⟨gb, go, x, ra, rl, rc, rfl, hx, hcw, hrx, _, hbw⟩ := Rows.get HR.out hlt
      have hrl := hrx.hlen; have hr6 := hrx.hsz
      subst hrl
      have hxW : x.length = W := by have := (HV.out.2 k x hx).1; omega
      have hcw' := (F2.out.below.cell (p := ⟨gb, go + k, none⟩) hbw).trans hcw
      have HX := Lib.hid hx; have RX := Lib.hid hrx; have VX := Lib.hid (HV.out.2 k x hx).2
      have RL := Lib.hid (ofRow_len x)
      have I0 := Lib.hid (show (fil (List.replicate W []) (ofM ss) k).set k (fil [] (ofRow x) 0) = fil (List.replicate W []) (ofM ss) k by rw [fil_zero, RL.out, hxW]; exact set_same (fil_get _ (by rw [ML.out]; exact hlt)))
      clear hx hcw hrx hxW
      obtain ⟨wo, hwo⟩ : ∃ wo : World, wo = wr := ⟨_, rfl⟩
      subst hwo
      go_wp2
      go_loopw [22] (fun i wr => ∃ j : Nat, j ≤ x.length ∧ i = .int .i64 j ∧ OCub wr (fun i => Bt (w.heap.size + 3) w1.heap.size i ∨ wA.heap.size ≤ i) (.slice oa len oc) ((fil (List.replicate W []) (ofM ss) k).set k (fil [] (ofRow x) j)) ∧ Chg (fun i => Bt (w.heap.size + 3) w1.heap.size i ∨ wA.heap.size ≤ i) wA wr) (fun i _ => x.length - (intOf i).toNat)
      case atStart => exact ⟨0, Nat.zero_le _, rfl, by rw [I0.out]; exact O2.out, C2.out⟩
      case round =>
        obtain ⟨j, hj, rfl, ho, hC3⟩ := hrel
        have O3 := Lib.hid ho; have C3 := Lib.hid hC3
        have F3 := Lib.hid (FA.out.chgd C3.out (fun j hj => .inr (by simp; rcases hj with h | h; (have := h.1; omega); omega)))
        have X3 := Lib.hid (C3.out.has XA.out (by omega) (fun h => by rcases h with h | h; (have := h.2; omega); omega))
        have hs3 := C3.out.size
        clear ho hC3
        by_cases hlj : j < x.length
        · obtain ⟨lb, lo, z, rfl, hz, hcz, hz1, hz2, _, hbz⟩ := Ints.get RX.out hlj
          have hcz' := (F3.out.below.cell (p := ⟨lb, lo + j, none⟩) hbz).trans hcz
          have RG := Lib.hid (ofRow_get hz)
          clear hz hcz
          have hXl : k < (fil (List.replicate W []) (ofM ss) k).length := by rw [fil_length _ _ (by rw [ML.out]; exact hk), ML.out]; exact hlt
          by_cases hz0 : 0 ≤ z
          · obtain ⟨b2, bc2, c, dc, u, fq, p⟩ := OCub.pick2 O3.out (set_get hXl) (fil_get [] (m := ofRow x) (by rw [RL.out]; exact hlj))
            have pf := p.form
            rw [List.length_set, fil_length _ _ (by rw [ML.out]; exact hk), ML.out] at pf
            simp only [Value.slice.injEq] at pf
            obtain ⟨pf1, _, pf3⟩ := pf
            subst pf1
            obtain rfl : bc2 = oc := pf3.symm
            have e0 := p.cell; have e1 := p.cell2; have e2 := p.free2; have e3 := p.lt2; have e4 := p.lt; have e5 := p.hcap2; have e6 := p.hmax2; have e7 := p.hcap; have e8 := p.hmax
            rw [fil_length [] (ofRow x) (by rw [RL.out]; exact hj), RL.out] at e0 e5
            rw [List.length_set, fil_length _ _ (by rw [ML.out]; exact hk), ML.out] at e7
            have PP := Lib.hid p
            have x0 := X3.out.cell 0 _ rfl; have x1 := X3.out.lt (by simp)
            clear p
            have h2 : (0 : Int) ≤ (j : Int) := by omega
            have h3 : (j : Int) < (x.length : Int) := by omega
            have h4 : (0 : Int) ≤ (k : Int) := by omega
            have h5 : (k : Int) < (len : Int) := by omega
            have sw := PP.out.swap (wr.alloc (.cells #[.int .i64 z] 3)) (fun i => i = wr.heap.size) (.slice (some ⟨wr.heap.size, 0, none⟩) 1 1) [z] ((Chg.refl wr).alloc _) (one_own (Blk.new wr [.int .i64 z] 3) ⟨hz1, hz2⟩) (fun i hi => ⟨.inr (by omega), by subst hi; simp⟩)
            have RZ := RG.out
            rw [if_pos hz0] at RZ
            rw [set_twice, fil_set [] RZ, World.setCell_alloc_past _ _ _ _ e3] at sw
            have O4 := Lib.hid (OwnRow.wid _ _ _ (fun i => Bt (w.heap.size + 3) w1.heap.size i ∨ wA.heap.size ≤ i) _ _ (fun i hi => hi.elim id (fun h => .inr (by omega))) sw.1)
            have C4 := Lib.hid (C3.out.trans sw.2 (fun i _ h => h))
            clear sw RZ
            go_wp2
            go_roundw
            case rel => exact ⟨j + 1, by omega, by go_num, O4.out, C4.out⟩
            case measure => simp [intOf]; omega
          · have RZ := RG.out
            rw [if_neg hz0] at RZ
            have FS := Lib.hid (fil_skip RZ)
            clear RZ
            go_wp2
            go_roundw
            case rel => exact ⟨j + 1, by omega, by go_num, by rw [FS.out]; exact O3.out, C3.out⟩
            case measure => simp [intOf]; omega
        · have hjl : j = x.length := by omega
          subst hjl
          have hfa := fil_all [] (ofRow x)
          rw [RL.out] at hfa
          rw [hfa, fil_set _ (ofM_get HX.out)] at O3
          clear hfa
          go_wp2
          go_roundw
          case rel => exact ⟨k + 1, by omega, by go_num, O3.out, C3.out⟩
          case measure => simp [intOf]; omega
    · have hkl : k = len := by omega
      subst hkl
      have hfa := fil_all (List.replicate W []) (ofM ss)
      rw [ML.out] at hfa
      rw [hfa] at O2
      clear hfa
      have X3 := Lib.hid (C2.out.has XA.out (by omega) (fun h => by rcases h with h | h; (have := h.2; omega); omega))
      have x0 := X3.out.cell 0 _ rfl; have x1 := X3.out.lt (by simp)
      have e0 := F2.out.h2.cell 0 _ rfl; have ef := F2.out.h2.free; have lt1 := F2.out.h2.lt (by simp)
      go_wp2
      refine bodyPost_ret (v := .agg #[.slice oa k oc]) (by simp [results, Try.results58, go_sem, e0]) rfl ⟨oa, k, oc, rfl, ?_, (F2.out.set 2 0 [.slice none 0 0] rfl (by simp) _).below⟩
      exact OwnRow.wid _ _ _ _ _ _ (fun i hi => by unfold Ge; rcases hi with h | h; (have := h.1; omega); omega) (OCub.loc.chg (M := fun j => j = w.heap.size + 2) O2.out (Chg.setCell (M := fun j => j = w.heap.size + 2) (Chg.refl _) (fun _ => rfl) _) (fun j hj _ e => by rcases hj with h | h; (have := h.1; omega); omega))
end Go.Proofs.Ytlpelpjcbclemaa
