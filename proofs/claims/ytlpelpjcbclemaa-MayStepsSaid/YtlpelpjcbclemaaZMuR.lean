/-
  ages.lists: whether the lists of a set are right; the map of the lines seen so far.
  ages.lists.
  ages.Valid, must.Valid.
  The document's Shaped, Valid.
  The document's Valid (lines that can be there).
-/
import Derived.Maps.Own
import Derived.Maps.OwnSet
import Derived.Maps.Views
import Derived.Test.YtlpelpjcbclemaaZMuB
import Derived.Test.YtlpelpjcbclemaaZCacheL
import Derived.Test.YtlpelpjcbclemaaMaT
namespace Go.Proofs.Ytlpelpjcbclemaa
open Go.RowKit

/-- Block b is a map of at most n numbers, those of xs, each true. -/
def Seen (w : World) (b n : Nat) (xs : List Int) : Prop := ∃ D : DataW Unit, w.ownsMap Try.prog 3 (plainElem Try.prog 4) b n D ∧ ∀ z, D.atKey (.int .i64 z) (.lit (.bool false)) = .lit (.bool (decide (z ∈ xs)))
theorem key_law : Maps.Keyed Try.prog 3 := Maps.int_keyed Try.underlying3
theorem zero_bool (w : World) : (zeroValue 4).run Try.prog w = .ok (.bool false) w := by kernel_rfl
theorem wf_i64 {x : Int} (h : -9223372036854775808 ≤ x ∧ x ≤ 9223372036854775807) : (Lit.int .i64 x).wf = true := by
  simp [Lit.wf, IntKind.min, IntKind.max, IntKind.signed, IntKind.bits]; omega
set_option maxRecDepth 100000 in
theorem Seen.look {w : World} {b n : Nat} {xs : List Int} (h : Seen w b n xs) {x : Int} (hx : -9223372036854775808 ≤ x ∧ x ≤ 9223372036854775807) :
    (Instr.lookup 87 (.map (some b)) (.int .i64 x) false).run Try.prog w = .ok (.bool (decide (x ∈ xs))) w := by
  obtain ⟨D, h, hat⟩ := h
  obtain ⟨v, ps, hrun, hv⟩ := h.lookup key_law Try.underlying87 (zero_bool w) (plainElem_bool Try.underlying4 false) (Maps.keyOf_int_mk Try.underlying3 (wf_i64 hx))
  rw [hrun]
  rw [hat x] at hv
  unfold plainElem at hv
  rw [Try.underlying4] at hv
  cases v <;> simp at hv
  rw [hv.1]
theorem Seen.made (w : World) : Seen (w.alloc (.map #[] 0)) w.heap.size 0 [] := ⟨_, World.ownsMap_made _ _ _ _, fun z => by simp []; rfl⟩
theorem Seen.mono {w : World} {b n n' : Nat} {xs : List Int} (h : Seen w b n xs) (hn : n ≤ n') : Seen w b n' xs := by
  obtain ⟨D, h, hat⟩ := h
  exact ⟨D, h.mono hn, hat⟩
theorem Seen.lt {w : World} {b n : Nat} {xs : List Int} (h : Seen w b n xs) : b < w.heap.size := by
  obtain ⟨D, h, hat⟩ := h
  exact h.lt
theorem Seen.chg {M : Nat → Prop} {w w' : World} {b n : Nat} {xs : List Int} (h : Seen w b n xs) (hc : Chg M w w') (hb : ¬ M b) : Seen w' b n xs := by
  obtain ⟨D, ⟨es, clock, h1, h2⟩, hat⟩ := h
  exact ⟨D, ⟨es, clock, (hc.block b (Array.getElem?_eq_some_iff.1 h1).1 hb).trans h1, h2⟩, hat⟩
theorem Seen.below {w w' : World} {b n : Nat} {xs : List Int} (h : Seen w b n xs) (hc : Below w.heap.size w w') : Seen w' b n xs := h.chg (M := Non) (Chg.of_below hc) (fun h => h)
theorem Seen.same {w : World} {b n : Nat} {xs ys : List Int} (h : Seen w b n xs) (e : xs = ys) : Seen w b n ys := e ▸ h
theorem wpList_seen {w : World} {ops : Array Oper} {rest : List Oper} {o : Oper} {a : Act} {Q : Exit → Act → World → Prop} (hg : o.guard = none) (m x v : Operand) (hop : o.op = Op.mapUpdate 87 m x v)
    (b n : Nat) (xs : List Int) (z : Int) (hm : a.eval m = .map (some b)) (h : Seen w b n xs) (hn : n < 9223372036854775807) (hz : -9223372036854775808 ≤ z ∧ z ≤ 9223372036854775807) (hx : a.eval x = .int .i64 z) (hv : a.eval v = .bool true)
    (hK : ∀ w', Seen w' b (n + 1) (xs ++ [z]) → Chg (fun k => k = b) w w' → wpList Try.prog ops Q rest (a.put o.dst undef) w') : wpList Try.prog ops Q (o :: rest) a w := by
  obtain ⟨D, h, hat⟩ := h
  refine wpList_mapUpdate_own w hg m x v 87 hop 3 4 key_law Try.underlying87 _ b n D hm h (by unfold maxLen; omega) _ _ (.int .i64 z) hx hv (Maps.keyOf_int_mk Try.underlying3 (wf_i64 hz)) (.lit (.bool true)) [] (plainElem_bool Try.underlying4 true) ?_
  intro w' h' hgr
  refine hK w' ⟨_, h', fun y => ?_⟩ ((Chg.of_grown hgr).mono (fun k _ hk => (Option.some.inj hk).symm))
  by_cases hy : y = z
  · subst hy
    rw [Maps.atKey_put_same (World.ownsMap.isMap h) (show WideAt.IsKeyLit (.int .i64 y) from trivial)]
    simp
  · rw [Maps.atKey_put_other (by simpa using hy), hat y]
    simp [hy]
end Go.Proofs.Ytlpelpjcbclemaa
namespace Go.Proofs.Ytlpelpjcbclemaa
open Go.RowKit

/-- The line at place p of list i of a set is right. -/
def LineOk (S : Nat) (s : Int) (g : List (List Int)) (i p : Nat) : Prop := ∀ l x, g[i]? = some l → l[p]? = some x → (0 ≤ x ∧ x ≤ 1048576) ∧ x % (S : Int) = s ∧ (∀ y, 0 < p → l[p - 1]? = some y → y < x) ∧ x ∉ (g.take i).flatten ++ l.take p
def SetV (S : Nat) (s : Int) (g : List (List Int)) : Prop := ∀ i p, LineOk S s g i p
def Upto (S : Nat) (s : Int) (g : List (List Int)) (k j : Nat) : Prop := ∀ i p, i < k ∨ (i = k ∧ p < j) → LineOk S s g i p
theorem Upto.zero (S : Nat) (s : Int) (g : List (List Int)) : Upto S s g 0 0 := fun i p h => by omega
theorem Upto.next {S : Nat} {s : Int} {g : List (List Int)} {k j : Nat} (h : Upto S s g k j) (e : LineOk S s g k j) : Upto S s g k (j + 1) := fun i p hi => by
  by_cases hp : i = k ∧ p = j
  · obtain ⟨rfl, rfl⟩ := hp; exact e
  · exact h i p (by omega)
theorem Upto.row {S : Nat} {s : Int} {g : List (List Int)} {k : Nat} {l : List Int} (h : Upto S s g k l.length) (hl : g[k]? = some l) : Upto S s g (k + 1) 0 := fun i p hi => by
  by_cases hp : i < k ∨ (i = k ∧ p < l.length)
  · exact h i p hp
  · obtain rfl : i = k := by omega
    intro l' x h1 h2
    rw [hl] at h1; cases h1
    have := (List.getElem?_eq_some_iff.1 h2).1
    omega
theorem Upto.all {S : Nat} {s : Int} {g : List (List Int)} (h : Upto S s g g.length 0) : SetV S s g := fun i p => by
  by_cases hi : i < g.length
  · exact h i p (.inl hi)
  · intro l x h1 _
    have := (List.getElem?_eq_some_iff.1 h1).1
    omega
theorem line_bad {S : Nat} {s : Int} {g : List (List Int)} {k j : Nat} {l : List Int} {x : Int} (hl : g[k]? = some l) (hx : l[j]? = some x) (h : ¬ ((0 ≤ x ∧ x ≤ 1048576) ∧ x % (S : Int) = s ∧ (∀ y, 0 < j → l[j - 1]? = some y → y < x) ∧ x ∉ (g.take k).flatten ++ l.take j)) : ¬ SetV S s g := fun hs => h (hs k j l x hl hx)
theorem line_ok {S : Nat} {s : Int} {g : List (List Int)} {k j : Nat} {l : List Int} {x : Int} (hl : g[k]? = some l) (hx : l[j]? = some x) (h : (0 ≤ x ∧ x ≤ 1048576) ∧ x % (S : Int) = s ∧ (∀ y, 0 < j → l[j - 1]? = some y → y < x) ∧ x ∉ (g.take k).flatten ++ l.take j) : LineOk S s g k j := fun l' x' h1 h2 => by
  rw [hl] at h1; cases h1
  rw [hx] at h2; cases h2
  exact h
theorem seen_next {g : List (List Int)} {k j : Nat} {l : List Int} {x : Int} (hx : l[j]? = some x) : ((g.take k).flatten ++ l.take j) ++ [x] = (g.take k).flatten ++ l.take (j + 1) := by
  rw [List.append_assoc, List.take_add_one, hx]; rfl
theorem seen_row {g : List (List Int)} {k : Nat} {l : List Int} (hl : g[k]? = some l) : (g.take k).flatten ++ l.take l.length = (g.take (k + 1)).flatten := by
  rw [List.take_length, List.take_add_one, hl, List.flatten_append]; simp

set_option maxHeartbeats 4000000 in
set_option maxRecDepth 100000 in
theorem lists_any (S W L : Nat) (hc : COk S W L) (hS : 0 < S) (s : Nat) (_hs : s < S) (K : Nat → Prop) (a : Option Addr) (len cap : Nat) (hlen : len ≤ 100) (g : List (List Int)) (w : World) (r : Mat K w a len cap g) :
    Calls Try.prog 72 #[CV S W L, .int .i64 s, .slice a len cap] w (BoolRet (SetV S s g) w) := by
  have hC := Lib.hid hc
  obtain ⟨g1, g2, g3, g4, g5, g6⟩ := hc
  have hmm := @run_makeMap Try.prog
  have hcp := r.hcap
  have HL := Lib.hid r.hlen
  have HR := Lib.hid r; clear r
  have F0 := Lib.hid ((Fm.new (Fm.start Non w) rfl [.int .i64 S, .int .i64 W, .int .i64 L] 26).more (.map #[] 0))
  have M0 := Lib.hid (show Seen ((w.alloc (.cells #[.int .i64 S, .int .i64 W, .int .i64 L] 26)).alloc (.map #[] 0)) (w.heap.size + 1) 0 [] by
    have := Seen.made (w.alloc (.cells #[.int .i64 S, .int .i64 W, .int .i64 L] 26)); simpa using this)
  have CS := Lib.hid (fun (n : Int) (h0 : 0 ≤ n) (h1 : n ≤ 9223372036854775807) (w : World) => setof_any S W L hC.out (by omega) n h0 h1 w)
  go_enter Try.func72, Try.ntmps72
  go_wp2
  go_loopw [15] (fun i wr => ∃ k : Nat, k ≤ len ∧ i = .int .i64 k ∧ Fm Non w wr [[.int .i64 S, .int .i64 W, .int .i64 L]] ∧ Seen wr (w.heap.size + 1) (k * 17592186044416) (g.take k).flatten ∧ Upto S s g k 0) (fun i _ => len - (intOf i).toNat)
  case atStart => exact ⟨0, Nat.zero_le _, rfl, F0.out, by simpa using M0.out, Upto.zero _ _ _⟩
  case round =>
    obtain ⟨k, hk, rfl, f1, m1, u1⟩ := hrel
    have F1 := Lib.hid f1; have M1 := Lib.hid m1; have U1 := Lib.hid u1
    clear f1 m1 u1
    by_cases hlt : k < len
    · obtain ⟨b, o, l, la, ll, lc, rfl, hl, hcl, hrl, _, hbw⟩ := Rows.get HR.out hlt
      have hll := hrl.hlen; have hl6 := hrl.hsz; have hl7 := hrl.hcap
      subst hll
      have cw := (F1.out.below.cell (p := ⟨b, o + k, none⟩) hbw).trans hcl
      have GL := Lib.hid hl; have RL := Lib.hid hrl
      clear hl hcl hrl
      have q0 : (0 : Int) ≤ (k : Int) := by omega
      have q1 : (k : Int) < (len : Int) := by omega
      go_wp2
      clear cw
      go_loopw [21] (fun v wr => ∃ j : Nat, j ≤ l.length ∧ v = .int .i64 j ∧ Fm Non w wr [[.int .i64 S, .int .i64 W, .int .i64 L]] ∧ Seen wr (w.heap.size + 1) (k * 17592186044416 + j) ((g.take k).flatten ++ l.take j) ∧ Upto S s g k j) (fun v _ => l.length - (intOf v).toNat)
      case atStart => exact ⟨0, Nat.zero_le _, rfl, F1.out, by simpa using M1.out, U1.out⟩
      case round =>
        obtain ⟨j, hj, rfl, f2, m2, u2⟩ := hrel
        have F2 := Lib.hid f2; have U2 := Lib.hid u2
        have c0 := f2.h0.cell 0 _ rfl; have c1 := f2.h0.cell 1 _ rfl; have c2 := f2.h0.cell 2 _ rfl; have lt0 := f2.h0.lt (by simp)
        clear f2 u2
        by_cases hjl : j < l.length
        · obtain ⟨lb, lo, x, rfl, hx, hcx, hx1, hx2, _, hbx⟩ := Ints.get RL.out hjl
          have cx := (F2.out.below.cell (p := ⟨lb, lo + j, none⟩) hbx).trans hcx
          have BD := Lib.hid (line_bad (S := S) (s := s) GL.out hx)
          have OKL := Lib.hid (line_ok (S := S) (s := s) GL.out hx)
          have lk := m2.look ⟨hx1, hx2⟩
          have M2 := Lib.hid m2
          have SN := Lib.hid (seen_next (g := g) (k := k) hx)
          have q2 : (0 : Int) ≤ (j : Int) := by omega
          have q3 : (j : Int) < (l.length : Int) := by omega
          clear m2 hcx
          by_cases hneg : x < 0
          · clear lk
            go_wp2
            go_ret
            exact BoolRet.no (BD.out fun h => by have := h.1.1; omega) rfl F2.out.below
          · by_cases hbig : x > 1048576
            · clear lk
              go_wp2
              go_ret
              exact BoolRet.no (BD.out fun h => by have := h.1.2; omega) rfl F2.out.below
            · have hx0 : 0 ≤ x := by omega
              have hx9 : x ≤ 1048576 := by omega
              by_cases hmod : x % (S : Int) = (s : Int)
              · have hmb : (x % (S : Int) != (s : Int)) = false := by simp [hmod]
                have HMO := Lib.hid hmod; clear hmod
                cases j with
                | zero =>
                  rw [Nat.add_zero] at cx
                  by_cases hin : x ∈ (g.take k).flatten ++ l.take (0)
                  · have HI := Lib.hid hin; clear hin
                    clear lk
                    go_wp2_with fail
                    refine (CS.out x hx0 (by omega) _).mono ?_
                    rintro e w3 ⟨rfl, hb3⟩
                    have lk := (M2.out.below hb3).look ⟨hx1, hx2⟩
                    rw [decide_eq_true HI.out] at lk
                    have F3 := Lib.hid (Fm.call hb3 F2.out)
                    have cp := True.intro
                    (try have cp := cell_later hb3 cy)
                    clear hb3
                    go_wp2
                    go_ret
                    exact BoolRet.no (BD.out fun h => h.2.2.2 HI.out) rfl F3.out.below
                  · have HI := Lib.hid hin; clear hin
                    clear lk
                    go_wp2_with fail
                    refine (CS.out x hx0 (by omega) _).mono ?_
                    rintro e w3 ⟨rfl, hb3⟩
                    have M3 := Lib.hid (M2.out.below hb3)
                    have lk := M3.out.look ⟨hx1, hx2⟩
                    rw [decide_eq_false HI.out] at lk
                    have F3 := Lib.hid (Fm.call hb3 F2.out)
                    have cp := True.intro
                    (try have cp := cell_later hb3 cy)
                    clear hb3
                    go_wp2_with (first | (at_mapUpdate; refine wpList_seen rfl _ _ _ rfl (w.heap.size + 1) _ _ x rfl M3.out (by omega) ⟨hx1, hx2⟩ rfl rfl ?_; intro w4 m4 hc4) | go_in)
                    have F4 := Lib.hid (F3.out.chgd hc4 (fun j hj => .inr (by simp; omega)))
                    have M4 := Lib.hid (m4.same SN.out)
                    clear m4 hc4
                    go_roundw
                    case rel => exact ⟨0 + 1, by omega, by go_num, F4.out, M4.out.mono (by omega), U2.out.next (OKL.out ⟨⟨hx0, hx9⟩, HMO.out, fun y h => absurd h (Nat.lt_irrefl 0), HI.out⟩)⟩
                    case measure => simp [intOf]; omega
                | succ j' =>
                  obtain ⟨yb, yo, y, hyb, hy, hcy, hy1, hy2, _, hby⟩ := Ints.get RL.out (show j' < l.length by omega)
                  obtain ⟨rfl, rfl⟩ : lb = yb ∧ lo = yo := by simp only [Option.some.injEq, Addr.mk.injEq] at hyb; exact ⟨hyb.1, hyb.2.1⟩
                  have cy := (F2.out.below.cell (p := ⟨lb, lo + j', none⟩) hby).trans hcy
                  have hlb3 : lb < wr.heap.size := Nat.lt_of_lt_of_le hbx F2.out.below.size
                  have HY := Lib.hid hy
                  clear hyb hy hcy
                  have q4 : (0 : Int) ≤ (j' : Int) := by omega
                  have q5 : (j' : Int) < (l.length : Int) := by omega
                  by_cases hord : y < x
                  · have HO := Lib.hid (show ∀ y', 0 < j' + 1 → l[j' + 1 - 1]? = some y' → y' < x from fun y' _ h => by rw [Nat.add_sub_cancel, HY.out] at h; cases h; exact hord)
                    by_cases hin : x ∈ (g.take k).flatten ++ l.take (j' + 1)
                    · have HI := Lib.hid hin; clear hin
                      clear lk
                      go_wp2_with fail
                      refine (CS.out x hx0 (by omega) _).mono ?_
                      rintro e w3 ⟨rfl, hb3⟩
                      have lk := (M2.out.below hb3).look ⟨hx1, hx2⟩
                      rw [decide_eq_true HI.out] at lk
                      have F3 := Lib.hid (Fm.call hb3 F2.out)
                      have cp := True.intro
                      (try have cp := cell_later hb3 cy)
                      clear hb3
                      go_wp2
                      go_ret
                      exact BoolRet.no (BD.out fun h => h.2.2.2 HI.out) rfl F3.out.below
                    · have HI := Lib.hid hin; clear hin
                      clear lk
                      go_wp2_with fail
                      refine (CS.out x hx0 (by omega) _).mono ?_
                      rintro e w3 ⟨rfl, hb3⟩
                      have M3 := Lib.hid (M2.out.below hb3)
                      have lk := M3.out.look ⟨hx1, hx2⟩
                      rw [decide_eq_false HI.out] at lk
                      have F3 := Lib.hid (Fm.call hb3 F2.out)
                      have cp := True.intro
                      (try have cp := cell_later hb3 cy)
                      clear hb3
                      go_wp2_with (first | (at_mapUpdate; refine wpList_seen rfl _ _ _ rfl (w.heap.size + 1) _ _ x rfl M3.out (by omega) ⟨hx1, hx2⟩ rfl rfl ?_; intro w4 m4 hc4) | go_in)
                      have F4 := Lib.hid (F3.out.chgd hc4 (fun j hj => .inr (by simp; omega)))
                      have M4 := Lib.hid (m4.same SN.out)
                      clear m4 hc4
                      go_roundw
                      case rel => exact ⟨j' + 1 + 1, by omega, by go_num, F4.out, M4.out.mono (by omega), U2.out.next (OKL.out ⟨⟨hx0, hx9⟩, HMO.out, HO.out, HI.out⟩)⟩
                      case measure => simp [intOf]; omega
                  · clear lk
                    go_wp2_with fail
                    refine (CS.out x hx0 (by omega) _).mono ?_
                    rintro e w3 ⟨rfl, hb3⟩
                    have F3 := Lib.hid (Fm.call hb3 F2.out)
                    have cp := cell_later hb3 cy
                    clear hb3
                    go_wp2
                    go_ret
                    exact BoolRet.no (BD.out fun h => absurd (h.2.2.1 y (Nat.succ_pos _) (by rw [Nat.add_sub_cancel]; exact HY.out)) (by omega)) rfl F3.out.below
              · have hmb : (x % (S : Int) != (s : Int)) = true := by simp [hmod]
                clear lk
                go_wp2_with fail
                refine (CS.out x hx0 (by omega) _).mono ?_
                rintro e w3 ⟨rfl, hb3⟩
                have F3 := Lib.hid (Fm.call hb3 F2.out)
                clear hb3
                go_wp2
                go_ret
                exact BoolRet.no (BD.out fun h => hmod h.2.1) rfl F3.out.below
        · have hje : j = l.length := by omega
          subst hje
          have RW := Lib.hid (seen_row GL.out)
          have M2 := Lib.hid m2; clear m2
          go_wp2
          go_roundw
          case rel => exact ⟨k + 1, by omega, by go_num, F2.out, (M2.out.mono (by omega)).same RW.out, U2.out.row GL.out⟩
          case measure => simp [intOf]; omega
    · have hkl : k = len := by omega
      subst hkl
      go_wp2
      go_ret
      exact BoolRet.yes (Upto.all (by rw [HL.out]; exact U1.out)) rfl F1.out.below
end Go.Proofs.Ytlpelpjcbclemaa
namespace Go.Proofs.Ytlpelpjcbclemaa
open Go.RowKit

theorem asc_get {l : List Int} (h : l.Pairwise (· < ·)) {i j : Nat} {x y : Int} (hx : l[i]? = some x) (hy : l[j]? = some y) (hij : i < j) : x < y := by
  obtain ⟨h1, rfl⟩ := List.getElem?_eq_some_iff.1 hx
  obtain ⟨h2, rfl⟩ := List.getElem?_eq_some_iff.1 hy
  exact List.pairwise_iff_getElem.1 h i j h1 h2 hij
def ValidM (S W : Nat) (m : List (List (List Int))) : Prop := m.length = S ∧ ∀ (s : Nat) g, m[s]? = some g → g.length = W ∧ SetV S s g
theorem MSt.valid {U : List Int} {S W : Nat} {m : List (List (List Int))} (h : MSt U S W m) : ValidM S W m := ⟨h.len, fun s g hs => by
  have hw := h.set s g hs
  refine ⟨hw.len, fun i p l x hl hx => ?_⟩
  have hxl : x ∈ l := List.mem_of_getElem? hx
  have hP := hw.mem i x ⟨l, hl, hxl⟩
  have ha := hw.asc i l hl
  refine ⟨⟨hP.1, hP.2.1⟩, hP.2.2.1, fun y hp hy => ?_, fun hin => ?_⟩
  · exact asc_get ha hy hx (by omega)
  · rcases List.mem_append.1 hin with h1 | h1
    · obtain ⟨l', hl', hx'⟩ := List.mem_flatten.1 h1
      obtain ⟨q, hq⟩ := List.getElem?_of_mem hl'
      have hqi : q < i := by
        have := (List.getElem?_eq_some_iff.1 hq).1
        rw [List.length_take] at this
        omega
      rw [List.getElem?_take, if_pos hqi] at hq
      have := hw.once q i x ⟨l', hq, hx'⟩ ⟨l, hl, hxl⟩
      omega
    · obtain ⟨q, hq⟩ := List.getElem?_of_mem h1
      have hqp : q < p := by
        have := (List.getElem?_eq_some_iff.1 hq).1
        rw [List.length_take] at this
        omega
      rw [List.getElem?_take, if_pos hqp] at hq
      have := asc_get ha hq hx hqp
      omega⟩

set_option maxHeartbeats 4000000 in
theorem avalid_any (S W L : Nat) (hc : COk S W L) (K : Nat → Prop) (a : Option Addr) (len cap : Nat) (m : List (List (List Int))) (w : World) (r : Cube K w a len cap m) :
    Calls Try.prog 54 #[CV S W L, .slice a len cap] w (BoolRet (ValidM S W m) w) := by
  have hC := Lib.hid hc
  obtain ⟨g1, g2, g3, g4, g5, g6⟩ := hc
  have hcp := r.hcap
  have HL := Lib.hid r.hlen
  have HR := Lib.hid r; clear r
  have F0 := Lib.hid (Fm.new (Fm.start Non w) rfl [.int .i64 S, .int .i64 W, .int .i64 L] 26)
  by_cases hlS : len = S
  · subst hlS
    have hne : ((len : Int) != (len : Int)) = false := by simp
    go_enter Try.func54, Try.ntmps54
    go_wp2_with fail
    refine (check_ok _ _ _ hC.out _).mono ?_
    rintro e w1 ⟨rfl, hb1⟩
    have F1 := Lib.hid (Fm.call hb1 F0.out)
    have c0 := F1.out.h0.cell 0 _ rfl; have c1 := F1.out.h0.cell 1 _ rfl; have c2 := F1.out.h0.cell 2 _ rfl; have lt0 := F1.out.h0.lt (by simp)
    clear hb1
    go_wp2
    clear c0 c1 c2 lt0
    go_loopw [19] (fun i wr => ∃ k : Nat, k ≤ len ∧ i = .int .i64 k ∧ Fm Non w wr [[.int .i64 len, .int .i64 W, .int .i64 L]] ∧ ∀ (s : Nat) g, s < k → m[s]? = some g → g.length = W ∧ SetV len s g) (fun i _ => len - (intOf i).toNat)
    case atStart => exact ⟨0, Nat.zero_le _, rfl, F1.out, fun s g h => absurd h (Nat.not_lt_zero _)⟩
    case round =>
      obtain ⟨k, hk, rfl, f1, u1⟩ := hrel
      have F2 := Lib.hid f1; have U2 := Lib.hid u1
      have c0 := f1.h0.cell 0 _ rfl; have c1 := f1.h0.cell 1 _ rfl; have c2 := f1.h0.cell 2 _ rfl; have lt0 := f1.h0.lt (by simp)
      clear f1 u1
      by_cases hlt : k < len
      · obtain ⟨b, o, g, ga, gl, gc, rfl, hg, hcg, hrg, _, hbw⟩ := Rows.get HR.out hlt
        have hgl := hrg.hlen
        have cw := (F2.out.below.cell (p := ⟨b, o + k, none⟩) hbw).trans hcg
        have GL := Lib.hid hg; have GLn := Lib.hid hgl
        have RG := Lib.hid (Row.below (RSl.stays RInt.stays) hrg F2.out.below)
        have q0 : (0 : Int) ≤ (k : Int) := by omega
        have q1 : (k : Int) < (len : Int) := by omega
        clear hg hcg hrg hgl
        by_cases hgW : gl = W
        · subst hgW
          have hne2 : ((gl : Int) != (gl : Int)) = false := by simp
          have LI := Lib.hid (lists_any len gl L hC.out (by omega) k hlt K ga gl gc (by omega) g wr RG.out)
          go_wp2_with fail
          refine LI.out.mono ?_
          rintro e w3 ⟨bb, rfl, hbb, hb3⟩
          have F3 := Lib.hid (Fm.call hb3 F2.out)
          have HB := Lib.hid hbb
          clear hb3 hbb c0 c1 c2 lt0 cw
          cases bb with
          | true =>
            go_wp2
            go_roundw
            case rel => exact ⟨k + 1, by omega, by go_num, F3.out, fun s g' hs hg' => by
              rcases Nat.lt_or_eq_of_le (Nat.le_of_lt_succ hs) with h | rfl
              · exact U2.out s g' h hg'
              · rw [GL.out] at hg'; cases hg'; exact ⟨GLn.out, by simpa using HB.out⟩⟩
            case measure => simp [intOf]; omega
          | false =>
            go_wp2
            go_ret
            exact BoolRet.no (fun h => by have := HB.out; simp at this; exact this (h.2 k g GL.out).2) rfl F3.out.below
        · have hne2 : ((gl : Int) != (W : Int)) = true := by simp; omega
          go_wp2
          go_ret
          exact BoolRet.no (fun h => hgW (GLn.out.symm.trans (h.2 k g GL.out).1)) rfl F2.out.below
      · have hkl : k = len := by omega
        subst hkl
        go_wp2
        go_ret
        exact BoolRet.yes ⟨HL.out, fun s g hg => U2.out s g (by have := (List.getElem?_eq_some_iff.1 hg).1; have := HL.out; omega) hg⟩ rfl F2.out.below
  · have hne : ((len : Int) != (S : Int)) = true := by simp; omega
    go_enter Try.func54, Try.ntmps54
    go_wp2_with fail
    refine (check_ok _ _ _ hC.out _).mono ?_
    rintro e w1 ⟨rfl, hb1⟩
    have F1 := Lib.hid (Fm.call hb1 F0.out)
    have c0 := F1.out.h0.cell 0 _ rfl; have c1 := F1.out.h0.cell 1 _ rfl; have c2 := F1.out.h0.cell 2 _ rfl; have lt0 := F1.out.h0.lt (by simp)
    clear hb1
    go_wp2
    go_ret
    exact BoolRet.no (fun h => hlS (HL.out.symm.trans h.1)) rfl F1.out.below

end Go.Proofs.Ytlpelpjcbclemaa
namespace Go.Proofs.Ytlpelpjcbclemaa
open Go.RowKit

set_option maxHeartbeats 8000000 in
set_option maxRecDepth 100000 in
theorem rshaped_any (S W L : Nat) (hc : COk S W L) (K : Nat → Prop) (a : Option Addr) (len cap : Nat) (m : List (List (List Int))) (w : World) (r : Cube K w a len cap m) :
    Calls Try.prog 52 #[CV S W L, .slice a len cap] w (BoolRet (ValidM S W m) w) := by
  obtain ⟨g1, g2, g3, g4, g5, g6⟩ := hc
  have hmm := @run_makeMap Try.prog
  have hcp := r.hcap
  have HL := Lib.hid r.hlen
  have HR := Lib.hid r; clear r
  have F0 := Lib.hid (Fm.new (Fm.start Non w) rfl [.int .i64 S, .int .i64 W, .int .i64 L] 26)
  by_cases hlS : len = S
  · subst hlS
    have hne : ((len : Int) != (len : Int)) = false := by simp
    go_enter Try.func52, Try.ntmps52
    go_wp2
    go_loopw [19] (fun i wr => ∃ k : Nat, k ≤ len ∧ i = .int .i64 k ∧ Fm Non w wr [[.int .i64 len, .int .i64 W, .int .i64 L]] ∧ ∀ (s : Nat) g, s < k → m[s]? = some g → g.length = W ∧ SetV len s g) (fun i _ => len - (intOf i).toNat)
    case atStart => exact ⟨0, Nat.zero_le _, rfl, F0.out, fun s g h => absurd h (Nat.not_lt_zero _)⟩
    case round =>
      obtain ⟨k, hk, rfl, f1, u1⟩ := hrel
      have F1 := Lib.hid f1; have V1 := Lib.hid u1
      have c0 := f1.h0.cell 0 _ rfl; have c1 := f1.h0.cell 1 _ rfl; have c2 := f1.h0.cell 2 _ rfl; have lt0 := f1.h0.lt (by simp)
      clear f1 u1
      by_cases hlt : k < len
      · obtain ⟨b, o, g, ga, gl, gc, rfl, hg, hcg, hrg, _, hbw⟩ := Rows.get HR.out hlt
        have hgl := hrg.hlen; have hg7 := hrg.hcap
        have cw := (F1.out.below.cell (p := ⟨b, o + k, none⟩) hbw).trans hcg
        have GL := Lib.hid hg; have GLn := Lib.hid hgl
        have RG := Lib.hid hrg
        have q0 : (0 : Int) ≤ (k : Int) := by omega
        have q1 : (k : Int) < (len : Int) := by omega
        clear hg hcg hrg hgl
        by_cases hgW : gl = W
        · subst hgW
          have hne2 : ((gl : Int) != (gl : Int)) = false := by simp
          have MM := Lib.hid (Seen.made wr)
          have F2 := Lib.hid (F1.out.more (.map #[] 0))
          have sz1 : w.heap.size + 1 ≤ wr.heap.size := by simpa using F1.out.size
          obtain ⟨bm, hbm⟩ : ∃ bm, bm = wr.heap.size := ⟨_, rfl⟩
          have HBM := Lib.hid hbm
          have BM := Lib.hid (show w.heap.size + 1 ≤ bm by omega)
          have M0 := Lib.hid (show Seen (wr.alloc (.map #[] 0)) bm 0 [] by rw [hbm]; exact MM.out)
          have hpos : 0 < len := by omega
          clear hbm sz1
          go_wp2
          clear c0 c1 c2 lt0 cw
          rw [← HBM.out]
          clear HBM MM
          go_loopw [32] (fun i wr => ∃ i' : Nat, i' ≤ gl ∧ i = .int .i64 i' ∧ Fm Non w wr [[.int .i64 len, .int .i64 gl, .int .i64 L]] ∧ Seen wr bm (i' * 17592186044416) (g.take i').flatten ∧ Upto len k g i' 0) (fun i _ => gl - (intOf i).toNat)
          case atStart => exact ⟨0, Nat.zero_le _, rfl, F2.out, by simpa using M0.out, Upto.zero _ _ _⟩
          case round =>
            obtain ⟨i, hi, rfl, f1, m1, u1⟩ := hrel
            have F3 := Lib.hid f1; have M1 := Lib.hid m1; have U1 := Lib.hid u1
            clear f1 m1 u1
            by_cases hli : i < gl
            · obtain ⟨lb0, lo0, l, la, ll, lc, rfl, hl, hcl, hrl, _, hbl⟩ := Rows.get RG.out hli
              have hll := hrl.hlen; have hl6 := hrl.hsz; have hl7 := hrl.hcap
              subst hll
              have cw := (F3.out.below.cell (p := ⟨lb0, lo0 + i, none⟩) hbl).trans hcl
              have LL := Lib.hid hl; have RL := Lib.hid hrl
              clear hl hcl hrl
              have q2 : (0 : Int) ≤ (i : Int) := by omega
              have q3 : (i : Int) < (gl : Int) := by omega
              go_wp2
              clear cw
              go_loopw [38] (fun v wr => ∃ j : Nat, j ≤ l.length ∧ v = .int .i64 j ∧ Fm Non w wr [[.int .i64 len, .int .i64 gl, .int .i64 L]] ∧ Seen wr bm (i * 17592186044416 + j) ((g.take i).flatten ++ l.take j) ∧ Upto len k g i j) (fun v _ => l.length - (intOf v).toNat)
              case atStart => exact ⟨0, Nat.zero_le _, rfl, F3.out, by simpa using M1.out, U1.out⟩
              case round =>
                obtain ⟨j, hj, rfl, f2, m2, u2⟩ := hrel
                have F4 := Lib.hid f2; have U2 := Lib.hid u2; have M2 := Lib.hid m2
                have c0 := f2.h0.cell 0 _ rfl; have c1 := f2.h0.cell 1 _ rfl; have c2 := f2.h0.cell 2 _ rfl; have lt0 := f2.h0.lt (by simp)
                clear f2 u2 m2
                by_cases hjl : j < l.length
                · obtain ⟨lb, lo, x, rfl, hx, hcx, hx1, hx2, _, hbx⟩ := Ints.get RL.out hjl
                  have cx := (F4.out.below.cell (p := ⟨lb, lo + j, none⟩) hbx).trans hcx
                  have BD := Lib.hid (line_bad (S := len) (s := k) LL.out hx)
                  have OKL := Lib.hid (line_ok (S := len) (s := k) LL.out hx)
                  have SN := Lib.hid (seen_next (g := g) (k := i) hx)
                  have q4 : (0 : Int) ≤ (j : Int) := by omega
                  have q5 : (j : Int) < (l.length : Int) := by omega
                  clear hcx
                  by_cases hneg : x < 0
                  · go_wp2
                    go_ret
                    exact BoolRet.no (fun h => BD.out (fun h => by have := h.1.1; omega) (h.2 k g GL.out).2) rfl F4.out.below
                  · by_cases hbig : x > 1048576
                    · go_wp2
                      go_ret
                      exact BoolRet.no (fun h => BD.out (fun h => by have := h.1.2; omega) (h.2 k g GL.out).2) rfl F4.out.below
                    · have hx0 : 0 ≤ x := by omega
                      have hx9 : x ≤ 1048576 := by omega
                      obtain ⟨r, hr⟩ : ∃ r, r = x % (len : Int) := ⟨_, rfl⟩
                      have e1 : x.tmod (len : Int) = r := by rw [hr]; exact Int.tmod_eq_emod_of_nonneg hx0
                      have e2 : IntKind.i64.wrap r = r := IntWalk.i64_in _ (by have h1 := Int.emod_nonneg x (show (len : Int) ≠ 0 by omega); have h2 := Int.emod_lt_of_pos x (show (0 : Int) < (len : Int) by omega); omega)
                      have p1 : ¬ len = 0 := by omega
                      have HRR := Lib.hid hr; clear hr
                      by_cases hmod : r = (k : Int)
                      · subst hmod
                        have hmb : ((k : Int) != (k : Int)) = false := by simp
                        by_cases hin : x ∈ (g.take i).flatten ++ l.take j
                        · have HI := Lib.hid hin; clear hin
                          have lk := M2.out.look ⟨hx1, hx2⟩
                          rw [decide_eq_true HI.out] at lk
                          go_wp2
                          go_ret
                          exact BoolRet.no (fun h => BD.out (fun h => h.2.2.2 HI.out) (h.2 k g GL.out).2) rfl F4.out.below
                        · have HI := Lib.hid hin; clear hin
                          have lk := M2.out.look ⟨hx1, hx2⟩
                          rw [decide_eq_false HI.out] at lk
                          cases j with
                          | zero =>
                            rw [Nat.add_zero] at cx
                            go_wp2_with (first | (at_mapUpdate; refine wpList_seen rfl _ _ _ rfl bm _ _ x rfl M2.out (by omega) ⟨hx1, hx2⟩ rfl rfl ?_; intro w4 m4 hc4) | go_in)
                            have F5 := Lib.hid (F4.out.chgd hc4 (fun j hj => .inr (by have := BM.out; simp; omega)))
                            have M4 := Lib.hid (m4.same SN.out)
                            clear m4 hc4
                            go_roundw
                            case rel => exact ⟨0 + 1, by omega, by go_num, F5.out, M4.out.mono (by omega), U2.out.next (OKL.out ⟨⟨hx0, hx9⟩, HRR.out.symm, fun y h => absurd h (Nat.lt_irrefl 0), HI.out⟩)⟩
                            case measure => simp [intOf]; omega
                          | succ j' =>
                            obtain ⟨yb, yo, y, hyb, hy, hcy, hy1, hy2, _, hby⟩ := Ints.get RL.out (show j' < l.length by omega)
                            obtain ⟨rfl, rfl⟩ : lb = yb ∧ lo = yo := by simp only [Option.some.injEq, Addr.mk.injEq] at hyb; exact ⟨hyb.1, hyb.2.1⟩
                            have cy := (F4.out.below.cell (p := ⟨lb, lo + j', none⟩) hby).trans hcy
                            have HY := Lib.hid hy
                            clear hyb hy hcy
                            have q6 : (0 : Int) ≤ (j' : Int) := by omega
                            have q7 : (j' : Int) < (l.length : Int) := by omega
                            by_cases hord : y < x
                            · have HO := Lib.hid (show ∀ y', 0 < j' + 1 → l[j' + 1 - 1]? = some y' → y' < x from fun y' _ h => by rw [Nat.add_sub_cancel, HY.out] at h; cases h; exact hord)
                              go_wp2_with (first | (at_mapUpdate; refine wpList_seen rfl _ _ _ rfl bm _ _ x rfl M2.out (by omega) ⟨hx1, hx2⟩ rfl rfl ?_; intro w4 m4 hc4) | go_in)
                              have F5 := Lib.hid (F4.out.chgd hc4 (fun j hj => .inr (by have := BM.out; simp; omega)))
                              have M4 := Lib.hid (m4.same SN.out)
                              clear m4 hc4
                              go_roundw
                              case rel => exact ⟨j' + 1 + 1, by omega, by go_num, F5.out, M4.out.mono (by omega), U2.out.next (OKL.out ⟨⟨hx0, hx9⟩, HRR.out.symm, HO.out, HI.out⟩)⟩
                              case measure => simp [intOf]; omega
                            · go_wp2
                              go_ret
                              exact BoolRet.no (fun h => BD.out (fun h => absurd (h.2.2.1 y (Nat.succ_pos _) (by rw [Nat.add_sub_cancel]; exact HY.out)) (by omega)) (h.2 k g GL.out).2) rfl F4.out.below
                      · have hmb : (r != (k : Int)) = true := by simp [hmod]
                        go_wp2
                        go_ret
                        exact BoolRet.no (fun h => BD.out (fun h => hmod (HRR.out.trans h.2.1)) (h.2 k g GL.out).2) rfl F4.out.below
                · have hje : j = l.length := by omega
                  subst hje
                  have RW := Lib.hid (seen_row LL.out)
                  go_wp2
                  go_roundw
                  case rel => exact ⟨i + 1, by omega, by go_num, F4.out, (M2.out.mono (by omega)).same RW.out, U2.out.row LL.out⟩
                  case measure => simp [intOf]; omega
            · have hil : i = gl := by omega
              subst hil
              go_wp2
              go_roundw
              case rel => exact ⟨k + 1, by omega, by go_num, F3.out, fun s g' hs hg' => by
                rcases (show s < k ∨ s = k by omega) with h | rfl
                · exact V1.out s g' h hg'
                · rw [GL.out] at hg'; cases hg'; exact ⟨GLn.out, Upto.all (by rw [GLn.out]; exact U1.out)⟩⟩
              case measure => simp [intOf]; omega
        · have hne2 : ((gl : Int) != (W : Int)) = true := by simp; omega
          go_wp2
          go_ret
          exact BoolRet.no (fun h => hgW (GLn.out.symm.trans (h.2 k g GL.out).1)) rfl F1.out.below
      · have hkl : k = len := by omega
        subst hkl
        go_wp2
        go_ret
        exact BoolRet.yes ⟨HL.out, fun s g hg => V1.out s g (by have := (List.getElem?_eq_some_iff.1 hg).1; have := HL.out; omega) hg⟩ rfl F1.out.below
  · have hne : ((len : Int) != (S : Int)) = true := by simp; omega
    have c0 := F0.out.h0.cell 0 _ rfl; have c1 := F0.out.h0.cell 1 _ rfl; have c2 := F0.out.h0.cell 2 _ rfl; have lt0 := F0.out.h0.lt (by simp)
    go_enter Try.func52, Try.ntmps52
    go_wp2
    go_ret
    exact BoolRet.no (fun h => hlS (HL.out.symm.trans h.1)) rfl F0.out.below

end Go.Proofs.Ytlpelpjcbclemaa
namespace Go.Proofs.Ytlpelpjcbclemaa
open Go.RowKit

def ValidY (S W : Nat) (m : List (List (List Int))) (o : List Int) : Prop := ValidM S W m ∧ o.length = S ∧ ∀ x, x ∈ o → 0 ≤ x ∧ x ≤ (W : Int)
theorem YSt.valid {U : List Int} {S W : Nat} {m : List (List (List Int))} {o : List Int} (h : YSt U S W m o) : ValidY S W m o := by
  refine ⟨MSt.valid (U := U) ⟨h.len, fun s g hs => ?_⟩, h.olen, fun x hx => ?_⟩
  · obtain ⟨k, _, hy⟩ := h.set s g hs
    exact hy.ws
  · obtain ⟨i, hi⟩ := List.getElem?_of_mem hx
    have hlt : i < S := by rw [← h.olen]; exact (List.getElem?_eq_some_iff.1 hi).1
    obtain ⟨g, k, _, hk, _, _, hy⟩ := h.at hlt
    rw [hk] at hi
    have := hy.ole
    cases hi
    omega
set_option maxRecDepth 100000 in
set_option maxHeartbeats 4000000 in
theorem yrvalid_any (S W L : Nat) (hc : COk S W L) (K : Nat → Prop) (a : Option Addr) (len cap : Nat) (oa : Option Addr) (on oc : Nat) (m : List (List (List Int))) (o : List Int) (w : World) (r : YCub K w a len cap oa on oc m o) :
    Calls Try.prog 27 #[CV S W L, YV a len cap oa on oc] w (BoolIff (ValidY S W m o) w) := by
  have hC := Lib.hid hc
  obtain ⟨g1, g2, g3, g4, g5, g6⟩ := hc
  have hl := r.cub.hlen; have hn := r.ints.hlen; have h6 := r.ints.hsz
  have HR := Lib.hid (ints_old r); have HN := Lib.hid hn
  have F0 := Lib.hid (Fm.new (Fm.new (Fm.start Non w) rfl [.int .i64 S, .int .i64 W, .int .i64 L] 26) (by simp) [.slice a len cap, .slice oa on oc] 31)
  have a0 := F0.out.h1.cell 0 _ rfl; have l1 := F0.out.h1.lt (by simp)
  clear r hl hn
  have SH := Lib.hid (fun w' (hb : Below w.heap.size w w') => rshaped_any S W L hC.out _ a len cap m w' (HR.out.below hb).cub)
  by_cases hv : ValidM S W m
  · have HV := Lib.hid hv
    clear hv
    by_cases hne : on = S
    · subst hne
      have hq : ((on : Int) != (on : Int)) = false := by simp
      go_enter Try.func27, Try.ntmps27
      go_wp2_with fail
      refine (SH.out _ F0.out.below).mono ?_
      rintro e w1 ⟨b, rfl, hb, hw⟩
      obtain rfl : b = true := hb.2 HV.out
      have F1 := Lib.hid (Fm.call hw F0.out)
      clear a0 l1 hb hw F0
      have a1 := F1.out.h1.cell 1 _ rfl; have c0 := F1.out.h0.cell 0 _ rfl; have lc := F1.out.h0.lt (by simp); have l1 := F1.out.h1.lt (by simp)
      go_wp2_with fail
      clear a1 c0 lc l1
      go_loopw [23] (fun i wr => ∃ k : Nat, k ≤ on ∧ i = .int .i64 k ∧ (∀ x, x ∈ o.take k → 0 ≤ x ∧ x ≤ (W : Int)) ∧ Fm Non w wr [[.int .i64 on, .int .i64 W, .int .i64 L], [.slice a len cap, .slice oa on oc]]) (fun i _ => on - (intOf i).toNat)
      case atStart => exact ⟨0, Nat.zero_le _, rfl, by simp, F1.out⟩
      case round =>
        clear F1
        obtain ⟨k, hk, rfl, hT, hF⟩ := hrel
        have F2 := Lib.hid hF; have HT := Lib.hid hT
        clear hF hT
        by_cases hlt : k < on
        · obtain ⟨b, p, x, rfl, hx, hcx, hx1, hx2, _, hbx⟩ := Ints.get HR.out.ints hlt
          have cx := (F2.out.below.cell (p := ⟨b, p + k, none⟩) hbx).trans hcx
          have HX := Lib.hid hx
          have c1 := F2.out.h0.cell 1 _ rfl; have lc := F2.out.h0.lt (by simp)
          clear hx hcx
          by_cases h0 : x < 0
          · have NO := Lib.hid (show ¬ ValidY on W m o from fun h => by have := h.2.2 x (List.mem_of_getElem? HX.out); omega)
            go_wp2
            go_ret
            exact BoolIff.no rfl NO.out F2.out.below
          · by_cases h1 : (x > (W : Int))
            · have NO := Lib.hid (show ¬ ValidY on W m o from fun h => by have := h.2.2 x (List.mem_of_getElem? HX.out); omega)
              go_wp2
              go_ret
              exact BoolIff.no rfl NO.out F2.out.below
            · have HT2 := Lib.hid (show ∀ y, y ∈ o.take (k + 1) → 0 ≤ y ∧ y ≤ (W : Int) from fun y hy => by
                rw [List.take_add_one, HX.out, List.mem_append] at hy
                rcases hy with h | h
                · exact HT.out y h
                · simp at h; subst h; omega)
              go_wp2
              go_roundw
              case rel => exact ⟨k + 1, by omega, by go_num, HT2.out, F2.out⟩
              case measure => simp [intOf]; omega
        · obtain rfl : k = on := by omega
          have YES := Lib.hid (show ValidY k W m o from ⟨HV.out, HN.out, fun x hx => HT.out x (by rw [List.take_of_length_le (by rw [HN.out]; exact Nat.le_refl _)]; exact hx)⟩)
          go_wp2
          go_ret
          exact BoolIff.yes rfl YES.out F2.out.below
    · have NO := Lib.hid (show ¬ ValidY S W m o from fun h => hne (by have := h.2.1; have := HN.out; omega))
      have hq : ((on : Int) != (S : Int)) = true := by simp; omega
      go_enter Try.func27, Try.ntmps27
      go_wp2_with fail
      refine (SH.out _ F0.out.below).mono ?_
      rintro e w1 ⟨b, rfl, hb, hw⟩
      obtain rfl : b = true := hb.2 HV.out
      have F1 := Lib.hid (Fm.call hw F0.out)
      clear a0 l1 hb hw F0
      have a1 := F1.out.h1.cell 1 _ rfl; have c0 := F1.out.h0.cell 0 _ rfl; have lc := F1.out.h0.lt (by simp); have l1 := F1.out.h1.lt (by simp)
      go_wp2
      go_ret
      exact BoolIff.no rfl NO.out F1.out.below
  · have NO := Lib.hid (show ¬ ValidY S W m o from fun h => hv h.1)
    have HV := Lib.hid hv
    clear hv
    go_enter Try.func27, Try.ntmps27
    go_wp2_with fail
    refine (SH.out _ F0.out.below).mono ?_
    rintro e w1 ⟨b, rfl, hb, hw⟩
    obtain rfl : b = false := by
      cases b with
      | false => rfl
      | true => exact absurd (hb.1 rfl) HV.out
    have F1 := Lib.hid (Fm.call hw F0.out)
    clear a0 l1 hb hw F0
    go_wp2
    go_ret
    exact BoolIff.no rfl NO.out F1.out.below
end Go.Proofs.Ytlpelpjcbclemaa
