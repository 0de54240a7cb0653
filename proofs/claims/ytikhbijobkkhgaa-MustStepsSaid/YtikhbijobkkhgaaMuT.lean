/-
  ages.lists.
-/
import Derived.Test.YtikhbijobkkhgaaMuR
namespace Go.Proofs.Ytikhbijobkkhgaa
open Go.RowKit

/-- The line at place p of list i of a set is right. -/
def LineOk (S : Nat) (s : Int) (g : List (List Int)) (i p : Nat) : Prop := ∀ l x, g[i]? = some l → l[p]? = some x → (0 ≤ x ∧ x ≤ 1048576) ∧ x % (S : Int) = s ∧ (∀ y, 0 < p → l[p - 1]? = some y → y < x) ∧ x ∉ (g.take i).flatten ++ l.take p
def SetV (S : Nat) (s : Int) (g : List (List Int)) : Prop := ∀ i p, LineOk S s g i p
def Upto (S : Nat) (s : Int) (g : List (List Int)) (k j : Nat) : Prop := ∀ i p, i < k ∨ (i = k ∧ p < j) → LineOk S s g i p
theorem Upto.zero (S : Nat) (s : Int) (g : List (List Int)) : Upto S s g 0 0 := fun i p h => by omega
theorem Upto.next {S : Nat} {s : Int} {g : List (List Int)} {k j : Nat} (h : Upto S s g k j) (e : LineOk S s g k j) : Upto S s g k (j + 1) := fun i p hi => by
  by_cases hp : i = k ∧ p = j
  · obtain ⟨rfl, rfl⟩ := hp; exact e
  · exact h i p (by omega)
theorem Upto.row {S : Nat} {s : Int} {g : List (List Int)} {k : Nat} {l : List Int} (h : Upto S s g k l.length) (hl : g[k]? = some l) : Upto S s g (k + 1) 0 := fun i p hi => by
  by_cases hp : i < k ∨ (i = k ∧ p < l.length)
  · exact h i p hp
  · obtain rfl : i = k := by omega
    intro l' x h1 h2
    rw [hl] at h1; cases h1
    have := (List.getElem?_eq_some_iff.1 h2).1
    omega
theorem Upto.all {S : Nat} {s : Int} {g : List (List Int)} (h : Upto S s g g.length 0) : SetV S s g := fun i p => by
  by_cases hi : i < g.length
  · exact h i p (.inl hi)
  · intro l x h1 _
    have := (List.getElem?_eq_some_iff.1 h1).1
    omega
theorem line_bad {S : Nat} {s : Int} {g : List (List Int)} {k j : Nat} {l : List Int} {x : Int} (hl : g[k]? = some l) (hx : l[j]? = some x) (h : ¬ ((0 ≤ x ∧ x ≤ 1048576) ∧ x % (S : Int) = s ∧ (∀ y, 0 < j → l[j - 1]? = some y → y < x) ∧ x ∉ (g.take k).flatten ++ l.take j)) : ¬ SetV S s g := fun hs => h (hs k j l x hl hx)
theorem line_ok {S : Nat} {s : Int} {g : List (List Int)} {k j : Nat} {l : List Int} {x : Int} (hl : g[k]? = some l) (hx : l[j]? = some x) (h : (0 ≤ x ∧ x ≤ 1048576) ∧ x % (S : Int) = s ∧ (∀ y, 0 < j → l[j - 1]? = some y → y < x) ∧ x ∉ (g.take k).flatten ++ l.take j) : LineOk S s g k j := fun l' x' h1 h2 => by
  rw [hl] at h1; cases h1
  rw [hx] at h2; cases h2
  exact h
theorem seen_next {g : List (List Int)} {k j : Nat} {l : List Int} {x : Int} (hx : l[j]? = some x) : ((g.take k).flatten ++ l.take j) ++ [x] = (g.take k).flatten ++ l.take (j + 1) := by
  rw [List.append_assoc, List.take_add_one, hx]; rfl
theorem seen_row {g : List (List Int)} {k : Nat} {l : List Int} (hl : g[k]? = some l) : (g.take k).flatten ++ l.take l.length = (g.take (k + 1)).flatten := by
  rw [List.take_length, List.take_add_one, hl, List.flatten_append]; simp

set_option maxHeartbeats 4000000 in
set_option maxRecDepth 100000 in
theorem lists_any (S W L : Nat) (hc : COk S W L) (hS : 0 < S) (s : Nat) (_hs : s < S) (K : Nat → Prop) (a : Option Addr) (len cap : Nat) (hlen : len ≤ 100) (g : List (List Int)) (w : World) (r : Mat K w a len cap g) :
    Calls Try.prog 54 #[CV S W L, .int .i64 s, .slice a len cap] w (BoolRet (SetV S s g) w) := by
  have hC := Lib.hid hc
  obtain ⟨g1, g2, g3, g4, g5, g6⟩ := hc
  have hmm := @run_makeMap Try.prog
  have hcp := r.hcap
  have HL := Lib.hid r.hlen
  have HR := Lib.hid r; clear r
  have F0 := Lib.hid ((Fm.new (Fm.start Non w) rfl [.int .i64 S, .int .i64 W, .int .i64 L] 26).more (.map #[] 0))
  have M0 := Lib.hid (show Seen ((w.alloc (.cells #[.int .i64 S, .int .i64 W, .int .i64 L] 26)).alloc (.map #[] 0)) (w.heap.size + 1) 0 [] by
    have := Seen.made (w.alloc (.cells #[.int .i64 S, .int .i64 W, .int .i64 L] 26)); simpa using this)
  have CS := Lib.hid (fun (n : Int) (h0 : 0 ≤ n) (h1 : n ≤ 9223372036854775807) (w : World) => setof_any S W L hC.out (by omega) n h0 h1 w)
  go_enter Try.func54, Try.ntmps54
  go_wp2
  go_loopw [15] (fun i wr => ∃ k : Nat, k ≤ len ∧ i = .int .i64 k ∧ Fm Non w wr [[.int .i64 S, .int .i64 W, .int .i64 L]] ∧ Seen wr (w.heap.size + 1) (k * 17592186044416) (g.take k).flatten ∧ Upto S s g k 0) (fun i _ => len - (intOf i).toNat)
  case atStart => exact ⟨0, Nat.zero_le _, rfl, F0.out, by simpa using M0.out, Upto.zero _ _ _⟩
  case round =>
    obtain ⟨k, hk, rfl, f1, m1, u1⟩ := hrel
    have F1 := Lib.hid f1; have M1 := Lib.hid m1; have U1 := Lib.hid u1
    clear f1 m1 u1
    by_cases hlt : k < len
    · obtain ⟨b, o, l, la, ll, lc, rfl, hl, hcl, hrl, _, hbw⟩ := Rows.get HR.out hlt
      have hll := hrl.hlen; have hl6 := hrl.hsz; have hl7 := hrl.hcap
      subst hll
      have cw := (F1.out.below.cell (p := ⟨b, o + k, none⟩) hbw).trans hcl
      have GL := Lib.hid hl; have RL := Lib.hid hrl
      clear hl hcl hrl
      have q0 : (0 : Int) ≤ (k : Int) := by omega
      have q1 : (k : Int) < (len : Int) := by omega
      go_wp2
      clear cw
      go_loopw [21] (fun v wr => ∃ j : Nat, j ≤ l.length ∧ v = .int .i64 j ∧ Fm Non w wr [[.int .i64 S, .int .i64 W, .int .i64 L]] ∧ Seen wr (w.heap.size + 1) (k * 17592186044416 + j) ((g.take k).flatten ++ l.take j) ∧ Upto S s g k j) (fun v _ => l.length - (intOf v).toNat)
      case atStart => exact ⟨0, Nat.zero_le _, rfl, F1.out, by simpa using M1.out, U1.out⟩
      case round =>
        obtain ⟨j, hj, rfl, f2, m2, u2⟩ := hrel
        have F2 := Lib.hid f2; have U2 := Lib.hid u2
        have c0 := f2.h0.cell 0 _ rfl; have c1 := f2.h0.cell 1 _ rfl; have c2 := f2.h0.cell 2 _ rfl; have lt0 := f2.h0.lt (by simp)
        clear f2 u2
        by_cases hjl : j < l.length
        · obtain ⟨lb, lo, x, rfl, hx, hcx, hx1, hx2, _, hbx⟩ := Ints.get RL.out hjl
          have cx := (F2.out.below.cell (p := ⟨lb, lo + j, none⟩) hbx).trans hcx
          have BD := Lib.hid (line_bad (S := S) (s := s) GL.out hx)
          have OKL := Lib.hid (line_ok (S := S) (s := s) GL.out hx)
          have lk := m2.look ⟨hx1, hx2⟩
          have M2 := Lib.hid m2
          have SN := Lib.hid (seen_next (g := g) (k := k) hx)
          have q2 : (0 : Int) ≤ (j : Int) := by omega
          have q3 : (j : Int) < (l.length : Int) := by omega
          clear m2 hcx
          by_cases hneg : x < 0
          · clear lk
            go_wp2
            go_ret
            exact BoolRet.no (BD.out fun h => by have := h.1.1; omega) rfl F2.out.below
          · by_cases hbig : x > 1048576
            · clear lk
              go_wp2
              go_ret
              exact BoolRet.no (BD.out fun h => by have := h.1.2; omega) rfl F2.out.below
            · have hx0 : 0 ≤ x := by omega
              have hx9 : x ≤ 1048576 := by omega
              by_cases hmod : x % (S : Int) = (s : Int)
              · have hmb : (x % (S : Int) != (s : Int)) = false := by simp [hmod]
                have HMO := Lib.hid hmod; clear hmod
                cases j with
                | zero =>
                  rw [Nat.add_zero] at cx
                  by_cases hin : x ∈ (g.take k).flatten ++ l.take (0)
                  · have HI := Lib.hid hin; clear hin
                    clear lk
                    go_wp2_with fail
                    refine (CS.out x hx0 (by omega) _).mono ?_
                    rintro e w3 ⟨rfl, hb3⟩
                    have lk := (M2.out.below hb3).look ⟨hx1, hx2⟩
                    rw [decide_eq_true HI.out] at lk
                    have F3 := Lib.hid (Fm.call hb3 F2.out)
                    have cp := True.intro
                    (try have cp := cell_later hb3 cy)
                    clear hb3
                    go_wp2
                    go_ret
                    exact BoolRet.no (BD.out fun h => h.2.2.2 HI.out) rfl F3.out.below
                  · have HI := Lib.hid hin; clear hin
                    clear lk
                    go_wp2_with fail
                    refine (CS.out x hx0 (by omega) _).mono ?_
                    rintro e w3 ⟨rfl, hb3⟩
                    have M3 := Lib.hid (M2.out.below hb3)
                    have lk := M3.out.look ⟨hx1, hx2⟩
                    rw [decide_eq_false HI.out] at lk
                    have F3 := Lib.hid (Fm.call hb3 F2.out)
                    have cp := True.intro
                    (try have cp := cell_later hb3 cy)
                    clear hb3
                    go_wp2_with (first | (at_mapUpdate; refine wpList_seen rfl _ _ _ rfl (w.heap.size + 1) _ _ x rfl M3.out (by omega) ⟨hx1, hx2⟩ rfl rfl ?_; intro w4 m4 hc4) | go_in)
                    have F4 := Lib.hid (F3.out.chgd hc4 (fun j hj => .inr (by simp; omega)))
                    have M4 := Lib.hid (m4.same SN.out)
                    clear m4 hc4
                    go_roundw
                    case rel => exact ⟨0 + 1, by omega, by go_num, F4.out, M4.out.mono (by omega), U2.out.next (OKL.out ⟨⟨hx0, hx9⟩, HMO.out, fun y h => absurd h (Nat.lt_irrefl 0), HI.out⟩)⟩
                    case measure => simp [intOf]; omega
                | succ j' =>
                  obtain ⟨yb, yo, y, hyb, hy, hcy, hy1, hy2, _, hby⟩ := Ints.get RL.out (show j' < l.length by omega)
                  obtain ⟨rfl, rfl⟩ : lb = yb ∧ lo = yo := by simp only [Option.some.injEq, Addr.mk.injEq] at hyb; exact ⟨hyb.1, hyb.2.1⟩
                  have cy := (F2.out.below.cell (p := ⟨lb, lo + j', none⟩) hby).trans hcy
                  have hlb3 : lb < wr.heap.size := Nat.lt_of_lt_of_le hbx F2.out.below.size
                  have HY := Lib.hid hy
                  clear hyb hy hcy
                  have q4 : (0 : Int) ≤ (j' : Int) := by omega
                  have q5 : (j' : Int) < (l.length : Int) := by omega
                  by_cases hord : y < x
                  · have HO := Lib.hid (show ∀ y', 0 < j' + 1 → l[j' + 1 - 1]? = some y' → y' < x from fun y' _ h => by rw [Nat.add_sub_cancel, HY.out] at h; cases h; exact hord)
                    by_cases hin : x ∈ (g.take k).flatten ++ l.take (j' + 1)
                    · have HI := Lib.hid hin; clear hin
                      clear lk
                      go_wp2_with fail
                      refine (CS.out x hx0 (by omega) _).mono ?_
                      rintro e w3 ⟨rfl, hb3⟩
                      have lk := (M2.out.below hb3).look ⟨hx1, hx2⟩
                      rw [decide_eq_true HI.out] at lk
                      have F3 := Lib.hid (Fm.call hb3 F2.out)
                      have cp := True.intro
                      (try have cp := cell_later hb3 cy)
                      clear hb3
                      go_wp2
                      go_ret
                      exact BoolRet.no (BD.out fun h => h.2.2.2 HI.out) rfl F3.out.below
                    · have HI := Lib.hid hin; clear hin
                      clear lk
                      go_wp2_with fail
                      refine (CS.out x hx0 (by omega) _).mono ?_
                      rintro e w3 ⟨rfl, hb3⟩
                      have M3 := Lib.hid (M2.out.below hb3)
                      have lk := M3.out.look ⟨hx1, hx2⟩
                      rw [decide_eq_false HI.out] at lk
                      have F3 := Lib.hid (Fm.call hb3 F2.out)
                      have cp := True.intro
                      (try have cp := cell_later hb3 cy)
                      clear hb3
                      go_wp2_with (first | (at_mapUpdate; refine wpList_seen rfl _ _ _ rfl (w.heap.size + 1) _ _ x rfl M3.out (by omega) ⟨hx1, hx2⟩ rfl rfl ?_; intro w4 m4 hc4) | go_in)
                      have F4 := Lib.hid (F3.out.chgd hc4 (fun j hj => .inr (by simp; omega)))
                      have M4 := Lib.hid (m4.same SN.out)
                      clear m4 hc4
                      go_roundw
                      case rel => exact ⟨j' + 1 + 1, by omega, by go_num, F4.out, M4.out.mono (by omega), U2.out.next (OKL.out ⟨⟨hx0, hx9⟩, HMO.out, HO.out, HI.out⟩)⟩
                      case measure => simp [intOf]; omega
                  · clear lk
                    go_wp2_with fail
                    refine (CS.out x hx0 (by omega) _).mono ?_
                    rintro e w3 ⟨rfl, hb3⟩
                    have F3 := Lib.hid (Fm.call hb3 F2.out)
                    have cp := cell_later hb3 cy
                    clear hb3
                    go_wp2
                    go_ret
                    exact BoolRet.no (BD.out fun h => absurd (h.2.2.1 y (Nat.succ_pos _) (by rw [Nat.add_sub_cancel]; exact HY.out)) (by omega)) rfl F3.out.below
              · have hmb : (x % (S : Int) != (s : Int)) = true := by simp [hmod]
                clear lk
                go_wp2_with fail
                refine (CS.out x hx0 (by omega) _).mono ?_
                rintro e w3 ⟨rfl, hb3⟩
                have F3 := Lib.hid (Fm.call hb3 F2.out)
                clear hb3
                go_wp2
                go_ret
                exact BoolRet.no (BD.out fun h => hmod h.2.1) rfl F3.out.below
        · have hje : j = l.length := by omega
          subst hje
          have RW := Lib.hid (seen_row GL.out)
          have M2 := Lib.hid m2; clear m2
          go_wp2
          go_roundw
          case rel => exact ⟨k + 1, by omega, by go_num, F2.out, (M2.out.mono (by omega)).same RW.out, U2.out.row GL.out⟩
          case measure => simp [intOf]; omega
    · have hkl : k = len := by omega
      subst hkl
      go_wp2
      go_ret
      exact BoolRet.yes (Upto.all (by rw [HL.out]; exact U1.out)) rfl F1.out.below
end Go.Proofs.Ytikhbijobkkhgaa
