/-
  must.Below, the document's Below: whether a state says at least as much as another one. The document's Same, of the same lists. Printed by mkMuZ.py.
-/
import Derived.Test.YtikhbijobkkhgaaMuY
namespace Go.Proofs.Ytikhbijobkkhgaa
open Go.RowKit

def BelowM (a b : List (List (List Int))) : Prop := ∀ (s : Nat) f g, a[s]? = some f → b[s]? = some g → Under f g
/-- Of the first i lists of g, and the first p lines of the next one. -/
def UnderU (f g : List (List Int)) (i p : Nat) : Prop := ∀ (i' : Nat) l, g[i']? = some l → ∀ (p' : Nat) y, l[p']? = some y → (i' < i ∨ (i' = i ∧ p' < p)) → ∃ j, At f j y ∧ j ≤ i'
theorem UnderU.zero (f g : List (List Int)) : UnderU f g 0 0 := fun i' l _ p' y _ h => by omega
theorem UnderU.step {f g : List (List Int)} {i p : Nat} {l : List Int} {y : Int} (h : UnderU f g i p) (hl : g[i]? = some l) (hy : l[p]? = some y) (k : ∃ j, At f j y ∧ j ≤ i) : UnderU f g i (p + 1) := fun i' l' hl' p' y' hy' hh => by
  rcases (show (i' < i ∨ (i' = i ∧ p' < p)) ∨ (i' = i ∧ p' = p) by omega) with h1 | ⟨rfl, rfl⟩
  · exact h i' l' hl' p' y' hy' h1
  · rw [hl] at hl'; cases hl'; rw [hy] at hy'; cases hy'; exact k
theorem UnderU.next {f g : List (List Int)} {i : Nat} {l : List Int} (h : UnderU f g i l.length) (hl : g[i]? = some l) : UnderU f g (i + 1) 0 := fun i' l' hl' p' y' hy' hh => by
  refine h i' l' hl' p' y' hy' ?_
  rcases (show i' < i ∨ i' = i by omega) with h1 | rfl
  · exact .inl h1
  · rw [hl] at hl'; cases hl'; exact .inr ⟨rfl, (List.getElem?_eq_some_iff.1 hy').1⟩
theorem UnderU.all {f g : List (List Int)} (h : UnderU f g g.length 0) : Under f g := fun i y ⟨l, hl, hy⟩ => by
  obtain ⟨p, hp⟩ := List.getElem?_of_mem hy
  exact h i l hl p y hp (.inl (List.getElem?_eq_some_iff.1 hl).1)
theorem under_bad {f g : List (List Int)} {i p : Nat} {l : List Int} {y : Int} (hl : g[i]? = some l) (hy : l[p]? = some y) (k : ¬ ∃ j, At f j y ∧ j ≤ i) : ¬ Under f g := fun h => k (h i y ⟨l, hl, List.mem_of_getElem? hy⟩)
theorem findI_found {f : List (List Int)} {y : Int} {i : Nat} : (∃ j, At f j y ∧ j ≤ i) ↔ 0 ≤ findI f y ∧ findI f y ≤ (i : Int) := by
  rw [under_iff]; unfold findI; split <;> omega

set_option maxHeartbeats 4000000 in
theorem below_any (U V : List Int) (S W L : Nat) (hc : COk S W L) (m q : List (List (List Int))) (hm : MSt U S W m) (hq : MSt V S W q) (K K' : Nat → Prop) (a : Option Addr) (len cap : Nat) (a' : Option Addr) (len' cap' : Nat) (w : World) (r : Cube K w a len cap m) (r' : Cube K' w a' len' cap' q) :
    Calls Try.prog 22 #[CV S W L, .agg #[.slice a len cap], .agg #[.slice a' len' cap']] w (BoolRet (BelowM m q) w) := by
  have hl := r.hlen; have h6 := r.hsz; have hl' := r'.hlen
  have hS : len = S := by rw [← hl]; exact hm.len
  subst hS
  have hS' : len' = len := by rw [← hl']; exact hq.len
  subst hS'
  obtain ⟨g1, g2, g3, g4, g5, g6⟩ := hc
  have F0 := Lib.hid (Fm.new (Fm.new (Fm.new (Fm.start Non w) rfl [.int .i64 len', .int .i64 W, .int .i64 L] 26) (by simp) [.slice a len' cap] 30) (by simp) [.slice a' len' cap'] 30)
  have HR := Lib.hid r; have HR' := Lib.hid r'; have HM := Lib.hid hm; have HQ := Lib.hid hq
  clear r r' hm hq hl hl'
  have d0 := F0.out.h2.cell 0 _ rfl
  go_enter Try.func22, Try.ntmps22
  go_wp2
  clear d0
  go_loopw [17] (fun i wr => ∃ k : Nat, k ≤ len' ∧ i = .int .i64 k ∧ Fm Non w wr [[.int .i64 len', .int .i64 W, .int .i64 L], [.slice a len' cap], [.slice a' len' cap']] ∧ ∀ (s : Nat) f g, s < k → m[s]? = some f → q[s]? = some g → Under f g) (fun i _ => len' - (intOf i).toNat)
  case atStart => exact ⟨0, Nat.zero_le _, rfl, F0.out, fun s f g h => absurd h (Nat.not_lt_zero _)⟩
  case round =>
    obtain ⟨k, hk, rfl, f1, u1⟩ := hrel
    have F1 := Lib.hid f1; have U1 := Lib.hid u1
    clear f1 u1
    by_cases hlt : k < len'
    · obtain ⟨f, hf, _, hfw⟩ := HM.out.at hlt
      obtain ⟨g, hg, _, hgw⟩ := HQ.out.at hlt
      obtain ⟨gb, go, f', ra, rl, rc, rfl, hx, hcw, hrx, _, hbw⟩ := Rows.get HR.out hlt
      have hff : f' = f := by rw [hf] at hx; cases hx; rfl
      subst hff
      obtain ⟨gb', go', g', ra', rl', rc', rfl, hx', hcw', hrx', _, hbw'⟩ := Rows.get HR'.out hlt
      have hgg : g' = g := by rw [hg] at hx'; cases hx'; rfl
      subst hgg
      have hrl' := hrx'.hlen; have hg6 := hrx'.hsz
      subst hrl'
      have GL := Lib.hid hg; have FL := Lib.hid hf; have FW := Lib.hid hfw
      have cg := (F1.out.below.cell (p := ⟨gb', go' + k, none⟩) hbw').trans hcw'
      have d0 := F1.out.h2.cell 0 _ rfl; have dl := F1.out.h2.lt (by simp)
      have RX := Lib.hid hrx; have RX' := Lib.hid hrx'; have CW := Lib.hid hcw; have CW' := Lib.hid hcw'
      clear hf hfw hg hgw hx hcw hrx hx' hcw' hrx'
      have q0 : (0 : Int) ≤ (k : Int) := by omega
      have q1 : (k : Int) < (len' : Int) := by omega
      have q2 : ¬ (len' : Int) ≤ (k : Int) := by omega
      go_wp2
      clear cg d0 dl
      go_loopw [24] (fun i wr => ∃ i' : Nat, i' ≤ g'.length ∧ i = .int .i64 i' ∧ Fm Non w wr [[.int .i64 len', .int .i64 W, .int .i64 L], [.slice (some ⟨gb, go, none⟩) len' cap], [.slice (some ⟨gb', go', none⟩) len' cap']] ∧ UnderU f' g' i' 0) (fun i _ => g'.length - (intOf i).toNat)
      case atStart => exact ⟨0, Nat.zero_le _, rfl, F1.out, UnderU.zero _ _⟩
      case round =>
        obtain ⟨i, hi, rfl, f2, u2⟩ := hrel
        have F2 := Lib.hid f2; have U2 := Lib.hid u2
        clear f2 u2
        by_cases hli : i < g'.length
        · obtain ⟨lb, lo, l, la, ll, lc, rfl, hz, hcz, hrz, _, hbz⟩ := Rows.get RX'.out hli
          have hll := hrz.hlen; have hl6 := hrz.hsz
          subst hll
          have cz := (F2.out.below.cell (p := ⟨lb, lo + i, none⟩) hbz).trans hcz
          have HZ := Lib.hid hz; have RZ := Lib.hid hrz
          clear hz hcz hrz
          have h6 : (0 : Int) ≤ (i : Int) := by omega
          have h7 : (i : Int) < (g'.length : Int) := by omega
          go_wp2
          clear cz
          go_loopw [31] (fun v wr => ∃ j : Nat, j ≤ l.length ∧ v = .int .i64 j ∧ Fm Non w wr [[.int .i64 len', .int .i64 W, .int .i64 L], [.slice (some ⟨gb, go, none⟩) len' cap], [.slice (some ⟨gb', go', none⟩) len' cap']] ∧ UnderU f' g' i j) (fun v _ => l.length - (intOf v).toNat)
          case atStart => exact ⟨0, Nat.zero_le _, rfl, F2.out, U2.out⟩
          case round =>
            obtain ⟨j, hj, rfl, f3, u3⟩ := hrel
            have F3 := Lib.hid f3; have U3 := Lib.hid u3
            clear f3 u3
            by_cases hjl : j < l.length
            · obtain ⟨yb, yo, y, rfl, hy, hcy, hy1, hy2, _, hby⟩ := Ints.get RZ.out hjl
              have cy := (F3.out.below.cell (p := ⟨yb, yo + j, none⟩) hby).trans hcy
              have cw := (F3.out.below.cell (p := ⟨gb, go + k, none⟩) hbw).trans CW.out
              have e0 := F3.out.h1.cell 0 _ rfl; have el := F3.out.h1.lt (by simp)
              have FI := Lib.hid (find_any K ra rl rc f' y wr (RX.out.below (RSl.stays RInt.stays) F3.out.below) FW.out.asc)
              have FF := Lib.hid (findI_found (f := f') (y := y) (i := i))
              have HY := Lib.hid hy
              clear hy hcy
              have q3 : (0 : Int) ≤ (j : Int) := by omega
              have q4 : (j : Int) < (l.length : Int) := by omega
              generalize findI f' y = v at *
              go_wp2_with fail
              refine FI.out.mono ?_
              rintro e w4 ⟨rfl, hb4⟩
              have F4 := Lib.hid (Fm.call hb4 F3.out)
              clear hb4 cy cw e0 el
              by_cases hneg : v < 0
              · go_wp2
                go_ret
                exact BoolRet.no (fun h => under_bad HZ.out HY.out (fun k => by have := FF.out.1 k; omega) (h k f' g' FL.out GL.out)) rfl F4.out.below
              · by_cases hbig : (i : Int) < v
                · go_wp2
                  go_ret
                  exact BoolRet.no (fun h => under_bad HZ.out HY.out (fun k => by have := FF.out.1 k; omega) (h k f' g' FL.out GL.out)) rfl F4.out.below
                · have SX := Lib.hid (U3.out.step HZ.out HY.out (FF.out.2 ⟨by omega, by omega⟩))
                  go_wp2
                  go_roundw
                  case rel => exact ⟨j + 1, by omega, by go_num, F4.out, SX.out⟩
                  case measure => simp [intOf]; omega
            · have hjl' : j = l.length := by omega
              subst hjl'
              go_wp2
              go_roundw
              case rel => exact ⟨i + 1, by omega, by go_num, F3.out, U3.out.next HZ.out⟩
              case measure => simp [intOf]; omega
        · have hie : i = g'.length := by omega
          subst hie
          go_wp2
          go_roundw
          case rel => exact ⟨k + 1, by omega, by go_num, F2.out, fun s f g hs hf hg => by
            rcases (show s < k ∨ s = k by omega) with h | rfl
            · exact U1.out s f g h hf hg
            · rw [FL.out] at hf; cases hf; rw [GL.out] at hg; cases hg; exact U2.out.all⟩
          case measure => simp [intOf]; omega
    · have hke : k = len' := by omega
      subst hke
      go_wp2
      go_ret
      exact BoolRet.yes (fun s f g hf hg => U1.out s f g (by have := (List.getElem?_eq_some_iff.1 hf).1; have := HM.out.len; omega) hf hg) rfl F1.out.below

set_option maxHeartbeats 4000000 in
theorem rbelow_any (U V : List Int) (S W L : Nat) (hc : COk S W L) (m q : List (List (List Int))) (hm : MSt U S W m) (hq : MSt V S W q) (K K' : Nat → Prop) (a : Option Addr) (len cap : Nat) (a' : Option Addr) (len' cap' : Nat) (w : World) (r : Cube K w a len cap m) (r' : Cube K' w a' len' cap' q) :
    Calls Try.prog 35 #[CV S W L, .agg #[.slice a len cap], .agg #[.slice a' len' cap']] w (BoolRet (BelowM m q) w) := by
  have hl := r.hlen; have h6 := r.hsz; have hl' := r'.hlen
  have hS : len = S := by rw [← hl]; exact hm.len
  subst hS
  have hS' : len' = len := by rw [← hl']; exact hq.len
  subst hS'
  obtain ⟨g1, g2, g3, g4, g5, g6⟩ := hc
  have F0 := Lib.hid (Fm.new (Fm.new (Fm.new (Fm.start Non w) rfl [.int .i64 len', .int .i64 W, .int .i64 L] 26) (by simp) [.slice a len' cap] 30) (by simp) [.slice a' len' cap'] 30)
  have HR := Lib.hid r; have HR' := Lib.hid r'; have HM := Lib.hid hm; have HQ := Lib.hid hq
  clear r r' hm hq hl hl'
  have d0 := F0.out.h2.cell 0 _ rfl
  go_enter Try.func35, Try.ntmps35
  go_wp2
  clear d0
  go_loopw [16] (fun i wr => ∃ k : Nat, k ≤ len' ∧ i = .int .i64 k ∧ Fm Non w wr [[.int .i64 len', .int .i64 W, .int .i64 L], [.slice a len' cap], [.slice a' len' cap']] ∧ ∀ (s : Nat) f g, s < k → m[s]? = some f → q[s]? = some g → Under f g) (fun i _ => len' - (intOf i).toNat)
  case atStart => exact ⟨0, Nat.zero_le _, rfl, F0.out, fun s f g h => absurd h (Nat.not_lt_zero _)⟩
  case round =>
    obtain ⟨k, hk, rfl, f1, u1⟩ := hrel
    have F1 := Lib.hid f1; have U1 := Lib.hid u1
    clear f1 u1
    by_cases hlt : k < len'
    · obtain ⟨f, hf, _, hfw⟩ := HM.out.at hlt
      obtain ⟨g, hg, _, hgw⟩ := HQ.out.at hlt
      obtain ⟨gb, go, f', ra, rl, rc, rfl, hx, hcw, hrx, _, hbw⟩ := Rows.get HR.out hlt
      have hff : f' = f := by rw [hf] at hx; cases hx; rfl
      subst hff
      obtain ⟨gb', go', g', ra', rl', rc', rfl, hx', hcw', hrx', _, hbw'⟩ := Rows.get HR'.out hlt
      have hgg : g' = g := by rw [hg] at hx'; cases hx'; rfl
      subst hgg
      have hrl' := hrx'.hlen; have hg6 := hrx'.hsz
      subst hrl'
      have GL := Lib.hid hg; have FL := Lib.hid hf; have FW := Lib.hid hfw
      have cg := (F1.out.below.cell (p := ⟨gb', go' + k, none⟩) hbw').trans hcw'
      have d0 := F1.out.h2.cell 0 _ rfl; have dl := F1.out.h2.lt (by simp)
      have RX := Lib.hid hrx; have RX' := Lib.hid hrx'; have CW := Lib.hid hcw; have CW' := Lib.hid hcw'
      clear hf hfw hg hgw hx hcw hrx hx' hcw' hrx'
      have q0 : (0 : Int) ≤ (k : Int) := by omega
      have q1 : (k : Int) < (len' : Int) := by omega
      have q2 : ¬ (len' : Int) ≤ (k : Int) := by omega
      go_wp2
      clear cg d0 dl
      go_loopw [25] (fun i wr => ∃ i' : Nat, i' ≤ g'.length ∧ i = .int .i64 i' ∧ Fm Non w wr [[.int .i64 len', .int .i64 W, .int .i64 L], [.slice (some ⟨gb, go, none⟩) len' cap], [.slice (some ⟨gb', go', none⟩) len' cap']] ∧ UnderU f' g' i' 0) (fun i _ => g'.length - (intOf i).toNat)
      case atStart => exact ⟨0, Nat.zero_le _, rfl, F1.out, UnderU.zero _ _⟩
      case round =>
        obtain ⟨i, hi, rfl, f2, u2⟩ := hrel
        have F2 := Lib.hid f2; have U2 := Lib.hid u2
        clear f2 u2
        by_cases hli : i < g'.length
        · obtain ⟨lb, lo, l, la, ll, lc, rfl, hz, hcz, hrz, _, hbz⟩ := Rows.get RX'.out hli
          have hll := hrz.hlen; have hl6 := hrz.hsz
          subst hll
          have cz := (F2.out.below.cell (p := ⟨lb, lo + i, none⟩) hbz).trans hcz
          have HZ := Lib.hid hz; have RZ := Lib.hid hrz
          clear hz hcz hrz
          have h6 : (0 : Int) ≤ (i : Int) := by omega
          have h7 : (i : Int) < (g'.length : Int) := by omega
          go_wp2
          clear cz
          go_loopw [32] (fun v wr => ∃ j : Nat, j ≤ l.length ∧ v = .int .i64 j ∧ Fm Non w wr [[.int .i64 len', .int .i64 W, .int .i64 L], [.slice (some ⟨gb, go, none⟩) len' cap], [.slice (some ⟨gb', go', none⟩) len' cap']] ∧ UnderU f' g' i j) (fun v _ => l.length - (intOf v).toNat)
          case atStart => exact ⟨0, Nat.zero_le _, rfl, F2.out, U2.out⟩
          case round =>
            obtain ⟨j, hj, rfl, f3, u3⟩ := hrel
            have F3 := Lib.hid f3; have U3 := Lib.hid u3
            clear f3 u3
            by_cases hjl : j < l.length
            · obtain ⟨yb, yo, y, rfl, hy, hcy, hy1, hy2, _, hby⟩ := Ints.get RZ.out hjl
              have cy := (F3.out.below.cell (p := ⟨yb, yo + j, none⟩) hby).trans hcy
              have cw := (F3.out.below.cell (p := ⟨gb, go + k, none⟩) hbw).trans CW.out
              have e0 := F3.out.h1.cell 0 _ rfl; have el := F3.out.h1.lt (by simp)
              have FI := Lib.hid (place_any K ra rl rc f' y wr (RX.out.below (RSl.stays RInt.stays) F3.out.below))
              have FF := Lib.hid (findI_found (f := f') (y := y) (i := i))
              have HY := Lib.hid hy
              clear hy hcy
              have q3 : (0 : Int) ≤ (j : Int) := by omega
              have q4 : (j : Int) < (l.length : Int) := by omega
              generalize findI f' y = v at *
              go_wp2_with fail
              refine FI.out.mono ?_
              rintro e w4 ⟨rfl, hb4⟩
              have F4 := Lib.hid (Fm.call (show Below wr.heap.size wr w4 by rw [← hb4]; exact Below.refl _ _) F3.out)
              clear hb4 cy cw e0 el
              by_cases hneg : v < 0
              · go_wp2
                go_ret
                exact BoolRet.no (fun h => under_bad HZ.out HY.out (fun k => by have := FF.out.1 k; omega) (h k f' g' FL.out GL.out)) rfl F4.out.below
              · by_cases hbig : (i : Int) < v
                · go_wp2
                  go_ret
                  exact BoolRet.no (fun h => under_bad HZ.out HY.out (fun k => by have := FF.out.1 k; omega) (h k f' g' FL.out GL.out)) rfl F4.out.below
                · have SX := Lib.hid (U3.out.step HZ.out HY.out (FF.out.2 ⟨by omega, by omega⟩))
                  go_wp2
                  go_roundw
                  case rel => exact ⟨j + 1, by omega, by go_num, F4.out, SX.out⟩
                  case measure => simp [intOf]; omega
            · have hjl' : j = l.length := by omega
              subst hjl'
              go_wp2
              go_roundw
              case rel => exact ⟨i + 1, by omega, by go_num, F3.out, U3.out.next HZ.out⟩
              case measure => simp [intOf]; omega
        · have hie : i = g'.length := by omega
          subst hie
          go_wp2
          go_roundw
          case rel => exact ⟨k + 1, by omega, by go_num, F2.out, fun s f g hs hf hg => by
            rcases (show s < k ∨ s = k by omega) with h | rfl
            · exact U1.out s f g h hf hg
            · rw [FL.out] at hf; cases hf; rw [GL.out] at hg; cases hg; exact U2.out.all⟩
          case measure => simp [intOf]; omega
    · have hke : k = len' := by omega
      subst hke
      go_wp2
      go_ret
      exact BoolRet.yes (fun s f g hf hg => U1.out s f g (by have := (List.getElem?_eq_some_iff.1 hf).1; have := HM.out.len; omega) hf hg) rfl F1.out.below

set_option maxRecDepth 100000 in
set_option maxHeartbeats 4000000 in
theorem rsame_yes (K K2 : Nat → Prop) (a b : Option Addr) (la ca lb cb : Nat) (xs : List (List (List Int))) (w : World) (ra : Cube K w a la ca xs) (rb : Cube K2 w b lb cb xs) :
    Calls Try.prog 23 #[.slice a la ca, .slice b lb cb] w fun e w' => e = .returned (.bool true) ∧ Below w.heap.size w w' := by
  obtain rfl : la = lb := by rw [← ra.hlen, ← rb.hlen]
  have hl := ra.hsz
  have RA := Lib.hid ra; have RB := Lib.hid rb
  clear ra rb
  have hll : ((la : Int) != (la : Int)) = false := by simp
  go_enter Try.func23, Try.ntmps23
  go_wp2
  go_loopw [15] (fun i wr => ∃ k : Nat, k ≤ la ∧ i = .int .i64 k ∧ Below w.heap.size w wr) (fun i _ => la - (intOf i).toNat)
  case atStart => exact ⟨0, Nat.zero_le _, rfl, Below.refl _ _⟩
  case round =>
    obtain ⟨k, hk, rfl, b1⟩ := hrel
    have B1 := Lib.hid b1
    clear b1
    by_cases hlt : k < la
    · obtain ⟨b1, o1, f, xa, xn, xc, rfl, hx, hcx, hrx, _, hb1⟩ := Rows.get RA.out hlt
      obtain ⟨b2, o2, g, ya, yn, yc, rfl, hy, hcy, hry, _, hb2⟩ := Rows.get RB.out hlt
      obtain rfl : f = g := by rw [hx] at hy; cases hy; rfl
      obtain rfl : xn = yn := by rw [← hrx.hlen, ← hry.hlen]
      have hxn := hrx.hsz
      have HX := Lib.hid hrx; have HY := Lib.hid hry; have HCX := Lib.hid hcx; have HCY := Lib.hid hcy
      have q0 : (0 : Int) ≤ (k : Int) := by omega
      have q1 : (k : Int) < (la : Int) := by omega
      have hxx : ((xn : Int) != (xn : Int)) = false := by simp
      have dx := cell_later B1.out hcx; have dy := cell_later B1.out hcy
      clear hx hy hrx hry hcx hcy
      go_wp2
      go_quiet (fail)
      have B2 := Lib.hid (below_drewN B1.out nq)
      clear dx dy
      have dx := cell_later B2.out HCX.out
      go_wp2
      clear dx
      go_loopw [34] (fun i wr => ∃ j : Nat, j ≤ xn ∧ i = .int .i64 j ∧ Below w.heap.size w wr) (fun i _ => xn - (intOf i).toNat)
      case atStart => exact ⟨0, Nat.zero_le _, rfl, B2.out⟩
      case round =>
        obtain ⟨j, hj, rfl, b3⟩ := hrel
        have B3 := Lib.hid b3
        clear b3
        by_cases hjl : j < xn
        · obtain ⟨b3, o3, l, za, zn, zc, rfl, hz, hcz, hrz, _, hb3⟩ := Rows.get HX.out hjl
          obtain ⟨b4, o4, l', za', zn', zc', rfl, hz', hcz', hrz', _, hb4⟩ := Rows.get HY.out hjl
          obtain rfl : l = l' := by rw [hz] at hz'; cases hz'; rfl
          obtain rfl : zn = zn' := by rw [← hrz.hlen, ← hrz'.hlen]
          have hzn := hrz.hsz
          have HZ := Lib.hid hrz; have HZ' := Lib.hid hrz'; have HCZ := Lib.hid hcz; have HCZ' := Lib.hid hcz'
          have q2 : (0 : Int) ≤ (j : Int) := by omega
          have q3 : (j : Int) < (xn : Int) := by omega
          have hzz : ((zn : Int) != (zn : Int)) = false := by simp
          have dx := cell_later B3.out HCX.out; have dy := cell_later B3.out HCY.out; have ex := cell_later B3.out hcz; have ey := cell_later B3.out hcz'
          clear hz hz' hrz hrz' hcz hcz'
          go_wp2
          go_quiet (fail)
          have B4 := Lib.hid (below_drewN B3.out nq)
          clear dx dy ex ey
          have dx := cell_later B4.out HCX.out; have ex := cell_later B4.out HCZ.out
          go_wp2
          clear dx ex
          go_loopw [62] (fun i wr => ∃ p : Nat, p ≤ zn ∧ i = .int .i64 p ∧ Below w.heap.size w wr) (fun i _ => zn - (intOf i).toNat)
          case atStart => exact ⟨0, Nat.zero_le _, rfl, B4.out⟩
          case round =>
            obtain ⟨p, hp, rfl, b5⟩ := hrel
            have B5 := Lib.hid b5
            clear b5
            by_cases hpl : p < zn
            · obtain ⟨b5, o5, z, rfl, hv, hcv, _, _, _, hb5⟩ := Ints.get HZ.out hpl
              obtain ⟨b6, o6, z', rfl, hv', hcv', _, _, _, hb6⟩ := Ints.get HZ'.out hpl
              obtain rfl : z = z' := by rw [hv] at hv'; cases hv'; rfl
              have q4 : (0 : Int) ≤ (p : Int) := by omega
              have q5 : (p : Int) < (zn : Int) := by omega
              have hvv : (z != z) = false := by simp
              have dx := cell_later B5.out HCX.out; have dy := cell_later B5.out HCY.out; have ex := cell_later B5.out HCZ.out; have ey := cell_later B5.out HCZ'.out; have gx := cell_later B5.out hcv; have gy := cell_later B5.out hcv'
              clear hv hv' hcv hcv'
              go_wp2
              go_quiet (fail)
              have B6 := Lib.hid (below_drewN B5.out nq)
              clear dx dy ex ey gx gy
              go_wp2
              go_roundw
              case rel => exact ⟨p + 1, by omega, by go_num, B6.out⟩
              case measure => simp [intOf]; omega
            · go_wp2
              go_roundw
              case rel => exact ⟨j + 1, by omega, by go_num, B5.out⟩
              case measure => simp [intOf]; omega
        · go_wp2
          go_roundw
          case rel => exact ⟨k + 1, by omega, by go_num, B3.out⟩
          case measure => simp [intOf]; omega
    · go_wp2
      go_ret
      exact ⟨rfl, B1.out⟩
end Go.Proofs.Ytikhbijobkkhgaa
