/-
  ages.Find: the age of a line in a set whose lists ascend; the document's Place.
  must.set, must.Age, the document's Age: the age of a line in a state.
-/
import Derived.Deep.DeepCutAuto
import Derived.Deep.LoopGhost
import Derived.Test.YtlpelpjcbclemaaMuA
import Derived.Test.YtlpelpjcbclemaaMuS
import Derived.Test.YtlpelpjcbclemaaZCacheA
import Derived.Test.YtlpelpjcbclemaaZGrow
namespace Go.Proofs.Ytlpelpjcbclemaa
open Go.RowKit

theorem Ints.cells {K : Nat → Prop} {w : World} {b off len cap : Nat} {zs : List Int} (r : Ints K w (some ⟨b, off, none⟩) len cap zs) : ∀ j, j < zs.length → w.cell? ⟨b, off + j, none⟩ = some (.int .i64 (zs.getD j 0)) := fun j hj => by
  obtain ⟨b', o, z, e, hz, hc, _⟩ := Ints.get r (i := j) (by rw [← r.hlen]; exact hj)
  cases e
  rw [hc, List.getD_eq_getElem?_getD, hz]; rfl
theorem Row.addr {α : Type} {R : Rd α} {sz : Nat} {K : Nat → Prop} {w : World} {a : Option Addr} {len cap : Nat} {xs : List α} (r : Row R sz K w a len cap xs) (h : 0 < len) : ∃ b o, a = some ⟨b, o, none⟩ ∧ K b ∧ b < w.heap.size := by
  obtain ⟨x, e⟩ : ∃ x, xs[0]? = some x := ⟨_, List.getElem?_eq_getElem (by rw [r.hlen]; exact h)⟩
  obtain ⟨b, o, h1, h2, h3, _⟩ := r.row 0 x e
  exact ⟨b, o, h1, h2, h3⟩
def cnt (zs : List Int) (x : Int) : Nat := zs.countP (· < x)
def BsRet (zs : List Int) (x : Int) (w : World) (e : Ending) (w' : World) : Prop := e = .returned (.tuple #[.int .i64 (cnt zs x : Nat), .bool (decide (x ∈ zs))]) ∧ ∃ q, w' = w.drewN q
theorem bs_any (K : Nat → Prop) (a : Option Addr) (len cap : Nat) (zs : List Int) (x : Int) (w : World) (r : Ints K w a len cap zs) (hs : Asc zs) :
    Calls Try.prog 65 #[.slice a len cap, .int .i64 x] w (BsRet zs x w) := by
  have hl := r.hlen; have h6 := r.hsz
  subst hl
  by_cases h : 0 < zs.length
  · obtain ⟨b, o, rfl, _, _⟩ := r.addr h
    have := sh_slices_BinarySearch_int b o zs.length cap zs x w (Nat.le_refl _) (by omega) r.cells (by rw [List.take_length]; exact hs.imp (fun h => Int.le_of_lt h))
    refine this.mono fun e w' ⟨h1, h2⟩ => ⟨?_, h2⟩
    rw [h1, List.take_length]
    unfold cnt
    have : zs.contains x = decide (x ∈ zs) := by simp
    rw [this]
  · have : zs = [] := List.eq_nil_of_length_eq_zero (by omega)
    subst this
    exact (sh_slices_BinarySearch_int_empty a cap x w).mono fun e w' ⟨h1, h2⟩ => ⟨by rw [h1]; simp [cnt], 0, h2⟩

theorem fclo_any (K : Nat → Prop) (a : Option Addr) (len cap : Nat) (zs : List Int) (x : Int) (b : Nat) (w : World) (r : Ints K w a len cap zs) (hs : Asc zs) (hc : w.cell? ⟨b, 0, none⟩ = some (.int .i64 x)) :
    Calls Try.prog 64 #[.slice a len cap, .pointer (some ⟨b, 0, none⟩)] w fun e w' => e = .returned (.bool (decide (x ∈ zs))) ∧ ∃ q, w' = w.drewN q := by
  have B := Lib.hid (bs_any K a len cap zs x w r hs)
  clear r hs
  unfold BsRet at B
  go_enter Try.func64, Try.ntmps64
  go_wp2_with fail
  refine B.out.mono ?_
  rintro e w' ⟨rfl, q, rfl⟩
  go_wp2
  go_ret
  exact ⟨rfl, q, rfl⟩

def findI (g : List (List Int)) (n : Int) : Int := if plc g n < g.length then (plc g n : Int) else -1
theorem plc_take {g : List (List Int)} {n : Int} {k : Nat} {l : List Int} (h : ∀ i m, i < k → g[i]? = some m → n ∉ m) (hk : g[k]? = some l) (hl : n ∈ l) : plc g n = k := by
  have h1 := plc_min (g := g) (n := n) (i := k) ⟨l, hk, hl⟩
  rcases Nat.lt_or_eq_of_le h1 with h2 | h2
  · obtain ⟨m, h3, h4⟩ := plc_found (g := g) (n := n) (by have := (List.getElem?_eq_some_iff.1 hk).1; omega)
    exact absurd h4 (h _ m h2 h3)
  · exact h2
theorem plc_none' {g : List (List Int)} {n : Int} (h : ∀ (i : Nat) (m : List Int), g[i]? = some m → n ∉ m) : plc g n = g.length := plc_no fun i ⟨m, h1, h2⟩ => h i m h1 h2
theorem none_succ {g : List (List Int)} {n : Int} {k : Nat} {l : List Int} (h : ∀ i m, i < k → g[i]? = some m → n ∉ m) (hk : g[k]? = some l) (hl : n ∉ l) : ∀ i m, i < k + 1 → g[i]? = some m → n ∉ m := fun i m hi hm => by
  rcases Nat.lt_or_eq_of_le (Nat.le_of_lt_succ hi) with h1 | rfl
  · exact h i m h1 hm
  · rw [hk] at hm; cases hm; exact hl

set_option maxHeartbeats 1000000 in
theorem indexf_any (K : Nat → Prop) (a : Option Addr) (len cap : Nat) (g : List (List Int)) (x : Int) (b : Nat) (w : World) (r : Mat K w a len cap g) (hs : ∀ (i : Nat) l, g[i]? = some l → Asc l) (hc : w.cell? ⟨b, 0, none⟩ = some (.int .i64 x)) :
    Calls Try.prog 63 #[.slice a len cap, .func (.func 64) #[] #[.pointer (some ⟨b, 0, none⟩)]] w fun e w' => e = .returned (.int .i64 (findI g x)) ∧ ∃ q, w' = w.drewN q := by
  have hl := r.hlen; have h6 := r.hsz
  subst hl
  have HR := Lib.hid r; clear r
  have HS := Lib.hid hs; clear hs
  go_enter Try.func63, Try.ntmps63
  go_wp2
  go_loopw [8] (fun i wr => ∃ k q : Nat, k ≤ g.length ∧ i = .int .i64 k ∧ wr = w.drewN q ∧ ∀ i m, i < k → g[i]? = some m → x ∉ m) (fun i _ => g.length - (intOf i).toNat)
  case atStart => exact ⟨0, 0, Nat.zero_le _, rfl, rfl, fun i m h => absurd h (Nat.not_lt_zero _)⟩
  case round =>
    obtain ⟨k, q, hk, rfl, rfl, hno⟩ := hrel
    have HN := Lib.hid hno; clear hno
    by_cases hlt : k < g.length
    · obtain ⟨gb, go, l, ra, rl, rc, rfl, hx, hcw, hrx, _, _⟩ := Rows.get HR.out hlt
      have HX := Lib.hid hx; clear hx
      have C := Lib.hid (fclo_any K ra rl rc l x b (w.drewN q) (hrx.below RInt.stays (below_drewN (Below.refl _ _) q)) (HS.out k l HX.out) hc)
      clear hrx
      by_cases hm : x ∈ l
      · rw [decide_eq_true hm] at C
        have HM := Lib.hid hm; clear hm
        go_wp2_with fail
        refine C.out.mono ?_
        rintro e w' ⟨rfl, p, rfl⟩
        go_wp2
        go_ret
        have : findI g x = k := by unfold findI; rw [plc_take HN.out HX.out HM.out, if_pos hlt]
        exact ⟨ret_i this.symm, q + p, rfl⟩
      · rw [decide_eq_false hm] at C
        have HM := Lib.hid hm; clear hm
        go_wp2_with fail
        refine C.out.mono ?_
        rintro e w' ⟨rfl, p, rfl⟩
        go_wp2
        go_roundw
        case rel => exact ⟨k + 1, q + p, by omega, by go_num, rfl, none_succ HN.out HX.out HM.out⟩
        case measure => simp [intOf]; omega
    · go_wp2
      go_ret
      have : findI g x = -1 := by
        unfold findI
        rw [plc_none' (fun i m h => HN.out i m (by have := (List.getElem?_eq_some_iff.1 h).1; omega) h), if_neg (Nat.lt_irrefl _)]
      exact ⟨ret_i this.symm, q, rfl⟩
theorem find_any (K : Nat → Prop) (a : Option Addr) (len cap : Nat) (g : List (List Int)) (x : Int) (w : World) (r : Mat K w a len cap g) (hs : ∀ (i : Nat) l, g[i]? = some l → Asc l) :
    Calls Try.prog 43 #[.slice a len cap, .int .i64 x] w fun e w' => e = .returned (.int .i64 (findI g x)) ∧ Below w.heap.size w w' := by
  have hb : Below w.heap.size w (w.alloc (.cells #[.int .i64 x] 3)) := (Below.refl _ _).alloc (Nat.le_refl _) _
  have I := Lib.hid (indexf_any K a len cap g x w.heap.size (w.alloc (.cells #[.int .i64 x] 3)) (r.below hb) hs (by rw [World.cell?_alloc_new]; rfl))
  clear r hs
  go_enter Try.func43, Try.ntmps43
  go_wp2_with fail
  refine I.out.mono ?_
  rintro e w' ⟨rfl, q, rfl⟩
  go_wp2
  go_ret
  exact ⟨rfl, below_drewN hb q⟩

set_option maxHeartbeats 1000000 in
theorem place_any (K : Nat → Prop) (a : Option Addr) (len cap : Nat) (g : List (List Int)) (x : Int) (w : World) (r : Mat K w a len cap g) :
    Calls Try.prog 44 #[.slice a len cap, .int .i64 x] w fun e w' => e = .returned (.int .i64 (findI g x)) ∧ w = w' := by
  have hl := r.hlen; have h6 := r.hsz
  subst hl
  have HR := Lib.hid r; clear r
  go_enter Try.func44, Try.ntmps44
  go_wp2
  go_loop [11] (fun i => ∃ k : Nat, k ≤ g.length ∧ i = .int .i64 k ∧ ∀ i m, i < k → g[i]? = some m → x ∉ m) (fun i => g.length - (intOf i).toNat)
  case atStart => exact ⟨0, Nat.zero_le _, rfl, fun i m h => absurd h (Nat.not_lt_zero _)⟩
  case round =>
    obtain ⟨k, hk, rfl, hno⟩ := hrel
    have HN := Lib.hid hno; clear hno
    by_cases hlt : k < g.length
    · obtain ⟨gb, go, l, ra, rl, rc, rfl, hx, hcw, hrx, _, _⟩ := Rows.get HR.out hlt
      have HX := Lib.hid hx; clear hx
      have hl2 := hrx.hlen; have h62 := hrx.hsz
      subst hl2
      have HRX := Lib.hid hrx; clear hrx
      go_wp2
      go_loop [18] (fun i => ∃ j : Nat, j ≤ l.length ∧ i = .int .i64 j ∧ x ∉ l.take j) (fun i => l.length - (intOf i).toNat)
      case atStart => exact ⟨0, Nat.zero_le _, rfl, by simp⟩
      case round =>
        obtain ⟨j, hj, rfl, hnj⟩ := hrel
        have HJ := Lib.hid hnj; clear hnj
        by_cases hlj : j < l.length
        · obtain ⟨lb, lo, z, rfl, hz, hcz, hz1, hz2, _, _⟩ := Ints.get HRX.out hlj
          have HZ := Lib.hid hz; clear hz
          by_cases hxz : z = x
          · have hb : (z == x) = true := by simp [hxz]
            have HXZ := Lib.hid hxz; clear hxz
            go_wp2
            go_ret
            have : findI g x = k := by unfold findI; rw [plc_take HN.out HX.out (by rw [← HXZ.out]; exact List.mem_of_getElem? HZ.out), if_pos hlt]
            exact ⟨ret_i this.symm, rfl⟩
          · have hb : (z == x) = false := by simp [hxz]
            have HXZ := Lib.hid hxz; clear hxz
            go_wp2
            go_round
            case rel => exact ⟨j + 1, by omega, by go_num, not_mem_take_succ HJ.out HZ.out (fun h => HXZ.out h.symm)⟩
            case measure => simp [intOf]; omega
        · have hne : x ∉ l := by
            have := HJ.out
            rwa [List.take_of_length_le (by omega)] at this
          have HM := Lib.hid hne; clear hne
          go_wp2
          go_round
          case rel => exact ⟨k + 1, by omega, by go_num, none_succ HN.out HX.out HM.out⟩
          case measure => simp [intOf]; omega
    · go_wp2
      go_ret
      have : findI g x = -1 := by
        unfold findI
        rw [plc_none' (fun i m h => HN.out i m (by have := (List.getElem?_eq_some_iff.1 h).1; omega) h), if_neg (Nat.lt_irrefl _)]
      exact ⟨ret_i this.symm, rfl⟩
end Go.Proofs.Ytlpelpjcbclemaa
namespace Go.Proofs.Ytlpelpjcbclemaa
open Go.RowKit

/-- Lines of set s, of those of U. -/
def PS (U : List Int) (S s : Nat) (x : Int) : Prop := 0 ≤ x ∧ x ≤ 1048576 ∧ x % (S : Int) = s ∧ x ∈ U
/-- A valid state. -/
structure MSt (U : List Int) (S W : Nat) (m : List (List (List Int))) : Prop where
  len : m.length = S
  set : ∀ (s : Nat) g, m[s]? = some g → WSet (PS U S s) W g
def setN (S : Nat) (n : Int) : Nat := (n % (S : Int)).toNat
theorem setN_lt {S : Nat} (h : 0 < S) (n : Int) : setN S n < S := setof_lt h n
theorem setN_int {S : Nat} (h : 0 < S) (n : Int) : ((setN S n : Nat) : Int) = n % (S : Int) := by
  unfold setN; exact Int.toNat_of_nonneg (Int.emod_nonneg _ (by omega))
def ageN (S W : Nat) (m : List (List (List Int))) (n : Int) : Nat := if S = 0 then W else plc (m.getD (setN S n) []) n
theorem MSt.at {U : List Int} {S W : Nat} {m : List (List (List Int))} (h : MSt U S W m) {s : Nat} (hs : s < S) : ∃ g, m[s]? = some g ∧ m.getD s [] = g ∧ WSet (PS U S s) W g := by
  have e := List.getElem?_eq_getElem (l := m) (show s < m.length by rw [h.len]; exact hs)
  exact ⟨_, e, by rw [List.getD_eq_getElem?_getD, e]; rfl, h.set s _ e⟩
def setI (S : Nat) (n : Int) : Int := if S = 0 then -1 else n % (S : Int)

theorem ageN_found {S W : Nat} {m : List (List (List Int))} {n : Int} {g : List (List Int)} (h0 : ¬ S = 0) (hg : m.getD (setN S n) [] = g) : ageN S W m n = plc g n := by unfold ageN; rw [if_neg h0, hg]
theorem ageN_zero {W : Nat} {m : List (List (List Int))} {n : Int} : ageN 0 W m n = W := rfl
theorem WSet.ascs {P : Int → Prop} {W : Nat} {g : List (List Int)} (h : WSet P W g) : ∀ (i : Nat) l, g[i]? = some l → Asc l := h.asc
def IntBelow (n : Int) (w : World) (e : Ending) (w' : World) : Prop := e = .returned (.int .i64 n) ∧ Below w.heap.size w w'
end Go.Proofs.Ytlpelpjcbclemaa
