/-
  cache.set, Valid, checked: whether contents are right; cache.Line, Set.
-/
import Derived.Test.YtdkpfifnegndmaaCacheA
namespace Go.Proofs.Ytdkpfifnegndmaa
open Go.RowKit

theorem Ints.take {K : Nat → Prop} {w : World} {a : Option Addr} {len cap : Nat} {xs : List Int} (r : Ints K w a len cap xs) {k : Nat} (h : k ≤ len) : Ints K w a k cap (xs.take k) :=
  ⟨by rw [List.length_take, r.hlen]; omega, by have := r.hcap; omega, r.hmax, by have := r.hsz; omega, fun i x e => by
    rw [List.getElem?_take] at e
    split at e
    · exact r.row i x e
    · cases e⟩

def ElemOk (S n : Int) (zs : List Int) (i : Nat) (z : Int) : Prop := z = -1 ∨ (0 ≤ z ∧ z ≤ 1048576 ∧ z % S = n ∧ z ∉ zs.take i ∧ -1 ∉ zs.take i)
/-- A set of right contents. -/
def SetOk (S W n : Int) (zs : List Int) : Prop := (zs.length : Int) = W ∧ ∀ i z, zs[i]? = some z → ElemOk S n zs i z
def BoolRet (p : Prop) (w : World) (e : Ending) (w' : World) : Prop := ∃ b : Bool, e = .returned (.bool b) ∧ (b = true ↔ p) ∧ Below w.heap.size w w'
theorem BoolRet.yes {p : Prop} {w w' : World} {e : Ending} (h : p) (he : e = .returned (.bool true)) (hb : Below w.heap.size w w') : BoolRet p w e w' := ⟨true, he, by simp [h], hb⟩
theorem BoolRet.no {p : Prop} {w w' : World} {e : Ending} (h : ¬ p) (he : e = .returned (.bool false)) (hb : Below w.heap.size w w') : BoolRet p w e w' := ⟨false, he, by simp [h], hb⟩

theorem elem_bad {S n : Int} {zs : List Int} {k : Nat} {z W : Int} (hz : zs[k]? = some z) (h : ¬ ElemOk S n zs k z) : ¬ SetOk S W n zs := fun hs => h (hs.2 k z hz)

set_option maxHeartbeats 1000000 in
theorem set_any (S W L n : Int) (hc : COk S W L) (hS : 1 ≤ S) (K : Nat → Prop) (a : Option Addr) (len cap : Nat) (zs : List Int) (w : World) (r : Ints K w a len cap zs) :
    Calls Try.prog 33 #[CV S W L, .int .i64 n, .slice a len cap] w (BoolRet (SetOk S W n zs) w) := by
  obtain ⟨h1, h2, h3, h4, h5, h6⟩ := hc
  have hl := r.len63
  have hcp := r.hcap
  have hbel : Below w.heap.size w (w.alloc (.cells #[.int .i64 S, .int .i64 W, .int .i64 L] 29)) := (Below.refl _ _).alloc (Nat.le_refl _) _
  have HR := Lib.hid (r.below hbel); have HR0 := Lib.hid r; clear r
  have HB := Lib.hid hbel; clear hbel
  by_cases hw : (len : Int) = W
  · have hw' : ((len : Int) != W) = false := by simp [hw]
    have HW := Lib.hid hw; clear hw
    go_enter Try.func33, Try.ntmps33
    go_wp2
    go_loop [16] (fun i => ∃ k : Nat, k ≤ len ∧ i = .int .i64 k ∧ ∀ i z, i < k → zs[i]? = some z → ElemOk S n zs i z) (fun i => len - (intOf i).toNat)
    case atStart => exact ⟨0, Nat.zero_le _, rfl, fun i z h => absurd h (Nat.not_lt_zero _)⟩
    case round =>
      obtain ⟨k, hk, rfl, hno⟩ := hrel
      have HN := Lib.hid hno; clear hno
      by_cases hlt : k < len
      · obtain ⟨b, o, z, rfl, hz, hcz, hz1, hz2, _, hbw⟩ := Ints.get HR0.out hlt
        have hkc : k ≤ cap := by omega
        have HZ := Lib.hid hz; clear hz
        have next : ElemOk S n zs k z → ∀ i y, i < k + 1 → zs[i]? = some y → ElemOk S n zs i y := fun he i y hi hy => by
          rcases Nat.lt_or_eq_of_le (Nat.le_of_lt_succ hi) with h | rfl
          · exact HN.out i y h hy
          · rw [HZ.out] at hy; cases hy; exact he
        have bad : ¬ ElemOk S n zs k z → ¬ SetOk S W n zs := elem_bad HZ.out
        have NX := Lib.hid next; have BD := Lib.hid bad; clear next bad
        by_cases hm : z = -1
        · have hmb : (z == -1) = true := by simp [hm]
          have HM := Lib.hid hm; clear hm
          go_wp2
          go_round
          case rel => exact ⟨k + 1, by omega, by go_num, NX.out (.inl HM.out)⟩
          case measure => simp [intOf]; omega
        · have hmb : (z == -1) = false := by simp [hm]
          by_cases hbt : 0 ≤ z ∧ z ≤ 1048576
          · obtain ⟨g1, g2⟩ := hbt
            by_cases hmod : z % S = n
            · have hmodb : (z % S != n) = false := by simp [hmod]
              have HMO := Lib.hid hmod; clear hmod
              have q1 := contains_any K _ k cap (zs.take k) z _ (HR.out.take (by omega))
              have q2 := contains_any K _ k cap (zs.take k) (-1) _ (HR.out.take (by omega))
              by_cases hin : z ∈ zs.take k
              · rw [decide_eq_true hin] at q1
                have Q1 := Lib.hid q1; have Q2 := Lib.hid q2; have HI := Lib.hid hin; clear q1 q2 hin
                go_wp2_with fail
                refine (between_yes _ _ _ (by omega) (by omega) _).mono ?_
                rintro e w' ⟨rfl, rfl⟩
                go_wp2_with fail
                refine Q1.out.mono ?_
                rintro e w' ⟨rfl, rfl⟩
                go_wp2
                go_ret
                exact BoolRet.no (BD.out fun h => h.elim (fun h => hm h) (fun h => h.2.2.2.1 HI.out)) rfl HB.out
              · rw [decide_eq_false hin] at q1
                by_cases him : -1 ∈ zs.take k
                · rw [decide_eq_true him] at q2
                  have Q1 := Lib.hid q1; have Q2 := Lib.hid q2; have HI := Lib.hid him; clear q1 q2 hin him
                  go_wp2_with fail
                  refine (between_yes _ _ _ (by omega) (by omega) _).mono ?_
                  rintro e w' ⟨rfl, rfl⟩
                  go_wp2_with fail
                  refine Q1.out.mono ?_
                  rintro e w' ⟨rfl, rfl⟩
                  go_wp2_with fail
                  refine Q2.out.mono ?_
                  rintro e w' ⟨rfl, rfl⟩
                  go_wp2
                  go_ret
                  exact BoolRet.no (BD.out fun h => h.elim (fun h => hm h) (fun h => h.2.2.2.2 HI.out)) rfl HB.out
                · rw [decide_eq_false him] at q2
                  have Q1 := Lib.hid q1; have Q2 := Lib.hid q2; have HI := Lib.hid him; have HJ := Lib.hid hin; clear q1 q2 hin him
                  go_wp2_with fail
                  refine (between_yes _ _ _ (by omega) (by omega) _).mono ?_
                  rintro e w' ⟨rfl, rfl⟩
                  go_wp2_with fail
                  refine Q1.out.mono ?_
                  rintro e w' ⟨rfl, rfl⟩
                  go_wp2_with fail
                  refine Q2.out.mono ?_
                  rintro e w' ⟨rfl, rfl⟩
                  go_wp2
                  go_round
                  case rel => exact ⟨k + 1, by omega, by go_num, NX.out (.inr ⟨g1, g2, HMO.out, HJ.out, HI.out⟩)⟩
                  case measure => simp [intOf]; omega
            · have hmodb : (z % S != n) = true := by simp [hmod]
              go_wp2_with fail
              refine (between_yes _ _ _ (by omega) (by omega) _).mono ?_
              rintro e w' ⟨rfl, rfl⟩
              go_wp2
              go_ret
              exact BoolRet.no (BD.out fun h => h.elim (fun h => hm h) (fun h => hmod h.2.2.1)) rfl HB.out
          · go_wp2_with fail
            refine (between_no _ _ _ (by omega) _).mono ?_
            rintro e w' ⟨rfl, rfl⟩
            go_wp2
            go_ret
            exact BoolRet.no (BD.out fun h => h.elim (fun h => hm h) (fun h => hbt ⟨h.1, h.2.1⟩)) rfl HB.out
      · go_wp2
        go_ret
        exact BoolRet.yes ⟨by rw [HR0.out.hlen]; exact HW.out, fun i z h => HN.out i z (by have := (List.getElem?_eq_some_iff.1 h).1; have := HR0.out.hlen; omega) h⟩ rfl HB.out
  · have hw' : ((len : Int) != W) = true := by simp [hw]
    go_enter Try.func33, Try.ntmps33
    go_wp2
    go_ret
    exact BoolRet.no (fun h => hw (by rw [← h.1, HR0.out.hlen])) rfl HB.out
end Go.Proofs.Ytdkpfifnegndmaa
