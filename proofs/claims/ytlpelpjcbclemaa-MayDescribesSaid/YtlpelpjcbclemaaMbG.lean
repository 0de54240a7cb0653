/-
  The document's Valid (lines that can be there).
-/
import Derived.Test.YtlpelpjcbclemaaMaT
import Derived.Test.YtlpelpjcbclemaaZMuR
namespace Go.Proofs.Ytlpelpjcbclemaa
open Go.RowKit

def ValidY (S W : Nat) (m : List (List (List Int))) (o : List Int) : Prop := ValidM S W m ∧ o.length = S ∧ ∀ x, x ∈ o → 0 ≤ x ∧ x ≤ (W : Int)
theorem YSt.valid {U : List Int} {S W : Nat} {m : List (List (List Int))} {o : List Int} (h : YSt U S W m o) : ValidY S W m o := by
  refine ⟨MSt.valid (U := U) ⟨h.len, fun s g hs => ?_⟩, h.olen, fun x hx => ?_⟩
  · obtain ⟨k, _, hy⟩ := h.set s g hs
    exact hy.ws
  · obtain ⟨i, hi⟩ := List.getElem?_of_mem hx
    have hlt : i < S := by rw [← h.olen]; exact (List.getElem?_eq_some_iff.1 hi).1
    obtain ⟨g, k, _, hk, _, _, hy⟩ := h.at hlt
    rw [hk] at hi
    have := hy.ole
    cases hi
    omega
set_option maxRecDepth 100000 in
set_option maxHeartbeats 4000000 in
theorem yrvalid_any (S W L : Nat) (hc : COk S W L) (K : Nat → Prop) (a : Option Addr) (len cap : Nat) (oa : Option Addr) (on oc : Nat) (m : List (List (List Int))) (o : List Int) (w : World) (r : YCub K w a len cap oa on oc m o) :
    Calls Try.prog 27 #[CV S W L, YV a len cap oa on oc] w (BoolIff (ValidY S W m o) w) := by
  have hC := Lib.hid hc
  obtain ⟨g1, g2, g3, g4, g5, g6⟩ := hc
  have hl := r.cub.hlen; have hn := r.ints.hlen; have h6 := r.ints.hsz
  have HR := Lib.hid (ints_old r); have HN := Lib.hid hn
  have F0 := Lib.hid (Fm.new (Fm.new (Fm.start Non w) rfl [.int .i64 S, .int .i64 W, .int .i64 L] 26) (by simp) [.slice a len cap, .slice oa on oc] 31)
  have a0 := F0.out.h1.cell 0 _ rfl; have l1 := F0.out.h1.lt (by simp)
  clear r hl hn
  have SH := Lib.hid (fun w' (hb : Below w.heap.size w w') => rshaped_any S W L hC.out _ a len cap m w' (HR.out.below hb).cub)
  by_cases hv : ValidM S W m
  · have HV := Lib.hid hv
    clear hv
    by_cases hne : on = S
    · subst hne
      have hq : ((on : Int) != (on : Int)) = false := by simp
      go_enter Try.func27, Try.ntmps27
      go_wp2_with fail
      refine (SH.out _ F0.out.below).mono ?_
      rintro e w1 ⟨b, rfl, hb, hw⟩
      obtain rfl : b = true := hb.2 HV.out
      have F1 := Lib.hid (Fm.call hw F0.out)
      clear a0 l1 hb hw F0
      have a1 := F1.out.h1.cell 1 _ rfl; have c0 := F1.out.h0.cell 0 _ rfl; have lc := F1.out.h0.lt (by simp); have l1 := F1.out.h1.lt (by simp)
      go_wp2_with fail
      clear a1 c0 lc l1
      go_loopw [23] (fun i wr => ∃ k : Nat, k ≤ on ∧ i = .int .i64 k ∧ (∀ x, x ∈ o.take k → 0 ≤ x ∧ x ≤ (W : Int)) ∧ Fm Non w wr [[.int .i64 on, .int .i64 W, .int .i64 L], [.slice a len cap, .slice oa on oc]]) (fun i _ => on - (intOf i).toNat)
      case atStart => exact ⟨0, Nat.zero_le _, rfl, by simp, F1.out⟩
      case round =>
        clear F1
        obtain ⟨k, hk, rfl, hT, hF⟩ := hrel
        have F2 := Lib.hid hF; have HT := Lib.hid hT
        clear hF hT
        by_cases hlt : k < on
        · obtain ⟨b, p, x, rfl, hx, hcx, hx1, hx2, _, hbx⟩ := Ints.get HR.out.ints hlt
          have cx := (F2.out.below.cell (p := ⟨b, p + k, none⟩) hbx).trans hcx
          have HX := Lib.hid hx
          have c1 := F2.out.h0.cell 1 _ rfl; have lc := F2.out.h0.lt (by simp)
          clear hx hcx
          by_cases h0 : x < 0
          · have NO := Lib.hid (show ¬ ValidY on W m o from fun h => by have := h.2.2 x (List.mem_of_getElem? HX.out); omega)
            go_wp2
            go_ret
            exact BoolIff.no rfl NO.out F2.out.below
          · by_cases h1 : (x > (W : Int))
            · have NO := Lib.hid (show ¬ ValidY on W m o from fun h => by have := h.2.2 x (List.mem_of_getElem? HX.out); omega)
              go_wp2
              go_ret
              exact BoolIff.no rfl NO.out F2.out.below
            · have HT2 := Lib.hid (show ∀ y, y ∈ o.take (k + 1) → 0 ≤ y ∧ y ≤ (W : Int) from fun y hy => by
                rw [List.take_add_one, HX.out, List.mem_append] at hy
                rcases hy with h | h
                · exact HT.out y h
                · simp at h; subst h; omega)
              go_wp2
              go_roundw
              case rel => exact ⟨k + 1, by omega, by go_num, HT2.out, F2.out⟩
              case measure => simp [intOf]; omega
        · obtain rfl : k = on := by omega
          have YES := Lib.hid (show ValidY k W m o from ⟨HV.out, HN.out, fun x hx => HT.out x (by rw [List.take_of_length_le (by rw [HN.out]; exact Nat.le_refl _)]; exact hx)⟩)
          go_wp2
          go_ret
          exact BoolIff.yes rfl YES.out F2.out.below
    · have NO := Lib.hid (show ¬ ValidY S W m o from fun h => hne (by have := h.2.1; have := HN.out; omega))
      have hq : ((on : Int) != (S : Int)) = true := by simp; omega
      go_enter Try.func27, Try.ntmps27
      go_wp2_with fail
      refine (SH.out _ F0.out.below).mono ?_
      rintro e w1 ⟨b, rfl, hb, hw⟩
      obtain rfl : b = true := hb.2 HV.out
      have F1 := Lib.hid (Fm.call hw F0.out)
      clear a0 l1 hb hw F0
      have a1 := F1.out.h1.cell 1 _ rfl; have c0 := F1.out.h0.cell 0 _ rfl; have lc := F1.out.h0.lt (by simp); have l1 := F1.out.h1.lt (by simp)
      go_wp2
      go_ret
      exact BoolIff.no rfl NO.out F1.out.below
  · have NO := Lib.hid (show ¬ ValidY S W m o from fun h => hv h.1)
    have HV := Lib.hid hv
    clear hv
    go_enter Try.func27, Try.ntmps27
    go_wp2_with fail
    refine (SH.out _ F0.out.below).mono ?_
    rintro e w1 ⟨b, rfl, hb, hw⟩
    obtain rfl : b = false := by
      cases b with
      | false => rfl
      | true => exact absurd (hb.1 rfl) HV.out
    have F1 := Lib.hid (Fm.call hw F0.out)
    clear a0 l1 hb hw F0
    go_wp2
    go_ret
    exact BoolIff.no rfl NO.out F1.out.below
end Go.Proofs.Ytlpelpjcbclemaa
