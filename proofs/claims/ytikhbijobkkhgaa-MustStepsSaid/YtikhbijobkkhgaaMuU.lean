/-
  ages.Valid, must.Valid.
-/
import Derived.Test.YtikhbijobkkhgaaMuT
namespace Go.Proofs.Ytikhbijobkkhgaa
open Go.RowKit

theorem asc_get {l : List Int} (h : l.Pairwise (· < ·)) {i j : Nat} {x y : Int} (hx : l[i]? = some x) (hy : l[j]? = some y) (hij : i < j) : x < y := by
  obtain ⟨h1, rfl⟩ := List.getElem?_eq_some_iff.1 hx
  obtain ⟨h2, rfl⟩ := List.getElem?_eq_some_iff.1 hy
  exact List.pairwise_iff_getElem.1 h i j h1 h2 hij
def ValidM (S W : Nat) (m : List (List (List Int))) : Prop := m.length = S ∧ ∀ (s : Nat) g, m[s]? = some g → g.length = W ∧ SetV S s g
theorem MSt.valid {U : List Int} {S W : Nat} {m : List (List (List Int))} (h : MSt U S W m) : ValidM S W m := ⟨h.len, fun s g hs => by
  have hw := h.set s g hs
  refine ⟨hw.len, fun i p l x hl hx => ?_⟩
  have hxl : x ∈ l := List.mem_of_getElem? hx
  have hP := hw.mem i x ⟨l, hl, hxl⟩
  have ha := hw.asc i l hl
  refine ⟨⟨hP.1, hP.2.1⟩, hP.2.2.1, fun y hp hy => ?_, fun hin => ?_⟩
  · exact asc_get ha hy hx (by omega)
  · rcases List.mem_append.1 hin with h1 | h1
    · obtain ⟨l', hl', hx'⟩ := List.mem_flatten.1 h1
      obtain ⟨q, hq⟩ := List.getElem?_of_mem hl'
      have hqi : q < i := by
        have := (List.getElem?_eq_some_iff.1 hq).1
        rw [List.length_take] at this
        omega
      rw [List.getElem?_take, if_pos hqi] at hq
      have := hw.once q i x ⟨l', hq, hx'⟩ ⟨l, hl, hxl⟩
      omega
    · obtain ⟨q, hq⟩ := List.getElem?_of_mem h1
      have hqp : q < p := by
        have := (List.getElem?_eq_some_iff.1 hq).1
        rw [List.length_take] at this
        omega
      rw [List.getElem?_take, if_pos hqp] at hq
      have := asc_get ha hq hx hqp
      omega⟩

set_option maxHeartbeats 4000000 in
theorem avalid_any (S W L : Nat) (hc : COk S W L) (K : Nat → Prop) (a : Option Addr) (len cap : Nat) (m : List (List (List Int))) (w : World) (r : Cube K w a len cap m) :
    Calls Try.prog 40 #[CV S W L, .slice a len cap] w (BoolRet (ValidM S W m) w) := by
  have hC := Lib.hid hc
  obtain ⟨g1, g2, g3, g4, g5, g6⟩ := hc
  have hcp := r.hcap
  have HL := Lib.hid r.hlen
  have HR := Lib.hid r; clear r
  have F0 := Lib.hid (Fm.new (Fm.start Non w) rfl [.int .i64 S, .int .i64 W, .int .i64 L] 26)
  by_cases hlS : len = S
  · subst hlS
    have hne : ((len : Int) != (len : Int)) = false := by simp
    go_enter Try.func40, Try.ntmps40
    go_wp2_with fail
    refine (check_ok _ _ _ hC.out _).mono ?_
    rintro e w1 ⟨rfl, hb1⟩
    have F1 := Lib.hid (Fm.call hb1 F0.out)
    have c0 := F1.out.h0.cell 0 _ rfl; have c1 := F1.out.h0.cell 1 _ rfl; have c2 := F1.out.h0.cell 2 _ rfl; have lt0 := F1.out.h0.lt (by simp)
    clear hb1
    go_wp2
    clear c0 c1 c2 lt0
    go_loopw [19] (fun i wr => ∃ k : Nat, k ≤ len ∧ i = .int .i64 k ∧ Fm Non w wr [[.int .i64 len, .int .i64 W, .int .i64 L]] ∧ ∀ (s : Nat) g, s < k → m[s]? = some g → g.length = W ∧ SetV len s g) (fun i _ => len - (intOf i).toNat)
    case atStart => exact ⟨0, Nat.zero_le _, rfl, F1.out, fun s g h => absurd h (Nat.not_lt_zero _)⟩
    case round =>
      obtain ⟨k, hk, rfl, f1, u1⟩ := hrel
      have F2 := Lib.hid f1; have U2 := Lib.hid u1
      have c0 := f1.h0.cell 0 _ rfl; have c1 := f1.h0.cell 1 _ rfl; have c2 := f1.h0.cell 2 _ rfl; have lt0 := f1.h0.lt (by simp)
      clear f1 u1
      by_cases hlt : k < len
      · obtain ⟨b, o, g, ga, gl, gc, rfl, hg, hcg, hrg, _, hbw⟩ := Rows.get HR.out hlt
        have hgl := hrg.hlen
        have cw := (F2.out.below.cell (p := ⟨b, o + k, none⟩) hbw).trans hcg
        have GL := Lib.hid hg; have GLn := Lib.hid hgl
        have RG := Lib.hid (Row.below (RSl.stays RInt.stays) hrg F2.out.below)
        have q0 : (0 : Int) ≤ (k : Int) := by omega
        have q1 : (k : Int) < (len : Int) := by omega
        clear hg hcg hrg hgl
        by_cases hgW : gl = W
        · subst hgW
          have hne2 : ((gl : Int) != (gl : Int)) = false := by simp
          have LI := Lib.hid (lists_any len gl L hC.out (by omega) k hlt K ga gl gc (by omega) g wr RG.out)
          go_wp2_with fail
          refine LI.out.mono ?_
          rintro e w3 ⟨bb, rfl, hbb, hb3⟩
          have F3 := Lib.hid (Fm.call hb3 F2.out)
          have HB := Lib.hid hbb
          clear hb3 hbb c0 c1 c2 lt0 cw
          cases bb with
          | true =>
            go_wp2
            go_roundw
            case rel => exact ⟨k + 1, by omega, by go_num, F3.out, fun s g' hs hg' => by
              rcases Nat.lt_or_eq_of_le (Nat.le_of_lt_succ hs) with h | rfl
              · exact U2.out s g' h hg'
              · rw [GL.out] at hg'; cases hg'; exact ⟨GLn.out, by simpa using HB.out⟩⟩
            case measure => simp [intOf]; omega
          | false =>
            go_wp2
            go_ret
            exact BoolRet.no (fun h => by have := HB.out; simp at this; exact this (h.2 k g GL.out).2) rfl F3.out.below
        · have hne2 : ((gl : Int) != (W : Int)) = true := by simp; omega
          go_wp2
          go_ret
          exact BoolRet.no (fun h => hgW (GLn.out.symm.trans (h.2 k g GL.out).1)) rfl F2.out.below
      · have hkl : k = len := by omega
        subst hkl
        go_wp2
        go_ret
        exact BoolRet.yes ⟨HL.out, fun s g hg => U2.out s g (by have := (List.getElem?_eq_some_iff.1 hg).1; have := HL.out; omega) hg⟩ rfl F2.out.below
  · have hne : ((len : Int) != (S : Int)) = true := by simp; omega
    go_enter Try.func40, Try.ntmps40
    go_wp2_with fail
    refine (check_ok _ _ _ hC.out _).mono ?_
    rintro e w1 ⟨rfl, hb1⟩
    have F1 := Lib.hid (Fm.call hb1 F0.out)
    have c0 := F1.out.h0.cell 0 _ rfl; have c1 := F1.out.h0.cell 1 _ rfl; have c2 := F1.out.h0.cell 2 _ rfl; have lt0 := F1.out.h0.lt (by simp)
    clear hb1
    go_wp2
    go_ret
    exact BoolRet.no (fun h => hlS (HL.out.symm.trans h.1)) rfl F1.out.below

theorem mvalid_any (S W L : Nat) (hc : COk S W L) (K : Nat → Prop) (a : Option Addr) (len cap : Nat) (m : List (List (List Int))) (w : World) (r : Cube K w a len cap m) :
    Calls Try.prog 15 #[CV S W L, .agg #[.slice a len cap]] w (BoolRet (ValidM S W m) w) := by
  have F0 := Lib.hid (Fm.new (Fm.new (Fm.start Non w) rfl [.int .i64 S, .int .i64 W, .int .i64 L] 26) (by simp) [.slice a len cap] 30)
  have AV := Lib.hid (avalid_any S W L hc K a len cap m _ (Row.below (RSl.stays (RSl.stays RInt.stays)) r F0.out.below))
  clear hc r
  go_enter Try.func15, Try.ntmps15
  go_wp2_with fail
  refine AV.out.mono ?_
  rintro e w3 ⟨bb, rfl, hbb, hb3⟩
  have HB := Lib.hid hbb
  have F3 := Lib.hid (Fm.call hb3 F0.out)
  clear hb3 hbb
  go_wp2
  go_ret
  exact ⟨bb, rfl, HB.out, F3.out.below⟩
end Go.Proofs.Ytikhbijobkkhgaa
