/-
  Either: what is known if one of the lines was used.
-/
import Derived.Test.YtikhbijobkkhgaaMuP
import Derived.Test.YtikhbijobkkhgaaHeadr
import Derived.Test.YtikhbijobkkhgaaKeep2
import Derived.Deep.DeepCutAuto
namespace Go.Proofs.Ytikhbijobkkhgaa
open Go.RowKit

def eitherP (S W : Nat) (m : List (List (List Int))) (lines : List Int) (k : Nat) : List (List (List Int)) := ((lines.drop 1).take k).foldl (fun out y => joinM W out (touchM S W m y)) (touchM S W m (lines.getD 0 0))
def eitherM (S W : Nat) (m : List (List (List Int))) (lines : List Int) : List (List (List Int)) := if lines = [] then m else eitherP S W m lines (lines.length - 1)
theorem eitherP_succ {S W k : Nat} {m : List (List (List Int))} {lines : List Int} {y : Int} (h : lines[1 + k]? = some y) : eitherP S W m lines (k + 1) = joinM W (eitherP S W m lines k) (touchM S W m y) := by
  unfold eitherP
  rw [List.take_add_one, List.foldl_append, List.getElem?_drop, h]
  rfl
def LnsOk (U : List Int) (lines : List Int) : Prop := ∀ x ∈ lines, 0 ≤ x ∧ x ≤ 1048576 ∧ x ∈ U
theorem eitherP_st {U : List Int} {S W : Nat} {m : List (List (List Int))} (h : MSt U S W m) (hW : 0 < W) {lines : List Int} (hl : LnsOk U lines) (h0 : 0 < lines.length) : ∀ k, MSt U S W (eitherP S W m lines k)
  | 0 => by
    have h1 : lines[0]? = some (lines.getD 0 0) := by rw [List.getD_eq_getElem?_getD, List.getElem?_eq_getElem h0]; rfl
    obtain ⟨a, b, c⟩ := hl _ (List.mem_of_getElem? h1)
    exact touch_st h hW a b c
  | k + 1 => by
    cases hx : lines[1 + k]? with
    | none =>
      have e : eitherP S W m lines (k + 1) = eitherP S W m lines k := by
        unfold eitherP
        rw [List.take_add_one, List.getElem?_drop, hx]
        simp
      rw [e]; exact eitherP_st h hW hl h0 k
    | some y =>
      obtain ⟨a, b, c⟩ := hl _ (List.mem_of_getElem? hx)
      rw [eitherP_succ hx]
      exact join_st (eitherP_st h hW hl h0 k) (touch_st h hW a b c)
theorem either_st {U : List Int} {S W : Nat} {m : List (List (List Int))} (h : MSt U S W m) (hW : 0 < W) {lines : List Int} (hl : LnsOk U lines) : MSt U S W (eitherM S W m lines) := by
  unfold eitherM
  split
  · exact h
  · rename_i hn
    exact eitherP_st h hW hl (List.length_pos_iff.2 hn) _
theorem OCub.k_alloc {w : World} {fp : Nat → Prop} {v : Value} {X : List (List (List Int))} {o : Obj} (h : OCub w fp v X) : OCub (w.alloc o) fp v X := OCub.loc.below h ((Below.refl _ _).alloc (Nat.le_refl _) _)
theorem OCub.k_set {w : World} {fp : Nat → Prop} {v : Value} {X : List (List (List Int))} {b k : Nat} {u : Value} (hb : ∀ i, fp i → i ≠ b) (h : OCub w fp v X) : OCub (w.setCell ⟨b, k, none⟩ u) fp v X :=
  OCub.loc.chg (M := fun j => j = b) h (Chg.setCell (M := fun j => j = b) (Chg.refl _) (fun _ => rfl) _) (fun j hj _ e => hb j hj e)

set_option maxHeartbeats 8000000 in
theorem either_any (U : List Int) (hU : U.length ≤ 1000) (S W L : Nat) (hc : COk S W L) (m : List (List (List Int))) (hm : MSt U S W m) (K K' : Nat → Prop) (a : Option Addr) (len cap : Nat) (a' : Option Addr) (len' cap' : Nat) (lines : List Int) (hli : LnsOk U lines) (w : World) (r : Cube K w a len cap m) (r' : Ints K' w a' len' cap' lines) :
    Calls Try.prog 29 #[CV S W L, .agg #[.slice a len cap], .slice a' len' cap'] w (StRet (eitherM S W m lines) w) := by
  have hl := r.hlen; have hl' := r'.hlen; have h6 := r'.hsz; have h7 := r'.hcap; have h8 := r'.hmax
  have hS : len = S := by rw [← hl]; exact hm.len
  subst hS
  have hC := Lib.hid hc
  obtain ⟨g1, g2, g3, g4, g5, g6⟩ := hc
  have F0 := Lib.hid (Fm.new (Fm.new (Fm.new (Fm.start Non w) rfl [.int .i64 len, .int .i64 W, .int .i64 L] 26) (by simp) [.slice a len cap] 30) (by simp) [.slice none 0 0] 30)
  have CP := Lib.hid (fun (w' : World) (hb : Below w.heap.size w w') => acopy_any K a len cap m w' (r.below (RSl.stays (RSl.stays RInt.stays)) hb) (hm.fews hU (by omega) (by omega)))
  have TC := Lib.hid (fun (n : Int) (hn : 0 ≤ n ∧ n ≤ 1048576 ∧ n ∈ U) (w' : World) (hb : Below w.heap.size w w') => touch_any U hU len W L hC.out m hm K a len cap n hn.1 hn.2.1 hn.2.2 w' (r.below (RSl.stays (RSl.stays RInt.stays)) hb))
  have HR' := Lib.hid r'; have HM := Lib.hid hm; have HLI := Lib.hid hli
  clear r r' hm hl
  by_cases h0 : len' = 0
  · subst h0
    have hnil : lines = [] := List.length_eq_zero_iff.1 hl'
    subst hnil
    go_enter Try.func29, Try.ntmps29
    have HE := Lib.hid (show eitherM len W m [] = m from rfl)
    have c0 := F0.out.h1.cell 0 _ rfl; have lt0 := F0.out.h1.lt (by simp)
    go_wp2_with fail
    refine (CP.out _ F0.out.below).mono ?_
    rintro e w1 ⟨oa, on, oc, rfl, ho1, hb1⟩
    have F1 := Lib.hid (Fm.call hb1 F0.out)
    have O1 := Lib.hid (ho1.narrow (A := w.heap.size + 3) (by simp))
    have e0 := F1.out.h2.cell 0 _ rfl; have ef := F1.out.h2.free; have lt1 := F1.out.h2.lt (by simp)
    clear ho1 hb1 c0 lt0
    go_wp2
    refine bodyPost_ret (v := .agg #[.slice oa on oc]) (by simp [results, Try.results29, go_sem, e0]) rfl ⟨oa, on, oc, rfl, ?_, (F1.out.set 2 0 [.slice none 0 0] rfl (by simp) _).below⟩
    rw [HE.out]
    exact (OCub.loc.chg (M := fun j => j = w.heap.size + 2) O1.out (Chg.setCell (M := fun j => j = w.heap.size + 2) (Chg.refl _) (fun _ => rfl) _) (fun j hj _ e => by have := hj.1; omega)).ge (by omega)
  · obtain ⟨lb, lo, x, rfl, hx, hcx, hx1, hx2, _, hbx⟩ := Ints.get HR'.out (show 0 < len' by omega)
    have HX := Lib.hid (show lines.getD 0 0 = x by rw [List.getD_eq_getElem?_getD, hx]; rfl)
    have hxo := HLI.out x (List.mem_of_getElem? hx)
    have E0 := Lib.hid (show eitherP len W m lines 0 = touchM len W m x by unfold eitherP; rw [HX.out]; rfl)
    have TL := Lib.hid ((touch_st HM.out (show 0 < W by omega) hxo.1 hxo.2.1 hxo.2.2).len)
    have TX := Lib.hid (TC.out x hxo)
    have hlen0 : 0 < lines.length := by omega
    have ES := Lib.hid (eitherP_st HM.out (show 0 < W by omega) HLI.out hlen0)
    have EM := Lib.hid (show eitherM len W m lines = eitherP len W m lines (len' - 1) by unfold eitherM; rw [if_neg (fun e => by rw [e] at hlen0; simp at hlen0), hl'])
    have HL' := Lib.hid hl'
    rw [Nat.add_zero] at hcx
    clear hx hxo hl' hlen0
    have hz : ((len' : Int) == 0) = false := by simp; omega
    go_enter Try.func29, Try.ntmps29
    go_upto_region 3 with fail
    obtain ⟨w0, hw0⟩ : ∃ w0, w0 = ((w.alloc (.cells #[.int .i64 len, .int .i64 W, .int .i64 L] 26)).alloc (.cells #[.slice a len cap] 30)).alloc (.cells #[.slice none 0 0] 30) := ⟨_, rfl⟩
    have F1 := Lib.hid (show Fm Non w w0 [[.int .i64 len, .int .i64 W, .int .i64 L], [.slice a len cap], [.slice none 0 0]] from by rw [hw0]; exact F0.out)
    have hs0 : w0.heap.size = w.heap.size + 3 := by rw [hw0]; simp
    rw [← hw0]
    clear hw0 F0
    have c0 := F1.out.h0.cell 0 _ rfl; have c1 := F1.out.h0.cell 1 _ rfl; have c2 := F1.out.h0.cell 2 _ rfl; have e0 := F1.out.h1.cell 0 _ rfl
    have cx := (F1.out.below.cell (p := ⟨lb, lo, none⟩) hbx).trans hcx
    have HS0 := Lib.hid hs0
    go_cut [7] (fun s7 wx => ∃ ob oa oc, s7 = .pointer (some ⟨ob, 0, none⟩) ∧ Has wx ob [.slice oa len oc] ∧ OCub wx (fun i => w.heap.size + 3 ≤ i ∧ i ≠ ob) (.slice oa len oc) (touchM len W m x) ∧ w.heap.size + 3 ≤ ob ∧ Fm Non w wx [[.int .i64 len, .int .i64 W, .int .i64 L], [.slice a len cap], [.slice none 0 0]])
    case first =>
      have k0 : w.heap.size < w0.heap.size := by omega
      have k1 : w.heap.size + 1 < w0.heap.size := by omega
      have k2 : lb < w0.heap.size := by omega
      have k3 : (0 : Int) < (len' : Int) := by omega
      have k4 : 0 < len' := by omega
      clear hs0
      go_region_held3 (fun w' => w'.cell? ⟨w.heap.size, 0, none⟩ = some (.int .i64 len) ∧ w'.cell? ⟨w.heap.size, 1, none⟩ = some (.int .i64 W) ∧ w'.cell? ⟨w.heap.size, 2, none⟩ = some (.int .i64 L) ∧ w'.cell? ⟨w.heap.size + 1, 0, none⟩ = some (.slice a len cap) ∧ w'.cell? ⟨lb, lo, none⟩ = some (.int .i64 x)) (((try dsimp only); (try go_split_ands); (repeat' apply And.intro); all_goals (repeat (first | assumption | (refine cell_later hb5 ?_) | (refine cell_alloc (by first | assumption | omega | (simp; omega)) ?_) | (refine cell_set (by omega) ?_) | (refine cell_drew ?_)))))
        (first | (go_at_call 19; ((with_reducible refine (TX.out _ (by repeat (first | (with_reducible exact F1.out.below) | (with_reducible refine Below.drew ?_) | (with_reducible refine Below.alloc ?_ (by first | omega | (simp; omega)) _)))).mono ?_); rintro e w5 ⟨oa, on, oc, rfl, ho5, hb5⟩; have s5 := hb5.size; (try simp only [World.size_alloc, World.size_drew] at s5); (try (have x51 := (Has.k_below hb5 (by first | (simp; done) | (simp; omega)) (Has.new w0.drew [.slice none 0 0] 30)).at' (show _ = w0.heap.size from by simp); have x51c := x51.cell 0 _ rfl; have x51f := x51.free; have x51l := x51.lt (by simp))); (try (have x52 := Has.new w5 [.slice none 0 0] 30; have x52c := x52.cell 0 _ rfl; have x52f := x52.free; have x52l := x52.lt (by simp))))))
      all_goals
        have hs0 := HS0.out
        have F5 := Lib.hid (show Fm Non w w5 [[.int .i64 len, .int .i64 W, .int .i64 L], [.slice a len cap], [.slice none 0 0]] from Fm.call hb5 (by repeat (first | (with_reducible exact F1.out) | (with_reducible refine Fm.drew ?_) | (with_reducible refine Fm.more ?_ _))))
        have O5 := Lib.hid ho5
        obtain ⟨_, _, hfo⟩ := ho5.form
        simp only [Value.slice.injEq] at hfo
        obtain rfl : len = on := (hfo.2.1.trans TL.out).symm
        clear c0 c1 c2 e0 cx hfo ho5
        go_wp2_with fail
        go_meet
        refine ⟨_, oa, oc, rfl, ?_, ?_, ?_, ?_⟩
        · first | exact Has.k_set0 x51 | exact Has.new w5 [.slice oa len oc] 30
        · first
            | exact OwnRow.wid _ _ _ _ _ _ (fun i hi => by have h1 := hi.1; have h2 := hi.2; simp only [World.size_alloc, World.size_drew] at h1; constructor <;> omega) (OCub.k_set (fun i hi e => by have h1 := hi.1; simp only [World.size_alloc, World.size_drew] at h1; omega) O5.out.bt1)
            | exact OwnRow.wid _ _ _ _ _ _ (fun i hi => by have h1 := hi.1; have h2 := hi.2; simp only [World.size_drew] at h1; constructor <;> omega) (OCub.k_alloc O5.out.bt1)
        · first | omega | (simp; omega)
        · repeat (first | (with_reducible exact F5.out) | (with_reducible refine Fm.more ?_ _) | (refine Fm.far ?_ (.inr (by simp; omega)) _))
    case rest =>
      obtain ⟨ob, oa, oc, rfl, hX, hO, hob, hF⟩ := hcut
      have F2 := Lib.hid hF; have X2 := Lib.hid hX; have O2 := Lib.hid hO
      clear hF hX hO c0 c1 c2 e0 cx F1
      have k5 : (1 : Int) ≤ (len' : Int) := by omega
      have k6 : (1 : Int) ≤ (cap' : Int) := by omega
      have k7 : (len' : Int) ≤ (cap' : Int) := by omega
      go_upto_region 4 with fail
      go_cut [2, 24, 25, 26] (fun s2 s24 s25 s26 wx => ∃ lo2 cap2 : Nat, (lo2 = lo + 1 ∨ len' = 1) ∧ s2 = .slice (some ⟨lb, lo, none⟩) len' cap' ∧ s24 = .slice (some ⟨lb, lo2, none⟩) (len' - 1) cap2 ∧ s25 = .int .i64 ((len' - 1 : Nat) : Int) ∧ s26 = .int .i64 0 ∧ Has wx ob [.slice oa len oc] ∧ OCub wx (fun i => w.heap.size + 3 ≤ i ∧ i ≠ ob) (.slice oa len oc) (touchM len W m x) ∧ Fm Non w wx [[.int .i64 len, .int .i64 W, .int .i64 L], [.slice a len cap], [.slice none 0 0]])
      case first =>
        go_wp2
        all_goals
          go_meet
          refine ⟨_, _, ?_, by first | rfl | (have : cap' = 1 := (by omega); rw [this]), rfl, rfl, rfl, X2.out, O2.out, F2.out⟩
          first | exact .inl rfl | (right; omega)
      case rest =>
        obtain ⟨lo2, cap2, hlo, rfl, rfl, rfl, rfl, hX, hO, hF⟩ := hcut
        clear X2 O2 F2
        have Z2 := Lib.hid (show ∃ oa oc, Has wc ob [.slice oa len oc] ∧ OCub wc (fun i => w.heap.size + 3 ≤ i ∧ i ≠ ob) (.slice oa len oc) (eitherP len W m lines 0) from ⟨oa, oc, hX, by rw [E0.out]; exact hO⟩)
        have F2 := Lib.hid hF
        clear hX hO hF
        go_wp2
        go_loopw [26] (fun i wr => ∃ k : Nat, k ≤ len' - 1 ∧ i = .int .i64 k ∧ (∃ oa oc, Has wr ob [.slice oa len oc] ∧ OCub wr (fun i => w.heap.size + 3 ≤ i ∧ i ≠ ob) (.slice oa len oc) (eitherP len W m lines k)) ∧ Fm Non w wr [[.int .i64 len, .int .i64 W, .int .i64 L], [.slice a len cap], [.slice none 0 0]]) (fun i _ => len' - (intOf i).toNat)
        case atStart => exact ⟨0, Nat.zero_le _, rfl, Z2.out, F2.out⟩
        case round =>
          obtain ⟨k, hk, rfl, ⟨oa, oc, hX, hO⟩, hF⟩ := hrel
          have X3 := Lib.hid hX; have O3 := Lib.hid hO; have F3 := Lib.hid hF
          clear hX hO hF
          by_cases hlt : k < len' - 1
          · obtain rfl : lo2 = lo + 1 := by omega
            obtain ⟨xb, xo, y, hxb, hy, hcy, hy1, hy2, _, hby⟩ := Ints.get HR'.out (show 1 + k < len' by omega)
            obtain ⟨rfl, rfl⟩ : lb = xb ∧ lo = xo := by simp only [Option.some.injEq, Addr.mk.injEq] at hxb; exact ⟨hxb.1, hxb.2.1⟩
            have hyo := HLI.out y (List.mem_of_getElem? hy)
            have TY := Lib.hid (TC.out y hyo)
            have EY := Lib.hid (eitherP_succ (S := len) (W := W) (m := m) hy)
            have SY := Lib.hid (touch_st HM.out (show 0 < W by omega) hyo.1 hyo.2.1 hyo.2.2)
            have SX := Lib.hid (ES.out k)
            have cy := (F3.out.below.cell (p := ⟨lb, lo + (1 + k), none⟩) hby).trans hcy
            rw [show lo + (1 + k) = lo + 1 + k by omega] at cy
            clear hy hcy hyo hxb
            have c0 := F3.out.h0.cell 0 _ rfl; have c1 := F3.out.h0.cell 1 _ rfl; have c2 := F3.out.h0.cell 2 _ rfl; have e0 := F3.out.h1.cell 0 _ rfl
            have x0 := X3.out.cell 0 _ rfl; have x1 := X3.out.lt (by simp)
            generalize eitherP len W m lines k = X at *
            have q0 : (0 : Int) ≤ (k : Int) := by omega
            have q1 : (k : Int) < ((len' - 1 : Nat) : Int) := by omega
            go_upto_region 7 with fail
            refine hd_start 7 (fun w' => w'.cell? ⟨w.heap.size, 0, none⟩ = some (.int .i64 len) ∧ w'.cell? ⟨w.heap.size, 1, none⟩ = some (.int .i64 W) ∧ w'.cell? ⟨w.heap.size, 2, none⟩ = some (.int .i64 L) ∧ w'.cell? ⟨w.heap.size + 1, 0, none⟩ = some (.slice a len cap) ∧ w'.cell? ⟨ob, 0, none⟩ = some (.slice oa len oc)) (by kernel_rfl) ⟨by kernel_rfl, by kernel_rfl, by kernel_rfl, by decide⟩ ⟨c0, c1, c2, e0, x0⟩ (fun ok => ?_)
            refine hd_take (i := 0) (v := ?_) ok rfl (by decide) (by kernel_rfl) (by kernel_rfl) (fun _ _ _ h => h) (Or.inl ⟨by rfl, ?_⟩) ?_
            rotate_left
            · (intro w hSw; (try dsimp only at hSw); (try go_split_ands); go_simp; (try (with_reducible rfl)))
            simp only [Act.put, List.setIfInBounds_toArray]
            refine hd_take (i := 1) (v := ?_) ok rfl (by decide) (by kernel_rfl) (by kernel_rfl) (fun _ _ _ h => h) (Or.inl ⟨by rfl, ?_⟩) ?_
            rotate_left
            · (intro w hSw; (try dsimp only at hSw); (try go_split_ands); go_simp; (try (with_reducible rfl)))
            simp only [Act.put]
            refine hd_take (i := 2) (v := ?_) ok rfl (by decide) (by kernel_rfl) (by kernel_rfl) (fun _ _ _ h => h) (Or.inl ⟨by rfl, ?_⟩) ?_
            rotate_left
            · (intro w hSw; (try dsimp only at hSw); (try go_split_ands); go_simp; (try (with_reducible rfl)))
            simp only [Act.put]
            refine hd_take (i := 3) (v := ?_) ok rfl (by decide) (by kernel_rfl) (by kernel_rfl) (fun _ _ _ h => h) (Or.inl ⟨by rfl, ?_⟩) ?_
            rotate_left
            · (intro w hSw; (try dsimp only at hSw); (try go_split_ands); go_simp; (try (with_reducible rfl)))
            simp only [Act.put]
            refine hd_take (i := 4) (v := ?_) ok rfl (by decide) (by kernel_rfl) (by kernel_rfl) (fun _ _ _ h => h) (Or.inl ⟨by rfl, ?_⟩) ?_
            rotate_left
            · (intro w hSw; (try dsimp only at hSw); (try go_split_ands); go_simp; (try (with_reducible rfl)))
            simp only [Act.put]
            refine hd_only (c := 5) rfl (by decide) (by kernel_rfl) (fun K hK => ?_)
            go_simp
            go_at_call 19
            refine (TY.out _ F3.out.below.drew).mono ?_
            rintro e w5 ⟨ta, tn, tc, rfl, ho5, hb5⟩
            simp only []
            refine hK _ _ (by refine ⟨?_, ?_, ?_, ?_, ?_⟩ <;> (first | exact cell_later hb5 c0 | exact cell_later hb5 c1 | exact cell_later hb5 c2 | exact cell_later hb5 e0 | exact cell_later hb5 x0)) ?_
            clear hK K
            (try simp only [Act.put, List.setIfInBounds_toArray, List.set_cons_zero, List.set_cons_succ])
            obtain ⟨_, _, hfo⟩ := ho5.form
            simp only [Value.slice.injEq] at hfo
            obtain rfl : len = tn := (hfo.2.1.trans SY.out.len).symm
            have s5 := hb5.size
            simp only [World.size_drew] at s5
            have F5 := Lib.hid (Fm.call hb5 F3.out.drew)
            have X5 := Lib.hid (X3.out.drew.below hb5 x1)
            have O5 := Lib.hid (OCub.loc.below (w := wr.drew) (OCub.loc.below O3.out (Below.refl _ _).drew) hb5)
            have T5 := Lib.hid ho5
            have c0 := F5.out.h0.cell 0 _ rfl; have c1 := F5.out.h0.cell 1 _ rfl; have c2 := F5.out.h0.cell 2 _ rfl; have e0 := F5.out.h1.cell 0 _ rfl
            have x0 := X5.out.cell 0 _ rfl
            clear hfo ho5 hb5 cy
            refine hd_only (c := 6) rfl (by decide) (by kernel_rfl) (fun K hK => ?_)
            go_simp
            go_at_call 24
            refine (join_any U U hU len W L hC.out X (touchM len W m y) SX.out SY.out (fun _ => True) (fun _ => True) oa len oc ta len tc w5 (OCub.read (fun _ _ => trivial) O5.out) (OCub.read (fun _ _ => trivial) T5.out)).mono ?_
            rintro e w6 ⟨ja, jn, jc, rfl, ho6, hb6⟩
            simp only []
            refine hK _ _ (by refine ⟨?_, ?_, ?_, ?_, ?_⟩ <;> (first | exact cell_later hb6 c0 | exact cell_later hb6 c1 | exact cell_later hb6 c2 | exact cell_later hb6 e0 | exact cell_later hb6 x0)) ?_
            clear hK K
            (try simp only [Act.put, List.setIfInBounds_toArray, List.set_cons_zero, List.set_cons_succ])
            obtain ⟨_, _, hfo⟩ := ho6.form
            simp only [Value.slice.injEq] at hfo
            obtain rfl : len = jn := (hfo.2.1.trans (joinM_len SX.out.len SY.out.len)).symm
            have s6 := hb6.size
            have F6 := Lib.hid (Fm.call hb6 F5.out)
            have X6 := Lib.hid (X5.out.below hb6 (X5.out.lt (by simp)))
            have J6 := Lib.hid (show OCub w6 (Ge w5.heap.size) (.slice ja len jc) (eitherP len W m lines (k + 1)) by rw [EY.out]; exact ho6)
            clear hfo ho6 hb6 c0 c1 c2 e0 x0
            have x0 := X6.out.cell 0 _ rfl; have x1 := X6.out.lt (by simp); have xf := X6.out.free
            have xl5 := X5.out.lt (by simp)
            refine hd_done (by kernel_rfl) ?_
            simp only [List.drop_succ_cons, List.drop_zero]
            go_wp2
            go_roundw
            case rel => exact ⟨k + 1, by omega, by go_num, ⟨ja, jc, X6.out.set0 _, OwnRow.wid _ _ _ _ _ _ (fun i hi => by unfold Ge at hi; constructor <;> omega) (OCub.k_set (fun i hi => by unfold Ge at hi; omega) J6.out)⟩, F6.out.far (.inr (by simp; omega)) _⟩
            case measure => simp [intOf]; omega
          · have hkl : k = len' - 1 := by omega
            subst hkl
            rw [← EM.out] at O3
            have x0 := X3.out.cell 0 _ rfl; have x1 := X3.out.lt (by simp)
            have e0 := F3.out.h2.cell 0 _ rfl; have ef := F3.out.h2.free; have lt1 := F3.out.h2.lt (by simp)
            go_wp2
            refine bodyPost_ret (v := .agg #[.slice oa len oc]) (by simp [results, Try.results29, go_sem, e0]) rfl ⟨oa, len, oc, rfl, ?_, (F3.out.set 2 0 [.slice none 0 0] rfl (by simp) _).below⟩
            exact OwnRow.wid _ _ _ _ _ _ (fun i hi => by have := hi.1; unfold Ge; omega) (OCub.k_set (fun i hi => by have := hi.1; omega) O3.out)

set_option maxHeartbeats 8000000 in
theorem reither_any (U : List Int) (hU : U.length ≤ 1000) (S W L : Nat) (hc : COk S W L) (m : List (List (List Int))) (hm : MSt U S W m) (K K' : Nat → Prop) (a : Option Addr) (len cap : Nat) (a' : Option Addr) (len' cap' : Nat) (lines : List Int) (hli : LnsOk U lines) (w : World) (r : Cube K w a len cap m) (r' : Ints K' w a' len' cap' lines) :
    Calls Try.prog 36 #[CV S W L, .agg #[.slice a len cap], .slice a' len' cap'] w (StRet (eitherM S W m lines) w) := by
  have hl := r.hlen; have hl' := r'.hlen; have h6 := r'.hsz; have h7 := r'.hcap; have h8 := r'.hmax
  have hS : len = S := by rw [← hl]; exact hm.len
  subst hS
  have hC := Lib.hid hc
  obtain ⟨g1, g2, g3, g4, g5, g6⟩ := hc
  have F0 := Lib.hid (Fm.new (Fm.new (Fm.new (Fm.start Non w) rfl [.int .i64 len, .int .i64 W, .int .i64 L] 26) (by simp) [.slice a len cap] 30) (by simp) [.slice none 0 0] 30)
  have CP := Lib.hid (fun (w' : World) (hb : Below w.heap.size w w') => rcopy3_any K a len cap m w' (r.below (RSl.stays (RSl.stays RInt.stays)) hb) (hm.fews hU (by omega) (by omega)))
  have TC := Lib.hid (fun (n : Int) (hn : 0 ≤ n ∧ n ≤ 1048576 ∧ n ∈ U) (w' : World) (hb : Below w.heap.size w w') => rtouch_any U hU len W L hC.out m hm K a len cap n hn.1 hn.2.1 hn.2.2 w' (r.below (RSl.stays (RSl.stays RInt.stays)) hb))
  have HR' := Lib.hid r'; have HM := Lib.hid hm; have HLI := Lib.hid hli
  clear r r' hm hl
  by_cases h0 : len' = 0
  · subst h0
    have hnil : lines = [] := List.length_eq_zero_iff.1 hl'
    subst hnil
    go_enter Try.func36, Try.ntmps36
    have HE := Lib.hid (show eitherM len W m [] = m from rfl)
    have c0 := F0.out.h1.cell 0 _ rfl; have lt0 := F0.out.h1.lt (by simp)
    go_wp2_with fail
    refine (CP.out _ F0.out.below).mono ?_
    rintro e w1 ⟨oa, on, oc, rfl, ho1, hb1⟩
    have F1 := Lib.hid (Fm.call hb1 F0.out)
    have O1 := Lib.hid (ho1.narrow (A := w.heap.size + 3) (by simp))
    have e0 := F1.out.h2.cell 0 _ rfl; have ef := F1.out.h2.free; have lt1 := F1.out.h2.lt (by simp)
    clear ho1 hb1 c0 lt0
    go_wp2
    refine bodyPost_ret (v := .agg #[.slice oa on oc]) (by simp [results, Try.results36, go_sem, e0]) rfl ⟨oa, on, oc, rfl, ?_, (F1.out.set 2 0 [.slice none 0 0] rfl (by simp) _).below⟩
    rw [HE.out]
    exact (OCub.loc.chg (M := fun j => j = w.heap.size + 2) O1.out (Chg.setCell (M := fun j => j = w.heap.size + 2) (Chg.refl _) (fun _ => rfl) _) (fun j hj _ e => by have := hj.1; omega)).ge (by omega)
  · obtain ⟨lb, lo, x, rfl, hx, hcx, hx1, hx2, _, hbx⟩ := Ints.get HR'.out (show 0 < len' by omega)
    have HX := Lib.hid (show lines.getD 0 0 = x by rw [List.getD_eq_getElem?_getD, hx]; rfl)
    have hxo := HLI.out x (List.mem_of_getElem? hx)
    have E0 := Lib.hid (show eitherP len W m lines 0 = touchM len W m x by unfold eitherP; rw [HX.out]; rfl)
    have TL := Lib.hid ((touch_st HM.out (show 0 < W by omega) hxo.1 hxo.2.1 hxo.2.2).len)
    have TX := Lib.hid (TC.out x hxo)
    have hlen0 : 0 < lines.length := by omega
    have ES := Lib.hid (eitherP_st HM.out (show 0 < W by omega) HLI.out hlen0)
    have EM := Lib.hid (show eitherM len W m lines = eitherP len W m lines (len' - 1) by unfold eitherM; rw [if_neg (fun e => by rw [e] at hlen0; simp at hlen0), hl'])
    have HL' := Lib.hid hl'
    rw [Nat.add_zero] at hcx
    clear hx hxo hl' hlen0
    have hz : ((len' : Int) == 0) = false := by simp; omega
    go_enter Try.func36, Try.ntmps36
    go_upto_region 3 with fail
    obtain ⟨w0, hw0⟩ : ∃ w0, w0 = ((w.alloc (.cells #[.int .i64 len, .int .i64 W, .int .i64 L] 26)).alloc (.cells #[.slice a len cap] 30)).alloc (.cells #[.slice none 0 0] 30) := ⟨_, rfl⟩
    have F1 := Lib.hid (show Fm Non w w0 [[.int .i64 len, .int .i64 W, .int .i64 L], [.slice a len cap], [.slice none 0 0]] from by rw [hw0]; exact F0.out)
    have hs0 : w0.heap.size = w.heap.size + 3 := by rw [hw0]; simp
    rw [← hw0]
    clear hw0 F0
    have c0 := F1.out.h0.cell 0 _ rfl; have c1 := F1.out.h0.cell 1 _ rfl; have c2 := F1.out.h0.cell 2 _ rfl; have e0 := F1.out.h1.cell 0 _ rfl
    have cx := (F1.out.below.cell (p := ⟨lb, lo, none⟩) hbx).trans hcx
    have HS0 := Lib.hid hs0
    go_cut [7] (fun s7 wx => ∃ ob oa oc, s7 = .pointer (some ⟨ob, 0, none⟩) ∧ Has wx ob [.slice oa len oc] ∧ OCub wx (fun i => w.heap.size + 3 ≤ i ∧ i ≠ ob) (.slice oa len oc) (touchM len W m x) ∧ w.heap.size + 3 ≤ ob ∧ Fm Non w wx [[.int .i64 len, .int .i64 W, .int .i64 L], [.slice a len cap], [.slice none 0 0]])
    case first =>
      have k0 : w.heap.size < w0.heap.size := by omega
      have k1 : w.heap.size + 1 < w0.heap.size := by omega
      have k2 : lb < w0.heap.size := by omega
      have k3 : (0 : Int) < (len' : Int) := by omega
      have k4 : 0 < len' := by omega
      clear hs0
      go_region_held3 (fun w' => w'.cell? ⟨w.heap.size, 0, none⟩ = some (.int .i64 len) ∧ w'.cell? ⟨w.heap.size, 1, none⟩ = some (.int .i64 W) ∧ w'.cell? ⟨w.heap.size, 2, none⟩ = some (.int .i64 L) ∧ w'.cell? ⟨w.heap.size + 1, 0, none⟩ = some (.slice a len cap) ∧ w'.cell? ⟨lb, lo, none⟩ = some (.int .i64 x)) (((try dsimp only); (try go_split_ands); (repeat' apply And.intro); all_goals (repeat (first | assumption | (refine cell_later hb5 ?_) | (refine cell_alloc (by first | assumption | omega | (simp; omega)) ?_) | (refine cell_set (by omega) ?_) | (refine cell_drew ?_)))))
        (first | (go_at_call 34; ((with_reducible refine (TX.out _ (by repeat (first | (with_reducible exact F1.out.below) | (with_reducible refine Below.drew ?_) | (with_reducible refine Below.alloc ?_ (by first | omega | (simp; omega)) _)))).mono ?_); rintro e w5 ⟨oa, on, oc, rfl, ho5, hb5⟩; have s5 := hb5.size; (try simp only [World.size_alloc, World.size_drew] at s5); (try (have x51 := (Has.k_below hb5 (by first | (simp; done) | (simp; omega)) (Has.new w0.drew [.slice none 0 0] 30)).at' (show _ = w0.heap.size from by simp); have x51c := x51.cell 0 _ rfl; have x51f := x51.free; have x51l := x51.lt (by simp))); (try (have x52 := Has.new w5 [.slice none 0 0] 30; have x52c := x52.cell 0 _ rfl; have x52f := x52.free; have x52l := x52.lt (by simp))))))
      all_goals
        have hs0 := HS0.out
        have F5 := Lib.hid (show Fm Non w w5 [[.int .i64 len, .int .i64 W, .int .i64 L], [.slice a len cap], [.slice none 0 0]] from Fm.call hb5 (by repeat (first | (with_reducible exact F1.out) | (with_reducible refine Fm.drew ?_) | (with_reducible refine Fm.more ?_ _))))
        have O5 := Lib.hid ho5
        obtain ⟨_, _, hfo⟩ := ho5.form
        simp only [Value.slice.injEq] at hfo
        obtain rfl : len = on := (hfo.2.1.trans TL.out).symm
        clear c0 c1 c2 e0 cx hfo ho5
        go_wp2_with fail
        go_meet
        refine ⟨_, oa, oc, rfl, ?_, ?_, ?_, ?_⟩
        · first | exact Has.k_set0 x51 | exact Has.new w5 [.slice oa len oc] 30
        · first
            | exact OwnRow.wid _ _ _ _ _ _ (fun i hi => by have h1 := hi.1; have h2 := hi.2; simp only [World.size_alloc, World.size_drew] at h1; constructor <;> omega) (OCub.k_set (fun i hi e => by have h1 := hi.1; simp only [World.size_alloc, World.size_drew] at h1; omega) O5.out.bt1)
            | exact OwnRow.wid _ _ _ _ _ _ (fun i hi => by have h1 := hi.1; have h2 := hi.2; simp only [World.size_drew] at h1; constructor <;> omega) (OCub.k_alloc O5.out.bt1)
        · first | omega | (simp; omega)
        · repeat (first | (with_reducible exact F5.out) | (with_reducible refine Fm.more ?_ _) | (refine Fm.far ?_ (.inr (by simp; omega)) _))
    case rest =>
      obtain ⟨ob, oa, oc, rfl, hX, hO, hob, hF⟩ := hcut
      have F2 := Lib.hid hF; have X2 := Lib.hid hX; have O2 := Lib.hid hO
      clear hF hX hO c0 c1 c2 e0 cx F1
      have k5 : (1 : Int) ≤ (len' : Int) := by omega
      have k6 : (1 : Int) ≤ (cap' : Int) := by omega
      have k7 : (len' : Int) ≤ (cap' : Int) := by omega
      go_upto_region 4 with fail
      go_cut [2, 24, 25, 26] (fun s2 s24 s25 s26 wx => ∃ lo2 cap2 : Nat, (lo2 = lo + 1 ∨ len' = 1) ∧ s2 = .slice (some ⟨lb, lo, none⟩) len' cap' ∧ s24 = .slice (some ⟨lb, lo2, none⟩) (len' - 1) cap2 ∧ s25 = .int .i64 ((len' - 1 : Nat) : Int) ∧ s26 = .int .i64 0 ∧ Has wx ob [.slice oa len oc] ∧ OCub wx (fun i => w.heap.size + 3 ≤ i ∧ i ≠ ob) (.slice oa len oc) (touchM len W m x) ∧ Fm Non w wx [[.int .i64 len, .int .i64 W, .int .i64 L], [.slice a len cap], [.slice none 0 0]])
      case first =>
        go_wp2
        all_goals
          go_meet
          refine ⟨_, _, ?_, by first | rfl | (have : cap' = 1 := (by omega); rw [this]), rfl, rfl, rfl, X2.out, O2.out, F2.out⟩
          first | exact .inl rfl | (right; omega)
      case rest =>
        obtain ⟨lo2, cap2, hlo, rfl, rfl, rfl, rfl, hX, hO, hF⟩ := hcut
        clear X2 O2 F2
        have Z2 := Lib.hid (show ∃ oa oc, Has wc ob [.slice oa len oc] ∧ OCub wc (fun i => w.heap.size + 3 ≤ i ∧ i ≠ ob) (.slice oa len oc) (eitherP len W m lines 0) from ⟨oa, oc, hX, by rw [E0.out]; exact hO⟩)
        have F2 := Lib.hid hF
        clear hX hO hF
        go_wp2
        go_loopw [26] (fun i wr => ∃ k : Nat, k ≤ len' - 1 ∧ i = .int .i64 k ∧ (∃ oa oc, Has wr ob [.slice oa len oc] ∧ OCub wr (fun i => w.heap.size + 3 ≤ i ∧ i ≠ ob) (.slice oa len oc) (eitherP len W m lines k)) ∧ Fm Non w wr [[.int .i64 len, .int .i64 W, .int .i64 L], [.slice a len cap], [.slice none 0 0]]) (fun i _ => len' - (intOf i).toNat)
        case atStart => exact ⟨0, Nat.zero_le _, rfl, Z2.out, F2.out⟩
        case round =>
          obtain ⟨k, hk, rfl, ⟨oa, oc, hX, hO⟩, hF⟩ := hrel
          have X3 := Lib.hid hX; have O3 := Lib.hid hO; have F3 := Lib.hid hF
          clear hX hO hF
          by_cases hlt : k < len' - 1
          · obtain rfl : lo2 = lo + 1 := by omega
            obtain ⟨xb, xo, y, hxb, hy, hcy, hy1, hy2, _, hby⟩ := Ints.get HR'.out (show 1 + k < len' by omega)
            obtain ⟨rfl, rfl⟩ : lb = xb ∧ lo = xo := by simp only [Option.some.injEq, Addr.mk.injEq] at hxb; exact ⟨hxb.1, hxb.2.1⟩
            have hyo := HLI.out y (List.mem_of_getElem? hy)
            have TY := Lib.hid (TC.out y hyo)
            have EY := Lib.hid (eitherP_succ (S := len) (W := W) (m := m) hy)
            have SY := Lib.hid (touch_st HM.out (show 0 < W by omega) hyo.1 hyo.2.1 hyo.2.2)
            have SX := Lib.hid (ES.out k)
            have cy := (F3.out.below.cell (p := ⟨lb, lo + (1 + k), none⟩) hby).trans hcy
            rw [show lo + (1 + k) = lo + 1 + k by omega] at cy
            clear hy hcy hyo hxb
            have c0 := F3.out.h0.cell 0 _ rfl; have c1 := F3.out.h0.cell 1 _ rfl; have c2 := F3.out.h0.cell 2 _ rfl; have e0 := F3.out.h1.cell 0 _ rfl
            have x0 := X3.out.cell 0 _ rfl; have x1 := X3.out.lt (by simp)
            generalize eitherP len W m lines k = X at *
            have q0 : (0 : Int) ≤ (k : Int) := by omega
            have q1 : (k : Int) < ((len' - 1 : Nat) : Int) := by omega
            go_upto_region 7 with fail
            refine hd_start 7 (fun w' => w'.cell? ⟨w.heap.size, 0, none⟩ = some (.int .i64 len) ∧ w'.cell? ⟨w.heap.size, 1, none⟩ = some (.int .i64 W) ∧ w'.cell? ⟨w.heap.size, 2, none⟩ = some (.int .i64 L) ∧ w'.cell? ⟨w.heap.size + 1, 0, none⟩ = some (.slice a len cap) ∧ w'.cell? ⟨ob, 0, none⟩ = some (.slice oa len oc)) (by kernel_rfl) ⟨by kernel_rfl, by kernel_rfl, by kernel_rfl, by decide⟩ ⟨c0, c1, c2, e0, x0⟩ (fun ok => ?_)
            refine hd_take (i := 0) (v := ?_) ok rfl (by decide) (by kernel_rfl) (by kernel_rfl) (fun _ _ _ h => h) (Or.inl ⟨by rfl, ?_⟩) ?_
            rotate_left
            · (intro w hSw; (try dsimp only at hSw); (try go_split_ands); go_simp; (try (with_reducible rfl)))
            simp only [Act.put, List.setIfInBounds_toArray]
            refine hd_take (i := 1) (v := ?_) ok rfl (by decide) (by kernel_rfl) (by kernel_rfl) (fun _ _ _ h => h) (Or.inl ⟨by rfl, ?_⟩) ?_
            rotate_left
            · (intro w hSw; (try dsimp only at hSw); (try go_split_ands); go_simp; (try (with_reducible rfl)))
            simp only [Act.put]
            refine hd_take (i := 2) (v := ?_) ok rfl (by decide) (by kernel_rfl) (by kernel_rfl) (fun _ _ _ h => h) (Or.inl ⟨by rfl, ?_⟩) ?_
            rotate_left
            · (intro w hSw; (try dsimp only at hSw); (try go_split_ands); go_simp; (try (with_reducible rfl)))
            simp only [Act.put]
            refine hd_take (i := 3) (v := ?_) ok rfl (by decide) (by kernel_rfl) (by kernel_rfl) (fun _ _ _ h => h) (Or.inl ⟨by rfl, ?_⟩) ?_
            rotate_left
            · (intro w hSw; (try dsimp only at hSw); (try go_split_ands); go_simp; (try (with_reducible rfl)))
            simp only [Act.put]
            refine hd_take (i := 4) (v := ?_) ok rfl (by decide) (by kernel_rfl) (by kernel_rfl) (fun _ _ _ h => h) (Or.inl ⟨by rfl, ?_⟩) ?_
            rotate_left
            · (intro w hSw; (try dsimp only at hSw); (try go_split_ands); go_simp; (try (with_reducible rfl)))
            simp only [Act.put]
            refine hd_only (c := 5) rfl (by decide) (by kernel_rfl) (fun K hK => ?_)
            go_simp
            go_at_call 34
            refine (TY.out _ F3.out.below.drew).mono ?_
            rintro e w5 ⟨ta, tn, tc, rfl, ho5, hb5⟩
            simp only []
            refine hK _ _ (by refine ⟨?_, ?_, ?_, ?_, ?_⟩ <;> (first | exact cell_later hb5 c0 | exact cell_later hb5 c1 | exact cell_later hb5 c2 | exact cell_later hb5 e0 | exact cell_later hb5 x0)) ?_
            clear hK K
            (try simp only [Act.put, List.setIfInBounds_toArray, List.set_cons_zero, List.set_cons_succ])
            obtain ⟨_, _, hfo⟩ := ho5.form
            simp only [Value.slice.injEq] at hfo
            obtain rfl : len = tn := (hfo.2.1.trans SY.out.len).symm
            have s5 := hb5.size
            simp only [World.size_drew] at s5
            have F5 := Lib.hid (Fm.call hb5 F3.out.drew)
            have X5 := Lib.hid (X3.out.drew.below hb5 x1)
            have O5 := Lib.hid (OCub.loc.below (w := wr.drew) (OCub.loc.below O3.out (Below.refl _ _).drew) hb5)
            have T5 := Lib.hid ho5
            have c0 := F5.out.h0.cell 0 _ rfl; have c1 := F5.out.h0.cell 1 _ rfl; have c2 := F5.out.h0.cell 2 _ rfl; have e0 := F5.out.h1.cell 0 _ rfl
            have x0 := X5.out.cell 0 _ rfl
            clear hfo ho5 hb5 cy
            refine hd_only (c := 6) rfl (by decide) (by kernel_rfl) (fun K hK => ?_)
            go_simp
            go_at_call 21
            refine (rjoin_any U U hU len W L hC.out X (touchM len W m y) SX.out SY.out (fun _ => True) (fun _ => True) oa len oc ta len tc w5 (OCub.read (fun _ _ => trivial) O5.out) (OCub.read (fun _ _ => trivial) T5.out)).mono ?_
            rintro e w6 ⟨ja, jn, jc, rfl, ho6, hb6⟩
            simp only []
            refine hK _ _ (by refine ⟨?_, ?_, ?_, ?_, ?_⟩ <;> (first | exact cell_later hb6 c0 | exact cell_later hb6 c1 | exact cell_later hb6 c2 | exact cell_later hb6 e0 | exact cell_later hb6 x0)) ?_
            clear hK K
            (try simp only [Act.put, List.setIfInBounds_toArray, List.set_cons_zero, List.set_cons_succ])
            obtain ⟨_, _, hfo⟩ := ho6.form
            simp only [Value.slice.injEq] at hfo
            obtain rfl : len = jn := (hfo.2.1.trans (joinM_len SX.out.len SY.out.len)).symm
            have s6 := hb6.size
            have F6 := Lib.hid (Fm.call hb6 F5.out)
            have X6 := Lib.hid (X5.out.below hb6 (X5.out.lt (by simp)))
            have J6 := Lib.hid (show OCub w6 (Ge w5.heap.size) (.slice ja len jc) (eitherP len W m lines (k + 1)) by rw [EY.out]; exact ho6)
            clear hfo ho6 hb6 c0 c1 c2 e0 x0
            have x0 := X6.out.cell 0 _ rfl; have x1 := X6.out.lt (by simp); have xf := X6.out.free
            have xl5 := X5.out.lt (by simp)
            refine hd_done (by kernel_rfl) ?_
            simp only [List.drop_succ_cons, List.drop_zero]
            go_wp2
            go_roundw
            case rel => exact ⟨k + 1, by omega, by go_num, ⟨ja, jc, X6.out.set0 _, OwnRow.wid _ _ _ _ _ _ (fun i hi => by unfold Ge at hi; constructor <;> omega) (OCub.k_set (fun i hi => by unfold Ge at hi; omega) J6.out)⟩, F6.out.far (.inr (by simp; omega)) _⟩
            case measure => simp [intOf]; omega
          · have hkl : k = len' - 1 := by omega
            subst hkl
            rw [← EM.out] at O3
            have x0 := X3.out.cell 0 _ rfl; have x1 := X3.out.lt (by simp)
            have e0 := F3.out.h2.cell 0 _ rfl; have ef := F3.out.h2.free; have lt1 := F3.out.h2.lt (by simp)
            go_wp2
            refine bodyPost_ret (v := .agg #[.slice oa len oc]) (by simp [results, Try.results36, go_sem, e0]) rfl ⟨oa, len, oc, rfl, ?_, (F3.out.set 2 0 [.slice none 0 0] rfl (by simp) _).below⟩
            exact OwnRow.wid _ _ _ _ _ _ (fun i hi => by have := hi.1; unfold Ge; omega) (OCub.k_set (fun i hi => by have := hi.1; omega) O3.out)
end Go.Proofs.Ytikhbijobkkhgaa
