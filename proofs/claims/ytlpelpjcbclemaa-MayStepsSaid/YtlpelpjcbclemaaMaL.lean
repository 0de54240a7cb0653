/-
  The document's Either (lines that can be there).
-/
import Derived.Test.YtlpelpjcbclemaaMaK
import Derived.Test.YtlpelpjcbclemaaZMaV
import Derived.Test.YtlpelpjcbclemaaMaH
namespace Go.Proofs.Ytlpelpjcbclemaa
open Go.RowKit

def LnsOk (U : List Int) (lines : List Int) : Prop := ∀ x ∈ lines, 0 ≤ x ∧ x ≤ 1048576 ∧ x ∈ U
abbrev YS := List (List (List Int)) × List Int
def touchYs (S W : Nat) (st : YS) (y : Int) : YS := (touchYm S W st.1 st.2 y, touchYo S W st.1 st.2 y)
def joinYs (S W : Nat) (a b : YS) : YS := (joinYm S W a.1 a.2 b.1 b.2, joinYo S a.2 b.2)
def eitherYP (S W : Nat) (st : YS) (lines : List Int) (k : Nat) : YS := ((lines.drop 1).take k).foldl (fun out y => joinYs S W out (touchYs S W st y)) (touchYs S W st (lines.getD 0 0))
def eitherY (S W : Nat) (st : YS) (lines : List Int) : YS := if lines = [] then st else eitherYP S W st lines (lines.length - 1)
theorem eitherYP_succ {S W k : Nat} {st : YS} {lines : List Int} {y : Int} (h : lines[1 + k]? = some y) : eitherYP S W st lines (k + 1) = joinYs S W (eitherYP S W st lines k) (touchYs S W st y) := by
  unfold eitherYP
  rw [List.take_add_one, List.foldl_append, List.getElem?_drop, h]
  rfl
abbrev YSts (U : List Int) (S W : Nat) (st : YS) : Prop := YSt U S W st.1 st.2
theorem eitherYP_st {U : List Int} {S W : Nat} {st : YS} (h : YSts U S W st) (hW : 0 < W) {lines : List Int} (hl : LnsOk U lines) (h0 : 0 < lines.length) : ∀ k, YSts U S W (eitherYP S W st lines k)
  | 0 => by
    have h1 : lines[0]? = some (lines.getD 0 0) := by rw [List.getD_eq_getElem?_getD, List.getElem?_eq_getElem h0]; rfl
    obtain ⟨a, b, c⟩ := hl _ (List.mem_of_getElem? h1)
    exact ytouch_st h hW a b c
  | k + 1 => by
    cases hx : lines[1 + k]? with
    | none =>
      have e : eitherYP S W st lines (k + 1) = eitherYP S W st lines k := by
        unfold eitherYP
        rw [List.take_add_one, List.getElem?_drop, hx]
        simp
      rw [e]; exact eitherYP_st h hW hl h0 k
    | some y =>
      obtain ⟨a, b, c⟩ := hl _ (List.mem_of_getElem? hx)
      rw [eitherYP_succ hx]
      exact yjoin_st (eitherYP_st h hW hl h0 k) (ytouch_st h hW a b c)
theorem eitherY_st {U : List Int} {S W : Nat} {st : YS} (h : YSts U S W st) (hW : 0 < W) {lines : List Int} (hl : LnsOk U lines) : YSts U S W (eitherY S W st lines) := by
  unfold eitherY
  split
  · exact h
  · rename_i hn
    exact eitherYP_st h hW hl (List.length_pos_iff.2 hn) _

set_option maxRecDepth 100000 in
set_option maxHeartbeats 8000000 in
theorem yreither_any (U : List Int) (hU : U.length ≤ 1000) (S W L : Nat) (hc : COk S W L) (m : List (List (List Int))) (o : List Int) (hm : YSt U S W m o) (Kr K' : Nat → Prop) (a : Option Addr) (len cap : Nat) (oa : Option Addr) (on oc : Nat) (a' : Option Addr) (len' cap' : Nat) (lines : List Int) (hli : LnsOk U lines) (w : World) (r : YCub Kr w a len cap oa on oc m o) (r' : Ints K' w a' len' cap' lines) :
    Calls Try.prog 34 #[CV S W L, YV a len cap oa on oc, .slice a' len' cap'] w (YRet (eitherY S W (m, o) lines).1 (eitherY S W (m, o) lines).2 w) := by
  have hl := r.cub.hlen; have hol := r.ints.hlen; have hl' := r'.hlen; have h6 := r'.hsz; have h7 := r'.hcap; have h8 := r'.hmax
  have hS : len = S := by rw [← hl]; exact hm.len
  have hO : on = S := by rw [← hol]; exact hm.olen
  subst hS
  subst hO
  have hC := Lib.hid hc
  obtain ⟨g1, g2, g3, g4, g5, g6⟩ := hc
  have F0 := Lib.hid (Fm.new (Fm.new (Fm.new (Fm.start Non w) rfl [.int .i64 on, .int .i64 W, .int .i64 L] 26) (by simp) [.slice a on cap, .slice oa on oc] 31) (by simp) [.slice none 0 0, .slice none 0 0] 31)
  have CP := Lib.hid (fun (w' : World) (hb : Below w.heap.size w w') => rcopy3_any Kr a on cap m w' (r.below hb).cub (hm.mst.fews hU (by omega) (by omega)))
  have TC := Lib.hid (fun (n : Int) (hn : 0 ≤ n ∧ n ≤ 1048576 ∧ n ∈ U) (w' : World) (hb : Below w.heap.size w w') => yrtouch_any U hU on W L hC.out m o hm Kr a on cap oa on oc n hn.1 hn.2.1 hn.2.2 w' (r.below hb))
  have HR := Lib.hid r; have HR' := Lib.hid r'; have HM := Lib.hid hm; have HLI := Lib.hid hli
  clear r r' hm hl hol
  by_cases h0 : len' = 0
  · subst h0
    have hnil : lines = [] := List.length_eq_zero_iff.1 hl'
    subst hnil
    have HE := Lib.hid (show eitherY on W (m, o) [] = (m, o) from rfl)
    go_enter Try.func34, Try.ntmps34
    go_upto_region 2 with fail
    obtain ⟨wv, hwv⟩ : ∃ wv : World, wv = (((w.alloc (.cells #[.int .i64 on, .int .i64 W, .int .i64 L] 26)).alloc (.cells #[.slice a on cap, .slice oa on oc] 31)).alloc (.cells #[.slice none 0 0, .slice none 0 0] 31)) := ⟨_, rfl⟩
    have F1 := Lib.hid (show Fm Non w wv [[.int .i64 on, .int .i64 W, .int .i64 L], [.slice a on cap, .slice oa on oc], [.slice none 0 0, .slice none 0 0]] from by rw [hwv]; exact F0.out)
    rw [← hwv]
    clear hwv F0
    have sv := F1.out.size
    simp only [List.length_cons, List.length_nil] at sv
    have c0 := F1.out.h1.cell 0 _ rfl; have c1 := F1.out.h1.cell 1 _ rfl
    have F2 := Lib.hid F1.out.drew
    refine hd_start 7 (fun w' => w'.cell? ⟨w.heap.size + 1, 0, none⟩ = some (.slice a on cap) ∧ w'.cell? ⟨w.heap.size + 1, 1, none⟩ = some (.slice oa on oc)) (by kernel_rfl) ⟨by kernel_rfl, by kernel_rfl, by kernel_rfl, by decide⟩ (by refine ⟨c0, c1⟩) (fun ok => ?_)
    refine hd_take_l (i := 0) (v := ?_) ok rfl (by decide) (by kernel_rfl) (by kernel_rfl) (fun _ _ _ h => h) (Or.inl ⟨by kernel_rfl, ?_⟩) ?_
    rotate_left
    · (intro w hSw; (try dsimp only at hSw); (try go_split_ands); go_simp; (try (with_reducible rfl)))
    go_frame
    refine hd_take_l (i := 1) (v := ?_) ok rfl (by decide) (by kernel_rfl) (by kernel_rfl) (fun _ _ _ h => h) (Or.inl ⟨by kernel_rfl, ?_⟩) ?_
    rotate_left
    · (intro w hSw; (try dsimp only at hSw); (try go_split_ands); go_simp; (try (with_reducible rfl)))
    go_frame
    refine hd_take_l (i := 3) (v := ?_) ok rfl (by decide) (by kernel_rfl) (by kernel_rfl) (fun _ _ _ h => h) (Or.inl ⟨by kernel_rfl, ?_⟩) ?_
    rotate_left
    · (intro w hSw; (try dsimp only at hSw); (try go_split_ands); go_simp; (try (with_reducible rfl)))
    go_frame
    refine hd_take_l (i := 4) (v := ?_) ok rfl (by decide) (by kernel_rfl) (by kernel_rfl) (fun _ _ _ h => h) (Or.inl ⟨by kernel_rfl, ?_⟩) ?_
    rotate_left
    · (intro w hSw; (try dsimp only at hSw); (try go_split_ands); go_simp; (try (with_reducible rfl)))
    go_frame
    refine hd_only_l (c := 2) rfl (by decide) (by kernel_rfl) (fun K hK => ?_)
    go_simp
    go_at_call 53
    refine (CP.out _ F2.out.below).mono ?_
    rintro e w3 ⟨ta, tn, tc, rfl, ho3, hb3⟩
    obtain rfl : on = tn := by have h1 := (OCub.read (K := fun _ => True) (fun _ _ => trivial) ho3).hlen; have h2 := HM.out.len; omega
    have s3 := hb3.size
    have F3 := Lib.hid (Fm.call hb3 F2.out)
    have O3 := Lib.hid ho3.bt1
    simp only [World.size_drew] at O3 s3
    clear c0 c1 ho3 hb3
    have c0 := F3.out.h1.cell 0 _ rfl; have c1 := F3.out.h1.cell 1 _ rfl
    (try simp only [])
    refine hK _ _ (by refine ⟨?_, ?_⟩ <;> (first | exact c0 | exact c1)) ?_
    clear hK K
    (try go_frame)

    refine hd_only_l (c := 5) rfl (by decide) (by kernel_rfl) (fun K hK => ?_)
    have OI := Lib.hid (show Ints Kr w3 oa on oc o from (HR.out.below F3.out.below).ints)
    refine step_append_o rfl _ _ 22 rfl Try.underlying22 info_int (OInts.nil _ (fun _ => False)) rfl OI.out rfl (by simp; omega) ?_
    intro v4 w4 hap
    rw [List.nil_append] at hap
    obtain ⟨va, vn, vc, rfl⟩ : ∃ a n c, v4 = .slice a n c := by obtain ⟨a, c, h⟩ := hap.out.1.form; exact ⟨a, _, c, h⟩
    obtain rfl : on = vn := by have h1 := (OInts.read (K := fun _ => True) (fun _ _ => trivial) hap.out.1).hlen; have h2 := HM.out.olen; omega
    have s4 := hap.out.2.size
    have F4 := Lib.hid (Fm.call (Chg.below (M := fun _ => False) hap.out.2 (fun _ _ h => h) (Nat.le_refl _)) F3.out)
    have O4 := Lib.hid (OCub.loc.chg O3.out hap.out.2 (fun _ _ _ h => h))
    have I4 := Lib.hid (show OInts w4 (Bt w3.heap.size w4.heap.size) (.slice va on vc) o from OwnRow.wid _ _ _ _ _ _ (fun j hj => ⟨hj.1.elim False.elim id, hj.2⟩) hap.out.1.lt)
    clear c0 c1 hap
    have c0 := F4.out.h1.cell 0 _ rfl; have c1 := F4.out.h1.cell 1 _ rfl
    (try simp only [])
    refine hK _ _ (by refine ⟨?_, ?_⟩ <;> (first | exact c0 | exact c1)) ?_
    clear hK K
    (try go_frame)
    refine hd_take_l (i := 6) (v := ?_) ok rfl (by decide) (by kernel_rfl) (by kernel_rfl) (fun _ _ _ h => h) (Or.inl ⟨by kernel_rfl, ?_⟩) ?_
    rotate_left
    · (intro w hSw; (try dsimp only at hSw); (try go_split_ands); go_simp; (try (with_reducible rfl)))
    go_frame
    have e0 := F4.out.h2.cell 0 _ rfl; have e1 := F4.out.h2.cell 1 _ rfl; have ef := F4.out.h2.free; have lt1 := F4.out.h2.lt (by simp)
    clear ok c0 c1
    refine hd_done (by kernel_rfl) ?_
    simp only [List.drop_succ_cons, List.drop_zero]
    go_wp2
    refine bodyPost_ret (v := YV ta on tc va on vc) (by simp [results, Try.results34, go_sem, e0, e1]) rfl ⟨ta, on, tc, va, on, vc, _, _, rfl, OY.cast (OY.ge (OY.two (OY.mk3 O4.out I4.out (.inl (Nat.le_refl _)) s4 (Nat.le_refl _) (w.heap.size + 3) (by omega) (by omega)) (show w.heap.size + 2 < w.heap.size + 3 by omega) (Nat.le_refl _)) (by omega)) (by rw [HE.out]) (by rw [HE.out]), ((F4.out.set 2 0 _ rfl (by simp) _).set 2 1 _ rfl (by simp) _).below⟩
  · obtain ⟨lb, lo, x, rfl, hx, hcx, hx1, hx2, _, hbx⟩ := Ints.get HR'.out (show 0 < len' by omega)
    have HX := Lib.hid (show lines.getD 0 0 = x by rw [List.getD_eq_getElem?_getD, hx]; rfl)
    have hxo := HLI.out x (List.mem_of_getElem? hx)
    have E0 := Lib.hid (show eitherYP on W (m, o) lines 0 = touchYs on W (m, o) x by unfold eitherYP; rw [HX.out]; rfl)
    have TS := Lib.hid (ytouch_st HM.out (show 0 < W by omega) hxo.1 hxo.2.1 hxo.2.2)
    have TX := Lib.hid (TC.out x hxo)
    have hlen0 : 0 < lines.length := by omega
    have ES := Lib.hid (eitherYP_st (st := (m, o)) HM.out (show 0 < W by omega) HLI.out hlen0)
    have EM := Lib.hid (show eitherY on W (m, o) lines = eitherYP on W (m, o) lines (len' - 1) by unfold eitherY; rw [if_neg (fun e => by rw [e] at hlen0; simp at hlen0), hl'])
    have HL' := Lib.hid hl'
    rw [Nat.add_zero] at hcx
    clear hx hxo hl' hlen0 CP
    have hz : ((len' : Int) == 0) = false := by simp; omega
    go_enter Try.func34, Try.ntmps34
    go_upto_region 3 with fail
    obtain ⟨wv, hwv⟩ : ∃ wv : World, wv = (((w.alloc (.cells #[.int .i64 on, .int .i64 W, .int .i64 L] 26)).alloc (.cells #[.slice a on cap, .slice oa on oc] 31)).alloc (.cells #[.slice none 0 0, .slice none 0 0] 31)) := ⟨_, rfl⟩
    have F1 := Lib.hid (show Fm Non w wv [[.int .i64 on, .int .i64 W, .int .i64 L], [.slice a on cap, .slice oa on oc], [.slice none 0 0, .slice none 0 0]] from by rw [hwv]; exact F0.out)
    rw [← hwv]
    clear hwv F0
    have sv := F1.out.size
    simp only [List.length_cons, List.length_nil] at sv
    have c0 := F1.out.h0.cell 0 _ rfl; have c1 := F1.out.h0.cell 1 _ rfl; have c2 := F1.out.h0.cell 2 _ rfl; have e0 := F1.out.h1.cell 0 _ rfl; have e1 := F1.out.h1.cell 1 _ rfl
    have cx := (F1.out.below.cell (p := ⟨lb, lo, none⟩) hbx).trans hcx
    have F2 := Lib.hid F1.out.drew
    go_cut [7] (fun s7 wx => ∃ b f1 f2 na nc no noc, s7 = .pointer (some ⟨b, 0, none⟩) ∧ YVr wx (w.heap.size + 3) b f1 f2 on na nc no noc (touchYm on W m o x) (touchYo on W m o x) ∧ Fm Non w wx [[.int .i64 on, .int .i64 W, .int .i64 L], [.slice a on cap, .slice oa on oc], [.slice none 0 0, .slice none 0 0]])
    case first =>
      as_aux_lemma =>
        have k3 : (0 : Int) < (len' : Int) := by omega
        have k4 : 0 < len' := by omega
        refine hd_start 7 (fun w' => w'.cell? ⟨w.heap.size, 0, none⟩ = some (.int .i64 on) ∧ w'.cell? ⟨w.heap.size, 1, none⟩ = some (.int .i64 W) ∧ w'.cell? ⟨w.heap.size, 2, none⟩ = some (.int .i64 L) ∧ w'.cell? ⟨w.heap.size + 1, 0, none⟩ = some (.slice a on cap) ∧ w'.cell? ⟨w.heap.size + 1, 1, none⟩ = some (.slice oa on oc) ∧ w'.cell? ⟨lb, lo, none⟩ = some (.int .i64 x)) (by kernel_rfl) ⟨by kernel_rfl, by kernel_rfl, by kernel_rfl, by decide⟩ (by refine ⟨c0, c1, c2, e0, e1, cx⟩) (fun ok => ?_)
        refine hd_take_l (i := 0) (v := ?_) ok rfl (by decide) (by kernel_rfl) (by kernel_rfl) (fun _ _ _ h => h) (Or.inl ⟨by kernel_rfl, ?_⟩) ?_
        rotate_left
        · (intro w hSw; (try dsimp only at hSw); (try go_split_ands); go_simp; (try (with_reducible rfl)))
        go_frame
        refine hd_take_l (i := 1) (v := ?_) ok rfl (by decide) (by kernel_rfl) (by kernel_rfl) (fun _ _ _ h => h) (Or.inl ⟨by kernel_rfl, ?_⟩) ?_
        rotate_left
        · (intro w hSw; (try dsimp only at hSw); (try go_split_ands); go_simp; (try (with_reducible rfl)))
        go_frame
        refine hd_take_l (i := 2) (v := ?_) ok rfl (by decide) (by kernel_rfl) (by kernel_rfl) (fun _ _ _ h => h) (Or.inl ⟨by kernel_rfl, ?_⟩) ?_
        rotate_left
        · (intro w hSw; (try dsimp only at hSw); (try go_split_ands); go_simp; (try (with_reducible rfl)))
        go_frame
        refine hd_take_l (i := 3) (v := ?_) ok rfl (by decide) (by kernel_rfl) (by kernel_rfl) (fun _ _ _ h => h) (Or.inl ⟨by kernel_rfl, ?_⟩) ?_
        rotate_left
        · (intro w hSw; (try dsimp only at hSw); (try go_split_ands); go_simp; (try (with_reducible rfl)))
        go_frame
        refine hd_take_l (i := 4) (v := ?_) ok rfl (by decide) (by kernel_rfl) (by kernel_rfl) (fun _ _ _ h => h) (Or.inl ⟨by kernel_rfl, ?_⟩) ?_
        rotate_left
        · (intro w hSw; (try dsimp only at hSw); (try go_split_ands); go_simp; (try (with_reducible rfl)))
        go_frame
        refine hd_two_l (c := 5) (d := 6) rfl rfl (by decide) (by decide) (by kernel_rfl) (fun K hK => ?_) (fun K hK => ?_)
        · skip
          go_simp
          go_at_call 31
          refine (TX.out _ F2.out.below).mono ?_
          rintro e w5 hr5
          obtain ⟨ta, tc, pa, pc, f1, f2, rfl, ho5, hb5⟩ := YRet.fix hr5 TS.out.len TS.out.olen
          have s5 := hb5.size
          simp only [World.size_drew] at s5
          have F5 := Lib.hid (Fm.call hb5 F2.out)
          have O5 := Lib.hid ho5
          simp only [World.size_drew] at O5
          clear c0 c1 c2 e0 e1 cx hr5 ho5 hb5
          have c0 := F5.out.h0.cell 0 _ rfl; have c1 := F5.out.h0.cell 1 _ rfl; have c2 := F5.out.h0.cell 2 _ rfl; have e0 := F5.out.h1.cell 0 _ rfl; have e1 := F5.out.h1.cell 1 _ rfl
          have cx := (F5.out.below.cell (p := ⟨lb, lo, none⟩) hbx).trans hcx
          (try simp only [])
          refine hK _ _ (by refine ⟨?_, ?_, ?_, ?_, ?_, ?_⟩ <;> (first | exact c0 | exact c1 | exact c2 | exact e0 | exact e1 | exact cx)) ?_
          clear hK K
          (try go_frame)
          refine hd_only_l (c := 6) rfl (by decide) (by kernel_rfl) (fun K hK => ?_)
          go_simp
          (try simp only [])
          refine hK _ _ (by refine ⟨?_, ?_, ?_, ?_, ?_, ?_⟩ <;> (first | exact (cell_alloc (by omega) c0) | exact (cell_alloc (by omega) c1) | exact (cell_alloc (by omega) c2) | exact (cell_alloc (by omega) e0) | exact (cell_alloc (by omega) e1) | exact (cell_alloc (by omega) cx))) ?_
          clear hK K
          (try go_frame)
          clear ok c0 c1 c2 e0 e1 cx
          refine hd_done (by kernel_rfl) ?_
          simp only [List.drop_succ_cons, List.drop_zero]
          go_wp2_with fail
          go_meet
          exact ⟨w5.heap.size, _, _, _, _, _, _, rfl, YVr.newO O5.out (by omega), F5.out.more _⟩
        · skip
          go_simp
          have F5 := Lib.hid (F1.out.more (.cells #[.slice none 0 0, .slice none 0 0] 31)).drew; have H5 := Lib.hid (Has.new wv [.slice none 0 0, .slice none 0 0] 31).drew
          clear c0 c1 c2 e0 e1 cx
          have c0 := F5.out.h0.cell 0 _ rfl; have c1 := F5.out.h0.cell 1 _ rfl; have c2 := F5.out.h0.cell 2 _ rfl; have e0 := F5.out.h1.cell 0 _ rfl; have e1 := F5.out.h1.cell 1 _ rfl
          have cx := (F5.out.below.cell (p := ⟨lb, lo, none⟩) hbx).trans hcx
          (try simp only [])
          refine hK _ _ (by refine ⟨?_, ?_, ?_, ?_, ?_, ?_⟩ <;> (first | exact c0 | exact c1 | exact c2 | exact e0 | exact e1 | exact cx)) ?_
          clear hK K
          (try go_frame)
          refine hd_only_l (c := 5) rfl (by decide) (by kernel_rfl) (fun K hK => ?_)
          go_simp
          go_at_call 31
          refine (TX.out _ F5.out.below).mono ?_
          rintro e w5 hr5
          obtain ⟨ta, tc, pa, pc, f1, f2, rfl, ho5, hb5⟩ := YRet.fix hr5 TS.out.len TS.out.olen
          have s5 := hb5.size
          simp only [World.size_drew] at s5
          have F6 := Lib.hid (Fm.call hb5 F5.out)
          have O5 := Lib.hid ho5
          have H6 := Lib.hid (H5.out.below hb5 (by simp))
          simp only [World.size_drew, World.size_alloc] at O5
          clear c0 c1 c2 e0 e1 cx hr5 ho5 hb5
          have c0 := F6.out.h0.cell 0 _ rfl; have c1 := F6.out.h0.cell 1 _ rfl; have c2 := F6.out.h0.cell 2 _ rfl; have e0 := F6.out.h1.cell 0 _ rfl; have e1 := F6.out.h1.cell 1 _ rfl
          have cx := (F6.out.below.cell (p := ⟨lb, lo, none⟩) hbx).trans hcx
          (try simp only [])
          refine hK _ _ (by refine ⟨?_, ?_, ?_, ?_, ?_, ?_⟩ <;> (first | exact c0 | exact c1 | exact c2 | exact e0 | exact e1 | exact cx)) ?_
          clear hK K
          (try go_frame)
          have h0 := H6.out.cell 0 _ rfl; have h1 := H6.out.cell 1 _ rfl; have hf := H6.out.free; have hl := H6.out.lt (by simp)
          clear ok c0 c1 c2 e0 e1 cx
          refine hd_done (by kernel_rfl) ?_
          simp only [List.drop_succ_cons, List.drop_zero]
          go_wp2_with fail
          go_meet
          exact ⟨wv.heap.size, _, _, _, _, _, _, rfl, YVr.setO H6.out O5.out (by omega) (by omega), (F6.out.far (p := ⟨wv.heap.size, 0, none⟩) (.inr (by simp; omega)) _).far (p := ⟨wv.heap.size, 1, none⟩) (.inr (by simp; omega)) _⟩
    case rest =>
      obtain ⟨ob, f1, f2, na, nc, no, noc, rfl, hV, hF⟩ := hcut
      have F2 := Lib.hid hF; have V2 := Lib.hid hV
      clear hF hV c0 c1 c2 e0 e1 cx F1 TX
      have k5 : (1 : Int) ≤ (len' : Int) := by omega
      have k6 : (1 : Int) ≤ (cap' : Int) := by omega
      have k7 : (len' : Int) ≤ (cap' : Int) := by omega
      go_upto_region 4 with fail
      go_cut [2, 27, 28, 29] (fun s2 s24 s25 s26 wx => ∃ lo2 cap2 : Nat, (lo2 = lo + 1 ∨ len' = 1) ∧ s2 = .slice (some ⟨lb, lo, none⟩) len' cap' ∧ s24 = .slice (some ⟨lb, lo2, none⟩) (len' - 1) cap2 ∧ s25 = .int .i64 ((len' - 1 : Nat) : Int) ∧ s26 = .int .i64 0 ∧ YVr wx (w.heap.size + 3) ob f1 f2 on na nc no noc (touchYm on W m o x) (touchYo on W m o x) ∧ Fm Non w wx [[.int .i64 on, .int .i64 W, .int .i64 L], [.slice a on cap, .slice oa on oc], [.slice none 0 0, .slice none 0 0]])
      case first =>
        go_wp2
        all_goals
          go_meet
          refine ⟨_, _, ?_, by first | rfl | (have : cap' = 1 := (by omega); rw [this]), rfl, rfl, rfl, V2.out, F2.out⟩
          first | exact .inl rfl | (right; omega)
      case rest =>
        obtain ⟨lo2, cap2, hlo, rfl, rfl, rfl, rfl, hV, hF⟩ := hcut
        clear V2 F2
        have Z2 := Lib.hid (show ∃ f1 f2 na nc no noc, YVr wc (w.heap.size + 3) ob f1 f2 on na nc no noc (eitherYP on W (m, o) lines 0).1 (eitherYP on W (m, o) lines 0).2 from ⟨f1, f2, na, nc, no, noc, by rw [E0.out]; exact hV⟩)
        have F2 := Lib.hid hF
        clear hV hF
        go_wp2
        go_loopw [29] (fun i wr => ∃ k : Nat, k ≤ len' - 1 ∧ i = .int .i64 k ∧ (∃ f1 f2 na nc no noc, YVr wr (w.heap.size + 3) ob f1 f2 on na nc no noc (eitherYP on W (m, o) lines k).1 (eitherYP on W (m, o) lines k).2) ∧ Fm Non w wr [[.int .i64 on, .int .i64 W, .int .i64 L], [.slice a on cap, .slice oa on oc], [.slice none 0 0, .slice none 0 0]]) (fun i _ => len' - (intOf i).toNat)
        case atStart => exact ⟨0, Nat.zero_le _, rfl, Z2.out, F2.out⟩
        case round =>
          obtain ⟨k, hk, rfl, ⟨f1, f2, na, nc, no, noc, hV⟩, hF⟩ := hrel
          have V3 := Lib.hid hV; have F3 := Lib.hid hF
          clear hV hF
          by_cases hlt : k < len' - 1
          · obtain rfl : lo2 = lo + 1 := by omega
            obtain ⟨xb, xo, y, hxb, hy, hcy, hy1, hy2, _, hby⟩ := Ints.get HR'.out (show 1 + k < len' by omega)
            obtain ⟨rfl, rfl⟩ : lb = xb ∧ lo = xo := by simp only [Option.some.injEq, Addr.mk.injEq] at hxb; exact ⟨hxb.1, hxb.2.1⟩
            have hyo := HLI.out y (List.mem_of_getElem? hy)
            have TY := Lib.hid (TC.out y hyo)
            have EY := Lib.hid (eitherYP_succ (S := on) (W := W) (st := (m, o)) hy)
            have SY := Lib.hid (ytouch_st HM.out (show 0 < W by omega) hyo.1 hyo.2.1 hyo.2.2)
            have SX := Lib.hid (show YSt U on W (eitherYP on W (m, o) lines k).1 (eitherYP on W (m, o) lines k).2 from ES.out k)
            have cy := (F3.out.below.cell (p := ⟨lb, lo + (1 + k), none⟩) hby).trans hcy
            rw [show lo + (1 + k) = lo + 1 + k by omega] at cy
            clear hy hcy hyo hxb
            have c0 := F3.out.h0.cell 0 _ rfl; have c1 := F3.out.h0.cell 1 _ rfl; have c2 := F3.out.h0.cell 2 _ rfl; have e0 := F3.out.h1.cell 0 _ rfl; have e1 := F3.out.h1.cell 1 _ rfl
            have x0 := V3.out.has.cell 0 _ rfl; have x1 := V3.out.has.cell 1 _ rfl
            have vge := V3.out.ge
            generalize eitherYP on W (m, o) lines k = X at *
            have q0 : (0 : Int) ≤ (k : Int) := by omega
            have q1 : (k : Int) < ((len' - 1 : Nat) : Int) := by omega
            have F4 := Lib.hid F3.out.drew
            go_upto_region 7 with fail
            clear cy
            refine hd_start 7 (fun w' => w'.cell? ⟨w.heap.size, 0, none⟩ = some (.int .i64 on) ∧ w'.cell? ⟨w.heap.size, 1, none⟩ = some (.int .i64 W) ∧ w'.cell? ⟨w.heap.size, 2, none⟩ = some (.int .i64 L) ∧ w'.cell? ⟨w.heap.size + 1, 0, none⟩ = some (.slice a on cap) ∧ w'.cell? ⟨w.heap.size + 1, 1, none⟩ = some (.slice oa on oc) ∧ w'.cell? ⟨ob, 0, none⟩ = some (.slice na on nc) ∧ w'.cell? ⟨ob, 1, none⟩ = some (.slice no on noc)) (by kernel_rfl) ⟨by kernel_rfl, by kernel_rfl, by kernel_rfl, by decide⟩ (by refine ⟨c0, c1, c2, e0, e1, x0, x1⟩) (fun ok => ?_)
            refine hd_take_l (i := 0) (v := ?_) ok rfl (by decide) (by kernel_rfl) (by kernel_rfl) (fun _ _ _ h => h) (Or.inl ⟨by kernel_rfl, ?_⟩) ?_
            rotate_left
            · (intro w hSw; (try dsimp only at hSw); (try go_split_ands); go_simp; (try (with_reducible rfl)))
            go_frame
            refine hd_take_l (i := 1) (v := ?_) ok rfl (by decide) (by kernel_rfl) (by kernel_rfl) (fun _ _ _ h => h) (Or.inl ⟨by kernel_rfl, ?_⟩) ?_
            rotate_left
            · (intro w hSw; (try dsimp only at hSw); (try go_split_ands); go_simp; (try (with_reducible rfl)))
            go_frame
            refine hd_take_l (i := 2) (v := ?_) ok rfl (by decide) (by kernel_rfl) (by kernel_rfl) (fun _ _ _ h => h) (Or.inl ⟨by kernel_rfl, ?_⟩) ?_
            rotate_left
            · (intro w hSw; (try dsimp only at hSw); (try go_split_ands); go_simp; (try (with_reducible rfl)))
            go_frame
            refine hd_take_l (i := 3) (v := ?_) ok rfl (by decide) (by kernel_rfl) (by kernel_rfl) (fun _ _ _ h => h) (Or.inl ⟨by kernel_rfl, ?_⟩) ?_
            rotate_left
            · (intro w hSw; (try dsimp only at hSw); (try go_split_ands); go_simp; (try (with_reducible rfl)))
            go_frame
            refine hd_take_l (i := 4) (v := ?_) ok rfl (by decide) (by kernel_rfl) (by kernel_rfl) (fun _ _ _ h => h) (Or.inl ⟨by kernel_rfl, ?_⟩) ?_
            rotate_left
            · (intro w hSw; (try dsimp only at hSw); (try go_split_ands); go_simp; (try (with_reducible rfl)))
            go_frame
            refine hd_only_l (c := 5) rfl (by decide) (by kernel_rfl) (fun K hK => ?_)
            go_simp
            go_at_call 31
            refine (TY.out _ F4.out.below).mono ?_
            rintro e w5 hr5
            obtain ⟨ta, tc, pa, pc, g1, g2, rfl, ho5, hb5⟩ := YRet.fix hr5 SY.out.len SY.out.olen
            have s5 := hb5.size
            simp only [World.size_drew] at s5
            have F5 := Lib.hid (Fm.call hb5 F4.out)
            have V5 := Lib.hid (V3.out.below ((Below.refl _ _).drew.trans hb5))
            have T5 := Lib.hid ho5
            clear c0 c1 c2 e0 e1 x0 x1 hr5 ho5 hb5
            have c0 := F5.out.h0.cell 0 _ rfl; have c1 := F5.out.h0.cell 1 _ rfl; have c2 := F5.out.h0.cell 2 _ rfl; have e0 := F5.out.h1.cell 0 _ rfl; have e1 := F5.out.h1.cell 1 _ rfl
            have x0 := V5.out.has.cell 0 _ rfl; have x1 := V5.out.has.cell 1 _ rfl
            (try simp only [])
            refine hK _ _ (by refine ⟨?_, ?_, ?_, ?_, ?_, ?_, ?_⟩ <;> (first | exact c0 | exact c1 | exact c2 | exact e0 | exact e1 | exact x0 | exact x1)) ?_
            clear hK K
            (try go_frame)

            refine hd_only_l (c := 6) rfl (by decide) (by kernel_rfl) (fun K hK => ?_)
            go_simp
            go_at_call 16
            refine (yrjoin_any U hU on W L hC.out X.1 (touchYm on W m o y) X.2 (touchYo on W m o y) SX.out SY.out (fun _ => True) (fun _ => True) na on nc no on noc ta on tc pa on pc w5 (V5.out.own.ycub (fun _ _ _ => trivial)) (T5.out.ycub (fun _ _ _ => trivial))).mono ?_
            rintro e w6 hr6
            obtain ⟨ja, jc, ia, ic, d1, d2, rfl, ho6, hb6⟩ := YRet.fix hr6 joinYm_len joinYo_len
            have F6 := Lib.hid (Fm.call hb6 F5.out)
            have V6 := Lib.hid (V5.out.below hb6)
            have J6 := Lib.hid (show OY w6 w5.heap.size d1 d2 ja on jc ia on ic (eitherYP on W (m, o) lines (k + 1)).1 (eitherYP on W (m, o) lines (k + 1)).2 by rw [EY.out]; exact ho6)
            have vl5 := V5.out.lt
            clear c0 c1 c2 e0 e1 x0 x1 hr6 ho6 hb6
            have c0 := F6.out.h0.cell 0 _ rfl; have c1 := F6.out.h0.cell 1 _ rfl; have c2 := F6.out.h0.cell 2 _ rfl; have e0 := F6.out.h1.cell 0 _ rfl; have e1 := F6.out.h1.cell 1 _ rfl
            have x0 := V6.out.has.cell 0 _ rfl; have x1 := V6.out.has.cell 1 _ rfl
            (try simp only [])
            refine hK _ _ (by refine ⟨?_, ?_, ?_, ?_, ?_, ?_, ?_⟩ <;> (first | exact c0 | exact c1 | exact c2 | exact e0 | exact e1 | exact x0 | exact x1)) ?_
            clear hK K
            (try go_frame)
            have xf := V6.out.has.free; have xl := V6.out.lt
            clear ok c0 c1 c2 e0 e1
            refine hd_done (by kernel_rfl) ?_
            simp only [List.drop_succ_cons, List.drop_zero]
            go_wp2
            go_roundw
            case rel => exact ⟨k + 1, by omega, by go_num, ⟨_, _, _, _, _, _, YVr.set V6.out J6.out vl5 (by omega)⟩, (F6.out.far (p := ⟨ob, 0, none⟩) (.inr (by simp; omega)) _).far (p := ⟨ob, 1, none⟩) (.inr (by simp; omega)) _⟩
            case measure => simp [intOf]; omega
          · have hkl : k = len' - 1 := by omega
            subst hkl
            rw [← EM.out] at V3
            have x0 := V3.out.has.cell 0 _ rfl; have x1 := V3.out.has.cell 1 _ rfl; have xl := V3.out.lt
            have e0 := F3.out.h2.cell 0 _ rfl; have e1 := F3.out.h2.cell 1 _ rfl; have ef := F3.out.h2.free; have lt1 := F3.out.h2.lt (by simp)
            go_wp2
            refine bodyPost_ret (v := YV na on nc no on noc) (by simp [results, Try.results34, go_sem, e0, e1]) rfl ⟨na, on, nc, no, on, noc, f1, f2, rfl, OY.ge (OY.two V3.out.own (show w.heap.size + 2 < w.heap.size + 3 by omega) (Nat.le_refl _)) (by omega), ((F3.out.set 2 0 _ rfl (by simp) _).set 2 1 _ rfl (by simp) _).below⟩
end Go.Proofs.Ytlpelpjcbclemaa
