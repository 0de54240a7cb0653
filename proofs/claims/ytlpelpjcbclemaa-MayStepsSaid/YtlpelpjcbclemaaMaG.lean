/-
  The document's Touch (lines that can be there). Printed by mkMaG.py.
-/
import Derived.Deep.DeepCutAuto
import Derived.Test.YtlpelpjcbclemaaMaF
import Derived.Test.YtlpelpjcbclemaaZMaD
import Derived.Test.YtlpelpjcbclemaaHeadr
namespace Go.Proofs.Ytlpelpjcbclemaa
open Go.RowKit

/-- A state in a variable. -/
structure YVr (w : World) (B b : Nat) (f1 f2 : Nat → Prop) (S : Nat) (a : Option Addr) (c : Nat) (oa : Option Addr) (oc : Nat) (m : List (List (List Int))) (o : List Int) : Prop where
  has : Has w b [.slice a S c, .slice oa S oc]
  own : OY w B f1 f2 a S c oa S oc m o
  ge : B ≤ b
  lt : b < w.heap.size
  o1 : ¬ f1 b
  o2 : ¬ f2 b
theorem OCub.ka {w : World} {fp : Nat → Prop} {v : Value} {X : List (List (List Int))} {o : Obj} (h : OCub w fp v X) : OCub (w.alloc o) fp v X := OCub.loc.below h ((Below.refl _ _).alloc (Nat.le_refl _) _)
theorem OInts.nil (w : World) (f : Nat → Prop) : OInts w f (.slice none 0 0) [] := .inl ⟨rfl, rfl⟩
theorem YVr.new {w : World} {A B C S c oc E : Nat} {a oa : Option Addr} {m : List (List (List Int))} {o : List Int} (h1 : OCub w (Bt A B) (.slice a S c) m) (h2 : OInts w (Bt B C) (.slice oa S oc) o) (hA : E ≤ A) (hB : B ≤ w.heap.size) (hE : E ≤ B ∧ C ≤ w.heap.size ∧ E ≤ w.heap.size) :
    YVr (w.alloc (.cells #[.slice a S c, .slice oa S oc] 31)) E w.heap.size (Bt A B) (Bt B C) S a c oa oc m o :=
  ⟨Has.new w [.slice a S c, .slice oa S oc] 31, OY.mk3 (OCub.ka h1) (OInts.loc.below h2 ((Below.refl _ _).alloc (Nat.le_refl _) _)) (.inl (Nat.le_refl _)) (by simp; omega) (by simp; omega) E hA hE.1, hE.2.2, by simp, fun h => by have := h.2; omega, fun h => by have := h.2; omega⟩
theorem YVr.mk' {w : World} {A B C D S c oc E b : Nat} {a oa : Option Addr} {m : List (List (List Int))} {o : List Int} {u v : Value} (hx : Has w b [u, v]) (h1 : OCub w (Bt A B) (.slice a S c) m) (h2 : OInts w (Bt C D) (.slice oa S oc) o) (hBC : B ≤ C) (hC : C ≤ w.heap.size ∧ D ≤ w.heap.size) (hb1 : b < A ∨ B ≤ b) (hb2 : b < C ∨ D ≤ b) (hE : E ≤ A ∧ E ≤ C) (hb : E ≤ b) :
    YVr ((w.setCell ⟨b, 0, none⟩ (.slice a S c)).setCell ⟨b, 1, none⟩ (.slice oa S oc)) E b (Bt A B) (Bt C D) S a c oa oc m o := by
  have k : Chg (fun j => j = b) w ((w.setCell ⟨b, 0, none⟩ (.slice a S c)).setCell ⟨b, 1, none⟩ (.slice oa S oc)) := (Chg.setCell (M := fun j => j = b) (Chg.refl _) (fun _ => rfl) _).setCell (fun _ => rfl) _
  exact ⟨(hx.set0 _).set1 _, OY.mk3 (OCub.loc.chg h1 k (fun j hj _ e => by have := hj.1; have := hj.2; omega)) (OInts.loc.chg h2 k (fun j hj _ e => by have := hj.1; have := hj.2; omega)) (.inl hBC) (by simp; omega) (by simp; omega) E hE.1 hE.2, hb, by simpa using hx.lt (by simp), fun h => by have := h.1; have := h.2; omega, fun h => by have := h.1; have := h.2; omega⟩
theorem YVr.below {w w' : World} {B b : Nat} {f1 f2 : Nat → Prop} {S c oc : Nat} {a oa : Option Addr} {m : List (List (List Int))} {o : List Int} (h : YVr w B b f1 f2 S a c oa oc m o) (k : Below w.heap.size w w') : YVr w' B b f1 f2 S a c oa oc m o :=
  ⟨h.has.below k h.lt, h.own.below k, h.ge, Nat.lt_of_lt_of_le h.lt k.size, h.o1, h.o2⟩

theorem setCell_comm (w : World) {p q : Addr} (u v : Value) (h : p.block ≠ q.block) : (w.setCell p u).setCell q v = (w.setCell q v).setCell p u := by
  have e : ((w.setCell p u).setCell q v).heap = ((w.setCell q v).setCell p u).heap := by
    apply Array.ext_getElem?
    intro i
    simp only [World.setCell, Array.getElem?_modify]
    by_cases h1 : p.block = i <;> by_cases h2 : q.block = i
    · exact absurd (h1.trans h2.symm) h
    · simp [h1, h2]
    · simp [h1, h2]
    · simp [h1, h2]
  exact congrArg (fun x => ({ w with heap := x } : World)) e
theorem YF.fin {w : World} {B ob nb s : Nat} {f1 f2 : Nat → Prop} {a : Option Addr} {n c : Nat} {oa : Option Addr} {on oc : Nat} {m : List (List (List Int))} {o : List Int} {x : Value} {z z' : Int} (h : OY ((w.setCell ⟨ob, s, none⟩ x).setCell ⟨nb, s, none⟩ (.int .i64 z)) B f1 f2 a n c oa on oc m o) (hne : nb ≠ ob) (e : z = z') (q : Nat) :
    OY (((w.setCell ⟨nb, s, none⟩ (.int .i64 z')).setCell ⟨ob, s, none⟩ x).drewN q) B f1 f2 a n c oa on oc m o := by
  subst e
  rw [setCell_comm w _ _ hne]
  exact h.below (below_drewN (Below.refl _ _) q)
theorem YVr.chg {w w' : World} {M : Nat → Prop} {B b : Nat} {f1 f2 : Nat → Prop} {S c oc : Nat} {a oa : Option Addr} {m : List (List (List Int))} {o : List Int} (h : YVr w B b f1 f2 S a c oa oc m o) (k : Chg M w w') (hM : ∀ j, j < w.heap.size → ¬ M j) : YVr w' B b f1 f2 S a c oa oc m o :=
  ⟨k.has h.has h.lt (hM b h.lt), h.own.chg k (fun j _ hj => hM j hj), h.ge, Nat.lt_of_lt_of_le h.lt k.size, h.o1, h.o2⟩

set_option maxRecDepth 100000 in
set_option maxHeartbeats 8000000 in
theorem yrtouch_any (U : List Int) (hU : U.length ≤ 1000) (S W L : Nat) (hc : COk S W L) (m : List (List (List Int))) (o : List Int) (hm : YSt U S W m o) (Kr : Nat → Prop) (a : Option Addr) (len cap : Nat) (oa : Option Addr) (on oc : Nat) (n : Int) (hn : 0 ≤ n) (hn1 : n ≤ 1048576) (hnU : n ∈ U) (w : World) (r : YCub Kr w a len cap oa on oc m o) :
    Calls Try.prog 31 #[CV S W L, YV a len cap oa on oc, .int .i64 n] w (YRet (touchYm S W m o n) (touchYo S W m o n) w) := by
  have hl := r.cub.hlen; have h6 := r.cub.hsz; have hol := r.ints.hlen
  have hS : len = S := by rw [← hl]; exact hm.len
  have hO : on = S := by rw [← hol]; exact hm.olen
  subst hS
  subst hO
  have hC := Lib.hid hc
  obtain ⟨g1, g2, g3, g4, g5, g6⟩ := hc
  have F0 := Lib.hid (Fm.new (Fm.new (Fm.new (Fm.start Non w) rfl [.int .i64 on, .int .i64 W, .int .i64 L] 26) (by simp) [.slice a on cap, .slice oa on oc] 31) (by simp) [.slice none 0 0, .slice none 0 0] 31)
  have CP := Lib.hid (fun (w' : World) (hb : Below w.heap.size w w') => rcopy3_any Kr a on cap m w' (r.below hb).cub (hm.mst.fews hU (by omega) (by omega)))
  have HR := Lib.hid r; have HM := Lib.hid hm; have HL := Lib.hid hl; have HOL := Lib.hid hol
  clear r hm hl hol
  go_enter Try.func31, Try.ntmps31
  go_upto_region 1 with fail
  obtain ⟨wv, hwv⟩ : ∃ wv : World, wv = (((w.alloc (.cells #[.int .i64 on, .int .i64 W, .int .i64 L] 26)).alloc (.cells #[.slice a on cap, .slice oa on oc] 31)).alloc (.cells #[.slice none 0 0, .slice none 0 0] 31)) := ⟨_, rfl⟩
  have F1 := Lib.hid (show Fm Non w wv [[.int .i64 on, .int .i64 W, .int .i64 L], [.slice a on cap, .slice oa on oc], [.slice none 0 0, .slice none 0 0]] from by rw [hwv]; exact F0.out)
  rw [← hwv]
  clear hwv F0
  have sv := F1.out.size
  simp only [List.length_cons, List.length_nil] at sv
  have c0 := F1.out.h1.cell 0 _ rfl; have c1 := F1.out.h1.cell 1 _ rfl
  have F2 := Lib.hid F1.out.drew
  go_cut [7] (fun s7 wx => ∃ b f1 f2 na nc no noc, s7 = .pointer (some ⟨b, 0, none⟩) ∧ YVr wx (w.heap.size + 3) b f1 f2 on na nc no noc m o ∧ Fm Non w wx [[.int .i64 on, .int .i64 W, .int .i64 L], [.slice a on cap, .slice oa on oc], [.slice none 0 0, .slice none 0 0]])
  case first =>
    as_aux_lemma =>
      refine hd_start 8 (fun w' => w'.cell? ⟨w.heap.size + 1, 0, none⟩ = some (.slice a on cap) ∧ w'.cell? ⟨w.heap.size + 1, 1, none⟩ = some (.slice oa on oc)) (by kernel_rfl) ⟨by kernel_rfl, by kernel_rfl, by kernel_rfl, by decide⟩ (by refine ⟨c0, c1⟩) (fun ok => ?_)
      refine hd_take_l (i := 0) (v := ?_) ok rfl (by decide) (by kernel_rfl) (by kernel_rfl) (fun _ _ _ h => h) (Or.inl ⟨by kernel_rfl, ?_⟩) ?_
      rotate_left
      · (intro w hSw; (try dsimp only at hSw); (try go_split_ands); go_simp; (try (with_reducible rfl)))
      go_frame
      refine hd_take_l (i := 1) (v := ?_) ok rfl (by decide) (by kernel_rfl) (by kernel_rfl) (fun _ _ _ h => h) (Or.inl ⟨by kernel_rfl, ?_⟩) ?_
      rotate_left
      · (intro w hSw; (try dsimp only at hSw); (try go_split_ands); go_simp; (try (with_reducible rfl)))
      go_frame
      refine hd_take_l (i := 3) (v := ?_) ok rfl (by decide) (by kernel_rfl) (by kernel_rfl) (fun _ _ _ h => h) (Or.inl ⟨by kernel_rfl, ?_⟩) ?_
      rotate_left
      · (intro w hSw; (try dsimp only at hSw); (try go_split_ands); go_simp; (try (with_reducible rfl)))
      go_frame
      refine hd_take_l (i := 4) (v := ?_) ok rfl (by decide) (by kernel_rfl) (by kernel_rfl) (fun _ _ _ h => h) (Or.inl ⟨by kernel_rfl, ?_⟩) ?_
      rotate_left
      · (intro w hSw; (try dsimp only at hSw); (try go_split_ands); go_simp; (try (with_reducible rfl)))
      go_frame
      refine hd_two_l (c := 2) (d := 7) rfl rfl (by decide) (by decide) (by kernel_rfl) (fun K hK => ?_) (fun K hK => ?_)
      · skip
        go_simp
        go_at_call 53
        refine (CP.out _ F2.out.below).mono ?_
        rintro e w3 ⟨ta, tn, tc, rfl, ho3, hb3⟩
        obtain rfl : on = tn := by have h1 := (OCub.read (K := fun _ => True) (fun _ _ => trivial) ho3).hlen; have h2 := HM.out.len; omega
        have s3 := hb3.size
        simp only [World.size_drew] at s3
        have F3 := Lib.hid (Fm.call hb3 F2.out)
        have O3 := Lib.hid ho3.bt1
        simp only [World.size_drew] at O3
        clear c0 c1 ho3 hb3
        have c0 := F3.out.h1.cell 0 _ rfl; have c1 := F3.out.h1.cell 1 _ rfl
        (try simp only [])
        refine hK _ _ (by refine ⟨?_, ?_⟩ <;> (first | exact c0 | exact c1)) ?_
        clear hK K
        (try go_frame)

        refine hd_two_l (c := 5) (d := 7) rfl rfl (by decide) (by decide) (by kernel_rfl) (fun K hK => ?_) (fun K hK => ?_)
        · skip
          have OI := Lib.hid (show Ints Kr w3 oa on oc o from (HR.out.below F3.out.below).ints)
          refine step_append_o rfl _ _ 22 rfl Try.underlying22 info_int (OInts.nil _ (fun _ => False)) rfl OI.out rfl (by simp; omega) ?_
          intro v4 w4 hap
          rw [List.nil_append] at hap
          obtain ⟨va, vn, vc, rfl⟩ : ∃ a n c, v4 = .slice a n c := by obtain ⟨a, c, h⟩ := hap.out.1.form; exact ⟨a, _, c, h⟩
          obtain rfl : on = vn := by have h1 := (OInts.read (K := fun _ => True) (fun _ _ => trivial) hap.out.1).hlen; have h2 := HM.out.olen; omega
          have s4 := hap.out.2.size
          have F4 := Lib.hid (Fm.call (Chg.below (M := fun _ => False) hap.out.2 (fun _ _ h => h) (Nat.le_refl _)) F3.out)
          have O4 := Lib.hid (OCub.loc.chg O3.out hap.out.2 (fun _ _ _ h => h))
          have I4 := Lib.hid (show OInts w4 (Bt w3.heap.size w4.heap.size) (.slice va on vc) o from OwnRow.wid _ _ _ _ _ _ (fun j hj => ⟨hj.1.elim False.elim id, hj.2⟩) hap.out.1.lt)
          clear c0 c1 hap
          have c0 := F4.out.h1.cell 0 _ rfl; have c1 := F4.out.h1.cell 1 _ rfl
          (try simp only [])
          refine hK _ _ (by refine ⟨?_, ?_⟩ <;> (first | exact c0 | exact c1)) ?_
          clear hK K
          (try go_frame)
          refine hd_take_l (i := 6) (v := ?_) ok rfl (by decide) (by kernel_rfl) (by kernel_rfl) (fun _ _ _ h => h) (Or.inl ⟨by kernel_rfl, ?_⟩) ?_
          rotate_left
          · (intro w hSw; (try dsimp only at hSw); (try go_split_ands); go_simp; (try (with_reducible rfl)))
          go_frame
          refine hd_only_l (c := 7) rfl (by decide) (by kernel_rfl) (fun K hK => ?_)
          go_simp
          (try simp only [])
          refine hK _ _ (by refine ⟨?_, ?_⟩ <;> (first | exact (cell_alloc (by omega) c0) | exact (cell_alloc (by omega) c1))) ?_
          clear hK K
          (try go_frame)
          clear ok c0 c1
          refine hd_done (by kernel_rfl) ?_
          simp only [List.drop_succ_cons, List.drop_zero]
          go_wp2_with fail
          go_meet
          exact ⟨w4.heap.size, _, _, _, _, _, _, rfl, YVr.new O4.out I4.out (by omega) s4 (by omega), F4.out.more _⟩
        · skip
          go_simp
          have F5 := Lib.hid (F3.out.more (.cells #[.slice none 0 0, .slice none 0 0] 31)); have H5 := Lib.hid (Has.new w3 [.slice none 0 0, .slice none 0 0] 31); have O5 := Lib.hid (OCub.ka (o := .cells #[.slice none 0 0, .slice none 0 0] 31) O3.out)
          clear c0 c1
          have c0 := F5.out.h1.cell 0 _ rfl; have c1 := F5.out.h1.cell 1 _ rfl
          (try simp only [])
          refine hK _ _ (by refine ⟨?_, ?_⟩ <;> (first | exact c0 | exact c1)) ?_
          clear hK K
          (try go_frame)

          refine hd_only_l (c := 5) rfl (by decide) (by kernel_rfl) (fun K hK => ?_)
          have OI := Lib.hid (show Ints Kr (w3.alloc (.cells #[.slice none 0 0, .slice none 0 0] 31)) oa on oc o from (HR.out.below F5.out.below).ints)
          refine step_append_o rfl _ _ 22 rfl Try.underlying22 info_int (OInts.nil _ (fun _ => False)) rfl OI.out rfl (by simp; omega) ?_
          intro v4 w4 hap
          rw [List.nil_append] at hap
          obtain ⟨va, vn, vc, rfl⟩ : ∃ a n c, v4 = .slice a n c := by obtain ⟨a, c, h⟩ := hap.out.1.form; exact ⟨a, _, c, h⟩
          obtain rfl : on = vn := by have h1 := (OInts.read (K := fun _ => True) (fun _ _ => trivial) hap.out.1).hlen; have h2 := HM.out.olen; omega
          have s4 := hap.out.2.size
          have F4 := Lib.hid (Fm.call (Chg.below (M := fun _ => False) hap.out.2 (fun _ _ h => h) (Nat.le_refl _)) F5.out)
          have O4 := Lib.hid (OCub.loc.chg O5.out hap.out.2 (fun _ _ _ h => h))
          have I4 := Lib.hid (show OInts w4 (Bt (w3.alloc (.cells #[.slice none 0 0, .slice none 0 0] 31)).heap.size w4.heap.size) (.slice va on vc) o from OwnRow.wid _ _ _ _ _ _ (fun j hj => ⟨hj.1.elim False.elim id, hj.2⟩) hap.out.1.lt)
          have H4 := Lib.hid (hap.out.2.has H5.out (H5.out.lt (by simp)) (fun h => h))
          clear c0 c1 hap
          have c0 := F4.out.h1.cell 0 _ rfl; have c1 := F4.out.h1.cell 1 _ rfl
          (try simp only [])
          refine hK _ _ (by refine ⟨?_, ?_⟩ <;> (first | exact c0 | exact c1)) ?_
          clear hK K
          (try go_frame)
          refine hd_take_l (i := 6) (v := ?_) ok rfl (by decide) (by kernel_rfl) (by kernel_rfl) (fun _ _ _ h => h) (Or.inl ⟨by kernel_rfl, ?_⟩) ?_
          rotate_left
          · (intro w hSw; (try dsimp only at hSw); (try go_split_ands); go_simp; (try (with_reducible rfl)))
          go_frame
          have h0 := H4.out.cell 0 _ rfl; have h1 := H4.out.cell 1 _ rfl; have hf := H4.out.free; have hl := H4.out.lt (by simp)
          clear ok c0 c1
          refine hd_done (by kernel_rfl) ?_
          simp only [List.drop_succ_cons, List.drop_zero]
          go_wp2_with fail
          go_meet
          exact ⟨w3.heap.size, _, _, _, _, _, _, rfl, YVr.mk' H4.out O4.out I4.out (by simp) ⟨s4, Nat.le_refl _⟩ (.inr (Nat.le_refl _)) (.inl (by simp)) (by constructor <;> (first | omega | (simp; omega))) (by omega), (F4.out.far (p := ⟨w3.heap.size, 0, none⟩) (.inr (by simp; omega)) _).far (p := ⟨w3.heap.size, 1, none⟩) (.inr (by simp; omega)) _⟩
      · skip
        go_simp
        have F5 := Lib.hid (F1.out.more (.cells #[.slice none 0 0, .slice none 0 0] 31)).drew; have H5 := Lib.hid (Has.new wv [.slice none 0 0, .slice none 0 0] 31).drew
        clear c0 c1
        have c0 := F5.out.h1.cell 0 _ rfl; have c1 := F5.out.h1.cell 1 _ rfl
        (try simp only [])
        refine hK _ _ (by refine ⟨?_, ?_⟩ <;> (first | exact c0 | exact c1)) ?_
        clear hK K
        (try go_frame)

        refine hd_only_l (c := 2) rfl (by decide) (by kernel_rfl) (fun K hK => ?_)
        go_simp
        go_at_call 53
        refine (CP.out _ F5.out.below).mono ?_
        rintro e w3 ⟨ta, tn, tc, rfl, ho3, hb3⟩
        obtain rfl : on = tn := by have h1 := (OCub.read (K := fun _ => True) (fun _ _ => trivial) ho3).hlen; have h2 := HM.out.len; omega
        have s3 := hb3.size
        simp only [World.size_drew, World.size_alloc] at s3
        have F3 := Lib.hid (Fm.call hb3 F5.out)
        have O3 := Lib.hid ho3.bt1
        simp only [World.size_drew, World.size_alloc] at O3
        have H3 := Lib.hid (H5.out.below hb3 (by simp))
        clear c0 c1 ho3 hb3
        have c0 := F3.out.h1.cell 0 _ rfl; have c1 := F3.out.h1.cell 1 _ rfl
        (try simp only [])
        refine hK _ _ (by refine ⟨?_, ?_⟩ <;> (first | exact c0 | exact c1)) ?_
        clear hK K
        (try go_frame)

        refine hd_only_l (c := 5) rfl (by decide) (by kernel_rfl) (fun K hK => ?_)
        have OI := Lib.hid (show Ints Kr w3 oa on oc o from (HR.out.below F3.out.below).ints)
        refine step_append_o rfl _ _ 22 rfl Try.underlying22 info_int (OInts.nil _ (fun _ => False)) rfl OI.out rfl (by simp; omega) ?_
        intro v4 w4 hap
        rw [List.nil_append] at hap
        obtain ⟨va, vn, vc, rfl⟩ : ∃ a n c, v4 = .slice a n c := by obtain ⟨a, c, h⟩ := hap.out.1.form; exact ⟨a, _, c, h⟩
        obtain rfl : on = vn := by have h1 := (OInts.read (K := fun _ => True) (fun _ _ => trivial) hap.out.1).hlen; have h2 := HM.out.olen; omega
        have s4 := hap.out.2.size
        have F4 := Lib.hid (Fm.call (Chg.below (M := fun _ => False) hap.out.2 (fun _ _ h => h) (Nat.le_refl _)) F3.out)
        have O4 := Lib.hid (OCub.loc.chg O3.out hap.out.2 (fun _ _ _ h => h))
        have I4 := Lib.hid (show OInts w4 (Bt w3.heap.size w4.heap.size) (.slice va on vc) o from OwnRow.wid _ _ _ _ _ _ (fun j hj => ⟨hj.1.elim False.elim id, hj.2⟩) hap.out.1.lt)
        have H4 := Lib.hid (hap.out.2.has H3.out (H3.out.lt (by simp)) (fun h => h))
        clear c0 c1 hap
        have c0 := F4.out.h1.cell 0 _ rfl; have c1 := F4.out.h1.cell 1 _ rfl
        (try simp only [])
        refine hK _ _ (by refine ⟨?_, ?_⟩ <;> (first | exact c0 | exact c1)) ?_
        clear hK K
        (try go_frame)
        refine hd_take_l (i := 6) (v := ?_) ok rfl (by decide) (by kernel_rfl) (by kernel_rfl) (fun _ _ _ h => h) (Or.inl ⟨by kernel_rfl, ?_⟩) ?_
        rotate_left
        · (intro w hSw; (try dsimp only at hSw); (try go_split_ands); go_simp; (try (with_reducible rfl)))
        go_frame
        have h0 := H4.out.cell 0 _ rfl; have h1 := H4.out.cell 1 _ rfl; have hf := H4.out.free; have hl := H4.out.lt (by simp)
        clear ok c0 c1
        refine hd_done (by kernel_rfl) ?_
        simp only [List.drop_succ_cons, List.drop_zero]
        go_wp2_with fail
        go_meet
        exact ⟨wv.heap.size, _, _, _, _, _, _, rfl, YVr.mk' H4.out O4.out I4.out (Nat.le_refl _) ⟨s4, Nat.le_refl _⟩ (.inl (by omega)) (.inl (by omega)) (by constructor <;> (first | omega | (simp; omega))) (by omega), (F4.out.far (p := ⟨wv.heap.size, 0, none⟩) (.inr (by simp; omega)) _).far (p := ⟨wv.heap.size, 1, none⟩) (.inr (by simp; omega)) _⟩
  case rest =>
    obtain ⟨vb, f1, f2, na, nc, no, noc, rfl, hV, hF⟩ := hcut
    have V1 := Lib.hid hV
    clear hV c0 c1 F1 F2 sv
    have F1 := Lib.hid hF
    have w1s := hF.size
    simp only [List.length_cons, List.length_nil] at w1s
    clear hF
    obtain ⟨w1, hw1⟩ : ∃ w1, w1 = wc := ⟨_, rfl⟩
    subst hw1
    by_cases h0 : on = 0
    · subst h0
      have HT := Lib.hid (show touchYm 0 W m o n = m from rfl); have HT2 := Lib.hid (show touchYo 0 W m o n = o from rfl)
      have c0 := F1.out.h0.cell 0 _ rfl; have lt0 := F1.out.h0.lt (by simp)
      have x0 := V1.out.has.cell 0 _ rfl; have x1 := V1.out.has.cell 1 _ rfl; have lx := V1.out.lt
      have e0 := F1.out.h2.cell 0 _ rfl; have e1 := F1.out.h2.cell 1 _ rfl; have ef := F1.out.h2.free; have lt1 := F1.out.h2.lt (by simp)
      go_wp2
      refine bodyPost_ret (v := YV na 0 nc no 0 noc) (by simp [results, Try.results31, go_sem, e0, e1]) rfl ⟨na, 0, nc, no, 0, noc, f1, f2, rfl, OY.cast (OY.ge (OY.two V1.out.own (show w.heap.size + 2 < w.heap.size + 3 by omega) (Nat.le_refl _)) (by omega)) HT.out.symm HT2.out.symm, ((F1.out.set 2 0 _ rfl (by simp) _).set 2 1 _ rfl (by simp) _).below⟩
    · have hlt := setN_lt (show 0 < on by omega) n
      have hsi := setN_int (show 0 < on by omega) n
      have hPn := PS.self (show 0 < on by omega) hn hn1 hnU
      have hz : ((on : Int) == 0) = false := by simp; omega
      have hmod : n.tmod (on : Int) = ((setN on n : Nat) : Int) := by rw [Int.tmod_eq_emod_of_nonneg hn, hsi]
      have hmod2 : n % (on : Int) = ((setN on n : Nat) : Int) := hsi.symm
      obtain ⟨g, k9, hg, hk9, hgd, hkd, hgs⟩ := HM.out.at hlt
      have HAF := Lib.hid (ageY_found (W := W) (n := n) h0 hgd hkd)
      have HT := Lib.hid (show touchYm on W m o n = m.set (setN on n) (useY W n (ageY on W m o n) g) from by unfold touchYm; rw [if_neg h0, hgd])
      have HT2 := Lib.hid (show touchYo on W m o n = o.set (setN on n) ((tick W (ageY on W m o n) k9 : Nat) : Int) from by unfold touchYo; rw [if_neg h0, hkd, Int.toNat_natCast])
      have AG := Lib.hid (fun (w' : World) (hb : Below w.heap.size w w') => yrage_any on W L hC.out m o HM.out Kr a on cap oa on oc n hn w' (HR.out.below hb))
      have HAW := Lib.hid (show ageY on W m o n ≤ W by rw [HAF.out]; exact Nat.le_trans (ageF_le hgs n) hgs.ole)
      have HG := Lib.hid hg; have HS := Lib.hid hgs; have HP := Lib.hid hPn; have HK := Lib.hid hk9
      obtain ⟨qqb, qqp, rfl, hco, hbo, hso, _⟩ := HR.out.other hk9
      have hkW := hgs.ole
      clear hg hgd hgs hPn hk9 hkd hsi
      generalize setN on n = s at *
      obtain ⟨b, p, g', ra, rl, rc, rfl, hx, hcw, hrx, _, hbw⟩ := Rows.get HR.out.cub hlt
      have hgg : g' = g := by rw [HG.out] at hx; cases hx; rfl
      subst hgg
      clear hx
      have hrl := hrx.hlen; have hr6 := hrx.hsz
      have hrW : rl = W := by rw [← hrl]; exact HS.out.ws.len
      subst hrW
      have HRX := Lib.hid hrx; have HRL := Lib.hid hrl; clear hrx hrl
      have hs0 : (0 : Int) ≤ (s : Int) := by omega
      have hs1 : (s : Int) < (on : Int) := by omega
      have hnz : ¬ on = 0 := h0
      have HUS := Lib.hid (fun hh => (show useY rl n hh g' = put (useP rl n (hh + 1) g' g'.length) 0 n from rfl))
      have hW0 : (rl : Int) ≤ 4 := g4
      generalize ageY on rl m o n = hh at *
      have hhW := HAW.out
      have hm2 := fun w => make_rows rl (by omega) w .i64 .i64
      have c0 := F1.out.h0.cell 0 _ rfl; have c1 := F1.out.h0.cell 1 _ rfl; have c2 := F1.out.h0.cell 2 _ rfl; have lt0 := F1.out.h0.lt (by simp); have e0 := F1.out.h1.cell 0 _ rfl; have e1 := F1.out.h1.cell 1 _ rfl; have lt1 := F1.out.h1.lt (by simp)
      go_wp2_with fail
      refine (AG.out _ F1.out.below).mono ?_
      rintro e w3 ⟨rfl, hb3⟩
      have s3 := hb3.size
      have F3 := Lib.hid (Fm.call hb3 F1.out)
      have V3 := Lib.hid (V1.out.below hb3)
      have vlt := V1.out.lt; have vge := V1.out.ge
      have vo1 := V1.out.o1; have vo2 := V1.out.o2
      clear c0 c1 c2 lt0 e0 e1 lt1 hb3
      obtain ⟨ob, obc, u, fq, pk⟩ := OwnRow.pick OMat.loc V3.out.own.sets HG.out
      have pf := pk.form
      rw [HL.out] at pf
      simp only [Value.slice.injEq] at pf
      obtain ⟨pf1, _, pf3⟩ := pf
      subst pf1
      obtain rfl : obc = nc := pf3.symm
      have PP := Lib.hid pk
      have pw3 : ob < w3.heap.size := pk.lt
      have pge : w.heap.size + 3 ≤ ob := (V3.out.own.s1 _ pk.own).1
      have pvb : ob ≠ vb := fun e => vo1 (e ▸ pk.own)
      have c1 := F3.out.h0.cell 1 _ rfl; have lt0 := F3.out.h0.lt (by simp); have e0 := F3.out.h1.cell 0 _ rfl; have lt1 := F3.out.h1.lt (by simp)
      have cx := (F3.out.below.cell (p := ⟨b, p + s, none⟩) hbw).trans hcw
      have lb3 : b < w3.heap.size := Nat.lt_of_lt_of_le hbw (by have := F3.out.below.size; omega)
      have Q0 := Lib.hid (OMat.nils (fp := Ge w3.heap.size) (Blk.new w3 (zeros (.slice none 0 0) rl) 22) (Nat.le_refl _) (by omega))
      have C0 := Lib.hid (show Chg (Ge w3.heap.size) w3 (w3.alloc (.cells (zeros (.slice none 0 0) rl).toArray 22)) from (Chg.refl w3).alloc _)
      clear pk hcw
      go_wp2
      clear hm2 c1 lt0 e0 lt1 cx lb3
      have hw3 : w.heap.size + 3 ≤ w3.heap.size := by omega
      go_loopw [44] (fun i wr => ∃ k : Nat, k ≤ rl ∧ i = .int .i64 k ∧ OMat wr (Ge w3.heap.size) (.slice (some ⟨w3.heap.size, 0, none⟩) rl rl) (useP rl n (hh + 1) g' k) ∧ Chg (Ge w3.heap.size) w3 wr) (fun i _ => rl - (intOf i).toNat)
      case atStart => exact ⟨0, Nat.zero_le _, rfl, Q0.out, C0.out⟩
      case round =>
        obtain ⟨k, hk, rfl, hq, hC3⟩ := hrel
        have Q1 := Lib.hid hq; have C1 := Lib.hid hC3
        clear hq hC3
        have US := Lib.hid (useP_spec (W := rl) (n := n) (h := hh + 1) HS.out.ws k)
        have F4 := Lib.hid (F3.out.chgd C1.out (fun j hj => .inr (by unfold Ge at hj; simp; omega)))
        have hsz4 := C1.out.size
        by_cases hkl : k < rl
        · obtain ⟨gb, go, l, la, ll, lc, rfl, hxl, hcl, hrl, _, hbl⟩ := Rows.get HRX.out hkl
          have hll := hrl.hlen; have hl6 := hrl.hsz
          subst hll
          have hcl' := (F4.out.below.cell (p := ⟨gb, go + k, none⟩) hbl).trans hcl
          have hgd : g'.getD k [] = l := by rw [List.getD_eq_getElem?_getD, hxl]; rfl
          have HX := Lib.hid hxl; have RX := Lib.hid hrl; have HD := Lib.hid hgd
          have b1 : gb < wr.heap.size := Nat.lt_of_lt_of_le hbl F4.out.below.size
          clear hxl hcl hrl hgd
          obtain ⟨wo, hwo⟩ : ∃ wo : World, wo = wr := ⟨_, rfl⟩
          subst hwo
          go_wp2
          go_loopw [51] (fun i wr => ∃ j : Nat, j ≤ l.length ∧ i = .int .i64 j ∧ OMat wr (Ge w3.heap.size) (.slice (some ⟨w3.heap.size, 0, none⟩) rl rl) (useL n (hh + 1) k (useP rl n (hh + 1) g' k) (l.take j)) ∧ Chg (Ge w3.heap.size) w3 wr) (fun i _ => l.length - (intOf i).toNat)
          case atStart => exact ⟨0, Nat.zero_le _, rfl, Q1.out, C1.out⟩
          case round =>
            obtain ⟨j, hj, rfl, hq, hC5⟩ := hrel
            have Q2 := Lib.hid hq; have C2 := Lib.hid hC5
            clear hq hC5
            have F5 := Lib.hid (F3.out.chgd C2.out (fun j hj => .inr (by unfold Ge at hj; simp; omega)))
            have hsz5 := C2.out.size
            by_cases hlj : j < l.length
            · obtain ⟨lb, lo, x, rfl, hzx, hcz, hz1, hz2, _, hbz⟩ := Ints.get RX.out hlj
              have hcz' := (F5.out.below.cell (p := ⟨lb, lo + j, none⟩) hbz).trans hcz
              have HTS := Lib.hid (show useL n (hh + 1) k (useP rl n (hh + 1) g' k) (l.take (j + 1)) = useStep n (hh + 1) k (useL n (hh + 1) k (useP rl n (hh + 1) g' k) (l.take j)) x by rw [List.take_add_one, hzx]; unfold useL; rw [List.foldl_append]; rfl)
              have hxl : x ∈ l := List.mem_of_getElem? hzx
              have WS := Lib.hid (useL_spec (n := n) (h := hh + 1) (a := k) (l := l.take j) US.out.1 ((HS.out.ws.asc k l HX.out).sublist (List.take_sublist _ _)) (fun y hy => ⟨HS.out.ws.mem k y ⟨l, HX.out, List.mem_of_mem_take hy⟩, fun i hi => by
                obtain ⟨_, a, ha, hat, _⟩ := (US.out.2 i y).1 hi
                have := HS.out.ws.once _ _ _ hat ⟨l, HX.out, List.mem_of_mem_take hy⟩
                omega⟩)).1
              clear hcz hzx hxl
              have c1 := F5.out.h0.cell 1 _ rfl; have lt0 := F5.out.h0.lt (by simp)
              by_cases hxn : x = n
              · have hb : (x != n) = false := by simp [hxn]
                have HE := Lib.hid (useStep_none (h := hh + 1) (a := k) (out := useL n (hh + 1) k (useP rl n (hh + 1) g' k) (l.take j)) hxn)
                clear hxn
                by_cases hkh : k ≤ hh
                all_goals
                  go_wp2
                  go_roundw
                  case rel => exact ⟨j + 1, by omega, by go_num, by rw [HTS.out, HE.out]; exact Q2.out, C2.out⟩
                  case measure => simp [intOf]; omega
              · have hb : (x != n) = true := by simp [hxn]
                have HE := Lib.hid (useStep_put (h := hh + 1) (a := k) (out := useL n (hh + 1) k (useP rl n (hh + 1) g' k) (l.take j)) hxn)
                clear hxn
                generalize useL n (hh + 1) k (useP rl n (hh + 1) g' k) (l.take j) = X at *
                by_cases hkh : k ≤ hh
                · have HDS := Lib.hid (show dst (hh + 1) k = k + 1 from if_pos (by omega))
                  by_cases hkW : k + 1 < rl
                  · obtain ⟨lx, hlx⟩ : ∃ lx, X[k + 1]? = some lx := ⟨_, List.getElem?_eq_getElem (by rw [WS.out.len]; exact hkW)⟩
                    obtain ⟨qb, qc, qu, qf, q⟩ := OwnRow.pick OInts.loc Q2.out hlx
                    have qfm := q.form
                    rw [WS.out.len] at qfm
                    cases qfm
                    have HPX := Lib.hid (put_get (x := x) hlx)
                    obtain ⟨ua, uc, rfl⟩ := q.elem.form
                    have PU := Lib.hid (rput_any (fun _ => True) ua lx.length uc lx x ⟨hz1, hz2⟩ wr (OInts.read (fun _ _ => trivial) q.elem) ((PS.lns hU).short WS.out _ _ hlx).2)
                    have q0 := q.cell; have q1 := q.free; have q2 := q.lt
                    have QQ := Lib.hid q
                    clear q hlx
                    have k0 : (0 : Int) ≤ (k : Int) + 1 := by omega
                    have k1 : (k : Int) + 1 < (rl : Int) := by omega
                    go_wp2_with fail
                    refine PU.out.mono ?_
                    rintro e w6 ⟨v6, rfl, ho6, hb6⟩
                    obtain ⟨vn, va, vc, rfl⟩ : ∃ n a c, v6 = .slice a n c := by obtain ⟨a, c, h⟩ := ho6.form; exact ⟨_, a, c, h⟩
                    have f1 := cell_later hb6 q0; have f2 := frz_later hb6 q2 q1; have f3 : w3.heap.size < w6.heap.size := Nat.lt_of_lt_of_le q2 hb6.size
                    have sw := Lib.hid (OwnRow.step (QQ.out.swap w6 _ (.slice va vn vc) _ (Chg.of_below hb6) ho6.lt (fun i hi => ⟨.inr hi.1, hi.2⟩)) hsz5)
                    have C6 := Lib.hid (((C2.out.tr hb6).setCell (p := ⟨w3.heap.size, k + 1, none⟩) (fun _ => Nat.le_refl _) (.slice va vn vc)))
                    clear ho6 hb6 q0 q1 q2
                    go_wp2
                    go_roundw
                    case rel => exact ⟨j + 1, by omega, by go_num, by rw [HTS.out, HE.out, HDS.out, HPX.out]; exact sw.out, C6.out⟩
                    case measure => simp [intOf]; omega
                  · have HPX := Lib.hid (put_out (g := X) (a := k + 1) (x := x) (by rw [WS.out.len]; omega))
                    have k1 : ¬ (k : Int) + 1 < (rl : Int) := by omega
                    go_wp2
                    go_roundw
                    case rel => exact ⟨j + 1, by omega, by go_num, by rw [HTS.out, HE.out, HDS.out, HPX.out]; exact Q2.out, C2.out⟩
                    case measure => simp [intOf]; omega
                · have HDS := Lib.hid (show dst (hh + 1) k = k from if_neg (by omega))
                  obtain ⟨lx, hlx⟩ : ∃ lx, X[k]? = some lx := ⟨_, List.getElem?_eq_getElem (by rw [WS.out.len]; exact hkl)⟩
                  obtain ⟨qb, qc, qu, qf, q⟩ := OwnRow.pick OInts.loc Q2.out hlx
                  have qfm := q.form
                  rw [WS.out.len] at qfm
                  cases qfm
                  have HPX := Lib.hid (put_get (x := x) hlx)
                  obtain ⟨ua, uc, rfl⟩ := q.elem.form
                  have PU := Lib.hid (rput_any (fun _ => True) ua lx.length uc lx x ⟨hz1, hz2⟩ wr (OInts.read (fun _ _ => trivial) q.elem) ((PS.lns hU).short WS.out _ _ hlx).2)
                  have q0 := q.cell; have q1 := q.free; have q2 := q.lt
                  have QQ := Lib.hid q
                  clear q hlx
                  have k0 : (0 : Int) ≤ (k : Int) := by omega
                  have k1 : (k : Int) < (rl : Int) := by omega
                  go_wp2_with fail
                  refine PU.out.mono ?_
                  rintro e w6 ⟨v6, rfl, ho6, hb6⟩
                  obtain ⟨vn, va, vc, rfl⟩ : ∃ n a c, v6 = .slice a n c := by obtain ⟨a, c, h⟩ := ho6.form; exact ⟨_, a, c, h⟩
                  have f1 := cell_later hb6 q0; have f2 := frz_later hb6 q2 q1; have f3 : w3.heap.size < w6.heap.size := Nat.lt_of_lt_of_le q2 hb6.size
                  have sw := Lib.hid (OwnRow.step (QQ.out.swap w6 _ (.slice va vn vc) _ (Chg.of_below hb6) ho6.lt (fun i hi => ⟨.inr hi.1, hi.2⟩)) hsz5)
                  have C6 := Lib.hid (((C2.out.tr hb6).setCell (p := ⟨w3.heap.size, k, none⟩) (fun _ => Nat.le_refl _) (.slice va vn vc)))
                  clear ho6 hb6 q0 q1 q2
                  go_wp2
                  go_roundw
                  case rel => exact ⟨j + 1, by omega, by go_num, by rw [HTS.out, HE.out, HDS.out, HPX.out]; exact sw.out, C6.out⟩
                  case measure => simp [intOf]; omega
            · have hjl : j = l.length := by omega
              subst hjl
              rw [List.take_length] at Q2
              go_wp2
              go_roundw
              case rel => exact ⟨k + 1, by omega, by go_num, by rw [useP_succ, HD.out]; exact Q2.out, C2.out⟩
              case measure => simp [intOf]; omega
        · have hkr : k = rl := by omega
          subst hkr
          have HUS2 := Lib.hid (HUS.out hh)
          rw [HRL.out] at HUS2
          generalize useP k n (hh + 1) g' k = X at *
          obtain ⟨lx, hlx⟩ : ∃ lx, X[0]? = some lx := ⟨_, List.getElem?_eq_getElem (by rw [US.out.1.len]; omega)⟩
          obtain ⟨qb, qc, qu, qf, q⟩ := OwnRow.pick OInts.loc Q1.out hlx
          have qfm := q.form
          rw [US.out.1.len] at qfm
          cases qfm
          have HPX := Lib.hid (put_get (x := n) hlx)
          obtain ⟨ua, uc, rfl⟩ := q.elem.form
          have PU := Lib.hid (rput_any (fun _ => True) ua lx.length uc lx n ⟨by omega, by omega⟩ wr (OInts.read (fun _ _ => trivial) q.elem) ((PS.lns hU).short US.out.1 _ _ hlx).2)
          have q0 := q.cell; have q1 := q.free; have q2 := q.lt
          have QQ := Lib.hid q
          clear q hlx
          have k1 : (0 : Int) < (k : Int) := by omega
          go_wp2_with fail
          refine PU.out.mono ?_
          rintro e w6 ⟨v6, rfl, ho6, hb6⟩
          obtain ⟨vn, va, vc, rfl⟩ : ∃ n a c, v6 = .slice a n c := by obtain ⟨a, c, h⟩ := ho6.form; exact ⟨_, a, c, h⟩
          have f1' := cell_later hb6 q0; have f2' := frz_later hb6 q2 q1; have f3' : w3.heap.size < w6.heap.size := Nat.lt_of_lt_of_le q2 hb6.size
          have sw := Lib.hid (OwnRow.step (QQ.out.swap w6 _ (.slice va vn vc) _ (Chg.of_below hb6) ho6.lt (fun i hi => ⟨.inr hi.1, hi.2⟩)) hsz4)
          have C6 := Lib.hid (((C1.out.tr hb6).setCell (p := ⟨w3.heap.size, 0, none⟩) (fun _ => Nat.le_refl _) (.slice va vn vc)))
          have s6 := C6.out.size
          clear ho6 hb6 q0 q1 q2 Q1 C1 F4 hsz4
          have UF := Lib.hid (show OMat (w6.setCell ⟨w3.heap.size, 0, none⟩ (.slice va vn vc)) (Ge w3.heap.size) (.slice (some ⟨w3.heap.size, 0, none⟩) k k) (useY k n hh g') by rw [HUS2.out, HPX.out]; exact sw.out)
          have n1 : vb ≠ w3.heap.size := by omega
          obtain ⟨wu, hwu⟩ : ∃ wu : World, wu = w6.setCell ⟨w3.heap.size, 0, none⟩ (.slice va vn vc) := ⟨_, rfl⟩
          go_upto_region 21 with fail
          rw [← hwu] at UF C6 s6 ⊢
          clear hwu sw f1' f2' f3' QQ
          have F6 := Lib.hid (F3.out.chgd C6.out (fun j hj => .inr (by unfold Ge at hj; simp; omega)))
          have V6 := Lib.hid (V3.out.chg C6.out (fun j hj h => by unfold Ge at h; omega))
          have nG : ¬ Ge w3.heap.size ob := fun h => by unfold Ge at h; omega
          have e1 := F6.out.h1.cell 1 _ rfl; have c1 := F6.out.h0.cell 1 _ rfl
          have co := (F6.out.below.cell (p := ⟨qqb, qqp + s, none⟩) hbo).trans hco
          have x0 := V6.out.has.cell 0 _ rfl; have x1 := V6.out.has.cell 1 _ rfl; have lx := V6.out.lt
          have e2 := F6.out.h2.cell 0 _ rfl; have e3 := F6.out.h2.cell 1 _ rfl; have ef := F6.out.h2.free; have lt2 := F6.out.h2.lt (by simp)
          have y0 := C6.out.cell nG PP.out.cell; have y1 := C6.out.frz nG PP.out.lt PP.out.free; have y2 : ob < wu.heap.size := Nat.lt_of_lt_of_le PP.out.lt C6.out.size
          have y3 := PP.out.hcap
          rw [HL.out] at y3
          have n2 : vb ≠ w.heap.size + 1 + 1 := by omega
          have n3 : ob ≠ w.heap.size + 1 + 1 := by omega
          by_cases hkh : k9 ≤ hh
          · have hkd : decide (k9 ≤ hh) = true := by simpa using hkh
            have hkT := Lib.hid (tick_yes (W := k) hkh)
            have sw2 := Lib.hid (PP.out.swap _ _ (.slice (some ⟨w3.heap.size, 0, none⟩) k k) _ (C6.out.mono (fun j hj h => by unfold Ge at h; omega)) (OwnRow.lt UF.out) (fun i hi => ⟨.inr hi.1, hi.2⟩))
            have O7 := Lib.hid (OY.setSets V3.out.own sw2.out ((C6.out.mono (fun j hj h => by unfold Ge at h; omega)).setCell (fun _ => PP.out.own) _) (fun j hj => hj) (by omega))
            obtain ⟨nb, hnb, hf2, hnl, _, _, SO⟩ := OY.setOther O7.out (s := s) (by rw [HOL.out]; exact hso)
            subst hnb
            have SOH := Lib.hid SO
            have nbb := V3.out.own.s2 nb hf2
            have nbo : nb ≠ ob := fun e => V3.out.own.ap ob PP.out.own (e ▸ hf2)
            have nbv : nb ≠ vb := fun e => vo2 (e ▸ hf2)
            obtain ⟨nb', hnb', _, _, ⟨v0, hv0⟩, hnf, _⟩ := OY.setOther V6.out.own (s := s) (by rw [HOL.out]; exact hso)
            obtain rfl : nb = nb' := by simpa using hnb'
            have hnl2 : nb < wu.heap.size := by omega
            have m2 : nb ≠ w.heap.size + 1 := by omega
            have m3 : nb ≠ qqb := by omega
            have m4 : nb ≠ w.heap.size := by omega
            have m5 : nb ≠ w.heap.size + 1 + 1 := by omega
            have kw : IntKind.i64.wrap ((k9 : Int) + 1) = (k9 : Int) + 1 := IntWalk.i64_in _ (by omega)
            have F7 := Lib.hid ((F6.out.far (p := ⟨nb, s, none⟩) (.inr (by simp; omega)) (.int .i64 (min (k : Int) ((k9 : Int) + 1)))).far (p := ⟨ob, s, none⟩) (.inr (by simp; omega)) (.slice (some ⟨w3.heap.size, 0, none⟩) k k))
            clear SO hkh hnb'
            go_wp2
            go_region_held3 (fun w' => w'.cell? ⟨vb, 1, none⟩ = some (.slice (some ⟨nb, 0, none⟩) on noc) ∧ w'.cell? ⟨w.heap.size + 1, 1, none⟩ = some (.slice (some ⟨qqb, qqp, none⟩) on oc) ∧ w'.cell? ⟨qqb, qqp + s, none⟩ = some (.int .i64 k9) ∧ w'.cell? ⟨w.heap.size, 1, none⟩ = some (.int .i64 k)) (((try dsimp only); (try go_split_ands); (repeat' apply And.intro); all_goals (repeat (first | assumption | (refine cell_put nbv ?_) | (refine cell_put m2 ?_) | (refine cell_put m3 ?_) | (refine cell_put m4 ?_)))))
              (fail)
            clear co e1 c1 hv0 hnf kw
            go_wp2
            refine bodyPost_ret (v := YV (some ⟨ob, 0, none⟩) on obc (some ⟨nb, 0, none⟩) on noc) (by simp [results, Try.results31, go_sem, e2, e3]) rfl ⟨some ⟨ob, 0, none⟩, on, obc, some ⟨nb, 0, none⟩, on, noc, _, _, rfl, OY.cast (OY.ge (OY.two (YF.fin (SOH.out ((tick k hh k9 : Nat) : Int) (by omega) (by have := tick_le (W := k) (h := hh) hkW; omega)) nbo (by rw [hkT.out, Int.min_comm]) 1) (show w.heap.size + 2 < w.heap.size + 3 by omega) (Nat.le_refl _)) (by omega)) HT.out.symm HT2.out.symm, ?_⟩
            have FZ := F7.out.drewN 1
            exact ((FZ.set 2 0 _ rfl (by simp) _).set 2 1 _ rfl (by simp) _).below
          · have hkd : decide (k9 ≤ hh) = false := by simpa using hkh
            have hkT := Lib.hid (tick_no (W := k) hkh)
            clear hkh
            have sw2 := Lib.hid (PP.out.swap _ _ (.slice (some ⟨w3.heap.size, 0, none⟩) k k) _ (C6.out.mono (fun j hj h => by unfold Ge at h; omega)) (OwnRow.lt UF.out) (fun i hi => ⟨.inr hi.1, hi.2⟩))
            have F7 := Lib.hid (F6.out.far (p := ⟨ob, s, none⟩) (.inr (by simp; omega)) (.slice (some ⟨w3.heap.size, 0, none⟩) k k))
            have O7 := Lib.hid (OY.setSets V3.out.own sw2.out ((C6.out.mono (fun j hj h => by unfold Ge at h; omega)).setCell (fun _ => PP.out.own) _) (fun j hj => hj) (by omega))
            go_wp2
            refine bodyPost_ret (v := YV (some ⟨ob, 0, none⟩) on obc no on noc) (by simp [results, Try.results31, go_sem, e2, e3]) rfl ⟨some ⟨ob, 0, none⟩, on, obc, no, on, noc, _, f2, rfl, OY.cast (OY.ge (OY.two O7.out (show w.heap.size + 2 < w.heap.size + 3 by omega) (Nat.le_refl _)) (by omega)) HT.out.symm (show o = touchYo on k m o n by rw [HT2.out, hkT.out, set_same HK.out]), ((F7.out.set 2 0 _ rfl (by simp) _).set 2 1 _ rfl (by simp) _).below⟩
end Go.Proofs.Ytlpelpjcbclemaa
