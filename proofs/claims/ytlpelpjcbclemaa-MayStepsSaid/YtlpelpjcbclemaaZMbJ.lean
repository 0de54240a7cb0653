/-
  Contents and the states that describe them (lines that can be there): plain laws; the document's Describes; the variables of MayDescribes.
  may.Valid.
-/
import Derived.Test.YtlpelpjcbclemaaZMbD
import Derived.Test.YtlpelpjcbclemaaZMuR
import Derived.Test.YtlpelpjcbclemaaZMbH
import Derived.Test.YtlpelpjcbclemaaMbC
namespace Go.Proofs.Ytlpelpjcbclemaa
open Go.RowKit

def wO (S W : Nat) : List Int := List.replicate S (W : Int)
theorem wO_get {S W s : Nat} (h : s < S) : (wO S W)[s]? = some ((W : Nat) : Int) := by unfold wO; rw [List.getElem?_replicate, if_pos h]
theorem of_yst {S W : Nat} {ss : List (List Int)} (h : ValidP S W ss) : YSt ss.flatten S W (ofM ss) (wO S W) := by
  refine ⟨(of_st h).len, List.length_replicate, fun s g hs => ?_⟩
  have hlt : s < S := by rw [← (of_st h).len]; exact (List.getElem?_eq_some_iff.1 hs).1
  have hw := (of_st h).set s g hs
  exact ⟨W, wO_get hlt, hw, Nat.le_refl _, fun i y k => by have := k.lt; have := hw.len; omega⟩
theorem plc_age {P : Int → Prop} {W : Nat} {g : List (List Int)} (hg : WSet P W g) (n : Int) : ageF W g W n = plc g n := by
  have := plc_le g n
  have := hg.len
  unfold ageF; split <;> omega
theorem useY_useS {P : Int → Prop} {W : Nat} {n : Int} {g : List (List Int)} (hg : WSet P W g) (hW : 0 < W) (hn : P n) (hone : ∀ a y z, At g a y → At g a z → y = z) : useY W n (ageF W g W n) g = useS W n g := by
  rw [plc_age hg]
  obtain ⟨h1, h2⟩ := useY_spec (h := plc g n) hg hW hn
  obtain ⟨k1, k2⟩ := useS_spec hg hW hn
  refine h1.ext k1 fun i y => ?_
  rw [h2, k2]
  have key : ∀ a, y ≠ n → At g a y → dst (plc g n + 1) a = dst (plc g n) a := fun a hy ha => by
    have hlt := ha.lt
    have hne : a ≠ plc g n := fun e => by
      subst e
      exact hy (hone _ _ _ ha (plc_found hlt))
    unfold dst; split <;> split <;> omega
  constructor
  · rintro (h | ⟨hy, a, ha, hi, hw⟩)
    · exact .inl h
    · exact .inr ⟨hy, a, ha, by rw [hi, key a hy ha], hw⟩
  · rintro (h | ⟨hy, a, ha, hi, hw⟩)
    · exact .inl h
    · exact .inr ⟨hy, a, ha, by rw [hi, key a hy ha], hw⟩
theorem of_useY {S W : Nat} {ss : List (List Int)} (h : ValidP S W ss) (hW : 0 < W) {k : Int} (h0 : 0 ≤ k) (h1 : k ≤ 1048576) : touchYm S W (ofM ss) (wO S W) k = ofM (useC S ss k) ∧ touchYo S W (ofM ss) (wO S W) k = wO S W := by
  rw [of_useC h hW h0 h1]
  by_cases hS : S = 0
  · unfold touchYm touchYo touchM; rw [if_pos hS, if_pos hS, if_pos hS]; exact ⟨rfl, rfl⟩
  · have hlt := setN_lt (S := S) (by omega) k
    obtain ⟨f, i, hf, hi, hfd, hid, hfy⟩ := (of_yst h).at hlt
    have hiW : i = W := by rw [wO_get hlt] at hi; have := Option.some.inj hi; omega
    subst hiW
    have ea : ageY S i (ofM ss) (wO S i) k = ageF i f i k := ageY_found (by omega) hfd hid
    constructor
    · unfold touchYm touchM
      rw [if_neg hS, if_neg hS, ea, hfd]
      congr 1
      refine useY_useS (P := fun y => PS ss.flatten S (setN S k) y ∨ y = k) ⟨hfy.ws.len, hfy.ws.asc, fun a y hy => .inl (hfy.ws.mem a y hy), hfy.ws.once⟩ hW (.inr rfl) fun a y z hy hz => ?_
      unfold ofM at hf
      rw [List.getElem?_map, Option.map_eq_some_iff] at hf
      obtain ⟨x, _, rfl⟩ := hf
      have e1 := (at_ofRow.1 hy).1
      have e2 := (at_ofRow.1 hz).1
      rw [e1] at e2
      exact Option.some.inj e2
    · unfold touchYo
      rw [if_neg hS, ea, hid, Int.toNat_natCast]
      have ht : tick i (ageF i f i k) i = i := by unfold tick; split <;> omega
      rw [ht]
      exact set_same (wO_get hlt)
theorem BelowY.refl {U : List Int} {S W : Nat} {m : List (List (List Int))} {o : List Int} (hm : YSt U S W m o) : BelowY S W m o m o := by
  rw [BelowY.at hm hm]
  intro s hs
  obtain ⟨f, i, hf, hi, _, _, _⟩ := hm.at hs
  exact ⟨f, i, f, i, hf, hi, hf, hi, BelowF.refl⟩
theorem known_miss {S W : Nat} {U : List Int} {ss : List (List Int)} {m : List (List (List Int))} {o : List Int} (h : ValidP S W ss) (hm : YSt U S W m o) (hb : BelowY S W (ofM ss) (wO S W) m o) {z : Int} (h0 : 0 ≤ z) (ha : ageY S W m o z = W) : hitC S ss z = false := by
  by_cases hS : S = 0
  · unfold hitC; rw [if_pos hS]
  · unfold hitC hitS
    rw [if_neg hS, decide_eq_false_iff_not]
    intro hz
    have hlt := setN_lt (S := S) (by omega) z
    rw [BelowY.at (of_yst h) hm] at hb
    obtain ⟨f, i, g, j, hf, hi, hg, hj, hbf⟩ := hb _ hlt
    obtain ⟨f', i', hf', hi', _, _, hfy⟩ := (of_yst h).at hlt
    obtain ⟨g', j', hg', hj', hgd, hjd, hgy⟩ := hm.at hlt
    rw [hf] at hf'; cases hf'
    rw [hg] at hg'; cases hg'
    rw [hj] at hj'
    have ej : j = j' := by have := Option.some.inj hj'; omega
    subst ej
    rw [hi] at hi'
    have ei : i = i' := by have := Option.some.inj hi'; omega
    subst ei
    rw [ageY_found (by omega) hgd hjd] at ha
    unfold ofM at hf
    rw [List.getElem?_map, Option.map_eq_some_iff] at hf
    obtain ⟨x, hx, rfl⟩ := hf
    have hxd : ss.getD (z % (S : Int)).toNat [] = x := by
      rw [List.getD_eq_getElem?_getD]
      have : (z % (S : Int)).toNat = setN S z := rfl
      rw [this, hx]; rfl
    rw [hxd] at hz
    obtain ⟨p, hp⟩ := List.getElem?_of_mem hz
    have hat : At (ofRow x) p z := at_ofRow.2 ⟨hp, h0⟩
    have e1 := ageF_at hfy hat
    have := hat.lt
    have := hfy.ws.len
    have := hbf.2 z
    omega
theorem eitherYP_above {U : List Int} {S W : Nat} {st : YS} (hm : YSts U S W st) (hW : 0 < W) {lines : List Int} (hl : LnsOk U lines) (h0 : 0 < lines.length) : ∀ (k i : Nat) (y : Int), i ≤ k → k < lines.length → lines[i]? = some y → BelowY S W (touchYm S W st.1 st.2 y) (touchYo S W st.1 st.2 y) (eitherYP S W st lines k).1 (eitherYP S W st lines k).2
  | 0, i, y, hi, _, hy => by
    obtain rfl : i = 0 := by omega
    have e : eitherYP S W st lines 0 = touchYs S W st y := by
      unfold eitherYP
      rw [List.getD_eq_getElem?_getD, hy]; rfl
    have hyo := hl y (List.mem_of_getElem? hy)
    rw [e]
    exact BelowY.refl (ytouch_st hm hW hyo.1 hyo.2.1 hyo.2.2)
  | k + 1, i, y, hi, hk, hy => by
    have hz := List.getElem?_eq_getElem (l := lines) (show 1 + k < lines.length by omega)
    have hzo := hl _ (List.mem_of_getElem? hz)
    have hyo := hl y (List.mem_of_getElem? hy)
    have SK : YSt U S W (eitherYP S W st lines k).1 (eitherYP S W st lines k).2 := eitherYP_st hm hW hl h0 k
    have SZ := ytouch_st hm hW hzo.1 hzo.2.1 hzo.2.2
    rw [eitherYP_succ hz]
    by_cases e : i = k + 1
    · subst e
      have ez : lines[1 + k]'(by omega) = y := by
        have h2 : lines[1 + k]? = some y := by rw [Nat.add_comm]; exact hy
        rw [hz] at h2; exact Option.some.inj h2
      rw [ez] at SZ ⊢
      exact (below_yjoin SK SZ).2
    · exact BelowY.trans (ytouch_st hm hW hyo.1 hyo.2.1 hyo.2.2) SK (yjoin_st SK SZ) (eitherYP_above hm hW hl h0 k i y (by omega) (by omega) hy) (below_yjoin SK SZ).1
theorem eitherY_above {U : List Int} {S W : Nat} {st : YS} (hm : YSts U S W st) (hW : 0 < W) {lines : List Int} (hl : LnsOk U lines) {y : Int} (hy : y ∈ lines) : BelowY S W (touchYm S W st.1 st.2 y) (touchYo S W st.1 st.2 y) (eitherY S W st lines).1 (eitherY S W st lines).2 := by
  obtain ⟨i, hi⟩ := List.getElem?_of_mem hy
  have hlt := (List.getElem?_eq_some_iff.1 hi).1
  unfold eitherY
  rw [if_neg (fun e => by rw [e] at hlt; simp at hlt)]
  exact eitherYP_above hm hW hl (by omega) _ i y (by omega) (by omega) hi
theorem ystep_touch {S W : Nat} {U : List Int} {ss : List (List Int)} {m : List (List (List Int))} {o : List Int} (hv : ValidP S W ss) (hm : YSt U S W m o) (hW : 0 < W) {z : Int} (h0 : 0 ≤ z) (h1 : z ≤ 1048576) (hU : z ∈ U) (hb : BelowY S W (ofM ss) (wO S W) m o) : BelowY S W (ofM (useC S ss z)) (wO S W) (touchYm S W m o z) (touchYo S W m o z) := by
  have e := of_useY hv hW h0 h1
  have h := BelowY.touch ((of_yst hv).unionL (V := U)) (hm.union' (U := ss.flatten)) hW h0 h1 (List.mem_append_right _ hU) hb
  rw [e.1, e.2] at h
  exact h
theorem ystep_either {S W : Nat} {U : List Int} {ss : List (List Int)} {m : List (List (List Int))} {o : List Int} (hv : ValidP S W ss) (hm : YSt U S W m o) (hW : 0 < W) {z : Int} {ls : List Int} (hl : LnsOk U ls) (hz : z ∈ ls) (hb : BelowY S W (ofM ss) (wO S W) m o) : BelowY S W (ofM (useC S ss z)) (wO S W) (eitherY S W (m, o) ls).1 (eitherY S W (m, o) ls).2 := by
  have hzo := hl z hz
  have hu := useC_valid (k := z) hv hW hzo.1 hzo.2.1
  have h1 := ystep_touch hv hm hW hzo.1 hzo.2.1 hzo.2.2 hb
  have h2 := eitherY_above (st := (m, o)) hm hW hl hz
  have s1 := (of_yst hu).unionL (V := U)
  have s2 := (ytouch_st hm hW hzo.1 hzo.2.1 hzo.2.2).union' (U := (useC S ss z).flatten)
  have s3 := YSt.union' (U := (useC S ss z).flatten) (show YSt U S W (eitherY S W (m, o) ls).1 (eitherY S W (m, o) ls).2 from eitherY_st (st := (m, o)) hm hW hl)
  exact BelowY.trans s1 s2 s3 h1 h2

set_option maxRecDepth 100000 in
set_option maxHeartbeats 4000000 in
theorem yrdescribes_any (U : List Int) (hU : U.length ≤ 900) (S W L : Nat) (hc : COk S W L) (hS4 : S ≤ 4) (hW3 : W ≤ 3) (ss : List (List Int)) (hv : ValidP S W ss) (m : List (List (List Int))) (o : List Int) (hm : YSt U S W m o) (K K' : Nat → Prop) (a : Option Addr) (len cap : Nat) (oa : Option Addr) (on oc : Nat) (a' : Option Addr) (len' cap' : Nat) (w : World) (r : YCub K w a len cap oa on oc m o) (r' : Mat K' w a' len' cap' ss) :
    Calls Try.prog 28 #[CV S W L, YV a len cap oa on oc, .agg #[.slice a' len' cap']] w (BoolIff (BelowY S W (ofM ss) (wO S W) m o) w) := by
  have hC := Lib.hid hc
  have F0 := Lib.hid (Fm.new (Fm.new (Fm.new (Fm.start Non w) rfl [.int .i64 S, .int .i64 W, .int .i64 L] 26) (by simp) [.slice a len cap, .slice oa on oc] 31) (by simp) [.slice a' len' cap'] 44)
  have HR := Lib.hid (ints_old r); have HR' := Lib.hid r'; have HV := Lib.hid hv
  have HM := Lib.hid (hm.union' (U := ss.flatten)); have HO := Lib.hid ((of_yst hv).unionL (V := U))
  have HU := Lib.hid (show (ss.flatten ++ U).length ≤ 1000 by have := flatten_le hv hS4 hW3; rw [List.length_append]; omega)
  have HLn := Lib.hid (show ss.length = S by have := hv.1; omega)
  clear r r' hm hv hc
  go_enter Try.func28, Try.ntmps28
  go_upto_region 1 with fail
  obtain ⟨wv, hwv⟩ : ∃ wv : World, wv = ((w.alloc (.cells #[.int .i64 S, .int .i64 W, .int .i64 L] 26)).alloc (.cells #[.slice a len cap, .slice oa on oc] 31)).alloc (.cells #[.slice a' len' cap'] 44) := ⟨_, rfl⟩
  have F1 := Lib.hid (show Fm Non w wv [[.int .i64 S, .int .i64 W, .int .i64 L], [.slice a len cap, .slice oa on oc], [.slice a' len' cap']] from by rw [hwv]; exact F0.out)
  rw [← hwv]
  clear hwv F0
  have F2 := Lib.hid F1.out.drew
  have c0 := F1.out.h0.cell 0 _ rfl; have c1 := F1.out.h0.cell 1 _ rfl; have c2 := F1.out.h0.cell 2 _ rfl; have d0 := F1.out.h1.cell 0 _ rfl; have d1 := F1.out.h1.cell 1 _ rfl; have e0 := F1.out.h2.cell 0 _ rfl
  refine hd_start_e 7 (fun w' => w'.cell? ⟨w.heap.size, 0, none⟩ = some (.int .i64 S) ∧ w'.cell? ⟨w.heap.size, 1, none⟩ = some (.int .i64 W) ∧ w'.cell? ⟨w.heap.size, 2, none⟩ = some (.int .i64 L) ∧ w'.cell? ⟨w.heap.size + 1, 0, none⟩ = some (.slice a len cap) ∧ w'.cell? ⟨w.heap.size + 1, 1, none⟩ = some (.slice oa on oc) ∧ w'.cell? ⟨w.heap.size + 1 + 1, 0, none⟩ = some (.slice a' len' cap')) (by kernel_rfl) ⟨by kernel_rfl, by rfl⟩ (by refine ⟨c0, c1, c2, d0, d1, e0⟩) (fun ok => ?_)
  refine hd_take_e (i := 0) (v := ?_) ok rfl (by decide) (by kernel_rfl) (by kernel_rfl) (fun _ _ _ h => h) (Or.inl ⟨by kernel_rfl, ?_⟩) ?_
  rotate_left
  · (intro w hSw; (try dsimp only at hSw); (try go_split_ands); go_simp; (try (with_reducible rfl)))
  go_frame
  refine hd_take_e (i := 1) (v := ?_) ok rfl (by decide) (by kernel_rfl) (by kernel_rfl) (fun _ _ _ h => h) (Or.inl ⟨by kernel_rfl, ?_⟩) ?_
  rotate_left
  · (intro w hSw; (try dsimp only at hSw); (try go_split_ands); go_simp; (try (with_reducible rfl)))
  go_frame
  refine hd_take_e (i := 2) (v := ?_) ok rfl (by decide) (by kernel_rfl) (by kernel_rfl) (fun _ _ _ h => h) (Or.inl ⟨by kernel_rfl, ?_⟩) ?_
  rotate_left
  · (intro w hSw; (try dsimp only at hSw); (try go_split_ands); go_simp; (try (with_reducible rfl)))
  go_frame
  refine hd_take_e (i := 4) (v := ?_) ok rfl (by decide) (by kernel_rfl) (by kernel_rfl) (fun _ _ _ h => h) (Or.inl ⟨by kernel_rfl, ?_⟩) ?_
  rotate_left
  · (intro w hSw; (try dsimp only at hSw); (try go_split_ands); go_simp; (try (with_reducible rfl)))
  go_frame
  refine hd_only_l (c := 3) rfl (by decide) (by kernel_rfl) (fun K hK => ?_)
  go_simp
  go_at_call 36
  refine (yrof_any S W L hC.out K' a' len' cap' ss HV.out _ (Mat.below HR'.out F2.out.below)).mono ?_
  rintro e w3 h3
  obtain ⟨ta, tc, pa, pc, f1, f2, rfl, ho3, hb3⟩ := YRet.fix h3 (show (ofM ss).length = S by rw [ofM_len]; exact HLn.out) List.length_replicate
  have F3 := Lib.hid (Fm.call hb3 F2.out)
  have O3 := Lib.hid ho3
  clear c0 c1 c2 d0 d1 e0 h3 ho3 hb3
  have c0 := F3.out.h0.cell 0 _ rfl; have c1 := F3.out.h0.cell 1 _ rfl; have c2 := F3.out.h0.cell 2 _ rfl; have d0 := F3.out.h1.cell 0 _ rfl; have d1 := F3.out.h1.cell 1 _ rfl; have e0 := F3.out.h2.cell 0 _ rfl
  (try simp only [])
  refine hK _ _ (by refine ⟨?_, ?_, ?_, ?_, ?_, ?_⟩ <;> (first | exact c0 | exact c1 | exact c2 | exact d0 | exact d1 | exact e0)) ?_
  clear hK K
  (try go_frame)

  refine hd_only_l (c := 5) rfl (by decide) (by kernel_rfl) (fun K hK => ?_)
  go_simp
  go_at_call 33
  refine (yrbelow_any (ss.flatten ++ U) HU.out S W L hC.out (ofM ss) m (wO S W) o HO.out HM.out (fun _ => True) _ ta S tc pa S pc a len cap oa on oc w3 (O3.out.ycub (fun _ _ _ => trivial)) (HR.out.below F3.out.below)).mono ?_
  rintro e w4 ⟨bb, rfl, hbb, hb4⟩
  have F4 := Lib.hid (Fm.call hb4 F3.out)
  have HB := Lib.hid hbb
  clear c0 c1 c2 d0 d1 e0 hbb hb4
  have c0 := F4.out.h0.cell 0 _ rfl; have c1 := F4.out.h0.cell 1 _ rfl; have c2 := F4.out.h0.cell 2 _ rfl; have d0 := F4.out.h1.cell 0 _ rfl; have d1 := F4.out.h1.cell 1 _ rfl; have e0 := F4.out.h2.cell 0 _ rfl
  (try simp only [])
  refine hK _ _ (by refine ⟨?_, ?_, ?_, ?_, ?_, ?_⟩ <;> (first | exact c0 | exact c1 | exact c2 | exact d0 | exact d1 | exact e0)) ?_
  clear hK K
  (try go_frame)
  refine hd_take_e (i := 6) (v := ?_) ok rfl (by decide) (by kernel_rfl) (by kernel_rfl) (fun _ _ _ h => h) (Or.inl ⟨by kernel_rfl, ?_⟩) ?_
  rotate_left
  · (intro w hSw; (try dsimp only at hSw); (try go_split_ands); go_simp; (try (with_reducible rfl)))
  go_frame
  clear ok c0 c1 c2 d0 d1 e0
  refine hd_end (by kernel_rfl) rfl ?_
  go_wp2
  go_ret
  exact ⟨bb, rfl, HB.out, F4.out.below⟩

structure DI (w : World) (U : List Int) (S W L bX bx bm : Nat) (xa : Option Addr) (xc : Nat) (ss : List (List Int)) (ma : Option Addr) (mc : Nat) (na : Option Addr) (nc : Nat) (m : List (List (List Int))) (o : List Int) (wr : World) : Prop where
  hX : Has wr bX [.int .i64 S, .int .i64 W, .int .i64 L]
  hx : Has wr bx [.slice xa S xc]
  hm : Has wr bm [.slice ma S mc, .slice na S nc]
  mat : Mat (K3 w.heap.size bx bm) wr xa S xc ss
  cub : YCub (K3 w.heap.size bx bm) wr ma S mc na S nc m o
  vs : ValidP S W ss
  st : YSt U S W m o
  dk : Deck wr w.heap.size
  chg : Chg (Ge w.heap.size) w wr
  o1 : w.heap.size < bX
  o2 : bX < bx
  o3 : bx < bm
  o4 : bm < wr.heap.size
section
variable {w wr w' : World} {U : List Int} {S W L bX bx bm xc mc nc : Nat} {xa ma na : Option Addr} {ss : List (List Int)} {m : List (List (List Int))} {o : List Int}
theorem DI.deck (h : DI w U S W L bX bx bm xa xc ss ma mc na nc m o wr) (c : Chg (fun k => k = w.heap.size) wr w') (hd : Deck w' w.heap.size) : DI w U S W L bX bx bm xa xc ss ma mc na nc m o w' := by
  have := h.o1; have := h.o2; have := h.o3; have := h.o4
  exact ⟨c.has h.hX (by omega) (by omega), c.has h.hx (by omega) (by omega), c.has h.hm (by omega) (by omega), h.mat.chg c (fun k hk => hk.1), h.cub.chg c (fun k hk => hk.1), h.vs, h.st, hd, h.chg.gt c (Nat.le_refl _), h.o1, h.o2, h.o3, Nat.lt_of_lt_of_le h.o4 c.size⟩
theorem DI.call (h : DI w U S W L bX bx bm xa xc ss ma mc na nc m o wr) (b : Below wr.heap.size wr w') : DI w U S W L bX bx bm xa xc ss ma mc na nc m o w' := h.deck (Chg.dk b) (h.dk.below b (Nat.le_refl _))
theorem DI.setm (h : DI w U S W L bX bx bm xa xc ss ma mc na nc m o wr) {ma' na' : Option Addr} {mc' nc' : Nat} {m' : List (List (List Int))} {o' : List Int} (hc : YCub (K3 w.heap.size bx bm) wr ma' S mc' na' S nc' m' o') {U' : List Int} (hs : YSt U' S W m' o') : DI w U' S W L bX bx bm xa xc ss ma' mc' na' nc' m' o' ((wr.setCell ⟨bm, 0, none⟩ (.slice ma' S mc')).setCell ⟨bm, 1, none⟩ (.slice na' S nc')) := by
  have := h.o1; have := h.o2; have := h.o3; have := h.o4
  have c : Chg (fun k => k = bm) wr ((wr.setCell ⟨bm, 0, none⟩ (.slice ma' S mc')).setCell ⟨bm, 1, none⟩ (.slice na' S nc')) := (Chg.setCell (M := fun j => j = bm) (Chg.refl _) (fun _ => rfl) _).setCell (fun _ => rfl) _
  exact ⟨c.has h.hX (by omega) (by omega), c.has h.hx (by omega) (by omega), (h.hm.set0 _).set1 _, h.mat.chg c (fun k hk => hk.2.2), hc.chg c (fun k hk => hk.2.2), h.vs, hs, (h.dk.other (by show w.heap.size < bm; omega) _).other (by show w.heap.size < bm; omega) _, (h.chg.setCell (fun e => by show Ge w.heap.size bm; unfold Ge; omega) _).setCell (fun e => by show Ge w.heap.size bm; unfold Ge; omega) _, h.o1, h.o2, h.o3, by simpa using h.o4⟩
theorem DI.setx (h : DI w U S W L bX bx bm xa xc ss ma mc na nc m o wr) {xa' : Option Addr} {xc' : Nat} {ss' : List (List Int)} (hc : Mat (K3 w.heap.size bx bm) wr xa' S xc' ss') (hs : ValidP S W ss') : DI w U S W L bX bx bm xa' xc' ss' ma mc na nc m o (wr.setCell ⟨bx, 0, none⟩ (.slice xa' S xc')) := by
  have := h.o1; have := h.o2; have := h.o3; have := h.o4
  have c : Chg (fun k => k = bx) wr (wr.setCell ⟨bx, 0, none⟩ (.slice xa' S xc')) := Chg.setCell (M := fun j => j = bx) (Chg.refl _) (fun _ => rfl) _
  exact ⟨c.has h.hX (by omega) (by omega), h.hx.set0 _, c.has h.hm (by omega) (by omega), Mat.chg hc c (fun k hk => hk.2.1), h.cub.chg c (fun k hk => hk.2.1), hs, h.st, h.dk.other (by show w.heap.size < bx; omega) _, h.chg.setCell (fun e => by show Ge w.heap.size bx; unfold Ge; omega) _, h.o1, h.o2, h.o3, by simpa using h.o4⟩
end
theorem OY.k3 {d bx bm B : Nat} {w : World} {f1 f2 : Nat → Prop} {a : Option Addr} {n c : Nat} {oa : Option Addr} {on oc : Nat} {m : List (List (List Int))} {o : List Int} (h : OY w B f1 f2 a n c oa on oc m o) (h1 : d < B) (h2 : bx < B) (h3 : bm < B) : YCub (K3 d bx bm) w a n c oa on oc m o := h.ycub (fun k hk _ => ⟨by omega, by omega, by omega⟩)
end Go.Proofs.Ytlpelpjcbclemaa
namespace Go.Proofs.Ytlpelpjcbclemaa
open Go.RowKit

theorem vclo_any (x W : Int) (b : Nat) (w : World) (hc : w.cell? ⟨b, 1, none⟩ = some (.int .i64 W)) :
    Calls Try.prog 56 #[.int .i64 x, .pointer (some ⟨b, 0, none⟩)] w fun e w' => e = .returned (.bool (decide (x < 0 ∨ x > W))) ∧ w = w' := by
  by_cases h0 : x < 0
  · have hd : decide (x < 0 ∨ x > W) = true := by simpa using Or.inl h0
    rw [hd]
    go_enter Try.func56, Try.ntmps56
    go_wp2
    go_ret
    exact ⟨rfl, rfl⟩
  · by_cases h1 : x > W
    · have hd : decide (x < 0 ∨ x > W) = true := by simpa using Or.inr h1
      rw [hd]
      go_enter Try.func56, Try.ntmps56
      go_wp2
      go_ret
      exact ⟨rfl, rfl⟩
    · have hd : decide (x < 0 ∨ x > W) = false := by
        rw [decide_eq_false_iff_not]
        exact fun h => h.elim h0 h1
      rw [hd]
      go_enter Try.func56, Try.ntmps56
      go_wp2
      go_ret
      exact ⟨rfl, rfl⟩
set_option maxHeartbeats 4000000 in
theorem vidx_any (W : Int) (b : Nat) (K : Nat → Prop) (oa : Option Addr) (on oc : Nat) (o : List Int) (w : World) (r : Ints K w oa on oc o) (hc : w.cell? ⟨b, 1, none⟩ = some (.int .i64 W)) :
    Calls Try.prog 73 #[.slice oa on oc, .func (.func 56) #[] #[.pointer (some ⟨b, 0, none⟩)]] w fun e w' => ∃ i : Int, e = .returned (.int .i64 i) ∧ (0 ≤ i ↔ ∃ x, x ∈ o ∧ (x < 0 ∨ x > W)) ∧ w = w' := by
  have hl := r.hlen; have h6 := r.hsz
  have HR := Lib.hid r; have HC := Lib.hid hc; have HL := Lib.hid hl
  clear r hc hl
  go_enter Try.func73, Try.ntmps73
  go_wp2
  go_loopw [8] (fun i wr => ∃ k : Nat, k ≤ on ∧ i = .int .i64 k ∧ (∀ x, x ∈ o.take k → ¬ (x < 0 ∨ x > W)) ∧ w = wr) (fun i _ => on - (intOf i).toNat)
  case atStart => exact ⟨0, Nat.zero_le _, rfl, by simp, rfl⟩
  case round =>
    obtain ⟨k, hk, rfl, hT, rfl⟩ := hrel
    have HT := Lib.hid hT
    clear hT
    by_cases hlt : k < on
    · obtain ⟨g, p, x, rfl, hx, hcx, hx1, hx2, _, hbx⟩ := Ints.get HR.out hlt
      have HX := Lib.hid hx
      have CL := Lib.hid (vclo_any x W b w HC.out)
      have hk1 : (k : Int) < (on : Int) := by omega
      clear hx
      by_cases hb : x < 0 ∨ x > W
      · have hd : decide (x < 0 ∨ x > W) = true := by simpa using hb
        rw [hd] at CL
        have YES := Lib.hid (show ∃ x, x ∈ o ∧ (x < 0 ∨ x > W) from ⟨x, List.mem_of_getElem? HX.out, hb⟩)
        clear hd hb
        go_wp2_with fail
        refine CL.out.mono ?_
        rintro e w1 ⟨rfl, rfl⟩
        go_wp2
        go_ret
        exact ⟨_, rfl, ⟨fun _ => YES.out, fun _ => by omega⟩, rfl⟩
      · have hd : decide (x < 0 ∨ x > W) = false := by simpa using hb
        rw [hd] at CL
        have HT2 := Lib.hid (show ∀ y, y ∈ o.take (k + 1) → ¬ (y < 0 ∨ y > W) from fun y hy => by
          rw [List.take_add_one, HX.out, List.mem_append] at hy
          rcases hy with h | h
          · exact HT.out y h
          · simp at h; subst h; exact hb)
        clear hd hb
        go_wp2_with fail
        refine CL.out.mono ?_
        rintro e w1 ⟨rfl, rfl⟩
        go_wp2
        go_roundw
        case rel => exact ⟨k + 1, by omega, by go_num, HT2.out, trivial⟩
        case measure => simp [intOf]; omega
    · obtain rfl : k = on := by omega
      have NO := Lib.hid (show ¬ ∃ x, x ∈ o ∧ (x < 0 ∨ x > W) from fun ⟨x, hx, hb⟩ => HT.out x (by rw [List.take_of_length_le (by rw [HL.out]; exact Nat.le_refl _)]; exact hx) hb)
      go_wp2
      go_ret
      exact ⟨-1, rfl, ⟨fun h => by omega, fun h => absurd h NO.out⟩, rfl⟩
theorem vcont_any (W : Int) (b : Nat) (K : Nat → Prop) (oa : Option Addr) (on oc : Nat) (o : List Int) (w : World) (r : Ints K w oa on oc o) (hc : w.cell? ⟨b, 1, none⟩ = some (.int .i64 W)) :
    Calls Try.prog 55 #[.slice oa on oc, .func (.func 56) #[] #[.pointer (some ⟨b, 0, none⟩)]] w fun e w' => ∃ v : Bool, e = .returned (.bool v) ∧ (v = true ↔ ∃ x, x ∈ o ∧ (x < 0 ∨ x > W)) ∧ w = w' := by
  have VI := Lib.hid (vidx_any W b K oa on oc o w r hc)
  go_enter Try.func55, Try.ntmps55
  go_wp2_with fail
  refine VI.out.mono ?_
  rintro e w1 ⟨i, rfl, hi, rfl⟩
  have HI := Lib.hid hi
  clear hi
  go_wp2
  go_ret
  exact ⟨_, rfl, decide_eq_true_iff.trans HI.out, rfl⟩
set_option maxRecDepth 100000 in
set_option maxHeartbeats 4000000 in
theorem yvalid_any (S W L : Nat) (hc : COk S W L) (K : Nat → Prop) (a : Option Addr) (len cap : Nat) (oa : Option Addr) (on oc : Nat) (m : List (List (List Int))) (o : List Int) (w : World) (r : YCub K w a len cap oa on oc m o) :
    Calls Try.prog 32 #[CV S W L, YV a len cap oa on oc] w (BoolIff (ValidY S W m o) w) := by
  have hC := Lib.hid hc
  obtain ⟨g1, g2, g3, g4, g5, g6⟩ := hc
  have hn := r.ints.hlen; have h6 := r.ints.hsz
  have HR := Lib.hid (ints_old r); have HN := Lib.hid hn
  have F0 := Lib.hid (Fm.new (Fm.new (Fm.start Non w) rfl [.int .i64 S, .int .i64 W, .int .i64 L] 26) (by simp) [.slice a len cap, .slice oa on oc] 31)
  have a0 := F0.out.h1.cell 0 _ rfl; have l1 := F0.out.h1.lt (by simp)
  clear r hn
  have SH := Lib.hid (fun w' (hb : Below w.heap.size w w') => avalid_any S W L hC.out _ a len cap m w' (HR.out.below hb).cub)
  by_cases hv : ValidM S W m
  · have HV := Lib.hid hv
    clear hv
    by_cases hne : on = S
    · subst hne
      have hq : ((on : Int) == (on : Int)) = true := by simp
      go_enter Try.func32, Try.ntmps32
      go_wp2_with fail
      refine (SH.out _ F0.out.below).mono ?_
      rintro e w1 ⟨b, rfl, hb, hw⟩
      obtain rfl : b = true := hb.2 HV.out
      have F1 := Lib.hid (Fm.call hw F0.out)
      clear a0 l1 hb hw F0
      have a1 := F1.out.h1.cell 1 _ rfl; have c0 := F1.out.h0.cell 0 _ rfl; have lc := F1.out.h0.lt (by simp); have l1 := F1.out.h1.lt (by simp)
      go_wp2_with fail
      refine (vcont_any (W : Int) w.heap.size _ oa on oc o w1 (HR.out.below F1.out.below).ints (F1.out.h0.cell 1 _ rfl)).mono ?_
      rintro e w2 ⟨v, rfl, hv, rfl⟩
      have VI := Lib.hid (show (!v) = true ↔ ValidY on W m o from ⟨fun h => ⟨HV.out, HN.out, fun x hx => by
        have hvf : ¬ v = true := by simpa using h
        rw [hv] at hvf
        refine Classical.byContradiction fun hh => hvf ⟨x, hx, ?_⟩
        omega⟩, fun h => by
        have : ¬ v = true := by
          rw [hv]
          rintro ⟨x, hx, hh⟩
          have := h.2.2 x hx
          omega
        simpa using this⟩)
      clear hv
      go_wp2
      go_ret
      exact ⟨_, rfl, VI.out, F1.out.below⟩
    · have NO := Lib.hid (show ¬ ValidY S W m o from fun h => hne (by have := h.2.1; have := HN.out; omega))
      have hq : ((on : Int) == (S : Int)) = false := by simp; omega
      go_enter Try.func32, Try.ntmps32
      go_wp2_with fail
      refine (SH.out _ F0.out.below).mono ?_
      rintro e w1 ⟨b, rfl, hb, hw⟩
      obtain rfl : b = true := hb.2 HV.out
      have F1 := Lib.hid (Fm.call hw F0.out)
      clear a0 l1 hb hw F0
      have a1 := F1.out.h1.cell 1 _ rfl; have c0 := F1.out.h0.cell 0 _ rfl; have lc := F1.out.h0.lt (by simp); have l1 := F1.out.h1.lt (by simp)
      go_wp2
      go_ret
      exact BoolIff.no rfl NO.out F1.out.below
  · have NO := Lib.hid (show ¬ ValidY S W m o from fun h => hv h.1)
    have HV := Lib.hid hv
    clear hv
    go_enter Try.func32, Try.ntmps32
    go_wp2_with fail
    refine (SH.out _ F0.out.below).mono ?_
    rintro e w1 ⟨b, rfl, hb, hw⟩
    obtain rfl : b = false := by
      cases b with
      | false => rfl
      | true => exact absurd (hb.1 rfl) HV.out
    have F1 := Lib.hid (Fm.call hw F0.out)
    clear a0 l1 hb hw F0
    go_wp2
    go_ret
    exact BoolIff.no rfl NO.out F1.out.below
end Go.Proofs.Ytlpelpjcbclemaa
