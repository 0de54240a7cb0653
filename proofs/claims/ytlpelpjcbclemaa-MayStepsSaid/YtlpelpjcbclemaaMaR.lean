/-
  may.Join: what both states know.
-/
import Derived.Test.YtlpelpjcbclemaaMaK
import Derived.Test.YtlpelpjcbclemaaMaQ
namespace Go.Proofs.Ytlpelpjcbclemaa
open Go.RowKit

theorem asc_take_not {l : List Int} (h : Asc l) {t : Nat} {x : Int} (hx : l[t]? = some x) : x ∉ l.take t := fun hm => by
  obtain ⟨i, hi, e⟩ := List.getElem_of_mem hm
  have hil : i < t := by rw [List.length_take] at hi; omega
  have htl := (List.getElem?_eq_some_iff.1 hx).1
  have h1 := List.pairwise_iff_getElem.1 h i t (by omega) htl hil
  have h2 := (List.getElem?_eq_some_iff.1 hx).2
  rw [List.getElem_take] at e
  omega
theorem minF_lt {P Q : Int → Prop} {W p o : Nat} {f g : List (List Int)} (hf : YSet P W f p) (hg : YSet Q W g o) {y : Int} (k : Kn f g y) : minF W f p g o y < W := by
  unfold minF
  rcases k with ⟨i, h⟩ | ⟨i, h⟩
  · have := ageF_at hf h; have := h.lt; have := hf.ws.len; omega
  · have := ageF_at hg h; have := h.lt; have := hg.ws.len; omega
/-- The lines of two sets, put in one after the other, whatever their order. -/
theorem jL_known {P : Int → Prop} {W p o : Nat} {f g : List (List Int)} (hf : YSet P W f p) (hg : YSet P W g o) {l : List Int} (hl : ∀ x, x ∈ l ↔ x ∈ (f ++ g).flatten) : jL W (minF W f p g o) (List.replicate W []) l = joinY W f p g o := by
  obtain ⟨h1, h2⟩ := jL_spec (P := P) (W := W) (n := minF W f p g o) (l := l) (WSet.nils P W) (fun i y h => absurd h not_at_nils) (fun x hx => by
    rcases mem_kn.1 ((hl x).1 hx) with ⟨i, h⟩ | ⟨i, h⟩
    · exact hf.ws.mem i x h
    · exact hg.ws.mem i x h)
  obtain ⟨h3, h4⟩ := joinY_spec hf hg
  refine h1.ext h3 fun i x => ?_
  rw [h2, h4, hl, mem_kn]
  constructor
  · rintro (k | ⟨k1, k2, _⟩)
    · exact absurd k not_at_nils
    · exact ⟨k1, k2⟩
  · rintro ⟨k1, k2⟩
    exact .inr ⟨k1, k2, by rw [k2]; exact minF_lt hf hg k1⟩
theorem yset_flat {U : List Int} {S W s o : Nat} {g : List (List Int)} (h : YSet (PS U S s) W g o) (hU : U.length ≤ 1000) (hW : W ≤ 4) : g.flatten.length ≤ 100000 := by
  have key : ∀ (l : List (List Int)), (∀ x ∈ l, x.length ≤ 10000) → l.flatten.length ≤ 10000 * l.length := fun l => by
    induction l with
    | nil => intro _; simp
    | cons y l ih =>
      intro hy
      have h3 := hy y (List.mem_cons_self ..)
      have h4 := ih (fun x hx => hy x (List.mem_cons_of_mem _ hx))
      rw [List.flatten_cons, List.length_append, List.length_cons]
      omega
  have h1 := key g (fun x hx => by
    obtain ⟨i, hi⟩ := List.getElem?_of_mem hx
    exact ((PS.lns hU).short h.ws i x hi).2)
  have := h.ws.len
  omega

set_option maxRecDepth 100000 in
set_option maxHeartbeats 16000000 in
theorem yjoin_any (U : List Int) (hU : U.length ≤ 1000) (S W L : Nat) (hc : COk S W L) (m q : List (List (List Int))) (o r : List Int) (hm : YSt U S W m o) (hq : YSt U S W q r) (K1 K2 : Nat → Prop) (a1 : Option Addr) (l1 c1 : Nat) (d1 : Option Addr) (n1 e1 : Nat) (a2 : Option Addr) (l2 c2 : Nat) (d2 : Option Addr) (n2 e2 : Nat) (w : World) (r1 : YCub K1 w a1 l1 c1 d1 n1 e1 m o) (r2 : YCub K2 w a2 l2 c2 d2 n2 e2 q r) :
    Calls Try.prog 19 #[CV S W L, YV a1 l1 c1 d1 n1 e1, YV a2 l2 c2 d2 n2 e2] w (YRet (joinYm S W m o q r) (joinYo S o r) w) := by
  have h1 : l1 = S := by rw [← r1.cub.hlen]; exact hm.len
  have h2 : n1 = S := by rw [← r1.ints.hlen]; exact hm.olen
  have h3 : l2 = S := by rw [← r2.cub.hlen]; exact hq.len
  have h4 : n2 = S := by rw [← r2.ints.hlen]; exact hq.olen
  subst h1
  obtain rfl : l1 = n1 := h2.symm
  obtain rfl : l1 = l2 := h3.symm
  obtain rfl : l1 = n2 := h4.symm
  clear h2 h3 h4
  have hC := Lib.hid hc
  obtain ⟨g1, g2, g3, g4, g5, g6⟩ := hc
  have hcp1 := r1.cub.hcap; have hcm1 := r1.cub.hmax; have hsz1 := r1.cub.hsz
  have F0 := Lib.hid (Fm.new (Fm.new (Fm.new (Fm.new (Fm.start Non w) rfl [.int .i64 l1, .int .i64 W, .int .i64 L] 26) (by simp) [.slice a1 l1 c1, .slice d1 l1 e1] 31) (by simp) [.slice a2 l1 c2, .slice d2 l1 e2] 31) (by simp) [.slice none 0 0, .slice none 0 0] 31)
  have HR1 := Lib.hid (ints_old r1); have HR2 := Lib.hid (ints_old r2); have HM := Lib.hid hm; have HQ := Lib.hid hq
  have TP := Lib.hid (fun w => ytop_any l1 W L hC.out w)
  clear r1 r2 hm hq
  have HJL := Lib.hid (joinYm_len (S := l1) (W := W) (m := m) (o := o) (q := q) (r := r)); have HOL := Lib.hid (joinYo_len (S := l1) (o := o) (r := r))
  obtain ⟨JM, hJM⟩ : ∃ JM, joinYm l1 W m o q r = JM := ⟨_, rfl⟩
  obtain ⟨JO, hJO⟩ : ∃ JO, joinYo l1 o r = JO := ⟨_, rfl⟩
  have EM := Lib.hid hJM; have EO := Lib.hid hJO
  rw [hJM] at HJL ⊢
  rw [hJO] at HOL ⊢
  clear hJM hJO
  go_enter Try.func19, Try.ntmps19
  go_wp2_with fail
  refine (TP.out _).mono ?_
  rintro e w1 h1
  obtain ⟨ta, tc, pa, pc, f1, f2, rfl, ho1, hb1⟩ := YRet.fix h1 (topS_len l1 W) (topO_len l1)
  have F1 := Lib.hid ((Fm.call hb1 F0.out).more (.cells #[.slice ta l1 tc, .slice pa l1 pc] 31))
  have s1 := (Fm.call hb1 F0.out).size
  simp only [List.length_append, List.length_cons, List.length_nil, Nat.zero_add] at s1
  have V1 := Lib.hid (show YVr (w1.alloc (.cells #[.slice ta l1 tc, .slice pa l1 pc] 31)) (w.heap.size + 4) w1.heap.size f1 f2 l1 ta tc pa pc (fil (List.replicate W []) JM 0) (fil 0 JO 0) from
    ⟨Has.new w1 [.slice ta l1 tc, .slice pa l1 pc] 31, by rw [fil_zero, fil_zero, HJL.out, HOL.out]; exact (ho1.ge (C := w.heap.size + 4) (by simp)).below ((Below.refl _ _).alloc (Nat.le_refl _) _), by omega, by simp, fun h => by have := (ho1.s1 _ h).2; omega, fun h => by have := (ho1.s2 _ h).2; omega⟩)
  have x0 := V1.out.has.cell 0 _ rfl; have lx := V1.out.lt
  clear h1 ho1 hb1 F0 TP
  go_wp2
  clear x0 lx
  go_loopw [16] (fun i wr => ∃ (k : Nat) (f1 f2 : Nat → Prop), k ≤ l1 ∧ i = .int .i64 k ∧ YVr wr (w.heap.size + 4) w1.heap.size f1 f2 l1 ta tc pa pc (fil (List.replicate W []) JM k) (fil 0 JO k) ∧ Fm Non w wr [[.int .i64 l1, .int .i64 W, .int .i64 L], [.slice a1 l1 c1, .slice d1 l1 e1], [.slice a2 l1 c2, .slice d2 l1 e2], [.slice none 0 0, .slice none 0 0]]) (fun i _ => l1 - (intOf i).toNat)
  case atStart => exact ⟨0, f1, f2, Nat.zero_le _, rfl, V1.out, F1.out⟩
  case round =>
    obtain ⟨k, f1, f2, hk, rfl, hV, hF⟩ := hrel
    have V2 := Lib.hid hV; have F2 := Lib.hid hF
    clear hV hF V1 F1
    by_cases hlt : k < l1
    · obtain ⟨f, i, hf, hi, hfd, hid, hfy⟩ := HM.out.at hlt
      obtain ⟨g, j, hg, hj, hgd, hjd, hgy⟩ := HQ.out.at hlt
      have HJ := Lib.hid (show JM[k]? = some (joinY W f i g j) by rw [← EM.out]; exact joinYm_get hlt hfd hid hgd hjd)
      have HJO := Lib.hid (show JO[k]? = some ((min i j : Nat) : Int) by rw [← EO.out]; exact joinYo_get hlt hid hjd)
      obtain ⟨ab, ap, rfl, hca, hab, _, _⟩ := HR1.out.other hi
      obtain ⟨bb, bp, rfl, hcb, hbb, _, _⟩ := HR2.out.other hj
      have HFY := Lib.hid hfy; have HGY := Lib.hid hgy
      have HFD := Lib.hid hfd; have HID := Lib.hid hid; have HGD := Lib.hid hgd; have HJD := Lib.hid hjd
      obtain ⟨xb, xo, f', ra, rn, rc, rfl, hx, hcx, hrx, _, hbx⟩ := Rows.get HR1.out.cub hlt
      obtain rfl : f' = f := by rw [hf] at hx; cases hx; rfl
      obtain ⟨yb, yo, g', qa, qn, qc, rfl, hy, hcy, hry, _, hby⟩ := Rows.get HR2.out.cub hlt
      obtain rfl : g' = g := by rw [hg] at hy; cases hy; rfl
      obtain rfl : rn = W := by rw [← hrx.hlen]; exact hfy.ws.len
      obtain rfl : rn = qn := by rw [← hry.hlen]; exact hgy.ws.len.symm
      have hiW := hfy.ole; have hjW := hgy.ole
      have hs0 : (0 : Int) ≤ (k : Int) := by omega
      have hs1 : (k : Int) < (l1 : Int) := by omega
      have HRX := Lib.hid hrx; have HRY := Lib.hid hry
      clear hf hi hfd hid hfy hg hj hgd hjd hgy hx hrx hy hry
      obtain ⟨ua, uo, rfl, _, _⟩ := Row.addr HRX.out (by omega)
      obtain ⟨va, vo, rfl, _, _⟩ := Row.addr HRY.out (by omega)
      have a0 := F2.out.h1.cell 0 _ rfl; have a1 := F2.out.h1.cell 1 _ rfl; have b0 := F2.out.h2.cell 0 _ rfl; have b1 := F2.out.h2.cell 1 _ rfl
      have cx := (F2.out.below.cell (p := ⟨xb, xo + k, none⟩) hbx).trans hcx
      have cy := (F2.out.below.cell (p := ⟨yb, yo + k, none⟩) hby).trans hcy
      have FX := Lib.hid (yset_flat HFY.out hU (by omega)); have FY := Lib.hid (yset_flat HGY.out hU (by omega))
      have hmin4 : ∀ (w : World) (ts : Array TypeId) (t : TypeId), (Builtin.min_ ts t #[.int .i64 (l1 : Int), .int .i64 (l1 : Int), .int .i64 (l1 : Int), .int .i64 (l1 : Int)]).run Try.prog w = .ok (.int .i64 (l1 : Int)) w := fun w ts t => by simp [Builtin.min_, Builtin.min2]
      go_upto_region 6 with fail
      clear hmin4
      have sv := F2.out.size
      simp only [List.length_cons, List.length_nil] at sv
      obtain ⟨wv, hwv⟩ : ∃ wv : World, wv = wr := ⟨_, rfl⟩
      subst hwv
      refine hd_start_e 13 (fun w' => w'.cell? ⟨w.heap.size + 1, 0, none⟩ = some (.slice (some ⟨xb, xo, none⟩) l1 c1) ∧ w'.cell? ⟨xb, xo + k, none⟩ = some (.slice (some ⟨ua, uo, none⟩) rn rc) ∧ w'.cell? ⟨w.heap.size + 1 + 1, 0, none⟩ = some (.slice (some ⟨yb, yo, none⟩) l1 c2) ∧ w'.cell? ⟨yb, yo + k, none⟩ = some (.slice (some ⟨va, vo, none⟩) rn qc)) (by kernel_rfl) ⟨by kernel_rfl, by rfl⟩ (by refine ⟨a0, cx, b0, cy⟩) (fun ok => ?_)
      refine hd_take_e (i := 0) (v := ?_) ok rfl (by decide) (by kernel_rfl) (by kernel_rfl) (fun _ _ _ h => h) (Or.inl ⟨by kernel_rfl, ?_⟩) ?_
      rotate_left
      · (intro w hSw; (try dsimp only at hSw); (try go_split_ands); go_simp; (try (with_reducible rfl)))
      go_frame
      refine hd_take_e (i := 1) (v := ?_) ok rfl (by decide) (by kernel_rfl) (by kernel_rfl) (fun _ _ _ h => h) (Or.inl ⟨by kernel_rfl, ?_⟩) ?_
      rotate_left
      · (intro w hSw; (try dsimp only at hSw); (try go_split_ands); go_simp; (try (with_reducible rfl)))
      go_frame
      refine hd_take_e (i := 2) (v := ?_) ok rfl (by decide) (by kernel_rfl) (by kernel_rfl) (fun _ _ _ h => h) (Or.inl ⟨by kernel_rfl, ?_⟩) ?_
      rotate_left
      · (intro w hSw; (try dsimp only at hSw); (try go_split_ands); go_simp; (try (with_reducible rfl)))
      go_frame
      refine hd_take_e (i := 3) (v := ?_) ok rfl (by decide) (by kernel_rfl) (by kernel_rfl) (fun _ _ _ h => h) (Or.inl ⟨by kernel_rfl, ?_⟩) ?_
      rotate_left
      · (intro w hSw; (try dsimp only at hSw); (try go_split_ands); go_simp; (try (with_reducible rfl)))
      go_frame
      refine hd_take_e (i := 4) (v := ?_) ok rfl (by decide) (by kernel_rfl) (by kernel_rfl) (fun _ _ _ h => h) (Or.inl ⟨by kernel_rfl, ?_⟩) ?_
      rotate_left
      · (intro w hSw; (try dsimp only at hSw); (try go_split_ands); go_simp; (try (with_reducible rfl)))
      go_frame
      refine hd_take_e (i := 5) (v := ?_) ok rfl (by decide) (by kernel_rfl) (by kernel_rfl) (fun _ _ _ h => h) (Or.inl ⟨by kernel_rfl, ?_⟩) ?_
      rotate_left
      · (intro w hSw; (try dsimp only at hSw); (try go_split_ands); go_simp; (try (with_reducible rfl)))
      go_frame
      refine hd_take_e (i := 6) (v := ?_) ok rfl (by decide) (by kernel_rfl) (by kernel_rfl) (fun _ _ _ h => h) (Or.inl ⟨by kernel_rfl, ?_⟩) ?_
      rotate_left
      · (intro w hSw; (try dsimp only at hSw); (try go_split_ands); go_simp; (try (with_reducible rfl)))
      go_frame
      refine hd_take_e (i := 7) (v := ?_) ok rfl (by decide) (by kernel_rfl) (by kernel_rfl) (fun _ _ _ h => h) (Or.inl ⟨by kernel_rfl, ?_⟩) ?_
      rotate_left
      · (intro w hSw; (try dsimp only at hSw); (try go_split_ands); go_simp; (try (with_reducible rfl)))
      go_frame
      refine hd_take_e (i := 8) (v := ?_) ok rfl (by decide) (by kernel_rfl) (by kernel_rfl) (fun _ _ _ h => h) (Or.inl ⟨by kernel_rfl, ?_⟩) ?_
      rotate_left
      · (intro w hSw; (try dsimp only at hSw); (try go_split_ands); go_simp; (try (with_reducible rfl)))
      go_frame
      refine hd_take_e (i := 9) (v := ?_) ok rfl (by decide) (by kernel_rfl) (by kernel_rfl) (fun _ _ _ h => h) (Or.inl ⟨by kernel_rfl, ?_⟩) ?_
      rotate_left
      · (intro w hSw; (try dsimp only at hSw); (try go_split_ands); go_simp; (try (with_reducible rfl)))
      go_frame
      refine hd_take_e (i := 12) (v := ?_) ok rfl (by decide) (by kernel_rfl) (by kernel_rfl) (fun _ _ _ h => h) (Or.inl ⟨by kernel_rfl, ?_⟩) ?_
      rotate_left
      · (intro w hSw; (try dsimp only at hSw); (try go_split_ands); go_simp; (try (with_reducible rfl)))
      go_frame
      refine hd_only_l (c := 10) rfl (by decide) (by kernel_rfl) (fun K hK => ?_)
      go_simp
      go_at_call 46
      refine (known_any _ _ f' g' _ _ _ _ _ _ _ ((Mat.below HRX.out F2.out.below).below (Below.refl _ _).drew) ((Mat.below HRY.out F2.out.below).below (Below.refl _ _).drew) FX.out FY.out).mono ?_
      rintro e w7 ⟨la, ln, lc, l, rfl, hol, hasc, hmem, hln, hb7⟩
      have hlln : l.length = ln := by
        obtain ⟨_, _, hfm⟩ := hol.form
        simp only [Value.slice.injEq] at hfm
        exact hfm.2.1.symm
      have k7 : Below wv.heap.size wv w7 := (Below.refl _ _).drew.trans hb7
      have K7 := Lib.hid k7
      have OLL := Lib.hid (show OInts w7 (Ge wv.heap.size) (.slice la ln lc) l from by simpa using hol)
      have AL := Lib.hid hasc; have ML := Lib.hid hmem; have LL := Lib.hid hlln
      have a2 := cell_later k7 a0; have cx2 := cell_later k7 cx; have b2 := cell_later k7 b0; have cy2 := cell_later k7 cy
      clear hol hasc hmem hlln hb7 k7 a0 cx b0 cy
      (try simp only [])
      refine hK _ _ (by refine ⟨?_, ?_, ?_, ?_⟩ <;> (first | exact a2 | exact cx2 | exact b2 | exact cy2)) ?_
      clear hK K
      (try go_frame)

      refine hd_only_l (c := 11) rfl (by decide) (by kernel_rfl) (fun K hK => ?_)
      go_simp
      (try simp only [])
      refine hK _ _ (by refine ⟨?_, ?_, ?_, ?_⟩ <;> (first | exact a2 | exact cx2 | exact b2 | exact cy2)) ?_
      clear hK K
      (try go_frame)

      clear ok a2 cx2 b2 cy2
      refine hd_end (by kernel_rfl) rfl ?_
      have s7 := K7.out.size
      have F7 := Lib.hid (Fm.call K7.out F2.out)
      have V7 := Lib.hid (V2.out.below K7.out)
      obtain ⟨nn, hnn⟩ : ∃ nn, minF rn f' i g' j = nn := ⟨_, rfl⟩
      have NN := Lib.hid hnn
      have RL := Lib.hid (show Ints (Kp w.heap.size wv.heap.size w7.heap.size) w7 la ln lc l from OInts.read (fun z hz => .inr hz) OLL.out.lt)
      have hkM : k < (fil (List.replicate rn []) JM k).length := by rw [fil_length _ JM (by rw [HJL.out]; exact hk), HJL.out]; exact hlt
      have HKM := Lib.hid hkM
      have hf1K : Hid (∀ z, f1 z → ¬ Kp w.heap.size wv.heap.size w7.heap.size z) := Lib.hid (fun z hz h => by have := V2.out.own.s1 z hz; unfold Kp at h; omega)
      have V8 := Lib.hid (show YVr w7 (w.heap.size + 4) w1.heap.size f1 f2 l1 ta tc pa pc ((fil (List.replicate rn []) JM k).set k (jL rn nn (List.replicate rn []) (l.take 0))) (fil 0 JO k) from by
        have e9 : (fil (List.replicate rn []) JM k).set k (jL rn nn (List.replicate rn []) (l.take 0)) = fil (List.replicate rn []) JM k := by rw [List.take_zero]; exact set_same (fil_get _ (by rw [HJL.out]; exact hlt))
        rw [e9]; exact V7.out)
      have CW := Lib.hid (Chg.refl (M := fun x => ¬ Kp w.heap.size wv.heap.size w7.heap.size x) w7)
      clear hnn hkM V7 V2 F2 OLL
      go_wp2
      go_loopw [46] (fun v wr => ∃ (t : Nat) (h1 : Nat → Prop), t ≤ ln ∧ v = .int .i64 t ∧ (∀ x, h1 x → ¬ Kp w.heap.size wv.heap.size w7.heap.size x) ∧ YVr wr (w.heap.size + 4) w1.heap.size h1 f2 l1 ta tc pa pc ((fil (List.replicate rn []) JM k).set k (jL rn nn (List.replicate rn []) (l.take t))) (fil 0 JO k) ∧ Fm Non w wr [[.int .i64 l1, .int .i64 rn, .int .i64 L], [.slice (some ⟨xb, xo, none⟩) l1 c1, .slice (some ⟨ab, ap, none⟩) l1 e1], [.slice (some ⟨yb, yo, none⟩) l1 c2, .slice (some ⟨bb, bp, none⟩) l1 e2], [.slice none 0 0, .slice none 0 0]] ∧ Chg (fun x => ¬ Kp w.heap.size wv.heap.size w7.heap.size x) w7 wr) (fun v _ => ln - (intOf v).toNat)
      case atStart => exact ⟨0, f1, Nat.zero_le _, rfl, hf1K.out, V8.out, F7.out, CW.out⟩
      case round =>
        obtain ⟨t, h1, ht, rfl, hK1, hV, hF, hCW⟩ := hrel
        have VB := Lib.hid hV; have FB := Lib.hid hF; have CB := Lib.hid hCW; have HKB := Lib.hid hK1
        clear hV hF hCW hK1 V8 F7 CW
        by_cases htl : t < ln
        · obtain ⟨lb, lo, x, rfl, hzx, hcz, hz1, hz2, _, hbz⟩ := Ints.get (RL.out.chg CB.out (fun x hx hn => hn hx)) htl
          have KN := Lib.hid (mem_kn.1 ((ML.out x).1 (List.mem_of_getElem? hzx)))
          have PX := Lib.hid (show PS U l1 k x from KN.out.elim (fun ⟨i, h⟩ => HFY.out.ws.mem i x h) (fun ⟨i, h⟩ => HGY.out.ws.mem i x h))
          have hx0 := PX.out.1; have hx9 := PX.out.2.1
          have NLT := Lib.hid (show nn x < rn from by rw [← NN.out]; exact minF_lt HFY.out HGY.out KN.out)
          have HTS := Lib.hid (jL_snoc (W := rn) (n := nn) (out := List.replicate rn []) hzx)
          have JS := Lib.hid (jL_spec (P := PS U l1 k) (W := rn) (n := nn) (l := l.take t) (WSet.nils _ rn) (fun i y h => absurd h not_at_nils) (fun z hz => (mem_kn.1 ((ML.out z).1 (List.mem_of_mem_take hz))).elim (fun ⟨i, h⟩ => HFY.out.ws.mem i z h) (fun ⟨i, h⟩ => HGY.out.ws.mem i z h)))
          have WS := Lib.hid JS.out.1
          have HE := Lib.hid (show jStep rn nn (jL rn nn (List.replicate rn []) (l.take t)) x = put (jL rn nn (List.replicate rn []) (l.take t)) (nn x) x from if_pos ⟨NLT.out, fun hp => by
            rcases (JS.out.2 _ _).1 (plc_found hp) with h | h
            · exact not_at_nils h
            · exact asc_take_not AL.out hzx h.1⟩)
          clear JS
          generalize jL rn nn (List.replicate rn []) (l.take t) = X at *
          have AGa := Lib.hid (fun (w' : World) (hb : Below w.heap.size w w') => yage_any l1 rn L hC.out m o HM.out _ _ l1 c1 _ l1 e1 x hx0 (by omega) w' (HR1.out.below hb))
          have AGb := Lib.hid (fun (w' : World) (hb : Below w.heap.size w w') => yage_any l1 rn L hC.out q r HQ.out _ _ l1 c2 _ l1 e2 x hx0 (by omega) w' (HR2.out.below hb))
          rw [ageY_at (by omega) PX.out.2.2.1 HFD.out HID.out] at AGa
          rw [ageY_at (by omega) PX.out.2.2.1 HGD.out HJD.out] at AGb
          have hnx : nn x = min (ageF rn f' i x) (ageF rn g' j x) := by rw [← NN.out]; rfl
          generalize ageF rn f' i x = na at *
          generalize ageF rn g' j x = nb' at *
          obtain ⟨N, hN⟩ : ∃ N : Nat, min na nb' = N := ⟨_, rfl⟩
          rw [hN] at hnx
          rw [hnx] at HE NLT
          have hmn2 : min (na : Int) (nb' : Int) = (N : Int) := by omega
          have hNr := NLT.out
          clear hzx hnx hN
          obtain ⟨ob, obc, u9, fq, pk⟩ := OwnRow.pick OMat.loc VB.out.own.sets (set_get HKM.out)
          have pf := pk.form
          rw [List.length_set, fil_length _ JM (by rw [HJL.out]; exact hk), HJL.out] at pf
          simp only [Value.slice.injEq] at pf
          obtain ⟨pf1, _, pf3⟩ := pf
          subst pf1
          obtain rfl : obc = tc := pf3.symm
          obtain ⟨ua9, uc9, rfl⟩ := pk.elem.form
          have r1 := pk.cell; have e7 := pk.hcap
          rw [WS.out.len] at r1
          rw [List.length_set, fil_length _ JM (by rw [HJL.out]; exact hk), HJL.out] at e7
          have PK := Lib.hid pk
          clear pk
          have x0 := VB.out.has.cell 0 _ rfl
          have kc0 := FB.out.h0.cell 0 _ rfl; have kc1 := FB.out.h0.cell 1 _ rfl; have kc2 := FB.out.h0.cell 2 _ rfl; have p0 := FB.out.h1.cell 0 _ rfl; have p1 := FB.out.h1.cell 1 _ rfl; have q0 := FB.out.h2.cell 0 _ rfl; have q1 := FB.out.h2.cell 1 _ rfl
          go_upto_region 9 with fail
          clear hcz
          have FB0 := Lib.hid FB.out.drew
          refine hd_start_e 16 (fun w' => w'.cell? ⟨w.heap.size, 0, none⟩ = some (.int .i64 l1) ∧ w'.cell? ⟨w.heap.size, 1, none⟩ = some (.int .i64 rn) ∧ w'.cell? ⟨w.heap.size, 2, none⟩ = some (.int .i64 L) ∧ w'.cell? ⟨w.heap.size + 1, 0, none⟩ = some (.slice (some ⟨xb, xo, none⟩) l1 c1) ∧ w'.cell? ⟨w.heap.size + 1, 1, none⟩ = some (.slice (some ⟨ab, ap, none⟩) l1 e1) ∧ w'.cell? ⟨w.heap.size + 1 + 1, 0, none⟩ = some (.slice (some ⟨yb, yo, none⟩) l1 c2) ∧ w'.cell? ⟨w.heap.size + 1 + 1, 1, none⟩ = some (.slice (some ⟨bb, bp, none⟩) l1 e2) ∧ w'.cell? ⟨w1.heap.size, 0, none⟩ = some (.slice (some ⟨ob, 0, none⟩) l1 obc) ∧ w'.cell? ⟨ob, k, none⟩ = some (.slice ua9 rn uc9)) (by kernel_rfl) ⟨by kernel_rfl, by rfl⟩ (by refine ⟨kc0, kc1, kc2, p0, p1, q0, q1, x0, r1⟩) (fun ok => ?_)
          refine hd_take_e (i := 0) (v := ?_) ok rfl (by decide) (by kernel_rfl) (by kernel_rfl) (fun _ _ _ h => h) (Or.inl ⟨by kernel_rfl, ?_⟩) ?_
          rotate_left
          · (intro w hSw; (try dsimp only at hSw); (try go_split_ands); go_simp; (try (with_reducible rfl)))
          go_frame
          refine hd_take_e (i := 1) (v := ?_) ok rfl (by decide) (by kernel_rfl) (by kernel_rfl) (fun _ _ _ h => h) (Or.inl ⟨by kernel_rfl, ?_⟩) ?_
          rotate_left
          · (intro w hSw; (try dsimp only at hSw); (try go_split_ands); go_simp; (try (with_reducible rfl)))
          go_frame
          refine hd_take_e (i := 2) (v := ?_) ok rfl (by decide) (by kernel_rfl) (by kernel_rfl) (fun _ _ _ h => h) (Or.inl ⟨by kernel_rfl, ?_⟩) ?_
          rotate_left
          · (intro w hSw; (try dsimp only at hSw); (try go_split_ands); go_simp; (try (with_reducible rfl)))
          go_frame
          refine hd_take_e (i := 3) (v := ?_) ok rfl (by decide) (by kernel_rfl) (by kernel_rfl) (fun _ _ _ h => h) (Or.inl ⟨by kernel_rfl, ?_⟩) ?_
          rotate_left
          · (intro w hSw; (try dsimp only at hSw); (try go_split_ands); go_simp; (try (with_reducible rfl)))
          go_frame
          refine hd_take_e (i := 4) (v := ?_) ok rfl (by decide) (by kernel_rfl) (by kernel_rfl) (fun _ _ _ h => h) (Or.inl ⟨by kernel_rfl, ?_⟩) ?_
          rotate_left
          · (intro w hSw; (try dsimp only at hSw); (try go_split_ands); go_simp; (try (with_reducible rfl)))
          go_frame
          refine hd_take_e (i := 5) (v := ?_) ok rfl (by decide) (by kernel_rfl) (by kernel_rfl) (fun _ _ _ h => h) (Or.inl ⟨by kernel_rfl, ?_⟩) ?_
          rotate_left
          · (intro w hSw; (try dsimp only at hSw); (try go_split_ands); go_simp; (try (with_reducible rfl)))
          go_frame
          refine hd_take_e (i := 6) (v := ?_) ok rfl (by decide) (by kernel_rfl) (by kernel_rfl) (fun _ _ _ h => h) (Or.inl ⟨by kernel_rfl, ?_⟩) ?_
          rotate_left
          · (intro w hSw; (try dsimp only at hSw); (try go_split_ands); go_simp; (try (with_reducible rfl)))
          go_frame
          refine hd_take_e (i := 7) (v := ?_) ok rfl (by decide) (by kernel_rfl) (by kernel_rfl) (fun _ _ _ h => h) (Or.inl ⟨by kernel_rfl, ?_⟩) ?_
          rotate_left
          · (intro w hSw; (try dsimp only at hSw); (try go_split_ands); go_simp; (try (with_reducible rfl)))
          go_frame
          refine hd_take_e (i := 9) (v := ?_) ok rfl (by decide) (by kernel_rfl) (by kernel_rfl) (fun _ _ _ h => h) (Or.inl ⟨by kernel_rfl, ?_⟩) ?_
          rotate_left
          · (intro w hSw; (try dsimp only at hSw); (try go_split_ands); go_simp; (try (with_reducible rfl)))
          go_frame
          refine hd_take_e (i := 10) (v := ?_) ok rfl (by decide) (by kernel_rfl) (by kernel_rfl) (fun _ _ _ h => h) (Or.inl ⟨by kernel_rfl, ?_⟩) ?_
          rotate_left
          · (intro w hSw; (try dsimp only at hSw); (try go_split_ands); go_simp; (try (with_reducible rfl)))
          go_frame
          refine hd_take_e (i := 11) (v := ?_) ok rfl (by decide) (by kernel_rfl) (by kernel_rfl) (fun _ _ _ h => h) (Or.inl ⟨by kernel_rfl, ?_⟩) ?_
          rotate_left
          · (intro w hSw; (try dsimp only at hSw); (try go_split_ands); go_simp; (try (with_reducible rfl)))
          go_frame
          refine hd_take_e (i := 14) (v := ?_) ok rfl (by decide) (by kernel_rfl) (by kernel_rfl) (fun _ _ _ h => h) (Or.inl ⟨by kernel_rfl, ?_⟩) ?_
          rotate_left
          · (intro w hSw; (try dsimp only at hSw); (try go_split_ands); go_simp; (try (with_reducible rfl)))
          go_frame
          refine hd_only_l (c := 8) rfl (by decide) (by kernel_rfl) (fun K hK => ?_)
          go_simp
          go_at_call 15
          refine (AGa.out _ FB0.out.below).mono ?_
          rintro e w11 ⟨rfl, hb11⟩
          have FC := Lib.hid (Fm.call hb11 FB0.out)
          have bc : Below wr.heap.size wr w11 := (Below.refl _ _).drew.trans hb11
          have BC := Lib.hid bc
          have x1 := cell_later bc x0; have r2 := cell_later bc r1
          clear kc0 kc1 kc2 p0 p1 q0 q1 hb11 bc x0 r1
          have kc0 := FC.out.h0.cell 0 _ rfl; have kc1 := FC.out.h0.cell 1 _ rfl; have kc2 := FC.out.h0.cell 2 _ rfl; have p0 := FC.out.h1.cell 0 _ rfl; have p1 := FC.out.h1.cell 1 _ rfl; have q0 := FC.out.h2.cell 0 _ rfl; have q1 := FC.out.h2.cell 1 _ rfl
          (try simp only [])
          refine hK _ _ (by refine ⟨?_, ?_, ?_, ?_, ?_, ?_, ?_, ?_, ?_⟩ <;> (first | exact kc0 | exact kc1 | exact kc2 | exact p0 | exact p1 | exact q0 | exact q1 | exact x1 | exact r2)) ?_
          clear hK K
          (try go_frame)

          refine hd_only_l (c := 12) rfl (by decide) (by kernel_rfl) (fun K hK => ?_)
          go_simp
          go_at_call 15
          refine (AGb.out _ FC.out.below).mono ?_
          rintro e w12 ⟨rfl, hb12⟩
          have FD := Lib.hid (Fm.call hb12 FC.out)
          have bd : Below wr.heap.size wr w12 := BC.out.trans (hb12.mono BC.out.size)
          have BD := Lib.hid bd
          have x2 := cell_later hb12 x1; have r3 := cell_later hb12 r2
          clear kc0 kc1 kc2 p0 p1 q0 q1 hb12 bd x1 r2
          have kc0 := FD.out.h0.cell 0 _ rfl; have kc1 := FD.out.h0.cell 1 _ rfl; have kc2 := FD.out.h0.cell 2 _ rfl; have p0 := FD.out.h1.cell 0 _ rfl; have p1 := FD.out.h1.cell 1 _ rfl; have q0 := FD.out.h2.cell 0 _ rfl; have q1 := FD.out.h2.cell 1 _ rfl
          (try simp only [])
          refine hK _ _ (by refine ⟨?_, ?_, ?_, ?_, ?_, ?_, ?_, ?_, ?_⟩ <;> (first | exact kc0 | exact kc1 | exact kc2 | exact p0 | exact p1 | exact q0 | exact q1 | exact x2 | exact r3)) ?_
          clear hK K
          (try go_frame)

          refine hd_only_l (c := 13) rfl (by decide) (by kernel_rfl) (fun K hK => ?_)
          go_simp
          (try simp only [])
          refine hK _ _ (by refine ⟨?_, ?_, ?_, ?_, ?_, ?_, ?_, ?_, ?_⟩ <;> (first | exact kc0 | exact kc1 | exact kc2 | exact p0 | exact p1 | exact q0 | exact q1 | exact x2 | exact r3)) ?_
          clear hK K
          (try go_frame)

          refine hd_only_l (c := 15) rfl (by decide) (by kernel_rfl) (fun K hK => ?_)
          go_simp
          have AP := Lib.hid (aput_any fq ua9 rn uc9 X w12 (by have := OMat.loc.below PK.out.elem BD.out; rw [WS.out.len] at this; exact this) WS.out.len ((PS.lns hU).short WS.out) N x (by omega) ⟨hz1, hz2⟩)
          go_at_call 47
          refine AP.out.mono ?_
          rintro e w13 ⟨rfl, ho13, hc13⟩
          have kq : Chg fq wr w13 := (Chg.of_below BD.out).trans hc13 (fun _ _ h => h)
          have KQ := Lib.hid kq
          have KC := Lib.hid (kq.mono (N := h1) (fun z _ hz => (PK.out.sub z hz).1))
          have s12 := BD.out.size; have s13 := hc13.size
          have SW := Lib.hid (PK.out.same w13 (fun z => Grown fq w12 z ∧ z < w13.heap.size) _ kq (by rw [WS.out.len]; exact ho13.lt) (fun z hz => ⟨hz.1.imp id (fun h => by omega), hz.2⟩))
          have FE := Lib.hid (FB.out.chgd KC.out (fun z hz => .inr (by have := VB.out.own.s1 z hz; simp; omega)))
          have hh := KC.out.has VB.out.has VB.out.lt VB.out.o1
          have x3 := hh.cell 0 _ rfl
          have r4 := kq.cell PK.out.nb PK.out.cell
          rw [WS.out.len] at r4
          clear kc0 kc1 kc2 p0 p1 q0 q1 x2 r3 hh kq ho13 hc13
          have kc0 := FE.out.h0.cell 0 _ rfl; have kc1 := FE.out.h0.cell 1 _ rfl; have kc2 := FE.out.h0.cell 2 _ rfl; have p0 := FE.out.h1.cell 0 _ rfl; have p1 := FE.out.h1.cell 1 _ rfl; have q0 := FE.out.h2.cell 0 _ rfl; have q1 := FE.out.h2.cell 1 _ rfl
          (try simp only [])
          refine hK _ _ (by refine ⟨?_, ?_, ?_, ?_, ?_, ?_, ?_, ?_, ?_⟩ <;> (first | exact kc0 | exact kc1 | exact kc2 | exact p0 | exact p1 | exact q0 | exact q1 | exact x3 | exact r4)) ?_
          clear hK K
          (try go_frame)

          clear ok kc0 kc1 kc2 p0 p1 q0 q1 x3 r4
          refine hd_end (by kernel_rfl) rfl ?_
          have V14 := Lib.hid (show YVr w13 (w.heap.size + 4) w1.heap.size (fun j => Grown h1 wr j ∧ j < w13.heap.size) f2 l1 (some ⟨ob, 0, none⟩) obc pa pc ((fil (List.replicate rn []) JM k).set k (put X N x)) (fil 0 JO k) from
            ⟨KC.out.has VB.out.has VB.out.lt VB.out.o1, OY.cast (OY.setSets VB.out.own SW.out KC.out (fun j hj => hj) (by have := VB.out.ge; have := VB.out.lt; omega)) (set_twice _ _ _ _) rfl, VB.out.ge, Nat.lt_of_lt_of_le VB.out.lt KC.out.size, fun h => h.1.elim VB.out.o1 (fun h => by have := VB.out.lt; omega), VB.out.o2⟩)
          have C14 := Lib.hid (CB.out.trans KC.out (fun z _ hz => HKB.out z hz))
          have HK14 := Lib.hid (show ∀ z, (Grown h1 wr z ∧ z < w13.heap.size) → ¬ Kp w.heap.size wv.heap.size w7.heap.size z from fun z hz h => hz.1.elim (fun h' => HKB.out z h' h) (fun h' => by have a1 := CB.out.size; unfold Kp at h; omega))
          go_wp2
          go_roundw
          case rel => exact ⟨t + 1, _, by omega, by go_num, HK14.out, by rw [HTS.out, HE.out]; exact V14.out, FE.out, C14.out⟩
          case measure => simp [intOf]; omega
        · obtain rfl : t = ln := by omega
          have HFIN := Lib.hid (show (fil (List.replicate rn []) JM k).set k (jL rn nn (List.replicate rn []) (l.take t)) = fil (List.replicate rn []) JM (k + 1) from by
            have e9 : jL rn nn (List.replicate rn []) (l.take t) = joinY rn f' i g' j := by
              rw [List.take_of_length_le (by rw [LL.out]; exact Nat.le_refl _), ← NN.out]; exact jL_known HFY.out HGY.out ML.out
            rw [e9]; exact fil_set _ HJ.out)
          rw [HFIN.out] at VB
          have V9 := VB; have F9 := FB
          clear VB FB HFIN
          obtain ⟨nb, hnb, hf2, hnl, ⟨v0, hv0⟩, hnf, SO⟩ := OY.setOther V9.out.own (s := k) (by rw [fil_length 0 JO (by rw [HOL.out]; exact hk), HOL.out]; exact hlt)
          subst hnb
          have SOH := Lib.hid SO
          have nbb := V9.out.own.s2 nb hf2
          have nbv : nb ≠ w1.heap.size := fun e => V9.out.o2 (e ▸ hf2)
          have m1 : nb ≠ w.heap.size + 1 := by omega
          have m2 : nb ≠ w.heap.size + 1 + 1 := by omega
          have m3 : nb ≠ ab := by omega
          have m4 : nb ≠ bb := by omega
          clear SO
          have x1 := V9.out.has.cell 1 _ rfl; have lx := V9.out.lt
          have y1 := F9.out.h1.cell 1 _ rfl; have z1 := F9.out.h2.cell 1 _ rfl
          have ca := (F9.out.below.cell (p := ⟨ab, ap + k, none⟩) hab).trans hca
          have cb := (F9.out.below.cell (p := ⟨bb, bp + k, none⟩) hbb).trans hcb
          have sw := F9.out.size
          simp only [List.length_cons, List.length_nil] at sw
          go_wp2
          go_region_held3 (fun w' => w'.cell? ⟨w1.heap.size, 1, none⟩ = some (.slice (some ⟨nb, 0, none⟩) l1 pc) ∧ w'.cell? ⟨w.heap.size + 1, 1, none⟩ = some (.slice (some ⟨ab, ap, none⟩) l1 e1) ∧ w'.cell? ⟨ab, ap + k, none⟩ = some (.int .i64 i) ∧ w'.cell? ⟨w.heap.size + 1 + 1, 1, none⟩ = some (.slice (some ⟨bb, bp, none⟩) l1 e2) ∧ w'.cell? ⟨bb, bp + k, none⟩ = some (.int .i64 j)) (((try dsimp only); (try go_split_ands); (repeat' apply And.intro); all_goals (repeat (first | assumption | (refine cell_put nbv ?_) | (refine cell_put m1 ?_) | (refine cell_put m2 ?_) | (refine cell_put m3 ?_) | (refine cell_put m4 ?_)))))
            (fail)
          have hmn : min (i : Int) (j : Int) = ((min i j : Nat) : Int) := by omega
          rw [hmn]

          go_wp2
          go_roundw
          case rel => exact ⟨k + 1, h1, (fun j => Grown f2 wr j ∧ j < wr.heap.size), by omega, by go_num, ⟨(V9.out.has.other (p := ⟨nb, k, none⟩) (fun e => nbv e.symm)).drew, (by rw [← fil_set 0 HJO.out]; exact (SOH.out _ (by omega) (by omega)).below (Below.refl _ _).drew), V9.out.ge, by simpa using V9.out.lt, V9.out.o1, fun h => h.1.elim V9.out.o2 (fun h => by have := V9.out.lt; omega)⟩, (F9.out.far (p := ⟨nb, k, none⟩) (.inr (by simp; omega)) (.int .i64 ((min i j : Nat) : Int))).drew⟩
          case measure => simp [intOf]; omega
    · have hke : k = l1 := by omega
      subst hke
      have e9 : fil (List.replicate W []) JM k = JM := by have := fil_all (List.replicate W []) JM; rwa [HJL.out] at this
      have e8 : fil 0 JO k = JO := by have := fil_all 0 JO; rwa [HOL.out] at this
      rw [e9, e8] at V2
      clear e9 e8
      have x0 := V2.out.has.cell 0 _ rfl; have x1 := V2.out.has.cell 1 _ rfl; have lx := V2.out.lt
      have r0 := F2.out.h3.cell 0 _ rfl; have r1 := F2.out.h3.cell 1 _ rfl; have rf := F2.out.h3.free; have lr := F2.out.h3.lt (by simp)
      go_wp2
      refine bodyPost_ret (v := YV ta k tc pa k pc) (by simp [results, Try.results19, go_sem, r0, r1]) rfl ⟨ta, k, tc, pa, k, pc, f1, f2, rfl, OY.ge (OY.two V2.out.own (show w.heap.size + 3 < w.heap.size + 4 by omega) (Nat.le_refl _)) (by omega), ((F2.out.set 3 0 _ rfl (by simp) _).set 3 1 _ rfl (by simp) _).below⟩
end Go.Proofs.Ytlpelpjcbclemaa
