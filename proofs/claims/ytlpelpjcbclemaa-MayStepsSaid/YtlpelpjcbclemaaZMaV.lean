/-
  A state in a variable: new, stored anew, kept.
  timeboundmake2: Cache, Contents, Line, Few: what the numbers of a deck are made into.
-/
import Derived.Test.YtlpelpjcbclemaaMaG
import Derived.Test.YtlpelpjcbclemaaMuN
import Derived.Test.YtlpelpjcbclemaaZCacheL
import Derived.Test.YtlpelpjcbclemaaZGrow
namespace Go.Proofs.Ytlpelpjcbclemaa
open Go.RowKit

theorem YVr.set {w : World} {B b : Nat} {f1 f2 g1 g2 : Nat → Prop} {S c oc c' oc' D : Nat} {a oa a' oa' : Option Addr} {m m' : List (List (List Int))} {o o' : List Int} (h : YVr w B b f1 f2 S a c oa oc m o) (k : OY w D g1 g2 a' S c' oa' S oc' m' o') (hD : b < D) (hB : B ≤ D) :
    YVr ((w.setCell ⟨b, 0, none⟩ (.slice a' S c')).setCell ⟨b, 1, none⟩ (.slice oa' S oc')) B b g1 g2 S a' c' oa' oc' m' o' := by
  have kc : Chg (fun j => j = b) w ((w.setCell ⟨b, 0, none⟩ (.slice a' S c')).setCell ⟨b, 1, none⟩ (.slice oa' S oc')) := (Chg.setCell (M := fun j => j = b) (Chg.refl _) (fun _ => rfl) _).setCell (fun _ => rfl) _
  exact ⟨(h.has.set0 _).set1 _, (k.chg kc (fun j hj _ e => by omega)).ge hB, h.ge, by simpa using h.lt, fun e => by have := (k.s1 b e).1; omega, fun e => by have := (k.s2 b e).1; omega⟩
theorem YVr.newO {w : World} {E D : Nat} {f1 f2 : Nat → Prop} {S c oc : Nat} {a oa : Option Addr} {m : List (List (List Int))} {o : List Int} (h : OY w D f1 f2 a S c oa S oc m o) (hE : E ≤ D ∧ E ≤ w.heap.size) :
    YVr (w.alloc (.cells #[.slice a S c, .slice oa S oc] 31)) E w.heap.size f1 f2 S a c oa oc m o :=
  ⟨Has.new w [.slice a S c, .slice oa S oc] 31, (h.ge hE.1).below ((Below.refl _ _).alloc (Nat.le_refl _) _), hE.2, by simp, fun e => by have := (h.s1 _ e).2; omega, fun e => by have := (h.s2 _ e).2; omega⟩
theorem YVr.setO {w : World} {E D b : Nat} {f1 f2 : Nat → Prop} {S c oc : Nat} {a oa : Option Addr} {m : List (List (List Int))} {o : List Int} {u v : Value} (hx : Has w b [u, v]) (h : OY w D f1 f2 a S c oa S oc m o) (hD : b < D) (hE : E ≤ b) :
    YVr ((w.setCell ⟨b, 0, none⟩ (.slice a S c)).setCell ⟨b, 1, none⟩ (.slice oa S oc)) E b f1 f2 S a c oa oc m o :=
  ⟨(hx.set0 _).set1 _, (h.chg (M := fun j => j = b) ((Chg.setCell (M := fun j => j = b) (Chg.refl _) (fun _ => rfl) _).setCell (fun _ => rfl) _) (fun j hj _ e => by omega)).ge (by omega), hE, by simpa using hx.lt (by simp), fun e => by have := (h.s1 _ e).1; omega, fun e => by have := (h.s2 _ e).1; omega⟩
end Go.Proofs.Ytlpelpjcbclemaa
namespace Go.Proofs.Ytlpelpjcbclemaa
open Go.RowKit

/-- The lines that Line gives. -/
def Base : List Int := [0,1,2,3,4,5,6,7,8,9,10,11,12,13,14,15,16,17,18,19,20,21,22,23,24,25,26,27,28,29,1048576]
theorem base_low {x : Int} (h0 : 0 ≤ x) (h1 : x < 30) : x ∈ Base := by
  obtain ⟨n, rfl⟩ := Int.eq_ofNat_of_zero_le h0
  have hn : n < 30 := by omega
  have : ∀ n : Nat, n < 30 → (n : Int) ∈ Base := by decide
  exact this n hn
theorem base_top : (1048576 : Int) ∈ Base := by decide
theorem base_ok {x : Int} (h : x ∈ Base) : 0 ≤ x ∧ x ≤ 1048576 := by
  have : ∀ x ∈ Base, 0 ≤ x ∧ x ≤ 1048576 := by decide
  exact this x h
theorem PS.mono {U V : List Int} {S s : Nat} {x : Int} (hU : ∀ x ∈ U, x ∈ V) (h : PS U S s x) : PS V S s x := ⟨h.1, h.2.1, h.2.2.1, hU x h.2.2.2⟩
theorem WSet.mono {P Q : Int → Prop} {W : Nat} {g : List (List Int)} (hP : ∀ x, P x → Q x) (h : WSet P W g) : WSet Q W g := ⟨h.len, h.asc, fun i x k => hP x (h.mem i x k), h.once⟩
theorem MSt.mono {U V : List Int} {S W : Nat} {m : List (List (List Int))} (hU : ∀ x ∈ U, x ∈ V) (h : MSt U S W m) : MSt V S W m := ⟨h.len, fun s g hs => (h.set s g hs).mono (fun _ k => k.mono hU)⟩
/-- The state of right contents. -/
theorem of_st {S W : Nat} {ss : List (List Int)} (h : ValidP S W ss) : MSt ss.flatten S W (ofM ss) := by
  refine ⟨by rw [ofM_len]; have := h.1; omega, fun s g hs => ?_⟩
  unfold ofM at hs
  rw [List.getElem?_map, Option.map_eq_some_iff] at hs
  obtain ⟨x, hx, rfl⟩ := hs
  obtain ⟨hl, he⟩ := h.2 s x hx
  have hat : ∀ (i : Nat) (y : Int), At (ofRow x) i y → x[i]? = some y ∧ 0 ≤ y := fun i y ⟨l, hl, hy⟩ => by
    unfold ofRow at hl
    rw [List.getElem?_map, Option.map_eq_some_iff] at hl
    obtain ⟨z, hz, rfl⟩ := hl
    split at hy
    · simp at hy; subst hy; exact ⟨hz, by assumption⟩
    · cases hy
  refine ⟨by rw [ofRow_len]; omega, fun i l hl => ?_, fun i y hy => ?_, fun i j y hi hj => ?_⟩
  · unfold ofRow at hl
    rw [List.getElem?_map, Option.map_eq_some_iff] at hl
    obtain ⟨z, hz, rfl⟩ := hl
    split <;> simp [Asc]
  · obtain ⟨h1, h2⟩ := hat i y hy
    rcases he i y h1 with h3 | h3
    · omega
    · exact ⟨h3.1, h3.2.1, h3.2.2.1, List.mem_flatten.2 ⟨x, List.mem_of_getElem? hx, List.mem_of_getElem? h1⟩⟩
  · obtain ⟨h1, h2⟩ := hat i y hi
    obtain ⟨h3, _⟩ := hat j y hj
    have key : ∀ a b : Nat, x[a]? = some y → x[b]? = some y → ¬ a < b := fun a b ha hb hab => by
      rcases he b y hb with h4 | h4
      · omega
      · refine h4.2.2.2.1 (List.mem_of_getElem? (i := a) ?_)
        rw [List.getElem?_take, if_pos hab]; exact ha
    have a1 := key i j h1 h3
    have a2 := key j i h3 h1
    omega
theorem flatten_le {S W : Nat} {ss : List (List Int)} (h : ValidP S W ss) (hS : S ≤ 4) (hW : W ≤ 3) : ss.flatten.length ≤ 12 := by
  have h1 : ss.length = S := by have := h.1; omega
  have h2 : ∀ x ∈ ss, x.length ≤ 3 := fun x hx => by
    obtain ⟨i, hi⟩ := List.getElem?_of_mem hx
    have := (h.2 i x hi).1
    omega
  clear h
  have key : ∀ (l : List (List Int)), (∀ x ∈ l, x.length ≤ 3) → l.flatten.length ≤ 3 * l.length := fun l => by
    induction l with
    | nil => intro _; simp
    | cons y l ih =>
      intro hy
      have h3 := hy y (List.mem_cons_self ..)
      have h4 := ih (fun x hx => hy x (List.mem_cons_of_mem _ hx))
      rw [List.flatten_cons, List.length_append, List.length_cons]
      omega
  have := key ss h2
  omega

set_option maxHeartbeats 1000000 in
theorem m2cache_any (d : Nat) (w : World) (hd : Deck w d) :
    Calls Try.prog 9 #[.pointer (some ⟨d, 0, none⟩)] w (CacheTaken d w) := by
  have hlt := hd.lt
  have HD := Lib.hid hd
  have F0 := Lib.hid (Fm.new (Fm.start (fun k => k = d) w) rfl [.int .i64 0, .int .i64 0, .int .i64 0] 26)
  have D0 := Lib.hid (HD.out.below ((Below.refl _ _).alloc (Nat.le_refl _) (.cells [Value.int .i64 0, .int .i64 0, .int .i64 0].toArray 26)) (Nat.le_refl _))
  clear hd
  go_enter Try.func9, Try.ntmps9
  go_wp2_with fail
  refine (mcache_any d _ D0.out).mono ?_
  rintro e w1 ⟨S, W, L, rfl, q1, q2, q3, q4, q5, hd1, hc1⟩
  have F1 := Lib.hid (F0.out.chgd hc1 (fun j hj => .inl ⟨by omega, hj⟩))
  have D1 := Lib.hid hd1
  clear hd1 hc1
  have t0 := F1.out.h0
  have c0 := t0.cell 0 _ rfl; have c1 := t0.cell 1 _ rfl; have c2 := t0.cell 2 _ rfl; have cf := t0.free; have lt0 := t0.lt (by simp)
  go_wp2
  have F4 := (((F1.out.set 0 0 _ rfl (by simp) (.int .i64 S)).set 0 1 _ rfl (by simp) (.int .i64 W)).set 0 2 _ rfl (by simp) (.int .i64 L))
  refine bodyPost_ret (v := .agg #[.int .i64 S, .int .i64 W, .int .i64 L]) (by simp [results, Try.results9, go_sem, c0, c1, c2]) rfl ⟨S, W, L, rfl, q1, q2, q3, q4, q5, ?_, F4.chg⟩
  exact ((D1.out.other (by simp; omega) _).other (by simp; omega) _).other (by simp; omega) _

set_option maxHeartbeats 1000000 in
theorem m2lines_any (S W L : Nat) (hc : COk S W L) (d : Nat) (w : World) (hd : Deck w d) :
    Calls Try.prog 21 #[.pointer (some ⟨d, 0, none⟩), CV S W L] w (LinesTaken S W d w) := by
  have hlt := hd.lt
  have HD := Lib.hid hd
  have hC := Lib.hid hc
  clear hc hd
  have F0 := Lib.hid (Fm.new (Fm.new (Fm.start Non w) rfl [.int .i64 S, .int .i64 W, .int .i64 L] 26) (by simp) [.slice none 0 0] 44)
  have D0 := Lib.hid (HD.out.chg F0.out.chg (fun _ _ _ h => h))
  go_enter Try.func21, Try.ntmps21
  go_wp2_with fail
  refine (mlines2_any S W L hC.out d _ D0.out).mono ?_
  rintro e w1 ⟨oa, on, oc, ss, rfl, ho1, hv1, hd1, hb1⟩
  have F1 := Lib.hid ((F0.out.non (N := fun k => k = d)).chgd hb1 (fun j hj => .inl ⟨by omega, hj⟩))
  have O1 := Lib.hid (ho1.ge (B' := w.heap.size + 2) (by simp)).bt
  have HV := Lib.hid hv1; have D1 := Lib.hid hd1
  have t1 := F1.out.h1
  have e0 := t1.cell 0 _ rfl; have ef := t1.free; have lt1 := t1.lt (by simp)
  clear ho1 hv1 hd1 hb1 t1
  go_wp2
  refine bodyPost_ret (v := .agg #[.slice oa on oc]) (by simp [results, Try.results21, go_sem, e0]) rfl ⟨oa, on, oc, ss, rfl, ?_, HV.out, D1.out.other (by simp; omega) _, (F1.out.set 1 0 [.slice none 0 0] rfl (by simp) _).chg⟩
  exact (OMat.loc.chg (M := fun j => j = w.heap.size + 1) O1.out (Chg.setCell (M := fun j => j = w.heap.size + 1) (Chg.refl _) (fun _ => rfl) _) (fun j hj _ e => by have := hj.1; omega)).of_bt (by omega)

def LineTaken (d : Nat) (w : World) (e : Ending) (w' : World) : Prop := ∃ x : Int, e = .returned (.int .i64 x) ∧ x ∈ Base ∧ Deck w' d ∧ Chg (fun k => k = d) w w'
set_option maxHeartbeats 1000000 in
theorem m2line_any (d : Nat) (w : World) (hd : Deck w d) :
    Calls Try.prog 17 #[.pointer (some ⟨d, 0, none⟩)] w (LineTaken d w) := by
  have hlt := hd.lt
  have HD := Lib.hid hd
  clear hd
  go_enter Try.func17, Try.ntmps17
  go_wp2_with fail
  refine (next_any d 8 (by omega) (by omega) _ HD.out).mono ?_
  rintro e w1 ⟨r1, rfl, a1, b1, hd1, hb1⟩
  go_wp2_with fail
  refine (next_any d 8 (by omega) (by omega) _ hd1).mono ?_
  rintro e w2 ⟨r2, rfl, a2, b2, hd2, hb2⟩
  go_wp2_with fail
  refine (next_any d 30 (by omega) (by omega) _ hd2).mono ?_
  rintro e w3 ⟨r3, rfl, a3, b3, hd3, hb3⟩
  have C3 := Lib.hid ((hb1.chg.trans hb2.chg (fun _ _ h => h)).trans hb3.chg (fun _ _ h => h))
  have D3 := Lib.hid hd3
  clear hd1 hd2 hd3 hb1 hb2 hb3
  have V := Blk.new w3 [.int .i64 r1, .int .i64 r2, .int .i64 r3, .int .i64 1048576] 3
  have D4 := Lib.hid (D3.out.below ((Below.refl _ _).alloc (Nat.le_refl _) (.cells [Value.int .i64 r1, .int .i64 r2, .int .i64 r3, .int .i64 1048576].toArray 3)) (Nat.le_refl _))
  have L3 := Lib.hid (show d < w3.heap.size from D3.out.lt)
  go_wp2_with fail
  refine (next_any d 4 (by omega) (by omega) _ D4.out).mono ?_
  rintro e w4 ⟨r4, rfl, a4, b4, hd4, hb4⟩
  have C4 := (C3.out.alloc (.cells [Value.int .i64 r1, .int .i64 r2, .int .i64 r3, .int .i64 1048576].toArray 3)).trans hb4.chg (fun _ _ h => h)
  have vl : w3.heap.size < (w3.alloc (.cells [Value.int .i64 r1, .int .i64 r2, .int .i64 r3, .int .i64 1048576].toArray 3)).heap.size := by simp
  have hV := V.chg hb4.chg (by have := L3.out; omega)
  have v0 := hV.cell (i := 0) (v := .int .i64 r1) rfl
  have v1 := hV.cell (i := 1) (v := .int .i64 r2) rfl
  have v2 := hV.cell (i := 2) (v := .int .i64 r3) rfl
  have v3 := hV.cell (i := 3) (v := .int .i64 1048576) rfl
  have C5 := Lib.hid C4; have D5 := Lib.hid hd4
  clear C4 hd4 hV hb4 V
  have hr : r4 = 0 ∨ r4 = 1 ∨ r4 = 2 ∨ r4 = 3 := by omega
  rcases hr with rfl | rfl | rfl | rfl
  all_goals
    go_wp2
    go_ret
    exact ⟨_, rfl, by first | exact base_top | exact base_low (by omega) (by omega), D5.out, C5.out⟩

def FewTaken (d : Nat) (w : World) (e : Ending) (w' : World) : Prop := ∃ a n cap xs, e = .returned (.slice a n cap) ∧ OInts w' (Ge w.heap.size) (.slice a n cap) xs ∧ xs.length ≤ 3 ∧ (∀ x ∈ xs, x ∈ Base) ∧ Deck w' d ∧ Chg (fun k => k = d) w w'
set_option maxHeartbeats 2000000 in
theorem m2few_any (d : Nat) (w : World) (hd : Deck w d) :
    Calls Try.prog 23 #[.pointer (some ⟨d, 0, none⟩)] w (FewTaken d w) := by
  have hlt := hd.lt
  have HD := Lib.hid hd
  clear hd
  go_enter Try.func23, Try.ntmps23
  go_wp2_with fail
  refine (next_any d 4 (by omega) (by omega) _ HD.out).mono ?_
  rintro e w1 ⟨r1, rfl, a1, b1, hd1, hb1⟩
  have D1 := Lib.hid hd1; have C1 := Lib.hid hb1.chg; have Z1 := Lib.hid hb1.size
  clear hd1 hb1
  go_wp2
  go_loopw [3, 4] (fun s3 s4 wr => ∃ (k : Int) (v : Value) (xs : List Int) (vs : List Value) (fps : Nat → Nat → Prop) (N : Nat), s3 = v ∧ s4 = .int .i64 k ∧ 0 ≤ k ∧ xs.length + k ≤ 3 ∧ Grw OInt 3 wr w.heap.size N v vs fps xs ∧ (∀ x ∈ xs, x ∈ Base) ∧ Deck wr d ∧ Chg (fun k => k = d) w wr) (fun _ s4 _ => (intOf s4).toNat)
  case atStart => exact ⟨r1, _, [], [], _, _, rfl, rfl, a1, by simp; omega, Grw.nil OInt 3 w1 w.heap.size Z1.out, by simp, D1.out, C1.out⟩
  case round =>
    obtain ⟨k, v, xs, vs, fps, N, rfl, rfl, hk0, hk3, hg, hx, hd2, hc2⟩ := hrel
    have G2 := Lib.hid hg; have X2 := Lib.hid hx; have D2 := Lib.hid hd2; have C2 := Lib.hid hc2
    have Z2 := Lib.hid hc2.size
    clear hg hx hd2 hc2
    by_cases hk : 0 < k
    · go_wp2_with fail
      refine (m2line_any d _ D2.out).mono ?_
      rintro e w3 ⟨x, rfl, hxB, hd3, hc3⟩
      have G3 := Lib.hid (G2.out.chg OInt.loc hc3 (fun j hj _ e => by omega))
      have C3 := Lib.hid (C2.out.trans hc3 (fun _ _ h => h))
      have D3 := Lib.hid hd3
      have HX := Lib.hid hxB
      have hxo := base_ok hxB
      have B4 := Lib.hid (Blk.new w3 [.int .i64 x] 3)
      have Q4 := Lib.hid (G3.out.alloc OInt.loc (.cells #[.int .i64 x] 3))
      clear hd3 hc3 hxB
      go_wp2_with (at_builtin; refine wpList_append_grw rfl _ _ 22 rfl 3 Try.underlying22 info_int rfl OInt.loc Q4.out rfl w3.heap.size (.int .i64 x) 3 B4.out rfl (f := fun _ => False) (x := x) ⟨rfl, by omega, by omega⟩ (fun _ h => h.elim) rfl (by omega) (by decide) ?_; intro g cap w4 hap)
      go_roundw
      case rel =>
        refine ⟨k - 1, _, xs ++ [x], _, _, _, rfl, by go_num, by omega, by simp; omega, hap.out.grw, ?_, ?_, ?_⟩
        · intro y hy
          rcases List.mem_append.1 hy with h | h
          · exact X2.out y h
          · simp at h; subst h; exact HX.out
        · have hl3 : d < w3.heap.size := D3.out.lt
          refine (D3.out.below ((Below.refl _ _).alloc (Nat.le_refl _) _) (Nat.le_refl _)).chg hap.out.chg (fun j hj hjd e => ?_)
          have := (Q4.out.own _ e).1
          omega
        · exact (C3.out.alloc _).trans hap.out.chg (fun j hj e => by have := (Q4.out.own _ e).1; omega)
      case measure => simp [intOf]; omega
    · have hk0' : k = 0 := by omega
      subst hk0'
      obtain ⟨a, cap, rfl⟩ := G2.out.form rfl
      go_wp2
      go_ret
      exact ⟨a, _, cap, xs, rfl, G2.out.done (by omega), by omega, X2.out, D2.out, C2.out⟩
end Go.Proofs.Ytlpelpjcbclemaa
