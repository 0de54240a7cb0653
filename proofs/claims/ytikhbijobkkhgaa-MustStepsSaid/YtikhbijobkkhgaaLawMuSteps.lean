/-
  timeboundlaw24.MustSteps returns true, whatever its arguments are. No condition. Printed by mkLawMuSteps.py.
-/
import Derived.Test.YtikhbijobkkhgaaMuAd
import Derived.Test.YtikhbijobkkhgaaMuAa
import Derived.Test.YtikhbijobkkhgaaHeadr
import Derived.Deep.DeepCutAuto
namespace Go.Proofs.Ytikhbijobkkhgaa
open Go.RowKit

structure LVar (d S b : Nat) (a : Option Addr) (c : Nat) (ss : List (List Int)) (w : World) : Prop where
  has : Has w b [.slice a S c]
  mat : Mat (Nd d) w a S c ss
  ne : b ≠ d
  lt : b < w.heap.size
theorem LVar.keep {d S b c : Nat} {a : Option Addr} {ss : List (List Int)} {w w' : World} (h : LVar d S b a c ss w) (k : Chg (fun k => k = d) w w') : LVar d S b a c ss w' :=
  ⟨k.has h.has h.lt h.ne, Mat.chg h.mat k (fun _ h => h), h.ne, Nat.lt_of_lt_of_le h.lt k.size⟩
structure NVar (d : Nat) (a : Option Addr) (n c : Nat) (xs : List Int) (w : World) : Prop where
  ints : Ints (Nd d) w a n c xs
theorem NVar.keep {d c n : Nat} {a : Option Addr} {xs : List Int} {w w' : World} (h : NVar d a n c xs w) (k : Chg (fun k => k = d) w w') : NVar d a n c xs w' := ⟨Ints.chg h.ints k (fun _ h => h)⟩
theorem BoolRet.to {p : Prop} {b : Bool} (hb : b = true ↔ p) {w w' : World} {e : Ending} (h : BoolRet p w e w') : e = .returned (.bool b) ∧ Below w.heap.size w w' := by
  obtain ⟨c, rfl, hc, h2⟩ := h
  have : c = b := by cases b <;> cases c <;> simp_all
  rw [this]; exact ⟨rfl, h2⟩
theorem BoolRet.pick (p : Prop) : ∃ b : Bool, b = true ↔ p := by
  by_cases h : p
  · exact ⟨true, by simp [h]⟩
  · exact ⟨false, by simp [h]⟩

set_option maxRecDepth 100000 in
set_option maxHeartbeats 16000000 in
theorem steps_law (aR : Option Addr) (lenR capR : Nat) (zR : List (List (List Int))) (a0 : Option Addr) (len0 cap0 : Nat) (z0 : List Int) (P : Int) (wP : (Lit.int .i64 P).wf = true) (wO : World) (wR : Cube (fun _ => True) wO aR lenR capR zR) (w0' : IsRow .i64 wO a0 len0 cap0 z0) :
    Calls Try.prog 8 #[.agg #[.slice aR lenR capR], .slice a0 len0 cap0, .int .i64 P] wO fun e w' => e = .returned (.bool true) ∧ Below wO.heap.size wO w' := by
  have hP : -9223372036854775808 ≤ P ∧ P ≤ 9223372036854775807 := by simpa [Lit.wf, IntKind.min, IntKind.max, IntKind.signed, IntKind.bits] using wP
  obtain ⟨P0, P1⟩ := hP
  have MD0 := Lib.hid (fun w => dmod_any P 1048577 (by omega) (by omega) P0 P1 w)
  have y1 := Int.emod_nonneg P (show (1048577 : Int) ≠ 0 by omega); have y2 := Int.emod_lt_of_pos P (show (0 : Int) < 1048577 by omega)
  generalize P % 1048577 = y at *
  have bO : Below wO.heap.size wO (wO.alloc (.cells #[.slice aR lenR capR] 30)) := (Below.refl _ _).alloc (Nat.le_refl _) _
  have W0 := Lib.hid (IsRow.block (w := wO) (w' := wO.alloc (.cells #[.slice aR lenR capR] 30)) w0' (fun x _ hx => bO.block _ hx))
  have RV0 := Lib.hid (show SVar (wO.heap.size + 1) lenR wO.heap.size aR capR zR (wO.alloc (.cells #[.slice aR lenR capR] 30)) from
    ⟨Has.new wO [.slice aR lenR capR] 30, Row.wide (RSl.wider (RSl.wider RInt.wider)) (fun k _ hk => by unfold Nd; simp at hk; omega) (Row.below (RSl.stays (RSl.stays RInt.stays)) wR bO), by omega, by simp⟩)
  have BO := Lib.hid bO
  have ZO := Lib.hid (show (wO.alloc (.cells #[.slice aR lenR capR] 30)).heap.size = wO.heap.size + 1 by simp)
  clear bO w0' wR wP
  go_enter Try.func8, Try.ntmps8
  go_upto_region 1 with fail
  obtain ⟨w, hw⟩ : ∃ w : World, w = wO.alloc (.cells #[.slice aR lenR capR] 30) := ⟨_, rfl⟩
  rw [← hw] at W0 RV0 BO ZO ⊢
  clear hw
  rw [← ZO.out] at RV0
  obtain ⟨bR, hbR⟩ : ∃ b, b = wO.heap.size := ⟨_, rfl⟩
  have SO := Lib.hid (show wO.heap.size ≤ w.heap.size by have := ZO.out; omega)
  rw [← hbR] at RV0 ⊢
  clear hbR ZO
  go_wp2_with fail
  refine (new_any a0 len0 cap0 z0 _ W0.out).mono ?_
  rintro e w2 ⟨rfl, hd2, hb2⟩
  have D2 := Lib.hid hd2; have C2 := Lib.hid (Chg.of_below (M := Ge w.heap.size) hb2); have hb2' := hb2; clear hd2 hb2
  go_wp2_with fail
  refine (m2cache_any w.heap.size _ D2.out).mono ?_
  rintro e w3 ⟨S, W, L, rfl, g1, g2, g3, g4, g5, hd3, hc3⟩
  have hC := Lib.hid (show COk S W L from ⟨by omega, by omega, by omega, by omega, by omega, by omega⟩)
  have WP := Lib.hid (show 0 < W by omega)
  have D3 := Lib.hid (Deck.k_alloc (o := .cells #[.int .i64 S, .int .i64 W, .int .i64 L] 26) hd3)
  have C3 := Lib.hid ((C2.out.gt hc3 (Nat.le_refl _)).alloc (.cells #[.int .i64 S, .int .i64 W, .int .i64 L] 26))
  have X3 := Lib.hid (CVar.new (d := w.heap.size) (S := S) (W := W) (L := L) (w := w3) hd3.lt)
  have L3 := Lib.hid hd3.lt
  have R3 := Lib.hid (((RV0.out.keep (Chg.dk hb2')).keep hc3).keep (Chg.dka w3 (.cells #[.int .i64 S, .int .i64 W, .int .i64 L] 26)))
  clear hd3 hc3 D2 C2 RV0 hb2'
  have c0 := X3.out.has.cell 0 _ rfl; have c1 := X3.out.has.cell 1 _ rfl; have c2 := X3.out.has.cell 2 _ rfl; have lx := X3.out.lt
  go_upto_region 3 with fail
  obtain ⟨wv, hwv⟩ : ∃ wv : World, wv = w3.alloc (.cells #[.int .i64 S, .int .i64 W, .int .i64 L] 26) := ⟨_, rfl⟩
  rw [← hwv] at X3 C3 D3 R3 c0 c1 c2 lx ⊢
  clear hwv
  have ld := D3.out.lt
  have D0 := D3
  go_cut [9, 10] (fun s9 s10 wx => ∃ U V m q b1 a1 k1 b2 a2 k2, s9 = .pointer (some ⟨b1, 0, none⟩) ∧ s10 = .pointer (some ⟨b2, 0, none⟩) ∧ MSt U S W m ∧ U.length ≤ 43 ∧ MSt V S W q ∧ V.length ≤ 43 ∧ SVar w.heap.size S b1 a1 k1 m wx ∧ SVar w.heap.size S b2 a2 k2 q wx ∧ Chg (fun k => k = w.heap.size) wv wx ∧ Deck wx w.heap.size)
  case first =>
    as_aux_lemma =>
      have tok1 : True := trivial
      have nx := X3.out.ne
      go_region_held3 (fun w' => w'.cell? ⟨w3.heap.size, 0, none⟩ = some (.int .i64 S) ∧ w'.cell? ⟨w3.heap.size, 1, none⟩ = some (.int .i64 W) ∧ w'.cell? ⟨w3.heap.size, 2, none⟩ = some (.int .i64 L)) (((try dsimp only); (try go_split_ands); (repeat' apply And.intro); all_goals (repeat (first | assumption | (refine hc6.cell (by omega) ?_) | (refine hc5.cell (by omega) ?_) | (refine cell_alloc (by first | assumption | omega | (simp; omega)) ?_) | (refine cell_set (by omega) ?_) | (refine cell_drew ?_)))))
        (first
          | (go_at_call 11; have _t := tok1; ((with_reducible refine (m2must_any S W L hC.out (by omega) (by omega) w.heap.size _ (by repeat (first | (with_reducible exact D0.out) | (with_reducible refine Deck.k_drew ?_) | (with_reducible refine Deck.k_alloc ?_)))).mono ?_); rintro e w5 ⟨V5, ta5, tc5, q5, rfl, ho5, hm5, hU5, hd5, hc5⟩; clear tok1; have s5 := hc5.size; (try simp only [World.size_alloc, World.size_drew] at s5); have ho5 := ho5.bt1; (try simp only [World.size_alloc, World.size_drew] at ho5); (try (refine (have x5_0_0 : Has w5 (wv.heap.size) [.slice none 0 0] := ?_; ?_); (focus ((with_reducible refine Has.k_chg hc5 ?_ ?_ ?_); (focus (first | omega | (simp; done) | (simp; omega))); (focus (first | omega | (simp; done) | (simp; omega))); (repeat (first | (with_reducible refine Has.drew ?_) | ((with_reducible refine Has.k_new ?_); (first | rfl | (simp; done))) | ((with_reducible refine Has.k_old ?_ ?_); (focus (first | omega | (simp; done) | (simp; omega)))))); done)); have x5_0_0c := x5_0_0.cell 0 _ rfl; have x5_0_0f := x5_0_0.free; have x5_0_0l := x5_0_0.lt (by simp))); (try (refine (have x5_0_1 : Has w5 (wv.heap.size + 1) [.slice none 0 0] := ?_; ?_); (focus ((with_reducible refine Has.k_chg hc5 ?_ ?_ ?_); (focus (first | omega | (simp; done) | (simp; omega))); (focus (first | omega | (simp; done) | (simp; omega))); (repeat (first | (with_reducible refine Has.drew ?_) | ((with_reducible refine Has.k_new ?_); (first | rfl | (simp; done))) | ((with_reducible refine Has.k_old ?_ ?_); (focus (first | omega | (simp; done) | (simp; omega)))))); done)); have x5_0_1c := x5_0_1.cell 0 _ rfl; have x5_0_1f := x5_0_1.free; have x5_0_1l := x5_0_1.lt (by simp)))))
          | (go_at_call 11; ((with_reducible refine (m2must_any S W L hC.out (by omega) (by omega) w.heap.size _ (by repeat (first | (with_reducible exact hd5) | (with_reducible refine Deck.k_drew ?_) | (with_reducible refine Deck.k_alloc ?_)))).mono ?_); rintro e w6 ⟨V6, ta6, tc6, q6, rfl, ho6, hm6, hU6, hd6, hc6⟩; have s6 := hc6.size; (try simp only [World.size_alloc] at s6); have ho6 := ho6.bt1; (try simp only [World.size_alloc] at ho6); (try (refine (have x6_0_0 : Has w6 (wv.heap.size) [.slice none 0 0] := ?_; ?_); (focus ((with_reducible refine Has.k_chg hc6 ?_ ?_ ?_); (focus (first | omega | (simp; done) | (simp; omega))); (focus (first | omega | (simp; done) | (simp; omega))); (repeat (first | (with_reducible exact x5_0_0) | (with_reducible refine Has.drew ?_) | ((with_reducible refine Has.k_new ?_); (first | rfl | (simp; done))) | ((with_reducible refine Has.k_old ?_ ?_); (focus (first | omega | (simp; done) | (simp; omega)))))); done)); have x6_0_0c := x6_0_0.cell 0 _ rfl; have x6_0_0f := x6_0_0.free; have x6_0_0l := x6_0_0.lt (by simp))); (try (refine (have x6_0_1 : Has w6 (wv.heap.size + 1) [.slice none 0 0] := ?_; ?_); (focus ((with_reducible refine Has.k_chg hc6 ?_ ?_ ?_); (focus (first | omega | (simp; done) | (simp; omega))); (focus (first | omega | (simp; done) | (simp; omega))); (repeat (first | (with_reducible exact x5_0_1) | (with_reducible refine Has.drew ?_) | ((with_reducible refine Has.k_new ?_); (first | rfl | (simp; done))) | ((with_reducible refine Has.k_old ?_ ?_); (focus (first | omega | (simp; done) | (simp; omega)))))); done)); have x6_0_1c := x6_0_1.cell 0 _ rfl; have x6_0_1f := x6_0_1.free; have x6_0_1l := x6_0_1.lt (by simp))); (try (refine (have x6_1_0 : Has w6 (w5.heap.size) [.slice none 0 0] := ?_; ?_); (focus ((with_reducible refine Has.k_chg hc6 ?_ ?_ ?_); (focus (first | omega | (simp; done) | (simp; omega))); (focus (first | omega | (simp; done) | (simp; omega))); (repeat (first | (with_reducible refine Has.drew ?_) | ((with_reducible refine Has.k_new ?_); (first | rfl | (simp; done))) | ((with_reducible refine Has.k_old ?_ ?_); (focus (first | omega | (simp; done) | (simp; omega)))))); done)); have x6_1_0c := x6_1_0.cell 0 _ rfl; have x6_1_0f := x6_1_0.free; have x6_1_0l := x6_1_0.lt (by simp))); (try (refine (have x6_1_1 : Has w6 (w5.heap.size + 1) [.slice none 0 0] := ?_; ?_); (focus ((with_reducible refine Has.k_chg hc6 ?_ ?_ ?_); (focus (first | omega | (simp; done) | (simp; omega))); (focus (first | omega | (simp; done) | (simp; omega))); (repeat (first | (with_reducible refine Has.drew ?_) | ((with_reducible refine Has.k_new ?_); (first | rfl | (simp; done))) | ((with_reducible refine Has.k_old ?_ ?_); (focus (first | omega | (simp; done) | (simp; omega)))))); done)); have x6_1_1c := x6_1_1.cell 0 _ rfl; have x6_1_1f := x6_1_1.free; have x6_1_1l := x6_1_1.lt (by simp))))))
      all_goals
        clear c0 c1 c2
        go_wp2_with fail
        go_meet
        refine ⟨V5, V6, q5, q6, _, ta5, tc5, _, ta6, tc6, rfl, rfl, hm5, hU5, hm6, hU6, ⟨?_, ?_, ?_, ?_⟩, ⟨?_, ?_, ?_, ?_⟩, ?_, ?_⟩
        · repeat (first | (with_reducible exact x6_0_0) | (with_reducible exact x6_0_1) | (with_reducible exact x6_1_0) | (with_reducible exact x6_1_1) | ((with_reducible refine Has.k_new ?_); (first | rfl | (simp; done))) | (with_reducible refine Has.k_set0 ?_) | ((with_reducible refine Has.k_set ?_ ?_); (focus (first | omega | (simp; done) | (simp; omega)))) | ((with_reducible refine Has.k_old ?_ ?_); (focus (first | omega | (simp; done) | (simp; omega)))))
        · (apply OCub.ndb'; (focus ((repeat (first | (with_reducible exact ho5) | (with_reducible refine OCub.k_alloc ?_) | (with_reducible refine OCub.k_drew ?_) | ((with_reducible refine OCub.k_set ?_ ?_); rotate_left) | ((with_reducible refine OCub.k_chg hc5 ?_ ?_); rotate_left) | ((with_reducible refine OCub.k_chg hc6 ?_ ?_); rotate_left))); (all_goals (intro i hi; have h1 := hi.1; have h2 := hi.2; first | omega | (simp; omega))))); omega)
        · first | omega | (simp; omega)
        · first | omega | (simp; done) | (simp; omega)
        · repeat (first | (with_reducible exact x6_0_0) | (with_reducible exact x6_0_1) | (with_reducible exact x6_1_0) | (with_reducible exact x6_1_1) | ((with_reducible refine Has.k_new ?_); (first | rfl | (simp; done))) | (with_reducible refine Has.k_set0 ?_) | ((with_reducible refine Has.k_set ?_ ?_); (focus (first | omega | (simp; done) | (simp; omega)))) | ((with_reducible refine Has.k_old ?_ ?_); (focus (first | omega | (simp; done) | (simp; omega)))))
        · (apply OCub.ndb'; (focus ((repeat (first | (with_reducible exact ho6) | (with_reducible refine OCub.k_alloc ?_) | (with_reducible refine OCub.k_drew ?_) | ((with_reducible refine OCub.k_set ?_ ?_); rotate_left) | ((with_reducible refine OCub.k_chg hc5 ?_ ?_); rotate_left) | ((with_reducible refine OCub.k_chg hc6 ?_ ?_); rotate_left))); (all_goals (intro i hi; have h1 := hi.1; have h2 := hi.2; first | omega | (simp; omega))))); omega)
        · first | omega | (simp; omega)
        · first | omega | (simp; done) | (simp; omega)
        · repeat (first | (with_reducible exact Chg.refl _) | (with_reducible refine Chg.alloc ?_ _) | (with_reducible refine Chg.drew ?_) | (with_reducible refine Chg.k_set (by first | omega | (simp; omega)) ?_) | (with_reducible refine Chg.k_call hc6 ?_) | (with_reducible refine Chg.k_call hc5 ?_))
        · repeat (first | (with_reducible exact hd6) | (with_reducible exact hd5) | (with_reducible exact D0.out) | (with_reducible refine Deck.k_alloc ?_) | (with_reducible refine Deck.k_drew ?_) | (with_reducible refine Deck.k_set (by first | omega | (simp; omega)) ?_) )
  case rest =>
    obtain ⟨U, V, m, q, b1, a1, k1, b2, a2, k2, rfl, rfl, hm, hU, hq, hV, v1, v2, hcc, hdd⟩ := hcut
    have HA := Lib.hid hm; have HB := Lib.hid hq; have HU := Lib.hid hU; have HV := Lib.hid hV
    have X4 := Lib.hid (X3.out.keep hcc); have Y4 := Lib.hid v1; have Z4 := Lib.hid v2; have R4 := Lib.hid (R3.out.keep hcc); have C4 := Lib.hid (C3.out.gt hcc (Nat.le_refl _)); have D4 := Lib.hid hdd
    clear hm hq hU hV v1 v2 hcc hdd c0 c1 c2 lx ld D0 X3 C3 D3 R3
    go_wp2_with fail
    refine (m2line_any w.heap.size _ D4.out).mono ?_
    rintro e w7 ⟨x, rfl, hx7, hd7, hc7⟩
    have HX := Lib.hid hx7
    have hxo := base_ok hx7
    have D5 := Lib.hid hd7
    have C5 := Lib.hid (C4.out.gt hc7 (Nat.le_refl _))
    have C7 := Lib.hid hc7
    clear hx7 hd7 hc7 C4 D4
    go_wp2_with fail
    refine (m2few_any w.heap.size _ D5.out).mono ?_
    rintro e w8 ⟨la, ln, lc, xs, rfl, hl8, hn8, hx8, hd8, hc8⟩
    have hcc := Lib.hid (C7.out.dt hc8)
    have X5 := Lib.hid (X4.out.keep hcc.out); have Y5 := Lib.hid (Y4.out.keep hcc.out); have Z5 := Lib.hid (Z4.out.keep hcc.out); have R5 := Lib.hid (R4.out.keep hcc.out)
    have C6 := Lib.hid (C5.out.gt hc8 (Nat.le_refl _)); have D6 := Lib.hid hd8
    have N5 := Lib.hid (show NVar w.heap.size la ln lc xs w8 from ⟨hl8.read (fun k hk => by have := D5.out.lt; unfold Ge at hk; unfold Nd; omega)⟩)
    have HXS := Lib.hid hx8
    clear hl8 hn8 hx8 hd8 hc8 hcc C7 X4 Y4 Z4 R4 C5 D5
    go_wp2_with fail
    refine (MD0.out _).mono ?_
    rintro e w9 ⟨rfl, rfl⟩
    have X6 := Lib.hid (X5.out.keep (Chg.dka w9 (.cells #[.int .i64 x, .int .i64 y] 3))); have Y6 := Lib.hid (Y5.out.keep (Chg.dka w9 (.cells #[.int .i64 x, .int .i64 y] 3))); have Z6 := Lib.hid (Z5.out.keep (Chg.dka w9 (.cells #[.int .i64 x, .int .i64 y] 3))); have R6 := Lib.hid (R5.out.keep (Chg.dka w9 (.cells #[.int .i64 x, .int .i64 y] 3))); have N6 := Lib.hid (N5.out.keep (Chg.dka w9 (.cells #[.int .i64 x, .int .i64 y] 3)))
    have C7 := Lib.hid (C6.out.alloc (.cells #[.int .i64 x, .int .i64 y] 3)); have D7 := Lib.hid (Deck.k_alloc (o := .cells #[.int .i64 x, .int .i64 y] 3) D6.out)
    have B6 := Lib.hid (Has.new w9 [.int .i64 x, .int .i64 y] 3)
    have n6 : w9.heap.size ≠ w.heap.size := by have := D6.out.lt; omega
    clear X5 Y5 Z5 R5 N5 C6 D6
    have UU := Lib.hid (show (U ++ (Base ++ [y])).length ≤ 1000 by have := HU.out; rw [List.length_append, List.length_append]; have : Base.length = 31 := rfl; simp; omega)
    have HY := Lib.hid (show y ∈ U ++ (Base ++ [y]) by simp)
    have HBU := Lib.hid (show ∀ z ∈ Base, z ∈ U ++ (Base ++ [y]) from fun z hz => by simp [hz])
    have HAU := Lib.hid (HA.out.union (V := Base ++ [y]))
    have LI := Lib.hid (show LnsOk (U ++ (Base ++ [y])) xs from fun z hz => ⟨(base_ok (HXS.out z hz)).1, (base_ok (HXS.out z hz)).2, HBU.out z (HXS.out z hz)⟩)
    generalize hUU : U ++ (Base ++ [y]) = T at *
    clear hUU
    go_wp2
    obtain ⟨wd, hwd⟩ : ∃ wd : World, wd = w9.alloc (.cells #[.int .i64 x, .int .i64 y] 3) := ⟨_, rfl⟩
    rw [← hwd] at X6 Y6 Z6 R6 N6 C7 D7 B6 ⊢
    have lb : w9.heap.size < wd.heap.size := by rw [hwd]; simp
    clear hwd
    generalize w9.heap.size = bl at *
    go_loopw [35] (fun i wr => ∃ k : Nat, k ≤ 2 ∧ i = .int .i64 k ∧ Chg (fun k => k = w.heap.size) wd wr ∧ Deck wr w.heap.size) (fun i _ => 2 - (intOf i).toNat)
    case atStart => exact ⟨0, Nat.zero_le _, rfl, Chg.refl _, D7.out⟩
    case round =>
      obtain ⟨n, hn, rfl, n1, n2⟩ := hrel
      have N1 := Lib.hid n1; have N2 := Lib.hid n2; clear n1 n2
      by_cases hlt : n < 2
      · obtain ⟨z, hz, hz0, hz1, hzT⟩ : ∃ z : Int, wr.cell? ⟨bl, n, none⟩ = some (.int .i64 z) ∧ 0 ≤ z ∧ z ≤ 1048576 ∧ z ∈ T := by
          have hb := N1.out.has B6.out lb n6
          rcases (show n = 0 ∨ n = 1 by omega) with rfl | rfl
          · exact ⟨x, hb.cell 0 _ rfl, hxo.1, hxo.2, HBU.out x HX.out⟩
          · exact ⟨y, hb.cell 1 _ rfl, y1, by omega, HY.out⟩
        have HZT := Lib.hid hzT
        have X8 := Lib.hid (X6.out.keep N1.out); have Y8 := Lib.hid (Y6.out.keep N1.out)
        have C8 := Lib.hid (C7.out.gt N1.out (Nat.le_refl _))
        have LD := Lib.hid N2.out.lt
        have q0 : (0 : Int) ≤ (n : Int) := by omega
        have q1 : (n : Int) < 2 := by omega
        clear hzT
        go_upto_region 8 with fail
        clear hz
        go_cut [61] (fun s61 wx => s61 = .bool false ∧ Chg Non wr wx)
        case first =>
          as_aux_lemma =>
            obtain ⟨v, hv⟩ : ∃ v : Nat, ageN S W m z = v := ⟨_, rfl⟩
            have AG := Lib.hid (show ∀ w', Cube (Nd w.heap.size) w' a1 S k1 m → Calls Try.prog 20 #[CV S W L, .agg #[.slice a1 S k1], .int .i64 z] w' (IntBelow (v : Nat) w') from fun w' r => by have h := age_any S W L hC.out m HA.out _ a1 S k1 z hz0 (by omega) w' r; rw [hv] at h; exact h)
            have AR := Lib.hid (show ∀ w', Cube (Nd w.heap.size) w' a1 S k1 m → Calls Try.prog 33 #[CV S W L, .agg #[.slice a1 S k1], .int .i64 z] w' (IntBelow (v : Nat) w') from fun w' r => by have h := rage_any S W L hC.out m HA.out _ a1 S k1 z hz0 (by omega) w' r; rw [hv] at h; exact h)
            clear hv
            have hvv : ((v : Int) != (v : Int)) = false := by simp
            have TS := Lib.hid (touch_st HAU.out WP.out hz0 hz1 HZT.out)
            obtain ⟨M, hM⟩ : ∃ M, touchM S W m z = M := ⟨_, rfl⟩
            have T1 := Lib.hid (show ∀ w', Cube (Nd w.heap.size) w' a1 S k1 m → Calls Try.prog 19 #[CV S W L, .agg #[.slice a1 S k1], .int .i64 z] w' (StRet M w') from fun w' r => by have h := touch_any T UU.out S W L hC.out m HAU.out _ a1 S k1 z hz0 hz1 HZT.out w' r; rw [hM] at h; exact h)
            have T2 := Lib.hid (show ∀ w', Cube (Nd w.heap.size) w' a1 S k1 m → Calls Try.prog 34 #[CV S W L, .agg #[.slice a1 S k1], .int .i64 z] w' (StRet M w') from fun w' r => by have h := rtouch_any T UU.out S W L hC.out m HAU.out _ a1 S k1 z hz0 hz1 HZT.out w' r; rw [hM] at h; exact h)
            rw [hM] at TS
            clear hM
            have CX0 := Lib.hid (Chg.refl (M := Non) wr)
            have X8v0 := Lib.hid (X8.out.keep (Chg.dkd wr)); have Y8v0 := Lib.hid (Y8.out.keep (Chg.dkd wr))
            have CFv0 := Lib.hid (CX0.out.drew); have LDv0 := Lib.hid (show w.heap.size < wr.drew.heap.size from LD.out)
            have zX80 := X8v0.out.has.cell 0 _ rfl; have zX81 := X8v0.out.has.cell 1 _ rfl; have zX82 := X8v0.out.has.cell 2 _ rfl; have zY80 := Y8v0.out.has.cell 0 _ rfl
            refine hd_start 22 (fun w' => w'.cell? ⟨w3.heap.size, 0, none⟩ = some (.int .i64 S) ∧ w'.cell? ⟨w3.heap.size, 1, none⟩ = some (.int .i64 W) ∧ w'.cell? ⟨w3.heap.size, 2, none⟩ = some (.int .i64 L) ∧ w'.cell? ⟨b1, 0, none⟩ = some (.slice a1 S k1)) (by kernel_rfl) ⟨by kernel_rfl, by kernel_rfl, by kernel_rfl, by decide⟩ ⟨zX80, zX81, zX82, zY80⟩ (fun ok => ?_)
            refine hd_take_l (i := 0) (v := ?_) ok rfl (by decide) (by kernel_rfl) (by kernel_rfl) (fun _ _ _ h => h) (Or.inl ⟨by kernel_rfl, ?_⟩) ?_
            rotate_left
            · (intro w hSw; (try dsimp only at hSw); (try go_split_ands); go_simp; (try (with_reducible rfl)))
            go_frame
            refine hd_take_l (i := 1) (v := ?_) ok rfl (by decide) (by kernel_rfl) (by kernel_rfl) (fun _ _ _ h => h) (Or.inl ⟨by kernel_rfl, ?_⟩) ?_
            rotate_left
            · (intro w hSw; (try dsimp only at hSw); (try go_split_ands); go_simp; (try (with_reducible rfl)))
            go_frame
            refine hd_take_l (i := 2) (v := ?_) ok rfl (by decide) (by kernel_rfl) (by kernel_rfl) (fun _ _ _ h => h) (Or.inl ⟨by kernel_rfl, ?_⟩) ?_
            rotate_left
            · (intro w hSw; (try dsimp only at hSw); (try go_split_ands); go_simp; (try (with_reducible rfl)))
            go_frame
            refine hd_take_l (i := 4) (v := ?_) ok rfl (by decide) (by kernel_rfl) (by kernel_rfl) (fun _ _ _ h => h) (Or.inl ⟨by kernel_rfl, ?_⟩) ?_
            rotate_left
            · (intro w hSw; (try dsimp only at hSw); (try go_split_ands); go_simp; (try (with_reducible rfl)))
            go_frame
            refine hd_take_l (i := 5) (v := ?_) ok rfl (by decide) (by kernel_rfl) (by kernel_rfl) (fun _ _ _ h => h) (Or.inl ⟨by kernel_rfl, ?_⟩) ?_
            rotate_left
            · (intro w hSw; (try dsimp only at hSw); (try go_split_ands); go_simp; (try (with_reducible rfl)))
            go_frame
            refine hd_take_l (i := 6) (v := ?_) ok rfl (by decide) (by kernel_rfl) (by kernel_rfl) (fun _ _ _ h => h) (Or.inl ⟨by kernel_rfl, ?_⟩) ?_
            rotate_left
            · (intro w hSw; (try dsimp only at hSw); (try go_split_ands); go_simp; (try (with_reducible rfl)))
            go_frame
            refine hd_only_l (c := 3) rfl (by decide) (by kernel_rfl) (fun K hK => ?_)
            go_simp
            go_at_call 20
            refine (AG.out _ Y8v0.out.cub).mono ?_
            rintro e w103 ⟨rfl, hb3⟩
            (try simp only [])
            refine hK _ _ (by refine ⟨?_, ?_, ?_, ?_⟩ <;> (first | exact cell_later hb3 zX80 | exact cell_later hb3 zX81 | exact cell_later hb3 zX82 | exact cell_later hb3 zY80)) ?_
            clear hK K
            (try go_frame)
            have X8v1 := Lib.hid (X8v0.out.keep (Chg.dk hb3)); have Y8v1 := Lib.hid (Y8v0.out.keep (Chg.dk hb3))
            have CFv1 := Lib.hid (CFv0.out.tr hb3); have LDv1 := Lib.hid (Nat.lt_of_lt_of_le LDv0.out hb3.size)
            clear hb3 zX80 zX81 zX82 zY80
            have zX80 := X8v1.out.has.cell 0 _ rfl; have zX81 := X8v1.out.has.cell 1 _ rfl; have zX82 := X8v1.out.has.cell 2 _ rfl; have zY80 := Y8v1.out.has.cell 0 _ rfl
            refine hd_only_l (c := 7) rfl (by decide) (by kernel_rfl) (fun K hK => ?_)
            go_simp
            go_at_call 33
            refine (AR.out _ Y8v1.out.cub).mono ?_
            rintro e w107 ⟨rfl, hb7⟩
            (try simp only [])
            refine hK _ _ (by refine ⟨?_, ?_, ?_, ?_⟩ <;> (first | exact cell_later hb7 zX80 | exact cell_later hb7 zX81 | exact cell_later hb7 zX82 | exact cell_later hb7 zY80)) ?_
            clear hK K
            (try go_frame)
            have X8v2 := Lib.hid (X8v1.out.keep (Chg.dk hb7)); have Y8v2 := Lib.hid (Y8v1.out.keep (Chg.dk hb7))
            have CFv2 := Lib.hid (CFv1.out.tr hb7); have LDv2 := Lib.hid (Nat.lt_of_lt_of_le LDv1.out hb7.size)
            clear hb7 zX80 zX81 zX82 zY80
            have zX80 := X8v2.out.has.cell 0 _ rfl; have zX81 := X8v2.out.has.cell 1 _ rfl; have zX82 := X8v2.out.has.cell 2 _ rfl; have zY80 := Y8v2.out.has.cell 0 _ rfl
            refine hd_take_l (i := 8) (v := ?_) ok rfl (by decide) (by kernel_rfl) (by kernel_rfl) (fun _ _ _ h => h) (Or.inl ⟨by kernel_rfl, ?_⟩) ?_
            rotate_left
            · (intro w hSw; (try dsimp only at hSw); (try go_split_ands); go_simp; (try (with_reducible rfl)))
            go_frame
            refine hd_take_l (i := 9) (v := ?_) ok rfl (by decide) (by kernel_rfl) (by kernel_rfl) (fun _ _ _ h => h) (Or.inl ⟨by kernel_rfl, ?_⟩) ?_
            rotate_left
            · (intro w hSw; (try dsimp only at hSw); (try go_split_ands); go_simp; (try (with_reducible rfl)))
            go_frame
            refine hd_take_l (i := 10) (v := ?_) ok rfl (by decide) (by kernel_rfl) (by kernel_rfl) (fun _ _ _ h => h) (Or.inl ⟨by kernel_rfl, ?_⟩) ?_
            rotate_left
            · (intro w hSw; (try dsimp only at hSw); (try go_split_ands); go_simp; (try (with_reducible rfl)))
            go_frame
            refine hd_take_l (i := 11) (v := ?_) ok rfl (by decide) (by kernel_rfl) (by kernel_rfl) (fun _ _ _ h => h) (Or.inl ⟨by kernel_rfl, ?_⟩) ?_
            rotate_left
            · (intro w hSw; (try dsimp only at hSw); (try go_split_ands); go_simp; (try (with_reducible rfl)))
            go_frame
            refine hd_take_l (i := 12) (v := ?_) ok rfl (by decide) (by kernel_rfl) (by kernel_rfl) (fun _ _ _ h => h) (Or.inl ⟨by kernel_rfl, ?_⟩) ?_
            rotate_left
            · (intro w hSw; (try dsimp only at hSw); (try go_split_ands); go_simp; (try (with_reducible rfl)))
            go_frame
            refine hd_take_l (i := 15) (v := ?_) ok rfl (by decide) (by kernel_rfl) (by kernel_rfl) (fun _ _ _ h => h) (Or.inl ⟨by kernel_rfl, ?_⟩) ?_
            rotate_left
            · (intro w hSw; (try dsimp only at hSw); (try go_split_ands); go_simp; (try (with_reducible rfl)))
            go_frame
            refine hd_take_l (i := 16) (v := ?_) ok rfl (by decide) (by kernel_rfl) (by kernel_rfl) (fun _ _ _ h => h) (Or.inl ⟨by kernel_rfl, ?_⟩) ?_
            rotate_left
            · (intro w hSw; (try dsimp only at hSw); (try go_split_ands); go_simp; (try (with_reducible rfl)))
            go_frame
            refine hd_take_l (i := 17) (v := ?_) ok rfl (by decide) (by kernel_rfl) (by kernel_rfl) (fun _ _ _ h => h) (Or.inl ⟨by kernel_rfl, ?_⟩) ?_
            rotate_left
            · (intro w hSw; (try dsimp only at hSw); (try go_split_ands); go_simp; (try (with_reducible rfl)))
            go_frame
            refine hd_only_l (c := 13) rfl (by decide) (by kernel_rfl) (fun K hK => ?_)
            go_simp
            go_at_call 19
            refine (T1.out _ Y8v2.out.cub).mono ?_
            rintro e w113 h13
            obtain ⟨ta13, tc13, rfl, ho13, hb13⟩ := StRet.fix h13 TS.out.len
            (try simp only [])
            refine hK _ _ (by refine ⟨?_, ?_, ?_, ?_⟩ <;> (first | exact cell_later hb13 zX80 | exact cell_later hb13 zX81 | exact cell_later hb13 zX82 | exact cell_later hb13 zY80)) ?_
            clear hK K
            (try go_frame)
            have X8v3 := Lib.hid (X8v2.out.keep (Chg.dk hb13)); have Y8v3 := Lib.hid (Y8v2.out.keep (Chg.dk hb13))
            have CFv3 := Lib.hid (CFv2.out.tr hb13); have LDv3 := Lib.hid (Nat.lt_of_lt_of_le LDv2.out hb13.size)
            have HO13 := Lib.hid (Cube.k_below (Below.refl _ _) (ho13.nd LDv2.out))
            clear ho13 h13
            clear hb13 zX80 zX81 zX82 zY80
            have zX80 := X8v3.out.has.cell 0 _ rfl; have zX81 := X8v3.out.has.cell 1 _ rfl; have zX82 := X8v3.out.has.cell 2 _ rfl; have zY80 := Y8v3.out.has.cell 0 _ rfl
            refine hd_take_l (i := 14) (v := .slice ta13 S tc13) ok rfl (by decide) (by kernel_rfl) (by kernel_rfl) (fun _ _ _ h => h) (Or.inl ⟨by kernel_rfl, fun _ _ => by kernel_rfl⟩) ?_
            go_frame
            refine hd_only_l (c := 18) rfl (by decide) (by kernel_rfl) (fun K hK => ?_)
            go_simp
            go_at_call 34
            refine (T2.out _ Y8v3.out.cub).mono ?_
            rintro e w118 h18
            obtain ⟨ta18, tc18, rfl, ho18, hb18⟩ := StRet.fix h18 TS.out.len
            (try simp only [])
            refine hK _ _ (by refine ⟨?_, ?_, ?_, ?_⟩ <;> (first | exact cell_later hb18 zX80 | exact cell_later hb18 zX81 | exact cell_later hb18 zX82 | exact cell_later hb18 zY80)) ?_
            clear hK K
            (try go_frame)
            have X8v4 := Lib.hid (X8v3.out.keep (Chg.dk hb18)); have Y8v4 := Lib.hid (Y8v3.out.keep (Chg.dk hb18))
            have CFv4 := Lib.hid (CFv3.out.tr hb18); have LDv4 := Lib.hid (Nat.lt_of_lt_of_le LDv3.out hb18.size)
            (try have HO13 := Lib.hid (Cube.k_below hb18 HO13.out))
            have HO18 := Lib.hid (Cube.k_below (Below.refl _ _) (ho18.nd LDv3.out))
            clear ho18 h18
            clear hb18 zX80 zX81 zX82 zY80
            have zX80 := X8v4.out.has.cell 0 _ rfl; have zX81 := X8v4.out.has.cell 1 _ rfl; have zX82 := X8v4.out.has.cell 2 _ rfl; have zY80 := Y8v4.out.has.cell 0 _ rfl
            refine hd_take_l (i := 19) (v := .slice ta18 S tc18) ok rfl (by decide) (by kernel_rfl) (by kernel_rfl) (fun _ _ _ h => h) (Or.inl ⟨by kernel_rfl, fun _ _ => by kernel_rfl⟩) ?_
            go_frame
            refine hd_only_l (c := 20) rfl (by decide) (by kernel_rfl) (fun K hK => ?_)
            go_simp
            go_at_call 23
            refine (rsame_yes (Nd w.heap.size) (Nd w.heap.size) ta13 ta18 S tc13 S tc18 M _ HO13.out HO18.out).mono ?_
            rintro e w120 ⟨rfl, hb20⟩
            (try simp only [])
            refine hK _ _ (by refine ⟨?_, ?_, ?_, ?_⟩ <;> (first | exact cell_later hb20 zX80 | exact cell_later hb20 zX81 | exact cell_later hb20 zX82 | exact cell_later hb20 zY80)) ?_
            clear hK K
            (try go_frame)
            have X8v5 := Lib.hid (X8v4.out.keep (Chg.dk hb20)); have Y8v5 := Lib.hid (Y8v4.out.keep (Chg.dk hb20))
            have CFv5 := Lib.hid (CFv4.out.tr hb20); have LDv5 := Lib.hid (Nat.lt_of_lt_of_le LDv4.out hb20.size)
            (try have HO13 := Lib.hid (Cube.k_below hb20 HO13.out))
            (try have HO18 := Lib.hid (Cube.k_below hb20 HO18.out))
            clear hb20 zX80 zX81 zX82 zY80
            have zX80 := X8v5.out.has.cell 0 _ rfl; have zX81 := X8v5.out.has.cell 1 _ rfl; have zX82 := X8v5.out.has.cell 2 _ rfl; have zY80 := Y8v5.out.has.cell 0 _ rfl
            refine hd_take_l (i := 21) (v := ?_) ok rfl (by decide) (by kernel_rfl) (by kernel_rfl) (fun _ _ _ h => h) (Or.inl ⟨by kernel_rfl, ?_⟩) ?_
            rotate_left
            · (intro w hSw; (try dsimp only at hSw); (try go_split_ands); go_simp; (try (with_reducible rfl)))
            go_frame
            clear ok zX80 zX81 zX82 zY80
            refine hd_done (by kernel_rfl) ?_
            simp only [List.drop_succ_cons, List.drop_zero]
            go_wp2_with fail
            go_meet
            exact ⟨rfl, CFv5.out⟩
        case rest =>
          obtain ⟨rfl, hcc⟩ := hcut
          have N3 := Lib.hid (N1.out.dt (hcc.mono (fun _ _ h => h.elim))); have N4 := Lib.hid (N2.out.chg hcc (fun j hj hjd e => e))
          clear hcc X8 Y8 C8 LD N1 N2
          go_wp2
          go_roundw
          case rel => exact ⟨n + 1, by omega, by go_num, N3.out, N4.out⟩
          case measure => simp [intOf]; omega
      · obtain rfl : n = 2 := by omega
        have X8 := Lib.hid (X6.out.keep N1.out); have Y8 := Lib.hid (Y6.out.keep N1.out); have Z8 := Lib.hid (Z6.out.keep N1.out); have R8 := Lib.hid (R6.out.keep N1.out); have N8 := Lib.hid (N6.out.keep N1.out)
        have C8 := Lib.hid (C7.out.gt N1.out (Nat.le_refl _))
        clear X6 Y6 Z6 R6 N6 C7 D7 B6 N1
        have c0 := X8.out.has.cell 0 _ rfl; have c1 := X8.out.has.cell 1 _ rfl; have c2 := X8.out.has.cell 2 _ rfl; have lx := X8.out.lt
        go_wp2_with fail
        refine (m2lines_any S W L hC.out w.heap.size _ N2.out).mono ?_
        rintro e w10 ⟨oa, on, oc, ss, rfl, ho, hv, hd, hc⟩
        obtain rfl : S = on := by have h1 := ho.matT.hlen; have h2 := hv.1; omega
        have HVS := Lib.hid hv
        have ka := Chg.dka (d := w.heap.size) w10 (.cells #[.slice oa S oc] 48)
        have X9 := Lib.hid ((X8.out.keep hc).keep ka); have Y9 := Lib.hid ((Y8.out.keep hc).keep ka); have Z9 := Lib.hid ((Z8.out.keep hc).keep ka); have R9 := Lib.hid ((R8.out.keep hc).keep ka); have N9 := Lib.hid ((N8.out.keep hc).keep ka)
        have L9 := Lib.hid (show LVar w.heap.size S w10.heap.size oa oc ss (w10.alloc (.cells #[.slice oa S oc] 48)) from
          ⟨Has.new w10 [.slice oa S oc] 48, (OMat.k_alloc ho).read (fun k hk => by have := N2.out.lt; unfold Ge at hk; unfold Nd; omega), by have := hd.lt; omega, by simp⟩)
        have C9 := Lib.hid ((C8.out.gt hc (Nat.le_refl _)).gt ka (Nat.le_refl _))
        have LD := Lib.hid (show w.heap.size < (w10.alloc (.cells #[.slice oa S oc] 48)).heap.size by have := hd.lt; simp; omega)
        clear ho hv hd hc ka X8 Y8 Z8 R8 N8 C8 N2 c0 c1 c2 lx
        go_upto_region 12 with fail
        obtain ⟨wv, hwv⟩ : ∃ wv : World, wv = w10.alloc (.cells #[.slice oa S oc] 48) := ⟨_, rfl⟩
        rw [← hwv] at X9 Y9 Z9 R9 N9 L9 C9 LD ⊢
        clear hwv
        generalize w10.heap.size = bL at *
        go_cut [92] (fun s92 wx => s92 = .bool false ∧ Chg Non wv wx)
        case first =>
          as_aux_lemma =>
            have x0 := fun s : BelowW wv => ((X9.out.keep (Chg.dk s.ok)).has).cell 0 _ rfl; have x1 := fun s : BelowW wv => ((X9.out.keep (Chg.dk s.ok)).has).cell 1 _ rfl; have x2 := fun s : BelowW wv => ((X9.out.keep (Chg.dk s.ok)).has).cell 2 _ rfl
            have y1 := fun s : BelowW wv => ((Y9.out.keep (Chg.dk s.ok)).has).cell 0 _ rfl; have z1 := fun s : BelowW wv => ((Z9.out.keep (Chg.dk s.ok)).has).cell 0 _ rfl; have r1 := fun s : BelowW wv => ((R9.out.keep (Chg.dk s.ok)).has).cell 0 _ rfl
            obtain ⟨p1, hp1⟩ := BoolRet.pick (ValidM S W zR)
            obtain ⟨p2, hp2⟩ := BoolRet.pick (ValidM S W m)
            obtain ⟨p3, hp3⟩ := BoolRet.pick (BelowM m q)
            have A1 := Lib.hid (fun s : BelowW wv => (mvalid_any S W L hC.out (Nd w.heap.size) aR lenR capR zR s.world (R9.out.keep (Chg.dk s.ok)).cub).mono (fun _ _ h => h.to hp1))
            have A2 := Lib.hid (fun s : BelowW wv => (rvalid_any S W L hC.out (Nd w.heap.size) aR lenR capR zR s.world (R9.out.keep (Chg.dk s.ok)).cub).mono (fun _ _ h => h.to hp1))
            have A3 := Lib.hid (fun s : BelowW wv => (mvalid_any S W L hC.out (Nd w.heap.size) a1 S k1 m s.world (Y9.out.keep (Chg.dk s.ok)).cub).mono (fun _ _ h => h.to hp2))
            have A4 := Lib.hid (fun s : BelowW wv => (rvalid_any S W L hC.out (Nd w.heap.size) a1 S k1 m s.world (Y9.out.keep (Chg.dk s.ok)).cub).mono (fun _ _ h => h.to hp2))
            have A5 := Lib.hid (fun s : BelowW wv => (below_any U V S W L hC.out m q HA.out HB.out (Nd w.heap.size) (Nd w.heap.size) a1 S k1 a2 S k2 s.world (Y9.out.keep (Chg.dk s.ok)).cub (Z9.out.keep (Chg.dk s.ok)).cub).mono (fun _ _ h => h.to hp3))
            have A6 := Lib.hid (fun s : BelowW wv => (rbelow_any U V S W L hC.out m q HA.out HB.out (Nd w.heap.size) (Nd w.heap.size) a1 S k1 a2 S k2 s.world (Y9.out.keep (Chg.dk s.ok)).cub (Z9.out.keep (Chg.dk s.ok)).cub).mono (fun _ _ h => h.to hp3))
            have e1 : (p1 != p1) = false := by simp
            have e2 : (p2 != p2) = false := by simp
            have e3 : (p3 != p3) = false := by simp
            clear hp1 hp2 hp3
            refine wp_region_below (by kernel_rfl) (by kernel_rfl) ?_
            repeat (go_big_quiet_step ((first | (go_at_call 15; first | (with_reducible exact calls_below _ (A1.out _)) | (with_reducible exact calls_below _ (A3.out _))) | (go_at_call 16; first | (with_reducible exact calls_below _ (A2.out _)) | (with_reducible exact calls_below _ (A4.out _))) | (go_at_call 22; with_reducible exact calls_below _ (A5.out _)) | (go_at_call 35; with_reducible exact calls_below _ (A6.out _)))))
            refine wpQuiet_nil ?_
            rintro w' ⟨s, rfl⟩
            clear x0 x1 x2 y1 z1 r1
            go_wp2_with fail
            go_meet
            exact ⟨rfl, Chg.of_below s.ok⟩
        case rest =>
          obtain ⟨rfl, hcc⟩ := hcut
          have hcd := hcc.mono (N := fun k => k = w.heap.size) (fun _ _ h => h.elim)
          have X10 := Lib.hid (X9.out.keep hcd); have Y10 := Lib.hid (Y9.out.keep hcd); have Z10 := Lib.hid (Z9.out.keep hcd); have N10 := Lib.hid (N9.out.keep hcd); have L10 := Lib.hid (L9.out.keep hcd)
          have C10 := Lib.hid (C9.out.gt hcd (Nat.le_refl _))
          have LDc := Lib.hid (Nat.lt_of_lt_of_le LD.out hcc.size)
          clear hcc hcd X9 Y9 Z9 R9 N9 L9 C9 LD
          have LD := LDc
          have JS := Lib.hid (join_st HA.out HB.out); have ES := Lib.hid (either_st HAU.out WP.out LI.out); have OS := Lib.hid (of_st HVS.out)
          have J1 := Lib.hid (fun w' (r : Cube (Nd w.heap.size) w' a1 S k1 m) (r' : Cube (Nd w.heap.size) w' a2 S k2 q) => join_any U V (by have := HU.out; omega) S W L hC.out m q HA.out HB.out _ _ a1 S k1 a2 S k2 w' r r')
          have J2 := Lib.hid (fun w' (r : Cube (Nd w.heap.size) w' a1 S k1 m) (r' : Cube (Nd w.heap.size) w' a2 S k2 q) => rjoin_any U V (by have := HU.out; omega) S W L hC.out m q HA.out HB.out _ _ a1 S k1 a2 S k2 w' r r')
          have E1 := Lib.hid (fun w' (r : Cube (Nd w.heap.size) w' a1 S k1 m) (r' : Ints (Nd w.heap.size) w' la ln lc xs) => either_any T UU.out S W L hC.out m HAU.out _ _ a1 S k1 la ln lc xs LI.out w' r r')
          have E2 := Lib.hid (fun w' (r : Cube (Nd w.heap.size) w' a1 S k1 m) (r' : Ints (Nd w.heap.size) w' la ln lc xs) => reither_any T UU.out S W L hC.out m HAU.out _ _ a1 S k1 la ln lc xs LI.out w' r r')
          have O1 := Lib.hid (fun w' (r : Mat (Nd w.heap.size) w' oa S oc ss) => mof_any S W L hC.out _ oa S oc ss HVS.out w' r)
          have O2 := Lib.hid (fun w' (r : Mat (Nd w.heap.size) w' oa S oc ss) => rof_any S W L hC.out _ oa S oc ss HVS.out w' r)
          have TL := Lib.hid (topS_len S W); have TP1 := Lib.hid (fun w' => mtop_any S W L hC.out w'); have TP2 := Lib.hid (fun w' => rtop_any S W L hC.out w')
          generalize joinM W m q = J at *
          generalize eitherM S W m xs = E at *
          generalize ofM ss = O at *
          generalize topS S W = TT at *
          go_upto_region 14 with fail
          obtain ⟨wv, rfl⟩ : ∃ wv : World, wv = wc := ⟨_, rfl⟩
          have X10v0 := Lib.hid (X10.out.keep (Chg.dkd wv)); have Y10v0 := Lib.hid (Y10.out.keep (Chg.dkd wv)); have Z10v0 := Lib.hid (Z10.out.keep (Chg.dkd wv)); have L10v0 := Lib.hid (L10.out.keep (Chg.dkd wv)); have N10v0 := Lib.hid (N10.out.keep (Chg.dkd wv))
          have CFv0 := Lib.hid (C10.out.drew); have LDv0 := Lib.hid (show w.heap.size < wv.drew.heap.size from LD.out)
          have zX100 := X10v0.out.has.cell 0 _ rfl; have zX101 := X10v0.out.has.cell 1 _ rfl; have zX102 := X10v0.out.has.cell 2 _ rfl; have zY100 := Y10v0.out.has.cell 0 _ rfl; have zZ100 := Z10v0.out.has.cell 0 _ rfl; have zL100 := L10v0.out.has.cell 0 _ rfl
          refine hd_start 46 (fun w' => w'.cell? ⟨w3.heap.size, 0, none⟩ = some (.int .i64 S) ∧ w'.cell? ⟨w3.heap.size, 1, none⟩ = some (.int .i64 W) ∧ w'.cell? ⟨w3.heap.size, 2, none⟩ = some (.int .i64 L) ∧ w'.cell? ⟨b1, 0, none⟩ = some (.slice a1 S k1) ∧ w'.cell? ⟨b2, 0, none⟩ = some (.slice a2 S k2) ∧ w'.cell? ⟨bL, 0, none⟩ = some (.slice oa S oc)) (by kernel_rfl) ⟨by kernel_rfl, by kernel_rfl, by kernel_rfl, by decide⟩ ⟨zX100, zX101, zX102, zY100, zZ100, zL100⟩ (fun ok => ?_)
          refine hd_take_l (i := 0) (v := ?_) ok rfl (by decide) (by kernel_rfl) (by kernel_rfl) (fun _ _ _ h => h) (Or.inl ⟨by kernel_rfl, ?_⟩) ?_
          rotate_left
          · (intro w hSw; (try dsimp only at hSw); (try go_split_ands); go_simp; (try (with_reducible rfl)))
          go_frame
          refine hd_take_l (i := 1) (v := ?_) ok rfl (by decide) (by kernel_rfl) (by kernel_rfl) (fun _ _ _ h => h) (Or.inl ⟨by kernel_rfl, ?_⟩) ?_
          rotate_left
          · (intro w hSw; (try dsimp only at hSw); (try go_split_ands); go_simp; (try (with_reducible rfl)))
          go_frame
          refine hd_take_l (i := 2) (v := ?_) ok rfl (by decide) (by kernel_rfl) (by kernel_rfl) (fun _ _ _ h => h) (Or.inl ⟨by kernel_rfl, ?_⟩) ?_
          rotate_left
          · (intro w hSw; (try dsimp only at hSw); (try go_split_ands); go_simp; (try (with_reducible rfl)))
          go_frame
          refine hd_take_l (i := 5) (v := ?_) ok rfl (by decide) (by kernel_rfl) (by kernel_rfl) (fun _ _ _ h => h) (Or.inl ⟨by kernel_rfl, ?_⟩) ?_
          rotate_left
          · (intro w hSw; (try dsimp only at hSw); (try go_split_ands); go_simp; (try (with_reducible rfl)))
          go_frame
          refine hd_take_l (i := 6) (v := ?_) ok rfl (by decide) (by kernel_rfl) (by kernel_rfl) (fun _ _ _ h => h) (Or.inl ⟨by kernel_rfl, ?_⟩) ?_
          rotate_left
          · (intro w hSw; (try dsimp only at hSw); (try go_split_ands); go_simp; (try (with_reducible rfl)))
          go_frame
          refine hd_take_l (i := 7) (v := ?_) ok rfl (by decide) (by kernel_rfl) (by kernel_rfl) (fun _ _ _ h => h) (Or.inl ⟨by kernel_rfl, ?_⟩) ?_
          rotate_left
          · (intro w hSw; (try dsimp only at hSw); (try go_split_ands); go_simp; (try (with_reducible rfl)))
          go_frame
          refine hd_only_l (c := 3) rfl (by decide) (by kernel_rfl) (fun K hK => ?_)
          go_simp
          go_at_call 24
          refine (J1.out _ Y10v0.out.cub Z10v0.out.cub).mono ?_
          rintro e w103 h3
          obtain ⟨ta3, tc3, rfl, ho3, hb3⟩ := StRet.fix h3 JS.out.len
          (try simp only [])
          refine hK _ _ (by refine ⟨?_, ?_, ?_, ?_, ?_, ?_⟩ <;> (first | exact cell_later hb3 zX100 | exact cell_later hb3 zX101 | exact cell_later hb3 zX102 | exact cell_later hb3 zY100 | exact cell_later hb3 zZ100 | exact cell_later hb3 zL100)) ?_
          clear hK K
          (try go_frame)
          have X10v1 := Lib.hid (X10v0.out.keep (Chg.dk hb3)); have Y10v1 := Lib.hid (Y10v0.out.keep (Chg.dk hb3)); have Z10v1 := Lib.hid (Z10v0.out.keep (Chg.dk hb3)); have L10v1 := Lib.hid (L10v0.out.keep (Chg.dk hb3)); have N10v1 := Lib.hid (N10v0.out.keep (Chg.dk hb3))
          have CFv1 := Lib.hid (CFv0.out.tr hb3); have LDv1 := Lib.hid (Nat.lt_of_lt_of_le LDv0.out hb3.size)
          have HO3 := Lib.hid (Cube.k_below (Below.refl _ _) (ho3.nd LDv0.out))
          clear ho3 h3
          clear hb3 zX100 zX101 zX102 zY100 zZ100 zL100
          have zX100 := X10v1.out.has.cell 0 _ rfl; have zX101 := X10v1.out.has.cell 1 _ rfl; have zX102 := X10v1.out.has.cell 2 _ rfl; have zY100 := Y10v1.out.has.cell 0 _ rfl; have zZ100 := Z10v1.out.has.cell 0 _ rfl; have zL100 := L10v1.out.has.cell 0 _ rfl
          refine hd_take_l (i := 4) (v := .slice ta3 S tc3) ok rfl (by decide) (by kernel_rfl) (by kernel_rfl) (fun _ _ _ h => h) (Or.inl ⟨by kernel_rfl, fun _ _ => by kernel_rfl⟩) ?_
          go_frame
          refine hd_only_l (c := 8) rfl (by decide) (by kernel_rfl) (fun K hK => ?_)
          go_simp
          go_at_call 21
          refine (J2.out _ Y10v1.out.cub Z10v1.out.cub).mono ?_
          rintro e w108 h8
          obtain ⟨ta8, tc8, rfl, ho8, hb8⟩ := StRet.fix h8 JS.out.len
          (try simp only [])
          refine hK _ _ (by refine ⟨?_, ?_, ?_, ?_, ?_, ?_⟩ <;> (first | exact cell_later hb8 zX100 | exact cell_later hb8 zX101 | exact cell_later hb8 zX102 | exact cell_later hb8 zY100 | exact cell_later hb8 zZ100 | exact cell_later hb8 zL100)) ?_
          clear hK K
          (try go_frame)
          have X10v2 := Lib.hid (X10v1.out.keep (Chg.dk hb8)); have Y10v2 := Lib.hid (Y10v1.out.keep (Chg.dk hb8)); have Z10v2 := Lib.hid (Z10v1.out.keep (Chg.dk hb8)); have L10v2 := Lib.hid (L10v1.out.keep (Chg.dk hb8)); have N10v2 := Lib.hid (N10v1.out.keep (Chg.dk hb8))
          have CFv2 := Lib.hid (CFv1.out.tr hb8); have LDv2 := Lib.hid (Nat.lt_of_lt_of_le LDv1.out hb8.size)
          (try have HO3 := Lib.hid (Cube.k_below hb8 HO3.out))
          have HO8 := Lib.hid (Cube.k_below (Below.refl _ _) (ho8.nd LDv1.out))
          clear ho8 h8
          clear hb8 zX100 zX101 zX102 zY100 zZ100 zL100
          have zX100 := X10v2.out.has.cell 0 _ rfl; have zX101 := X10v2.out.has.cell 1 _ rfl; have zX102 := X10v2.out.has.cell 2 _ rfl; have zY100 := Y10v2.out.has.cell 0 _ rfl; have zZ100 := Z10v2.out.has.cell 0 _ rfl; have zL100 := L10v2.out.has.cell 0 _ rfl
          refine hd_take_l (i := 9) (v := .slice ta8 S tc8) ok rfl (by decide) (by kernel_rfl) (by kernel_rfl) (fun _ _ _ h => h) (Or.inl ⟨by kernel_rfl, fun _ _ => by kernel_rfl⟩) ?_
          go_frame
          refine hd_only_l (c := 10) rfl (by decide) (by kernel_rfl) (fun K hK => ?_)
          go_simp
          go_at_call 23
          refine (rsame_yes (Nd w.heap.size) (Nd w.heap.size) ta3 ta8 S tc3 S tc8 _ _ HO3.out HO8.out).mono ?_
          rintro e w110 ⟨rfl, hb10⟩
          (try simp only [])
          refine hK _ _ (by refine ⟨?_, ?_, ?_, ?_, ?_, ?_⟩ <;> (first | exact cell_later hb10 zX100 | exact cell_later hb10 zX101 | exact cell_later hb10 zX102 | exact cell_later hb10 zY100 | exact cell_later hb10 zZ100 | exact cell_later hb10 zL100)) ?_
          clear hK K
          (try go_frame)
          have X10v3 := Lib.hid (X10v2.out.keep (Chg.dk hb10)); have Y10v3 := Lib.hid (Y10v2.out.keep (Chg.dk hb10)); have Z10v3 := Lib.hid (Z10v2.out.keep (Chg.dk hb10)); have L10v3 := Lib.hid (L10v2.out.keep (Chg.dk hb10)); have N10v3 := Lib.hid (N10v2.out.keep (Chg.dk hb10))
          have CFv3 := Lib.hid (CFv2.out.tr hb10); have LDv3 := Lib.hid (Nat.lt_of_lt_of_le LDv2.out hb10.size)
          (try have HO3 := Lib.hid (Cube.k_below hb10 HO3.out))
          (try have HO8 := Lib.hid (Cube.k_below hb10 HO8.out))
          clear hb10 zX100 zX101 zX102 zY100 zZ100 zL100
          have zX100 := X10v3.out.has.cell 0 _ rfl; have zX101 := X10v3.out.has.cell 1 _ rfl; have zX102 := X10v3.out.has.cell 2 _ rfl; have zY100 := Y10v3.out.has.cell 0 _ rfl; have zZ100 := Z10v3.out.has.cell 0 _ rfl; have zL100 := L10v3.out.has.cell 0 _ rfl
          refine hd_take_l (i := 11) (v := ?_) ok rfl (by decide) (by kernel_rfl) (by kernel_rfl) (fun _ _ _ h => h) (Or.inl ⟨by kernel_rfl, ?_⟩) ?_
          rotate_left
          · (intro w hSw; (try dsimp only at hSw); (try go_split_ands); go_simp; (try (with_reducible rfl)))
          go_frame
          refine hd_take_l (i := 12) (v := ?_) ok rfl (by decide) (by kernel_rfl) (by kernel_rfl) (fun _ _ _ h => h) (Or.inl ⟨by kernel_rfl, ?_⟩) ?_
          rotate_left
          · (intro w hSw; (try dsimp only at hSw); (try go_split_ands); go_simp; (try (with_reducible rfl)))
          go_frame
          refine hd_take_l (i := 13) (v := ?_) ok rfl (by decide) (by kernel_rfl) (by kernel_rfl) (fun _ _ _ h => h) (Or.inl ⟨by kernel_rfl, ?_⟩) ?_
          rotate_left
          · (intro w hSw; (try dsimp only at hSw); (try go_split_ands); go_simp; (try (with_reducible rfl)))
          go_frame
          refine hd_take_l (i := 14) (v := ?_) ok rfl (by decide) (by kernel_rfl) (by kernel_rfl) (fun _ _ _ h => h) (Or.inl ⟨by kernel_rfl, ?_⟩) ?_
          rotate_left
          · (intro w hSw; (try dsimp only at hSw); (try go_split_ands); go_simp; (try (with_reducible rfl)))
          go_frame
          refine hd_take_l (i := 17) (v := ?_) ok rfl (by decide) (by kernel_rfl) (by kernel_rfl) (fun _ _ _ h => h) (Or.inl ⟨by kernel_rfl, ?_⟩) ?_
          rotate_left
          · (intro w hSw; (try dsimp only at hSw); (try go_split_ands); go_simp; (try (with_reducible rfl)))
          go_frame
          refine hd_take_l (i := 18) (v := ?_) ok rfl (by decide) (by kernel_rfl) (by kernel_rfl) (fun _ _ _ h => h) (Or.inl ⟨by kernel_rfl, ?_⟩) ?_
          rotate_left
          · (intro w hSw; (try dsimp only at hSw); (try go_split_ands); go_simp; (try (with_reducible rfl)))
          go_frame
          refine hd_take_l (i := 19) (v := ?_) ok rfl (by decide) (by kernel_rfl) (by kernel_rfl) (fun _ _ _ h => h) (Or.inl ⟨by kernel_rfl, ?_⟩) ?_
          rotate_left
          · (intro w hSw; (try dsimp only at hSw); (try go_split_ands); go_simp; (try (with_reducible rfl)))
          go_frame
          refine hd_only_l (c := 15) rfl (by decide) (by kernel_rfl) (fun K hK => ?_)
          go_simp
          go_at_call 29
          refine (E1.out _ Y10v3.out.cub N10v3.out.ints).mono ?_
          rintro e w115 h15
          obtain ⟨ta15, tc15, rfl, ho15, hb15⟩ := StRet.fix h15 ES.out.len
          (try simp only [])
          refine hK _ _ (by refine ⟨?_, ?_, ?_, ?_, ?_, ?_⟩ <;> (first | exact cell_later hb15 zX100 | exact cell_later hb15 zX101 | exact cell_later hb15 zX102 | exact cell_later hb15 zY100 | exact cell_later hb15 zZ100 | exact cell_later hb15 zL100)) ?_
          clear hK K
          (try go_frame)
          have X10v4 := Lib.hid (X10v3.out.keep (Chg.dk hb15)); have Y10v4 := Lib.hid (Y10v3.out.keep (Chg.dk hb15)); have Z10v4 := Lib.hid (Z10v3.out.keep (Chg.dk hb15)); have L10v4 := Lib.hid (L10v3.out.keep (Chg.dk hb15)); have N10v4 := Lib.hid (N10v3.out.keep (Chg.dk hb15))
          have CFv4 := Lib.hid (CFv3.out.tr hb15); have LDv4 := Lib.hid (Nat.lt_of_lt_of_le LDv3.out hb15.size)
          (try have HO3 := Lib.hid (Cube.k_below hb15 HO3.out))
          (try have HO8 := Lib.hid (Cube.k_below hb15 HO8.out))
          have HO15 := Lib.hid (Cube.k_below (Below.refl _ _) (ho15.nd LDv3.out))
          clear ho15 h15
          clear hb15 zX100 zX101 zX102 zY100 zZ100 zL100
          have zX100 := X10v4.out.has.cell 0 _ rfl; have zX101 := X10v4.out.has.cell 1 _ rfl; have zX102 := X10v4.out.has.cell 2 _ rfl; have zY100 := Y10v4.out.has.cell 0 _ rfl; have zZ100 := Z10v4.out.has.cell 0 _ rfl; have zL100 := L10v4.out.has.cell 0 _ rfl
          refine hd_take_l (i := 16) (v := .slice ta15 S tc15) ok rfl (by decide) (by kernel_rfl) (by kernel_rfl) (fun _ _ _ h => h) (Or.inl ⟨by kernel_rfl, fun _ _ => by kernel_rfl⟩) ?_
          go_frame
          refine hd_only_l (c := 20) rfl (by decide) (by kernel_rfl) (fun K hK => ?_)
          go_simp
          go_at_call 36
          refine (E2.out _ Y10v4.out.cub N10v4.out.ints).mono ?_
          rintro e w120 h20
          obtain ⟨ta20, tc20, rfl, ho20, hb20⟩ := StRet.fix h20 ES.out.len
          (try simp only [])
          refine hK _ _ (by refine ⟨?_, ?_, ?_, ?_, ?_, ?_⟩ <;> (first | exact cell_later hb20 zX100 | exact cell_later hb20 zX101 | exact cell_later hb20 zX102 | exact cell_later hb20 zY100 | exact cell_later hb20 zZ100 | exact cell_later hb20 zL100)) ?_
          clear hK K
          (try go_frame)
          have X10v5 := Lib.hid (X10v4.out.keep (Chg.dk hb20)); have Y10v5 := Lib.hid (Y10v4.out.keep (Chg.dk hb20)); have Z10v5 := Lib.hid (Z10v4.out.keep (Chg.dk hb20)); have L10v5 := Lib.hid (L10v4.out.keep (Chg.dk hb20)); have N10v5 := Lib.hid (N10v4.out.keep (Chg.dk hb20))
          have CFv5 := Lib.hid (CFv4.out.tr hb20); have LDv5 := Lib.hid (Nat.lt_of_lt_of_le LDv4.out hb20.size)
          (try have HO3 := Lib.hid (Cube.k_below hb20 HO3.out))
          (try have HO8 := Lib.hid (Cube.k_below hb20 HO8.out))
          (try have HO15 := Lib.hid (Cube.k_below hb20 HO15.out))
          have HO20 := Lib.hid (Cube.k_below (Below.refl _ _) (ho20.nd LDv4.out))
          clear ho20 h20
          clear hb20 zX100 zX101 zX102 zY100 zZ100 zL100
          have zX100 := X10v5.out.has.cell 0 _ rfl; have zX101 := X10v5.out.has.cell 1 _ rfl; have zX102 := X10v5.out.has.cell 2 _ rfl; have zY100 := Y10v5.out.has.cell 0 _ rfl; have zZ100 := Z10v5.out.has.cell 0 _ rfl; have zL100 := L10v5.out.has.cell 0 _ rfl
          refine hd_take_l (i := 21) (v := .slice ta20 S tc20) ok rfl (by decide) (by kernel_rfl) (by kernel_rfl) (fun _ _ _ h => h) (Or.inl ⟨by kernel_rfl, fun _ _ => by kernel_rfl⟩) ?_
          go_frame
          refine hd_only_l (c := 22) rfl (by decide) (by kernel_rfl) (fun K hK => ?_)
          go_simp
          go_at_call 23
          refine (rsame_yes (Nd w.heap.size) (Nd w.heap.size) ta15 ta20 S tc15 S tc20 _ _ HO15.out HO20.out).mono ?_
          rintro e w122 ⟨rfl, hb22⟩
          (try simp only [])
          refine hK _ _ (by refine ⟨?_, ?_, ?_, ?_, ?_, ?_⟩ <;> (first | exact cell_later hb22 zX100 | exact cell_later hb22 zX101 | exact cell_later hb22 zX102 | exact cell_later hb22 zY100 | exact cell_later hb22 zZ100 | exact cell_later hb22 zL100)) ?_
          clear hK K
          (try go_frame)
          have X10v6 := Lib.hid (X10v5.out.keep (Chg.dk hb22)); have Y10v6 := Lib.hid (Y10v5.out.keep (Chg.dk hb22)); have Z10v6 := Lib.hid (Z10v5.out.keep (Chg.dk hb22)); have L10v6 := Lib.hid (L10v5.out.keep (Chg.dk hb22)); have N10v6 := Lib.hid (N10v5.out.keep (Chg.dk hb22))
          have CFv6 := Lib.hid (CFv5.out.tr hb22); have LDv6 := Lib.hid (Nat.lt_of_lt_of_le LDv5.out hb22.size)
          (try have HO3 := Lib.hid (Cube.k_below hb22 HO3.out))
          (try have HO8 := Lib.hid (Cube.k_below hb22 HO8.out))
          (try have HO15 := Lib.hid (Cube.k_below hb22 HO15.out))
          (try have HO20 := Lib.hid (Cube.k_below hb22 HO20.out))
          clear hb22 zX100 zX101 zX102 zY100 zZ100 zL100
          have zX100 := X10v6.out.has.cell 0 _ rfl; have zX101 := X10v6.out.has.cell 1 _ rfl; have zX102 := X10v6.out.has.cell 2 _ rfl; have zY100 := Y10v6.out.has.cell 0 _ rfl; have zZ100 := Z10v6.out.has.cell 0 _ rfl; have zL100 := L10v6.out.has.cell 0 _ rfl
          refine hd_take_l (i := 23) (v := ?_) ok rfl (by decide) (by kernel_rfl) (by kernel_rfl) (fun _ _ _ h => h) (Or.inl ⟨by kernel_rfl, ?_⟩) ?_
          rotate_left
          · (intro w hSw; (try dsimp only at hSw); (try go_split_ands); go_simp; (try (with_reducible rfl)))
          go_frame
          refine hd_take_l (i := 24) (v := ?_) ok rfl (by decide) (by kernel_rfl) (by kernel_rfl) (fun _ _ _ h => h) (Or.inl ⟨by kernel_rfl, ?_⟩) ?_
          rotate_left
          · (intro w hSw; (try dsimp only at hSw); (try go_split_ands); go_simp; (try (with_reducible rfl)))
          go_frame
          refine hd_take_l (i := 25) (v := ?_) ok rfl (by decide) (by kernel_rfl) (by kernel_rfl) (fun _ _ _ h => h) (Or.inl ⟨by kernel_rfl, ?_⟩) ?_
          rotate_left
          · (intro w hSw; (try dsimp only at hSw); (try go_split_ands); go_simp; (try (with_reducible rfl)))
          go_frame
          refine hd_take_l (i := 28) (v := ?_) ok rfl (by decide) (by kernel_rfl) (by kernel_rfl) (fun _ _ _ h => h) (Or.inl ⟨by kernel_rfl, ?_⟩) ?_
          rotate_left
          · (intro w hSw; (try dsimp only at hSw); (try go_split_ands); go_simp; (try (with_reducible rfl)))
          go_frame
          refine hd_only_l (c := 26) rfl (by decide) (by kernel_rfl) (fun K hK => ?_)
          go_simp
          go_at_call 25
          refine (TP1.out _).mono ?_
          rintro e w126 h26
          obtain ⟨ta26, tc26, rfl, ho26, hb26⟩ := StRet.fix h26 TL.out
          (try simp only [])
          refine hK _ _ (by refine ⟨?_, ?_, ?_, ?_, ?_, ?_⟩ <;> (first | exact cell_later hb26 zX100 | exact cell_later hb26 zX101 | exact cell_later hb26 zX102 | exact cell_later hb26 zY100 | exact cell_later hb26 zZ100 | exact cell_later hb26 zL100)) ?_
          clear hK K
          (try go_frame)
          have X10v7 := Lib.hid (X10v6.out.keep (Chg.dk hb26)); have Y10v7 := Lib.hid (Y10v6.out.keep (Chg.dk hb26)); have Z10v7 := Lib.hid (Z10v6.out.keep (Chg.dk hb26)); have L10v7 := Lib.hid (L10v6.out.keep (Chg.dk hb26)); have N10v7 := Lib.hid (N10v6.out.keep (Chg.dk hb26))
          have CFv7 := Lib.hid (CFv6.out.tr hb26); have LDv7 := Lib.hid (Nat.lt_of_lt_of_le LDv6.out hb26.size)
          (try have HO3 := Lib.hid (Cube.k_below hb26 HO3.out))
          (try have HO8 := Lib.hid (Cube.k_below hb26 HO8.out))
          (try have HO15 := Lib.hid (Cube.k_below hb26 HO15.out))
          (try have HO20 := Lib.hid (Cube.k_below hb26 HO20.out))
          have HO26 := Lib.hid (Cube.k_below (Below.refl _ _) (ho26.nd LDv6.out))
          clear ho26 h26
          clear hb26 zX100 zX101 zX102 zY100 zZ100 zL100
          have zX100 := X10v7.out.has.cell 0 _ rfl; have zX101 := X10v7.out.has.cell 1 _ rfl; have zX102 := X10v7.out.has.cell 2 _ rfl; have zY100 := Y10v7.out.has.cell 0 _ rfl; have zZ100 := Z10v7.out.has.cell 0 _ rfl; have zL100 := L10v7.out.has.cell 0 _ rfl
          refine hd_take_l (i := 27) (v := .slice ta26 S tc26) ok rfl (by decide) (by kernel_rfl) (by kernel_rfl) (fun _ _ _ h => h) (Or.inl ⟨by kernel_rfl, fun _ _ => by kernel_rfl⟩) ?_
          go_frame
          refine hd_only_l (c := 29) rfl (by decide) (by kernel_rfl) (fun K hK => ?_)
          go_simp
          go_at_call 37
          refine (TP2.out _).mono ?_
          rintro e w129 h29
          obtain ⟨ta29, tc29, rfl, ho29, hb29⟩ := StRet.fix h29 TL.out
          (try simp only [])
          refine hK _ _ (by refine ⟨?_, ?_, ?_, ?_, ?_, ?_⟩ <;> (first | exact cell_later hb29 zX100 | exact cell_later hb29 zX101 | exact cell_later hb29 zX102 | exact cell_later hb29 zY100 | exact cell_later hb29 zZ100 | exact cell_later hb29 zL100)) ?_
          clear hK K
          (try go_frame)
          have X10v8 := Lib.hid (X10v7.out.keep (Chg.dk hb29)); have Y10v8 := Lib.hid (Y10v7.out.keep (Chg.dk hb29)); have Z10v8 := Lib.hid (Z10v7.out.keep (Chg.dk hb29)); have L10v8 := Lib.hid (L10v7.out.keep (Chg.dk hb29)); have N10v8 := Lib.hid (N10v7.out.keep (Chg.dk hb29))
          have CFv8 := Lib.hid (CFv7.out.tr hb29); have LDv8 := Lib.hid (Nat.lt_of_lt_of_le LDv7.out hb29.size)
          (try have HO3 := Lib.hid (Cube.k_below hb29 HO3.out))
          (try have HO8 := Lib.hid (Cube.k_below hb29 HO8.out))
          (try have HO15 := Lib.hid (Cube.k_below hb29 HO15.out))
          (try have HO20 := Lib.hid (Cube.k_below hb29 HO20.out))
          (try have HO26 := Lib.hid (Cube.k_below hb29 HO26.out))
          have HO29 := Lib.hid (Cube.k_below (Below.refl _ _) (ho29.nd LDv7.out))
          clear ho29 h29
          clear hb29 zX100 zX101 zX102 zY100 zZ100 zL100
          have zX100 := X10v8.out.has.cell 0 _ rfl; have zX101 := X10v8.out.has.cell 1 _ rfl; have zX102 := X10v8.out.has.cell 2 _ rfl; have zY100 := Y10v8.out.has.cell 0 _ rfl; have zZ100 := Z10v8.out.has.cell 0 _ rfl; have zL100 := L10v8.out.has.cell 0 _ rfl
          refine hd_take_l (i := 30) (v := .slice ta29 S tc29) ok rfl (by decide) (by kernel_rfl) (by kernel_rfl) (fun _ _ _ h => h) (Or.inl ⟨by kernel_rfl, fun _ _ => by kernel_rfl⟩) ?_
          go_frame
          refine hd_only_l (c := 31) rfl (by decide) (by kernel_rfl) (fun K hK => ?_)
          go_simp
          go_at_call 23
          refine (rsame_yes (Nd w.heap.size) (Nd w.heap.size) ta26 ta29 S tc26 S tc29 _ _ HO26.out HO29.out).mono ?_
          rintro e w131 ⟨rfl, hb31⟩
          (try simp only [])
          refine hK _ _ (by refine ⟨?_, ?_, ?_, ?_, ?_, ?_⟩ <;> (first | exact cell_later hb31 zX100 | exact cell_later hb31 zX101 | exact cell_later hb31 zX102 | exact cell_later hb31 zY100 | exact cell_later hb31 zZ100 | exact cell_later hb31 zL100)) ?_
          clear hK K
          (try go_frame)
          have X10v9 := Lib.hid (X10v8.out.keep (Chg.dk hb31)); have Y10v9 := Lib.hid (Y10v8.out.keep (Chg.dk hb31)); have Z10v9 := Lib.hid (Z10v8.out.keep (Chg.dk hb31)); have L10v9 := Lib.hid (L10v8.out.keep (Chg.dk hb31)); have N10v9 := Lib.hid (N10v8.out.keep (Chg.dk hb31))
          have CFv9 := Lib.hid (CFv8.out.tr hb31); have LDv9 := Lib.hid (Nat.lt_of_lt_of_le LDv8.out hb31.size)
          (try have HO3 := Lib.hid (Cube.k_below hb31 HO3.out))
          (try have HO8 := Lib.hid (Cube.k_below hb31 HO8.out))
          (try have HO15 := Lib.hid (Cube.k_below hb31 HO15.out))
          (try have HO20 := Lib.hid (Cube.k_below hb31 HO20.out))
          (try have HO26 := Lib.hid (Cube.k_below hb31 HO26.out))
          (try have HO29 := Lib.hid (Cube.k_below hb31 HO29.out))
          clear hb31 zX100 zX101 zX102 zY100 zZ100 zL100
          have zX100 := X10v9.out.has.cell 0 _ rfl; have zX101 := X10v9.out.has.cell 1 _ rfl; have zX102 := X10v9.out.has.cell 2 _ rfl; have zY100 := Y10v9.out.has.cell 0 _ rfl; have zZ100 := Z10v9.out.has.cell 0 _ rfl; have zL100 := L10v9.out.has.cell 0 _ rfl
          refine hd_take_l (i := 32) (v := ?_) ok rfl (by decide) (by kernel_rfl) (by kernel_rfl) (fun _ _ _ h => h) (Or.inl ⟨by kernel_rfl, ?_⟩) ?_
          rotate_left
          · (intro w hSw; (try dsimp only at hSw); (try go_split_ands); go_simp; (try (with_reducible rfl)))
          go_frame
          refine hd_take_l (i := 33) (v := ?_) ok rfl (by decide) (by kernel_rfl) (by kernel_rfl) (fun _ _ _ h => h) (Or.inl ⟨by kernel_rfl, ?_⟩) ?_
          rotate_left
          · (intro w hSw; (try dsimp only at hSw); (try go_split_ands); go_simp; (try (with_reducible rfl)))
          go_frame
          refine hd_take_l (i := 34) (v := ?_) ok rfl (by decide) (by kernel_rfl) (by kernel_rfl) (fun _ _ _ h => h) (Or.inl ⟨by kernel_rfl, ?_⟩) ?_
          rotate_left
          · (intro w hSw; (try dsimp only at hSw); (try go_split_ands); go_simp; (try (with_reducible rfl)))
          go_frame
          refine hd_take_l (i := 35) (v := ?_) ok rfl (by decide) (by kernel_rfl) (by kernel_rfl) (fun _ _ _ h => h) (Or.inl ⟨by kernel_rfl, ?_⟩) ?_
          rotate_left
          · (intro w hSw; (try dsimp only at hSw); (try go_split_ands); go_simp; (try (with_reducible rfl)))
          go_frame
          refine hd_take_l (i := 38) (v := ?_) ok rfl (by decide) (by kernel_rfl) (by kernel_rfl) (fun _ _ _ h => h) (Or.inl ⟨by kernel_rfl, ?_⟩) ?_
          rotate_left
          · (intro w hSw; (try dsimp only at hSw); (try go_split_ands); go_simp; (try (with_reducible rfl)))
          go_frame
          refine hd_take_l (i := 39) (v := ?_) ok rfl (by decide) (by kernel_rfl) (by kernel_rfl) (fun _ _ _ h => h) (Or.inl ⟨by kernel_rfl, ?_⟩) ?_
          rotate_left
          · (intro w hSw; (try dsimp only at hSw); (try go_split_ands); go_simp; (try (with_reducible rfl)))
          go_frame
          refine hd_only_l (c := 36) rfl (by decide) (by kernel_rfl) (fun K hK => ?_)
          go_simp
          go_at_call 27
          refine (O1.out _ L10v9.out.mat).mono ?_
          rintro e w136 h36
          obtain ⟨ta36, tc36, rfl, ho36, hb36⟩ := StRet.fix h36 OS.out.len
          (try simp only [])
          refine hK _ _ (by refine ⟨?_, ?_, ?_, ?_, ?_, ?_⟩ <;> (first | exact cell_later hb36 zX100 | exact cell_later hb36 zX101 | exact cell_later hb36 zX102 | exact cell_later hb36 zY100 | exact cell_later hb36 zZ100 | exact cell_later hb36 zL100)) ?_
          clear hK K
          (try go_frame)
          have X10v10 := Lib.hid (X10v9.out.keep (Chg.dk hb36)); have Y10v10 := Lib.hid (Y10v9.out.keep (Chg.dk hb36)); have Z10v10 := Lib.hid (Z10v9.out.keep (Chg.dk hb36)); have L10v10 := Lib.hid (L10v9.out.keep (Chg.dk hb36)); have N10v10 := Lib.hid (N10v9.out.keep (Chg.dk hb36))
          have CFv10 := Lib.hid (CFv9.out.tr hb36); have LDv10 := Lib.hid (Nat.lt_of_lt_of_le LDv9.out hb36.size)
          (try have HO3 := Lib.hid (Cube.k_below hb36 HO3.out))
          (try have HO8 := Lib.hid (Cube.k_below hb36 HO8.out))
          (try have HO15 := Lib.hid (Cube.k_below hb36 HO15.out))
          (try have HO20 := Lib.hid (Cube.k_below hb36 HO20.out))
          (try have HO26 := Lib.hid (Cube.k_below hb36 HO26.out))
          (try have HO29 := Lib.hid (Cube.k_below hb36 HO29.out))
          have HO36 := Lib.hid (Cube.k_below (Below.refl _ _) (ho36.nd LDv9.out))
          clear ho36 h36
          clear hb36 zX100 zX101 zX102 zY100 zZ100 zL100
          have zX100 := X10v10.out.has.cell 0 _ rfl; have zX101 := X10v10.out.has.cell 1 _ rfl; have zX102 := X10v10.out.has.cell 2 _ rfl; have zY100 := Y10v10.out.has.cell 0 _ rfl; have zZ100 := Z10v10.out.has.cell 0 _ rfl; have zL100 := L10v10.out.has.cell 0 _ rfl
          refine hd_take_l (i := 37) (v := .slice ta36 S tc36) ok rfl (by decide) (by kernel_rfl) (by kernel_rfl) (fun _ _ _ h => h) (Or.inl ⟨by kernel_rfl, fun _ _ => by kernel_rfl⟩) ?_
          go_frame
          refine hd_only_l (c := 40) rfl (by decide) (by kernel_rfl) (fun K hK => ?_)
          go_simp
          go_at_call 38
          refine (O2.out _ L10v10.out.mat).mono ?_
          rintro e w140 h40
          obtain ⟨ta40, tc40, rfl, ho40, hb40⟩ := StRet.fix h40 OS.out.len
          (try simp only [])
          refine hK _ _ (by refine ⟨?_, ?_, ?_, ?_, ?_, ?_⟩ <;> (first | exact cell_later hb40 zX100 | exact cell_later hb40 zX101 | exact cell_later hb40 zX102 | exact cell_later hb40 zY100 | exact cell_later hb40 zZ100 | exact cell_later hb40 zL100)) ?_
          clear hK K
          (try go_frame)
          have X10v11 := Lib.hid (X10v10.out.keep (Chg.dk hb40)); have Y10v11 := Lib.hid (Y10v10.out.keep (Chg.dk hb40)); have Z10v11 := Lib.hid (Z10v10.out.keep (Chg.dk hb40)); have L10v11 := Lib.hid (L10v10.out.keep (Chg.dk hb40)); have N10v11 := Lib.hid (N10v10.out.keep (Chg.dk hb40))
          have CFv11 := Lib.hid (CFv10.out.tr hb40); have LDv11 := Lib.hid (Nat.lt_of_lt_of_le LDv10.out hb40.size)
          (try have HO3 := Lib.hid (Cube.k_below hb40 HO3.out))
          (try have HO8 := Lib.hid (Cube.k_below hb40 HO8.out))
          (try have HO15 := Lib.hid (Cube.k_below hb40 HO15.out))
          (try have HO20 := Lib.hid (Cube.k_below hb40 HO20.out))
          (try have HO26 := Lib.hid (Cube.k_below hb40 HO26.out))
          (try have HO29 := Lib.hid (Cube.k_below hb40 HO29.out))
          (try have HO36 := Lib.hid (Cube.k_below hb40 HO36.out))
          have HO40 := Lib.hid (Cube.k_below (Below.refl _ _) (ho40.nd LDv10.out))
          clear ho40 h40
          clear hb40 zX100 zX101 zX102 zY100 zZ100 zL100
          have zX100 := X10v11.out.has.cell 0 _ rfl; have zX101 := X10v11.out.has.cell 1 _ rfl; have zX102 := X10v11.out.has.cell 2 _ rfl; have zY100 := Y10v11.out.has.cell 0 _ rfl; have zZ100 := Z10v11.out.has.cell 0 _ rfl; have zL100 := L10v11.out.has.cell 0 _ rfl
          refine hd_take_l (i := 41) (v := .slice ta40 S tc40) ok rfl (by decide) (by kernel_rfl) (by kernel_rfl) (fun _ _ _ h => h) (Or.inl ⟨by kernel_rfl, fun _ _ => by kernel_rfl⟩) ?_
          go_frame
          refine hd_only_l (c := 42) rfl (by decide) (by kernel_rfl) (fun K hK => ?_)
          go_simp
          go_at_call 23
          refine (rsame_yes (Nd w.heap.size) (Nd w.heap.size) ta36 ta40 S tc36 S tc40 _ _ HO36.out HO40.out).mono ?_
          rintro e w142 ⟨rfl, hb42⟩
          (try simp only [])
          refine hK _ _ (by refine ⟨?_, ?_, ?_, ?_, ?_, ?_⟩ <;> (first | exact cell_later hb42 zX100 | exact cell_later hb42 zX101 | exact cell_later hb42 zX102 | exact cell_later hb42 zY100 | exact cell_later hb42 zZ100 | exact cell_later hb42 zL100)) ?_
          clear hK K
          (try go_frame)
          have X10v12 := Lib.hid (X10v11.out.keep (Chg.dk hb42)); have Y10v12 := Lib.hid (Y10v11.out.keep (Chg.dk hb42)); have Z10v12 := Lib.hid (Z10v11.out.keep (Chg.dk hb42)); have L10v12 := Lib.hid (L10v11.out.keep (Chg.dk hb42)); have N10v12 := Lib.hid (N10v11.out.keep (Chg.dk hb42))
          have CFv12 := Lib.hid (CFv11.out.tr hb42); have LDv12 := Lib.hid (Nat.lt_of_lt_of_le LDv11.out hb42.size)
          (try have HO3 := Lib.hid (Cube.k_below hb42 HO3.out))
          (try have HO8 := Lib.hid (Cube.k_below hb42 HO8.out))
          (try have HO15 := Lib.hid (Cube.k_below hb42 HO15.out))
          (try have HO20 := Lib.hid (Cube.k_below hb42 HO20.out))
          (try have HO26 := Lib.hid (Cube.k_below hb42 HO26.out))
          (try have HO29 := Lib.hid (Cube.k_below hb42 HO29.out))
          (try have HO36 := Lib.hid (Cube.k_below hb42 HO36.out))
          (try have HO40 := Lib.hid (Cube.k_below hb42 HO40.out))
          clear hb42 zX100 zX101 zX102 zY100 zZ100 zL100
          have zX100 := X10v12.out.has.cell 0 _ rfl; have zX101 := X10v12.out.has.cell 1 _ rfl; have zX102 := X10v12.out.has.cell 2 _ rfl; have zY100 := Y10v12.out.has.cell 0 _ rfl; have zZ100 := Z10v12.out.has.cell 0 _ rfl; have zL100 := L10v12.out.has.cell 0 _ rfl
          refine hd_take_l (i := 43) (v := ?_) ok rfl (by decide) (by kernel_rfl) (by kernel_rfl) (fun _ _ _ h => h) (Or.inl ⟨by kernel_rfl, ?_⟩) ?_
          rotate_left
          · (intro w hSw; (try dsimp only at hSw); (try go_split_ands); go_simp; (try (with_reducible rfl)))
          go_frame
          refine hd_take_l (i := 44) (v := ?_) ok rfl (by decide) (by kernel_rfl) (by kernel_rfl) (fun _ _ _ h => h) (Or.inl ⟨by kernel_rfl, ?_⟩) ?_
          rotate_left
          · (intro w hSw; (try dsimp only at hSw); (try go_split_ands); go_simp; (try (with_reducible rfl)))
          go_frame
          refine hd_only_l (c := 45) rfl (by decide) (by kernel_rfl) (fun K hK => ?_)
          go_simp
          go_at_call 17
          refine (awake_any _).mono ?_
          rintro e w145 ⟨rfl, hb45⟩
          (try simp only [])
          refine hK _ _ (by refine ⟨?_, ?_, ?_, ?_, ?_, ?_⟩ <;> (first | exact cell_later hb45 zX100 | exact cell_later hb45 zX101 | exact cell_later hb45 zX102 | exact cell_later hb45 zY100 | exact cell_later hb45 zZ100 | exact cell_later hb45 zL100)) ?_
          clear hK K
          (try go_frame)
          have X10v13 := Lib.hid (X10v12.out.keep (Chg.dk hb45)); have Y10v13 := Lib.hid (Y10v12.out.keep (Chg.dk hb45)); have Z10v13 := Lib.hid (Z10v12.out.keep (Chg.dk hb45)); have L10v13 := Lib.hid (L10v12.out.keep (Chg.dk hb45)); have N10v13 := Lib.hid (N10v12.out.keep (Chg.dk hb45))
          have CFv13 := Lib.hid (CFv12.out.tr hb45); have LDv13 := Lib.hid (Nat.lt_of_lt_of_le LDv12.out hb45.size)
          (try have HO3 := Lib.hid (Cube.k_below hb45 HO3.out))
          (try have HO8 := Lib.hid (Cube.k_below hb45 HO8.out))
          (try have HO15 := Lib.hid (Cube.k_below hb45 HO15.out))
          (try have HO20 := Lib.hid (Cube.k_below hb45 HO20.out))
          (try have HO26 := Lib.hid (Cube.k_below hb45 HO26.out))
          (try have HO29 := Lib.hid (Cube.k_below hb45 HO29.out))
          (try have HO36 := Lib.hid (Cube.k_below hb45 HO36.out))
          (try have HO40 := Lib.hid (Cube.k_below hb45 HO40.out))
          clear hb45 zX100 zX101 zX102 zY100 zZ100 zL100
          have zX100 := X10v13.out.has.cell 0 _ rfl; have zX101 := X10v13.out.has.cell 1 _ rfl; have zX102 := X10v13.out.has.cell 2 _ rfl; have zY100 := Y10v13.out.has.cell 0 _ rfl; have zZ100 := Z10v13.out.has.cell 0 _ rfl; have zL100 := L10v13.out.has.cell 0 _ rfl
          clear ok zX100 zX101 zX102 zY100 zZ100 zL100
          refine hd_done (by kernel_rfl) ?_
          simp only [List.drop_succ_cons, List.drop_zero]
          go_wp2
          go_ret
          exact ⟨rfl, (BO.out.trans (Below.mono (Chg.below (M := Ge w.heap.size) CFv13.out (fun j hj h => by unfold Ge at h; omega) (Nat.le_refl _)) SO.out))⟩
end Go.Proofs.Ytikhbijobkkhgaa
