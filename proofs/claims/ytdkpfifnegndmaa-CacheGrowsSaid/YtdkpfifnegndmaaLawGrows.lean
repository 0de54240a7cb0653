/-
  timeboundlaw22.CacheGrows returns true, whatever its numbers and its list are. No condition.
-/
import Derived.Test.YtdkpfifnegndmaaCacheN
import Derived.Test.YtdkpfifnegndmaaCacheM
import Derived.Test.YtdkpfifnegndmaaKeep4
import Derived.Test.YtdkpfifnegndmaaLru2
import Derived.Test.YtdkpfifnegndmaaQuiet
import Derived.Test.YtdkpfifnegndmaaGrow2
import Derived.Deep.DeepCutAuto
namespace Go.Proofs.Ytdkpfifnegndmaa
open Go.RowKit

set_option maxRecDepth 100000 in
set_option maxHeartbeats 8000000 in
theorem grows_law (A B C : Int) (a3 : Option Addr) (len3 cap3 : Nat) (z3 : List Int) (wA : (Lit.int .u8 A).wf = true) (wB : (Lit.int .u8 B).wf = true) (wC : (Lit.int .u8 C).wf = true) (w : World) (w3 : IsRow .u8 w a3 len3 cap3 z3) :
    Calls Try.prog 6 #[.int .u8 A, .int .u8 B, .int .u8 C, .slice a3 len3 cap3] w fun e w' => e = .returned (.bool true) ∧ Below w.heap.size w w' := by
  have hl3 := w3.lens
  have hA : 0 ≤ A ∧ A ≤ 255 := by simpa [Lit.wf, IntKind.min, IntKind.max, IntKind.signed, IntKind.bits] using wA
  have hB : 0 ≤ B ∧ B ≤ 255 := by simpa [Lit.wf, IntKind.min, IntKind.max, IntKind.signed, IntKind.bits] using wB
  have hC : 0 ≤ C ∧ C ≤ 255 := by simpa [Lit.wf, IntKind.min, IntKind.max, IntKind.signed, IntKind.bits] using wC
  obtain ⟨A0, A1⟩ := hA
  obtain ⟨B0, B1⟩ := hB
  obtain ⟨C0, C1⟩ := hC
  clear wA wB wC
  by_cases h100 : len3 ≤ 100
  · have hb1 := w3.bytes (by omega)
    have HB1 := Lib.hid hb1
    obtain ⟨bs, hbs⟩ : ∃ bs, bs = z3.take len3 := ⟨_, rfl⟩
    rw [← hbs] at HB1
    clear w3 hb1 hbs
    obtain ⟨S, hS⟩ : ∃ S : Nat, (S : Int) = 1 + A % 4 := ⟨(1 + A % 4).toNat, by omega⟩
    obtain ⟨W, hW⟩ : ∃ W : Nat, (W : Int) = 1 + B % 3 := ⟨(1 + B % 3).toNat, by omega⟩
    obtain ⟨L, hL⟩ : ∃ L : Nat, (L : Int) = 1 + C % 4 := ⟨(1 + C % 4).toNat, by omega⟩
    obtain ⟨V, hV⟩ : ∃ V, V = W + 1 := ⟨_, rfl⟩
    have g1 : 1 ≤ S := by omega
    have g2 : S ≤ 4 := by omega
    have g3 : 1 ≤ W := by omega
    have g4 : W ≤ 3 := by omega
    have g5 : 1 ≤ L := by omega
    have g6 : L ≤ 4 := by omega
    have hC := Lib.hid (show COk S W L from ⟨by omega, by omega, by omega, by omega, by omega, by omega⟩)
    have hD := Lib.hid (show COk S V L from ⟨by omega, by omega, by omega, by omega, by omega, by omega⟩)
    have HS := Lib.hid hS; have HW := Lib.hid hW; have HL := Lib.hid hL; have HV := Lib.hid hV
    clear hS hW hL hV
    go_enter Try.func6, Try.ntmps6
    go_upto_region 3 with fail
    go_cut [9] (fun s9 wx => s9 = .pointer (some ⟨w.heap.size, 0, none⟩) ∧ Has wx w.heap.size [.int .i64 S, .int .i64 W, .int .i64 L] ∧ Chg Non w wx ∧ wx.heap.size = w.heap.size + 1)
    case first =>
      have q1 : A.tmod 4 = A % 4 := Int.tmod_eq_emod_of_nonneg A0
      have q2 : B.tmod 3 = B % 3 := Int.tmod_eq_emod_of_nonneg B0
      have q3 : C.tmod 4 = C % 4 := Int.tmod_eq_emod_of_nonneg C0
      go_wp2
      go_meet
      refine ⟨rfl, ?_, (Chg.refl w).alloc _, by simp⟩
      rw [HS.out, HW.out, HL.out]
      exact Has.new w [.int .i64 (1 + A % 4), .int .i64 (1 + B % 3), .int .i64 (1 + C % 4)] 29
    case rest =>
    obtain ⟨rfl, h9, ch9, sz9⟩ := hcut
    clear HS HW HL
    have c0 := h9.cell 0 _ rfl; have c1 := h9.cell 1 _ rfl; have c2 := h9.cell 2 _ rfl; have lx := h9.lt (by simp)
    go_upto_region 4 with fail
    go_cut [10] (fun s10 wx => ∃ cd, s10 = .pointer (some ⟨cd, 0, none⟩) ∧ w.heap.size < cd ∧ Has wx w.heap.size [.int .i64 S, .int .i64 W, .int .i64 L] ∧ Has wx cd [.int .i64 S, .int .i64 W, .int .i64 L] ∧ Chg Non w wx ∧ wx.heap.size = cd + 1)
    case first =>
      obtain ⟨w4, hw4⟩ : ∃ w4 : World, w4 = wc := ⟨_, rfl⟩
      rw [← hw4] at c0 c1 c2 lx h9 ch9 ⊢
      clear hw4
      go_wp2
      go_meet
      exact ⟨w4.heap.size, rfl, lx, h9.old lx, Has.new w4 [.int .i64 S, .int .i64 W, .int .i64 L] 29, ch9.alloc _, by simp⟩
    case rest =>
    obtain ⟨cd, rfl, hcd, x3, x4, ch4, sz4⟩ := hcut
    clear c0 c1 c2 lx h9 ch9 sz9
    have c0 := x4.cell 0 _ rfl; have c1 := x4.cell 1 _ rfl; have c2 := x4.cell 2 _ rfl; have cf := x4.free; have lx := x4.lt (by simp)
    go_upto_region 6 with fail
    obtain ⟨wv, hwv⟩ : ∃ wv, wv = wc.setCell ⟨cd, 1, none⟩ (.int .i64 ((W : Int) + 1)) := ⟨_, rfl⟩
    have v2 : (V : Int) = (W : Int) + 1 := by have := HV.out; omega
    have hvs : wv.heap.size = cd + 1 := by rw [hwv]; simp; omega
    have x3' : Has wv w.heap.size [.int .i64 S, .int .i64 W, .int .i64 L] := by rw [hwv]; exact x3.other (by simp; omega)
    have x4' : Has wv cd [.int .i64 S, .int .i64 V, .int .i64 L] := by rw [hwv, v2]; exact x4.set1 _
    have cw : Chg Non w wv := by rw [hwv]; exact ch4.setCell (fun e => by simp at e; omega) _
    rw [← hwv]
    have X3 := Lib.hid x3'; have X4 := Lib.hid x4'; have CW := Lib.hid cw; have HVS := Lib.hid hvs
    clear hwv hvs x3 x4 x3' x4' cw c0 c1 c2 cf lx v2 ch4 sz4
    have c0 := X3.out.cell 0 _ rfl; have c1 := X3.out.cell 1 _ rfl; have c2 := X3.out.cell 2 _ rfl; have lx := X3.out.lt (by simp)
    have d0 := X4.out.cell 0 _ rfl; have d1 := X4.out.cell 1 _ rfl; have d2 := X4.out.cell 2 _ rfl; have lx4 := X4.out.lt (by simp)
    go_cut [11, 12] (fun s7 s8 wx => TwoEmpty wv S W V s7 s8 wx)
    case first =>
      as_aux_lemma =>
        have tok1 : True := trivial
        go_region_held3 (fun w' => w'.cell? ⟨w.heap.size, 0, none⟩ = some (.int .i64 S) ∧ w'.cell? ⟨w.heap.size, 1, none⟩ = some (.int .i64 W) ∧ w'.cell? ⟨w.heap.size, 2, none⟩ = some (.int .i64 L) ∧ w'.cell? ⟨cd, 0, none⟩ = some (.int .i64 S) ∧ w'.cell? ⟨cd, 1, none⟩ = some (.int .i64 V) ∧ w'.cell? ⟨cd, 2, none⟩ = some (.int .i64 L)) (((try dsimp only); (try go_split_ands); (repeat' apply And.intro); all_goals (repeat (first | assumption | (refine cell_later hc5 ?_) | (refine cell_later hc4 ?_) | (refine cell_alloc (by first | assumption | omega | (simp; omega)) ?_) | (refine cell_set (by omega) ?_) | (refine cell_drew ?_)))))
          (first
            | (go_at_call 19; have _t := tok1; refine (empty_any S W L hC.out _).mono ?_; rintro e w4 ⟨oa, on, oc, rfl, ho4, hc4⟩; have s4 := hc4.size; simp only [World.size_alloc, World.size_drew] at s4; have ho4 := ho4.bt; simp only [World.size_alloc, World.size_drew] at ho4; clear tok1; have lA := Nat.lt_of_lt_of_le lx (Nat.le_trans (by first | exact Nat.le_refl _ | (simp; done) | (simp; omega)) hc4.size); have lB := Nat.lt_of_lt_of_le lx4 (Nat.le_trans (by first | exact Nat.le_refl _ | (simp; done) | (simp; omega)) hc4.size); (try (have x41 := (Has.k_below hc4 (by first | (simp; done) | (simp; omega)) (Has.new wv.drew [.slice none 0 0] 33)).at' (show _ = wv.heap.size from by simp); have x41c := x41.cell 0 _ rfl; have x41f := x41.free; have x41l := x41.lt (by simp))); (try (have x41 := (Has.k_below hc4 (by first | (simp; done) | (simp; omega)) ((Has.new wv.drew [.slice none 0 0] 33).old (o := .cells [Value.slice none 0 0].toArray 33) (by simp))).at' (show _ = wv.heap.size from by simp); have x41c := x41.cell 0 _ rfl; have x41f := x41.free; have x41l := x41.lt (by simp))); (try (have x42 := (Has.k_below hc4 (by first | (simp; done) | (simp; omega)) (Has.new (wv.drew.alloc (.cells [Value.slice none 0 0].toArray 33)) [.slice none 0 0] 33)).at' (show _ = wv.heap.size + 1 from by simp); have x42c := x42.cell 0 _ rfl; have x42f := x42.free; have x42l := x42.lt (by simp))))
            | (go_at_call 19; refine (empty_any S V L hD.out _).mono ?_; rintro e w5 ⟨pa, pn, pc, rfl, ho5, hc5⟩; have s5 := hc5.size; (try simp only [World.size_alloc, World.size_drew] at s5); have ho5 := ho5.bt; (try simp only [World.size_alloc, World.size_drew] at ho5); have lC := Nat.lt_of_lt_of_le lA (Nat.le_trans (by first | exact Nat.le_refl _ | (simp; done) | (simp; omega)) hc5.size); have lD := Nat.lt_of_lt_of_le lB (Nat.le_trans (by first | exact Nat.le_refl _ | (simp; done) | (simp; omega)) hc5.size); (try (have y51 := Has.k_below hc5 x41l x41; have y51c := y51.cell 0 _ rfl; have y51f := y51.free; have y51l := y51.lt (by simp))); (try (have y51 := Has.k_below hc5 (by first | omega | (simp; omega)) (x41.old (o := .cells [Value.slice none 0 0].toArray 33) x41l); have y51c := y51.cell 0 _ rfl; have y51f := y51.free; have y51l := y51.lt (by simp))); (try (have y52 := Has.k_below hc5 x42l x42; have y52c := y52.cell 0 _ rfl; have y52f := y52.free; have y52l := y52.lt (by simp))); (try (have y52 := Has.k_below hc5 (by first | omega | (simp; omega)) (x42.old (o := .cells [Value.slice none 0 0].toArray 33) x42l); have y52c := y52.cell 0 _ rfl; have y52f := y52.free; have y52l := y52.lt (by simp))); (try (have y53 := (Has.k_below hc5 (by first | (simp; done) | (simp; omega)) (Has.new w4 [.slice none 0 0] 33)).at' (show _ = w4.heap.size from by simp); have y53c := y53.cell 0 _ rfl; have y53f := y53.free; have y53l := y53.lt (by simp))); (try (have y53 := (Has.k_below hc5 (by first | (simp; done) | (simp; omega)) ((Has.new w4 [.slice none 0 0] 33).old (o := .cells [Value.slice none 0 0].toArray 33) (by simp))).at' (show _ = w4.heap.size from by simp); have y53c := y53.cell 0 _ rfl; have y53f := y53.free; have y53l := y53.lt (by simp))); (try (have y54 := (Has.k_below hc5 (by first | (simp; done) | (simp; omega)) (Has.new (w4.alloc (.cells [Value.slice none 0 0].toArray 33)) [.slice none 0 0] 33)).at' (show _ = w4.heap.size + 1 from by simp); have y54c := y54.cell 0 _ rfl; have y54f := y54.free; have y54l := y54.lt (by simp)))))
        all_goals
          clear c0 c1 c2 d0 d1 d2
          go_wp2_with fail
          go_meet
          refine ⟨_, _, oa, pa, on, oc, pn, pc, ⟨rfl, rfl, ?_, ?_, ?_, ?_, ?_, ?_, ?_, ?_⟩⟩
          · repeat (first | (with_reducible refine Has.k_new (by first | (simp; done) | rfl)) | (with_reducible refine Has.k_set0 ?_) | (with_reducible refine Has.k_set (by omega) ?_) | (with_reducible refine Has.old ?_ (by first | omega | (simp; done) | (simp; omega))) | (with_reducible exact y51) | (with_reducible exact y52) | (with_reducible exact y53) | (with_reducible exact y54))
          · repeat (first | (with_reducible refine Has.k_new (by first | (simp; done) | rfl)) | (with_reducible refine Has.k_set0 ?_) | (with_reducible refine Has.k_set (by omega) ?_) | (with_reducible refine Has.old ?_ (by first | omega | (simp; done) | (simp; omega))) | (with_reducible exact y51) | (with_reducible exact y52) | (with_reducible exact y53) | (with_reducible exact y54))
          · omega
          · omega
          · omega
          · apply OMat.offl
            · repeat (first | (with_reducible exact ho4) | (with_reducible refine OMat.k_alloc ?_) | (with_reducible refine OMat.k_set ?_ ?_) | (with_reducible refine OMat.k_below hc5 ?_))
              all_goals exact (fun h => by have := h.1; have := h.2; omega)
            · exact off_pair (by omega) (by omega)
          · apply OMat.offl
            · repeat (first | (with_reducible exact ho5) | (with_reducible refine OMat.k_alloc ?_) | (with_reducible refine OMat.k_set ?_ ?_))
              all_goals exact (fun h => by have := h.1; have := h.2; omega)
            · exact off_pair (by omega) (by omega)
          · repeat (first | (with_reducible exact Chg.refl _) | (with_reducible refine Chg.alloc ?_ _) | (with_reducible refine Chg.drew ?_) | (with_reducible refine Chg.k_set (by omega) ?_) | (with_reducible refine Chg.k_tr hc5 ?_) | (with_reducible refine Chg.k_tr hc4 ?_))
    case rest =>
    obtain ⟨bx, by_, xa, ya, xn, xc, yn, yc, h⟩ := hcut
    have hvs := HVS.out
    have e7 := h.e7; have e8 := h.e8
    subst e7 e8
    have b1 : cd < bx := by have := h.lx; omega
    have b2 : cd < by_ := by have := h.ly; omega
    have b3 := h.ne
    have TW := Lib.hid (show Gr w w.heap.size cd bx by_ S W V L wc xa ya xn xc yn yc _ _ from ⟨h.chg.has X3.out lx id, h.chg.has X4.out lx4 id, h.hx, h.hy, h.mx, h.my, valid_empty S W, valid_empty S V, CW.out.trans h.chg (fun _ _ h => h.elim)⟩)
    have GR := Lib.hid (show Grown S W (List.replicate S (List.replicate W (-1))) (List.replicate S (List.replicate V (-1))) from by rw [HV.out]; exact grown_empty S W)
    clear h X3 X4 CW c0 c1 c2 d0 d1 d2 lx lx4 HVS hvs
    go_wp2
    go_loopw [13] (fun i wr => ∃ (k : Nat) (xa ya : Option Addr) (xn xc yn yc : Nat) (ss tt : List (List Int)), k ≤ len3 ∧ i = .int .i64 k ∧ Gr w w.heap.size cd bx by_ S W V L wr xa ya xn xc yn yc ss tt ∧ Grown S W ss tt) (fun i _ => len3 - (intOf i).toNat)
    case atStart => exact ⟨0, _, _, _, _, _, _, _, _, Nat.zero_le _, rfl, TW.out, GR.out⟩
    case round =>
      clear TW GR
      obtain ⟨k, xa, ya, xn, xc, yn, yc, ss, tt, hk, rfl, tw, gr⟩ := hrel
      have TW := Lib.hid tw; have GR := Lib.hid gr; clear tw gr
      by_cases hlt : k < len3
      · obtain ⟨b, o, z, rfl, hz, hcz0, hz0, hz1, _, hbw⟩ := Bytes.get HB1.out hlt
        have q0 : 0 ≤ z % 60 := Int.emod_nonneg _ (by omega)
        have q1 : z % 60 < 60 := Int.emod_lt_of_pos _ (by omega)
        have q2 : z.tmod 60 = z % 60 := Int.tmod_eq_emod_of_nonneg hz0
        have q3 : IntKind.i64.wrap z = z := IntWalk.i64_in _ (by omega)
        have q4 : IntKind.i64.wrap (z % 60) = z % 60 := IntWalk.i64_in _ (by omega)
        obtain ⟨gs, gh⟩ := grown_step (L := L) g1 g3 TW.out.vx (HV.out ▸ TW.out.vy) (z % 60) GR.out
        have vu := tch_valid hC.out TW.out.vx q0 (show z % 60 ≤ 1048576 by omega)
        have vv := tch_valid hD.out TW.out.vy q0 (show z % 60 ≤ 1048576 by omega)
        have t1 := fun w r => touch_ok S W L hC.out (Off [bx, by_]) xa xn xc ss w r TW.out.vx (z % 60) q0 (by omega)
        have t2 := fun w r => touch_ok S V L hD.out (Off [bx, by_]) ya yn yc tt w r TW.out.vy (z % 60) q0 (by omega)
        obtain ⟨uu, huu⟩ : ∃ uu, uu = tch S L ss (z % 60) := ⟨_, rfl⟩
        obtain ⟨vvv, hvv⟩ : ∃ vvv, vvv = tch S L tt (z % 60) := ⟨_, rfl⟩
        obtain ⟨hit, hhit⟩ : ∃ hit, hit = thit S L ss (z % 60) := ⟨_, rfl⟩
        obtain ⟨his, hhis⟩ : ∃ his, his = thit S L tt (z % 60) := ⟨_, rfl⟩
        rw [← huu] at t1 gs vu; rw [← hvv] at t2 gs vv; rw [← hhit] at t1 gh; rw [← hhis] at t2 gh
        have T1 := Lib.hid t1; have T2 := Lib.hid t2; have GS := Lib.hid gs; have GH := Lib.hid gh; have VU := Lib.hid vu; have VV := Lib.hid vv
        have hcz := TW.out.chg.cell (fun h => h) hcz0
        have LB := Nat.lt_of_lt_of_le hbw TW.out.chg.size
        clear t1 t2 gs gh vu vv huu hvv hhit hhis hz hcz0 hbw GR
        have c0 := TW.out.hc.cell 0 _ rfl; have c1 := TW.out.hc.cell 1 _ rfl; have c2 := TW.out.hc.cell 2 _ rfl; have x0 := TW.out.hx.cell 0 _ rfl
        have LX := TW.out.hx.lt (by simp); have LC := TW.out.hc.lt (by simp); have LY := TW.out.hy.lt (by simp); have LD := TW.out.hd.lt (by simp)
        go_upto_region 10 with fail
        obtain ⟨wu, hwu⟩ : ∃ wu : World, wu = wr := ⟨_, rfl⟩
        rw [← hwu] at TW c0 c1 c2 x0 LX LC LY LD LB hcz ⊢
        clear hwu
        go_cut [14, 15, 16] (fun s14 s15 s16 wx => ∃ g ua un uc, s14 = .pointer (some ⟨g, 0, none⟩) ∧ s15 = .bool hit ∧ s16 = .int .i64 0 ∧ wu.heap.size ≤ g ∧ Has wx g [.slice ua un uc] ∧ Mat (Off [bx, by_]) wx ua un uc uu ∧ Chg Non wu wx)
        case first =>
          as_aux_lemma =>
            go_region_held3 (fun w' => w'.cell? ⟨w.heap.size, 0, none⟩ = some (.int .i64 S) ∧ w'.cell? ⟨w.heap.size, 1, none⟩ = some (.int .i64 W) ∧ w'.cell? ⟨w.heap.size, 2, none⟩ = some (.int .i64 L) ∧ w'.cell? ⟨bx, 0, none⟩ = some (.slice xa xn xc) ∧ w'.cell? ⟨b, o + k, none⟩ = some (.int .u8 z)) (((try dsimp only); (try go_split_ands); (repeat' apply And.intro); all_goals (repeat (first | assumption | (refine cell_later hb8 ?_) | (refine cell_alloc (by first | assumption | omega) ?_) | (refine cell_set (by omega) ?_) | (refine cell_drew ?_)))))
              (first
                | (go_at_call 16; refine (T1.out _ (by first | exact TW.out.mx.below ((Below.refl _ _).drew) | exact TW.out.mx.below (((Below.refl _ _).drew).alloc (Nat.le_refl _) _))).mono ?_; rintro e w8 ⟨ua, un, uc, rfl, ho8, hb8⟩; have l8 := Nat.lt_of_lt_of_le LX (Nat.le_trans (by first | exact Nat.le_refl _ | (simp; done)) hb8.size); have m8 := Nat.lt_of_lt_of_le LC (Nat.le_trans (by first | exact Nat.le_refl _ | (simp; done)) hb8.size); have p8 := Nat.lt_of_lt_of_le LB (Nat.le_trans (by first | exact Nat.le_refl _ | (simp; done)) hb8.size); try (have x8 := ((Has.new wu.drew [.slice none 0 0] 33).below hb8 (by simp)).at' (show _ = wu.heap.size from rfl); have e8 := x8.cell 0 _ rfl; have f8 := x8.free; have n8 := x8.lt (by simp))))
            all_goals
              go_wp2_with fail
              go_meet
              first
                | exact ⟨w8.heap.size, ua, un, uc, rfl, rfl, rfl, hb8.size, Has.new w8 _ _, (mat_off ho8 (lt_pair LX LY)).below ((Below.refl _ _).alloc (Nat.le_refl _) _), ((Chg.refl wu).drew.tr hb8).alloc _⟩
                | exact ⟨wu.heap.size, ua, un, uc, rfl, rfl, rfl, Nat.le_refl _, x8.set0 _, mat_off (OMat.k_set ho8 (fun h => by unfold Ge at h; simp at h; omega)) (lt_pair (by simp; omega) (by simp; omega)), (((Chg.refl wu).drew.alloc _).tr hb8).setCell (fun h => by simp at h) _⟩
        case rest =>
        obtain ⟨g, ua, un, uc, rfl, rfl, rfl, hgl, hg, mu, hcc⟩ := hcut
        have HG := Lib.hid hg; have MU := Lib.hid mu
        have TA := Lib.hid (TW.out.non hcc)
        have hcz2 := hcc.cell (fun h => h) hcz
        have lb := Nat.lt_of_lt_of_le LB hcc.size
        have hgg : bx < g ∧ by_ < g := ⟨by omega, by omega⟩
        clear c0 c1 c2 x0 LX LC LY LD LB hcz hg mu hcc T1 TW hgl
        obtain ⟨wu, rfl⟩ : ∃ wu : World, wu = wc := ⟨_, rfl⟩
        have c0 := TA.out.hd.cell 0 _ rfl; have c1 := TA.out.hd.cell 1 _ rfl; have c2 := TA.out.hd.cell 2 _ rfl; have x0 := TA.out.hy.cell 0 _ rfl
        have LX := TA.out.hx.lt (by simp); have LC := TA.out.hd.lt (by simp); have LY := TA.out.hy.lt (by simp); have LG := HG.out.lt (by simp)
        go_upto_region 11 with fail
        go_cut [17, 18, 19] (fun s17 s18 s19 wx => ∃ q va vn vc, s17 = .pointer (some ⟨q, 0, none⟩) ∧ s18 = .bool his ∧ s19 = .int .i64 0 ∧ wu.heap.size ≤ q ∧ Has wx q [.slice va vn vc] ∧ Mat (Off [bx, by_]) wx va vn vc vvv ∧ Chg Non wu wx)
        case first =>
          as_aux_lemma =>
            go_region_held3 (fun w' => w'.cell? ⟨cd, 0, none⟩ = some (.int .i64 S) ∧ w'.cell? ⟨cd, 1, none⟩ = some (.int .i64 V) ∧ w'.cell? ⟨cd, 2, none⟩ = some (.int .i64 L) ∧ w'.cell? ⟨by_, 0, none⟩ = some (.slice ya yn yc) ∧ w'.cell? ⟨b, o + k, none⟩ = some (.int .u8 z)) (((try dsimp only); (try go_split_ands); (repeat' apply And.intro); all_goals (repeat (first | assumption | (refine cell_later hb8 ?_) | (refine cell_alloc (by first | assumption | omega) ?_) | (refine cell_set (by omega) ?_) | (refine cell_drew ?_)))))
              (first
                | (go_at_call 16; refine (T2.out _ (by first | exact TA.out.my.below ((Below.refl _ _).drew) | exact TA.out.my.below (((Below.refl _ _).drew).alloc (Nat.le_refl _) _))).mono ?_; rintro e w8 ⟨va, vn, vc, rfl, ho8, hb8⟩; have l8 := Nat.lt_of_lt_of_le LY (Nat.le_trans (by first | exact Nat.le_refl _ | (simp; done)) hb8.size); have m8 := Nat.lt_of_lt_of_le LC (Nat.le_trans (by first | exact Nat.le_refl _ | (simp; done)) hb8.size); have p8 := Nat.lt_of_lt_of_le lb (Nat.le_trans (by first | exact Nat.le_refl _ | (simp; done)) hb8.size); try (have x8 := ((Has.new wu.drew [.slice none 0 0] 33).below hb8 (by simp)).at' (show _ = wu.heap.size from rfl); have e8 := x8.cell 0 _ rfl; have f8 := x8.free; have n8 := x8.lt (by simp))))
            all_goals
              go_wp2_with fail
              go_meet
              first
                | exact ⟨w8.heap.size, va, vn, vc, rfl, rfl, rfl, hb8.size, Has.new w8 _ _, (mat_off ho8 (lt_pair LX LY)).below ((Below.refl _ _).alloc (Nat.le_refl _) _), ((Chg.refl wu).drew.tr hb8).alloc _⟩
                | exact ⟨wu.heap.size, va, vn, vc, rfl, rfl, rfl, Nat.le_refl _, x8.set0 _, mat_off (OMat.k_set ho8 (fun h => by unfold Ge at h; simp at h; omega)) (lt_pair (by simp; omega) (by simp; omega)), (((Chg.refl wu).drew.alloc _).tr hb8).setCell (fun h => by simp at h) _⟩
        case rest =>
        obtain ⟨q, va, vn, vc, rfl, rfl, rfl, hql, hq, mv, hcc⟩ := hcut
        have HQ := Lib.hid hq; have MV := Lib.hid mv
        have TB := Lib.hid (TA.out.non hcc); have HG2 := Lib.hid (hcc.has HG.out LG id); have MU2 := Lib.hid (MU.out.chg hcc (fun _ _ h => h))
        have hqq : bx < q ∧ by_ < q ∧ g < q := ⟨by omega, by omega, by omega⟩
        clear c0 c1 c2 x0 LX LC LY LG hcz2 lb hq mv hcc T2 TA HG MU hql
        obtain ⟨wt, rfl⟩ : ∃ wt : World, wt = wc := ⟨_, rfl⟩
        have ul : un = S := by have := MU2.out.hlen; have := VU.out.1; omega
        have vl : vn = S := by have := MV.out.hlen; have := VV.out.1; omega
        subst ul
        subst vl
        have n1 : ((vn : Int) != (vn : Int)) = false := by simp
        have c0 := TB.out.hc.cell 0 _ rfl; have x0 := HG2.out.cell 0 _ rfl; have y0 := HQ.out.cell 0 _ rfl
        go_upto_region 12 with fail
        go_cut [108] (fun s108 wx => s108 = .bool false ∧ wt = wx)
        case first =>
          cases hit with
          | false =>
            go_wp2
            go_meet
            exact ⟨rfl, rfl⟩
          | true =>
            obtain rfl : his = true := GH.out rfl
            go_wp2
            go_meet
            exact ⟨rfl, rfl⟩
        case rest =>
        obtain ⟨rfl, rfl⟩ := hcut
        have f1 := TB.out.hx.cell 0 _ rfl; have f2 := TB.out.hx.free; have f3 := TB.out.hy.cell 0 _ rfl; have f4 := TB.out.hy.free
        have LX := TB.out.hx.lt (by simp); have LY := TB.out.hy.lt (by simp)
        go_upto_region 14 with fail
        go_cut [20] (fun s20 wx => Gr w w.heap.size cd bx by_ vn W V L wx ua va vn uc vn vc uu vvv)
        case first =>
          as_aux_lemma =>
            go_region_held3 (fun w' => w'.cell? ⟨g, 0, none⟩ = some (.slice ua vn uc) ∧ w'.cell? ⟨q, 0, none⟩ = some (.slice va vn vc)) (((try dsimp only); (try go_split_ands); (repeat' apply And.intro); all_goals (repeat (first | assumption | (refine cell_set (by omega) ?_) | (refine cell_drew ?_)))))
              (fail)
            all_goals
              go_wp2_with fail
              go_meet
              have t0 := TB.out.non ((Chg.refl wt).drew)
              have mu0 := MU2.out.below ((Below.refl wt.heap.size wt).drew)
              have mv0 := MV.out.below ((Below.refl wt.heap.size wt).drew)
              first
                | exact (t0.putx mu0 VU.out (by omega) b3 (by omega) (by omega)).puty (mat_store (by simp) mv0) VV.out (by omega) b3 (by omega) (by omega)
                | exact (t0.puty mv0 VV.out (by omega) b3 (by omega) (by omega)).putx (mat_store (by simp) mu0) VU.out (by omega) b3 (by omega) (by omega)
        case rest =>
        have GW := Lib.hid hcut
        obtain ⟨wd, hwd⟩ : ∃ wd : World, wd = wc := ⟨_, rfl⟩
        rw [← hwd] at GW ⊢
        clear hwd c0 x0 y0 f1 f2 f3 f4 LX LY TB MU2 MV HG2 HQ
        have c0 := GW.out.hc.cell 0 _ rfl
        go_wp2
        clear c0
        go_loopw [20] (fun i wr => ∃ s : Nat, s ≤ vn ∧ i = .int .i64 s ∧ Chg Non wd wr) (fun i _ => vn - (intOf i).toNat)
        case atStart => exact ⟨0, Nat.zero_le _, rfl, Chg.refl _⟩
        case round =>
          obtain ⟨s, hs, rfl, nn⟩ := hrel
          obtain ⟨wo, rfl⟩ : ∃ wo : World, wo = wr := ⟨_, rfl⟩
          have NN := Lib.hid nn; clear nn
          have c0 := NN.out.cell id (GW.out.hc.cell 0 _ rfl); have c1 := NN.out.cell id (GW.out.hc.cell 1 _ rfl); have d1 := NN.out.cell id (GW.out.hd.cell 1 _ rfl); have x0 := NN.out.cell id (GW.out.hx.cell 0 _ rfl); have y0 := NN.out.cell id (GW.out.hy.cell 0 _ rfl)
          by_cases hsl : s < vn
          · obtain ⟨e1, o1, x, ra, rl, rc, rfl, hx, hcx0, hrx, _, hbx⟩ := Rows.get GW.out.mx hsl
            obtain ⟨e2, o2, y, sa, sl, sc, rfl, hy, hcy0, hry, _, hby⟩ := Rows.get GW.out.my hsl
            have hxW : x.length = W := by have := (VU.out.2 s x hx).1; omega
            have hyV : y.length = V := by have := (VV.out.2 s y hy).1; omega
            have e1' : W = rl := by rw [← hxW]; exact hrx.hlen
            have e2' : V = sl := by rw [← hyV]; exact hry.hlen
            subst e1' e2'
            have hxy : y.take W = x := by have := GS.out s hsl; rw [List.getD_eq_getElem?_getD, List.getD_eq_getElem?_getD, hx, hy] at this; exact this
            have hcx := NN.out.cell id hcx0; have hcy := NN.out.cell id hcy0
            have HCX := Lib.hid hcx0; have HCY := Lib.hid hcy0; have HXY := Lib.hid hxy; have RX := Lib.hid hrx; have RY := Lib.hid hry
            have n1 : ((W : Int) != (W : Int)) = false := by simp
            have n2 : ((V : Int) != (V : Int)) = false := by simp
            have n3 : (0 : Int) ≤ (s : Int) := by omega
            have n4 : (s : Int) < (vn : Int) := by omega
            clear hx hy hcx0 hcy0 hrx hry hbx hby hxW hyV hxy
            go_wp2
            go_quiet (fail)
            have N2 := Lib.hid (NN.out.drewN nq)
            clear c0 c1 d1 x0 y0 hcx hcy NN
            go_wp2
            go_loopw [21] (fun i wr => ∃ m : Nat, m ≤ W ∧ i = .int .i64 m ∧ Chg Non wd wr) (fun i _ => W - (intOf i).toNat)
            case atStart => exact ⟨0, Nat.zero_le _, rfl, N2.out⟩
            case round =>
              obtain ⟨m, hm, rfl, nn⟩ := hrel
              obtain ⟨wo, rfl⟩ : ∃ wo : World, wo = wr := ⟨_, rfl⟩
              have N3 := Lib.hid nn; clear nn
              have c1 := N3.out.cell id (GW.out.hc.cell 1 _ rfl); have x0 := N3.out.cell id (GW.out.hx.cell 0 _ rfl); have y0 := N3.out.cell id (GW.out.hy.cell 0 _ rfl)
              have hcx := N3.out.cell id HCX.out; have hcy := N3.out.cell id HCY.out
              by_cases hml : m < W
              · obtain ⟨e3, o3, z1, rfl, hz1, hcz1, _, _, _, hb3⟩ := Ints.get RX.out hml
                obtain ⟨e4, o4, z2, rfl, hz2, hcz2, _, _, _, hb4⟩ := Ints.get RY.out (show m < V by have := HV.out; omega)
                obtain rfl : z1 = z2 := by rw [← HXY.out, List.getElem?_take, if_pos hml, hz2] at hz1; cases hz1; rfl
                have hzz : (z1 != z1) = false := by simp
                have d3 := N3.out.cell id hcz1; have d4 := N3.out.cell id hcz2
                have n5 : (0 : Int) ≤ (m : Int) := by omega
                have n6 : (m : Int) < (W : Int) := by omega
                have n7 : (m : Int) < (V : Int) := by have := HV.out; omega
                clear hz1 hz2 hcz1 hcz2 hb3 hb4
                go_wp2
                go_quiet (fail)
                have N4 := Lib.hid (N3.out.drewN nq)
                clear c1 x0 y0 hcx hcy d3 d4
                go_wp2
                go_roundw
                case rel => exact ⟨m + 1, by omega, by go_num, N4.out⟩
                case measure => simp [intOf]; omega
              · clear x0 y0 hcx hcy
                go_wp2
                go_roundw
                case rel => exact ⟨s + 1, by omega, by go_num, N3.out⟩
                case measure => simp [intOf]; omega
          · clear x0 y0 c1 d1
            go_wp2
            go_roundw
            case rel => exact ⟨k + 1, _, _, _, _, _, _, _, _, by omega, by go_num, GW.out.non NN.out, GS.out⟩
            case measure => simp [intOf]; omega
      · clear hk
        go_wp2_with fail
        refine (awake_any _).mono ?_
        rintro e wz ⟨rfl, hbz⟩
        go_wp2
        go_ret
        exact ⟨rfl, (TW.out.chg.tr hbz).below (fun j hj h => h) (Nat.le_refl _)⟩
  · go_enter Try.func6, Try.ntmps6
    go_wp2_with fail
    refine (awake_any _).mono ?_
    rintro e w9 ⟨rfl, hb9⟩
    go_wp2
    go_ret
    exact ⟨rfl, hb9⟩
end Go.Proofs.Ytdkpfifnegndmaa
