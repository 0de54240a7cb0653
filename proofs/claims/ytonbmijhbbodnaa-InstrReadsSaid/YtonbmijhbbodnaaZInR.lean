/-
  timeboundlaw19.agree: true.
  timeboundlaw19.awake: true.
-/
import Derived.Deep.RegionHeld3
import Derived.Test.YtonbmijhbbodnaaZInE
import Derived.Test.YtonbmijhbbodnaaZInJ
import Derived.Test.YtonbmijhbbodnaaInK
import Derived.Test.YtonbmijhbbodnaaInL
import Derived.Test.YtonbmijhbbodnaaInO
import Derived.Test.YtonbmijhbbodnaaZInB
namespace Go.Proofs.Ytonbmijhbbodnaa
open Go.RowKit

theorem below_go {w w1 w2 : World} (h : Below w.heap.size w w1) (k : Below w1.heap.size w1 w2) : Below w.heap.size w w2 := h.trans (k.mono h.size)
def TrueRet (w : World) (e : Ending) (w' : World) : Prop := e = .returned (.bool true) ∧ Below w.heap.size w w'
theorem encB_byt (l : List Ins) : Byt (encB l) := by
  unfold encB
  split
  · intro z hz; simp at hz
  · split
    · intro z hz; simp at hz
    · intro z hz
      obtain ⟨x, _, hx⟩ := List.mem_flatMap.1 hz
      exact enc8_byt x z hx
theorem encB_length (l : List Ins) : (encB l).length ≤ 8192 := by
  unfold encB
  split
  · simp
  · split
    · simp
    · rw [encs_length]; omega
set_option maxRecDepth 100000 in
set_option maxHeartbeats 8000000 in
theorem agree_any (K K2 : Nat → Prop) (a : Option Addr) (n c : Nat) (l : List Ins) (b : Option Addr) (m d : Nat) (bs : List Int) (w : World) (r : InsL K w a n c l) (q : Bytes K2 w b m d bs) (hby : Byt bs) :
    Calls Try.prog 22 #[.slice a n c, .slice b m d] w (TrueRet w) := by
  have R := Lib.hid r; have Q := Lib.hid q; have HB := Lib.hid hby
  have hsz := r.hsz
  clear r q hby
  go_enter Try.func22, Try.ntmps22
  go_wp2_with fail
  refine (encode_any K a n c l w R.out).mono ?_
  rintro e w1 ⟨v1, rfl, o1, b1⟩
  obtain ⟨a1, c1, rfl⟩ := flat_form o1
  have O1 := Lib.hid o1; have B1 := Lib.hid b1
  clear o1 b1
  go_wp2_with fail
  refine (rencode_any K a n c l w1 (Row.below RIns.stays R.out B1.out)).mono ?_
  rintro e w2 ⟨v2, rfl, o2, b2⟩
  obtain ⟨a2, c2, rfl⟩ := flat_form o2
  have O2 := Lib.hid o2; have B2 := Lib.hid (B1.out.trans (b2.mono B1.out.size)); have P1 := Lib.hid (flat_below O1.out b2)
  clear o2 b2 O1
  go_wp2_with fail
  refine (decode_any K2 b m d bs w2 (Row.below RU8.stays Q.out B2.out) HB.out).mono ?_
  rintro e w3 ⟨v3, rfl, o3, b3⟩
  obtain ⟨a3, c3, rfl⟩ := flat_form o3
  have O3 := Lib.hid o3; have B3 := Lib.hid (B2.out.trans (b3.mono B2.out.size)); have P2 := Lib.hid (flat_below P1.out b3); have P3 := Lib.hid (flat_below O2.out b3)
  clear o3 b3 O2 P1
  go_wp2_with fail
  refine (rdecode_any K2 b m d bs w3 (Row.below RU8.stays Q.out B3.out) HB.out).mono ?_
  rintro e w4 ⟨v4, rfl, o4, b4⟩
  obtain ⟨a4, c4, rfl⟩ := flat_form o4
  have O4 := Lib.hid o4; have B4 := Lib.hid (B3.out.trans (b4.mono B3.out.size)); have P4 := Lib.hid (flat_below P2.out b4); have P5 := Lib.hid (flat_below P3.out b4); have P6 := Lib.hid (flat_below O3.out b4)
  clear o4 b4 O3 P2 P3
  have X1 := conv_bytes (flat_bytes (K := fun _ => True) P4.out (encB_byt l) (by have := encB_length l; omega) (fun _ _ => trivial))
  have X2 := conv_bytes (flat_bytes (K := fun _ => True) P5.out (encB_byt l) (by have := encB_length l; omega) (fun _ _ => trivial))
  have I1 := Lib.hid (flat_ins (K := fun _ => True) P6.out (decO_in HB.out) (by have := decO_length bs; omega) (fun _ _ => trivial))
  have I2 := Lib.hid (flat_ins (K := fun _ => True) O4.out (decO_in HB.out) (by have := decO_length bs; omega) (fun _ _ => trivial))
  go_wp2_with fail
  refine (sameall_eq _ _ _ _ _ _ _ _ _ _ I1.out I2.out).mono ?_
  rintro e w5 ⟨rfl, b5⟩
  have B5 := Lib.hid (B4.out.trans (b5.mono B4.out.size))
  clear b5 X1 X2 I1 I2 O4 P4 P5 P6
  go_wp2
  go_loopw [13] (fun i wr => ∃ k : Nat, k ≤ n ∧ i = .int .i64 k ∧ Below w.heap.size w wr) (fun i _ => n - (intOf i).toNat)
  case atStart => exact ⟨0, Nat.zero_le _, rfl, B5.out⟩
  case round =>
    obtain ⟨k, hk, rfl, hbr⟩ := hrel
    have BR := Lib.hid hbr
    clear hbr
    by_cases hlt : k < n
    · obtain ⟨bb, o, x, rfl, hx, _, _, lb, c0, c1, c2, c3, c4, c5⟩ := InsL.get R.out hlt
      have d0 := (BR.out.cell (p := ⟨bb, o + k * 6, none⟩) lb).trans c0
      have d1 := (BR.out.cell (p := ⟨bb, o + k * 6 + 1, none⟩) lb).trans c1
      have d2 := (BR.out.cell (p := ⟨bb, o + k * 6 + 2, none⟩) lb).trans c2
      have d3 := (BR.out.cell (p := ⟨bb, o + k * 6 + 3, none⟩) lb).trans c3
      have d4 := (BR.out.cell (p := ⟨bb, o + k * 6 + 4, none⟩) lb).trans c4
      have d5 := (BR.out.cell (p := ⟨bb, o + k * 6 + 5, none⟩) lb).trans c5
      clear c0 c1 c2 c3 c4 c5
      go_wp2
      go_region_held3 (fun w' => w'.cell? ⟨bb, o + k * 6, none⟩ = some (.int .i64 x.k) ∧ w'.cell? ⟨bb, o + k * 6 + 1, none⟩ = some (.int .i64 x.a) ∧ w'.cell? ⟨bb, o + k * 6 + 2, none⟩ = some (.int .i64 x.b) ∧ w'.cell? ⟨bb, o + k * 6 + 3, none⟩ = some (.int .i64 x.c) ∧ w'.cell? ⟨bb, o + k * 6 + 4, none⟩ = some (.int .i64 x.op) ∧ w'.cell? ⟨bb, o + k * 6 + 5, none⟩ = some (.int .i64 x.imm))
        (((try dsimp only); (try go_split_ands); (repeat' apply And.intro); all_goals (repeat (first | with_reducible assumption | (with_reducible refine cell_later hb1 ?_) | (with_reducible refine cell_later hb2 ?_) | (with_reducible refine cell_later hb3 ?_) | (with_reducible refine cell_later hb4 ?_) | (with_reducible refine cell_later hb5 ?_) | (with_reducible refine cell_later hb6 ?_) | (with_reducible refine cell_later hb7 ?_) | (with_reducible refine cell_drew ?_)))))
        (first
          | (go_at_call 48; refine (check_any x _).mono ?_; rintro e u1 ⟨rfl, hb1⟩)
          | (go_at_call 45; refine (rcheck_any x _).mono ?_; rintro e u2 ⟨rfl, hb2⟩)
          | (go_at_call 30; refine (writes_any x _).mono ?_; rintro e u3 ⟨rfl, hb3⟩)
          | (go_at_call 49; refine (rwrites_any x _).mono ?_; rintro e u4 ⟨rfl, hb4⟩)
          | (go_at_call 28; refine (reads_any x _).mono ?_; rintro e u5 ⟨ra, rn, rc, rfl, hr5, hb5⟩)
          | (go_at_call 50; refine (rreads_any x _).mono ?_; rintro e u6 ⟨sa, sn, sc, rfl, hr6, hb6⟩; have hr5' := Ints.below hr5 hb6)
          | (go_at_call 31; refine (sameints_eq _ _ _ _ _ _ _ _ _ _ hr5' hr6).mono ?_; rintro e u7 ⟨rfl, hb7⟩))
      have C := Lib.hid (below_go (below_go (below_go (below_go (below_go (below_go (below_go BR.out.drew hb1) hb2) hb3) hb4) hb5) hb6) hb7)
      go_wp2
      go_roundw
      case rel => exact ⟨k + 1, by omega, by go_num, C.out⟩
      case measure => simp [intOf]; omega
    · go_wp2
      go_ret
      exact ⟨rfl, BR.out⟩
end Go.Proofs.Ytonbmijhbbodnaa
namespace Go.Proofs.Ytonbmijhbbodnaa
open Go.RowKit

abbrev X0 : Ins := ⟨1, 3, 0, 0, 0, -1⟩
theorem x0_chk : chkI X0 = 0 := by decide
theorem x0_enc : encE [X0] = 0 ∧ encB [X0] = [1, 48, 0, 0, 255, 255, 255, 255] := by decide
theorem x0_dec : decE [1, 48, 0, 0, 255, 255, 255, 255] = 0 ∧ decO [1, 48, 0, 0, 255, 255, 255, 255] = [X0] := by decide
theorem x0_reads : readsI X0 = [] := by decide
theorem x0_writes : wrI X0 = 3 := by decide
theorem x0_in : X0.In := by constructor <;> (unfold I64; decide)
set_option maxRecDepth 100000 in
set_option maxHeartbeats 8000000 in
theorem awake_any (w : World) : Calls Try.prog 23 #[] w (TrueRet w) := by
  have F0 := Lib.hid (Fm.new (Fm.start Non w) rfl (ICells X0) 50)
  obtain ⟨ws, hws⟩ : ∃ ws, ws = (w.alloc (.cells #[.int .i64 1, .int .i64 3, .int .i64 0, .int .i64 0, .int .i64 0, .int .i64 (-1)] 50)).alloc (.cells #[.int .i64 1, .int .i64 3, .int .i64 0, .int .i64 0, .int .i64 0, .int .i64 (-1)] 50) := ⟨_, rfl⟩
  have L0 := Lib.hid (show InsL (Ge (w.heap.size + 1)) ws (some ⟨w.heap.size + 1, 0, none⟩) 1 1 [X0] by
    have h := ins_new (w.alloc (.cells (ICells X0).toArray 50)) [X0] 1 50 rfl (by omega) (fun x hx => by simp at hx; subst hx; exact x0_in)
    rw [World.size_alloc] at h
    rw [hws]; exact h)
  have G0 := Lib.hid (show Fm Non w ws [ICells X0] by rw [hws]; exact F0.out.more _)
  go_enter Try.func23, Try.ntmps23
  go_wp2_with fail
  rw [← hws]
  clear hws F0
  refine (encode_any _ _ 1 1 [X0] _ L0.out).mono ?_
  rintro e w1 ⟨v1, rfl, o1, b1⟩
  rw [x0_enc.1]
  rw [x0_enc.2] at o1
  obtain ⟨a1, c1, rfl⟩ := flat_form o1
  have F1 := Lib.hid (Fm.call b1 G0.out)
  have B1 := Lib.hid (flat_bytes (K := fun _ => True) o1 (fun z hz => by simp at hz; omega) (by decide) (fun _ _ => trivial))
  have e8 : ([1, 48, 0, 0, 255, 255, 255, 255] : List Int).length = 8 := rfl
  rw [e8] at B1 ⊢
  clear b1 o1 L0
  go_wp2_with fail
  refine (decode_any _ _ 8 _ [1, 48, 0, 0, 255, 255, 255, 255] _ B1.out (fun z hz => by simp at hz; omega)).mono ?_
  rintro e w2 ⟨v2, rfl, o2, b2⟩
  rw [x0_dec.1]
  rw [x0_dec.2] at o2
  obtain ⟨a2, c2, rfl⟩ := flat_form o2
  have e1 : ([X0] : List Ins).length = 1 := rfl
  rw [e1] at o2 ⊢
  have F2 := Lib.hid (Fm.call b2 F1.out)
  obtain ⟨bb, o, x, rfl, hx, _, _, lb, d0, d1, d2, d3, d4, d5⟩ := InsL.get (flat_ins (K := fun _ => True) o2 (fun x hx => by simp at hx; subst hx; exact x0_in) (by decide) (fun _ _ => trivial)) (show 0 < 1 by omega)
  simp at hx
  subst hx
  have t0 := F2.out.h0
  have f0 := t0.cell 0 _ rfl; have f1 := t0.cell 1 _ rfl; have f2 := t0.cell 2 _ rfl; have f3 := t0.cell 3 _ rfl; have f4 := t0.cell 4 _ rfl; have f5 := t0.cell 5 _ rfl
  have hE : eqI ⟨1, 3, 0, 0, 0, -1⟩ ⟨1, 3, 0, 0, 0, -1⟩ = true := by decide
  simp only [Nat.zero_mul, Nat.add_zero] at d0 d1 d2 d3 d4 d5
  clear b2 o2 t0 e8 e1
  go_wp2
  go_region_held3 (fun w' => w'.cell? ⟨bb, o, none⟩ = some (.int .i64 1) ∧ w'.cell? ⟨bb, o + 1, none⟩ = some (.int .i64 3) ∧ w'.cell? ⟨bb, o + 2, none⟩ = some (.int .i64 0) ∧ w'.cell? ⟨bb, o + 3, none⟩ = some (.int .i64 0) ∧ w'.cell? ⟨bb, o + 4, none⟩ = some (.int .i64 0) ∧ w'.cell? ⟨bb, o + 5, none⟩ = some (.int .i64 (-1)) ∧ w'.cell? ⟨w.heap.size, 0, none⟩ = some (.int .i64 1) ∧ w'.cell? ⟨w.heap.size, 1, none⟩ = some (.int .i64 3) ∧ w'.cell? ⟨w.heap.size, 2, none⟩ = some (.int .i64 0) ∧ w'.cell? ⟨w.heap.size, 3, none⟩ = some (.int .i64 0) ∧ w'.cell? ⟨w.heap.size, 4, none⟩ = some (.int .i64 0) ∧ w'.cell? ⟨w.heap.size, 5, none⟩ = some (.int .i64 (-1)))
    (((try dsimp only); (try go_split_ands); (repeat' apply And.intro); all_goals (repeat (first | with_reducible assumption | (with_reducible refine cell_later hb1 ?_) | (with_reducible refine cell_later hb2 ?_) | (with_reducible refine cell_later hb3 ?_) | (with_reducible refine cell_drew ?_)))))
    (first
      | (go_at_call 28; refine (reads_any X0 _).mono ?_; rintro e u1 ⟨ra, rn, rc, rfl, hr, hb1⟩; rw [x0_reads] at hr; obtain rfl : rn = 0 := hr.nilK rfl)
      | (go_at_call 30; refine (writes_any X0 _).mono ?_; rintro e u2 ⟨rfl, hb2⟩; rw [x0_writes])
      | (go_at_call 48; refine (check_any X0 _).mono ?_; rintro e u3 ⟨rfl, hb3⟩; rw [x0_chk]))
  have C := Lib.hid (below_go (below_go (below_go F2.out.below.drew hb1) hb2) hb3)
  go_wp2
  go_ret
  exact ⟨rfl, C.out⟩
end Go.Proofs.Ytonbmijhbbodnaa
