/-
  cache.copied: contents in new memory.
-/
import Derived.Test.YtdkpfifnegndmaaCacheC
import Derived.Test.YtdkpfifnegndmaaGrow
namespace Go.Proofs.Ytdkpfifnegndmaa
open Go.RowKit

theorem info_sl : (Try.prog.info? 22).map (fun i => (i.zero, i.size, i.bytes)) = some (some (.slice none 0 0), 1, 24) := by kernel_rfl
theorem make_rows (n : Nat) (h : n ≤ 1000000) (w : World) (kl kc : IntKind) : (Instr.makeSlice 31 (.int kl (n : Int)) (.int kc (n : Int))).run Try.prog w = .ok (.slice (some ⟨w.heap.size, 0, none⟩) n n) (w.alloc (.cells (zeros (.slice none 0 0) n).toArray 22)) := by
  rw [← madeCells_zeros]
  exact run_make_row' 31 22 (.slice none 0 0) 24 Try.underlying31 info_sl rfl kl kc n (by omega) (by omega) w

/-- The cells of a list of rows, of which the first k are made, in blocks from B on. -/
def cRows (B : Nat) (ss : List (List Int)) (k : Nat) : List Value :=
  (List.range ss.length).map fun i => if i < k then .slice (some ⟨B + i, 0, none⟩) (ss.getD i []).length (ss.getD i []).length else .slice none 0 0
theorem cRows_length (B : Nat) (ss : List (List Int)) (k : Nat) : (cRows B ss k).length = ss.length := by simp [cRows]
theorem cRows_get {B : Nat} {ss : List (List Int)} {k i : Nat} {x : List Int} (h : ss[i]? = some x) (hk : i < k) : (cRows B ss k)[i]? = some (.slice (some ⟨B + i, 0, none⟩) x.length x.length) := by
  have hi := (List.getElem?_eq_some_iff.1 h).1
  unfold cRows
  rw [List.getElem?_map, List.getElem?_range hi]
  simp [hk, h]
theorem cRows_zero (B : Nat) (ss : List (List Int)) : cRows B ss 0 = zeros (.slice none 0 0) ss.length := by
  unfold cRows zeros
  apply List.ext_getElem?
  intro i
  by_cases h : i < ss.length <;> simp [h, List.getElem?_replicate]
theorem cRows_succ {B : Nat} {ss : List (List Int)} {k : Nat} {x : List Int} (h : ss[k]? = some x) : (cRows B ss k).set k (.slice (some ⟨B + k, 0, none⟩) x.length x.length) = cRows B ss (k + 1) := by
  have hk := (List.getElem?_eq_some_iff.1 h).1
  apply List.ext_getElem?
  intro i
  rw [List.getElem?_set]
  by_cases hi : i < ss.length
  · unfold cRows
    simp only [List.getElem?_map, List.getElem?_range hi, List.length_map, List.length_range, hk, if_true]
    by_cases e : k = i
    · subst e; simp [h]
    · simp only [e, if_false, Option.map_some]
      by_cases h2 : i < k
      · simp [h2, Nat.lt_succ_of_lt h2]
      · have : ¬ i < k + 1 := by omega
        simp [h2, this]
  · have hne : ¬ k = i := by omega
    simp only [hne, if_false]
    unfold cRows
    rw [List.getElem?_eq_none (by simp; omega), List.getElem?_eq_none (by simp; omega)]

theorem copied_end {w w' : World} {ss : List (List Int)} {B : Nat} (hb : Blk w' B 22 (cRows (B + 2) ss ss.length)) (hB : w.heap.size ≤ B) (hn : ss.length ≤ 1000000) (hs : B + 2 + ss.length ≤ w'.heap.size)
    (hr : ∀ i x, ss[i]? = some x → Blk w' (B + 2 + i) 3 (ivs x) ∧ x.length ≤ 17592186044416 ∧ ∀ z ∈ x, -9223372036854775808 ≤ z ∧ z ≤ 9223372036854775807) :
    OMat w' (fun k => w.heap.size ≤ k) (.slice (some ⟨B, 0, none⟩) ss.length ss.length) ss := by
  refine .inr ⟨B, ss.length, cRows (B + 2) ss ss.length, [], fun i k => k = B + 2 + i, rfl, ⟨by rw [List.append_nil]; exact hb, cRows_length _ _ _, by simp, by omega, by omega, hB, fun i x h => ?_, fun i k hi hk => by subst hk; exact ⟨by omega, by omega, by omega⟩, fun i j k _ _ h1 h2 => by omega⟩⟩
  obtain ⟨h1, h2, h3⟩ := hr i x h
  refine ⟨_, cRows_get h (List.getElem?_eq_some_iff.1 h).1, .inr ⟨B + 2 + i, x.length, ivs x, [], fun _ _ => False, rfl, by rw [List.append_nil]; exact h1, ivs_length x, by simp, by omega, h2, rfl, fun j z hz => ⟨_, ivs_get hz, rfl, h3 z (List.mem_of_getElem? hz)⟩, fun _ _ _ h => h.elim, fun _ _ _ _ _ h => h.elim⟩⟩

set_option maxHeartbeats 1000000 in
theorem copied_any (K : Nat → Prop) (a : Option Addr) (len cap : Nat) (ss : List (List Int)) (w : World) (r : Mat K w a len cap ss) (hn : len ≤ 1000000) :
    Calls Try.prog 29 #[.agg #[.slice a len cap]] w fun e w' => e = .returned (.agg #[.slice (some ⟨w.heap.size + 1 + 1, 0, none⟩) len len]) ∧ OMat w' (fun k => w.heap.size ≤ k) (.slice (some ⟨w.heap.size + 1 + 1, 0, none⟩) len len) ss ∧ Below w.heap.size w w' := by
  have HR := Lib.hid r
  have hlen := r.hlen
  subst hlen
  clear r
  have hm1 := fun w => make_rows ss.length hn w .i64 .i64
  have f0 := Fm.new (Fm.new (Fm.new (Fm.new (Fm.start Non w) rfl [.slice a ss.length cap] 33) (by simp) [.slice none 0 0] 33) (by simp) (zeros (.slice none 0 0) ss.length) 22) (by simp) [.slice (some ⟨w.heap.size + 1 + 1, 0, none⟩) ss.length ss.length] 33
  have b0 := ((Blk.new ((w.alloc (.cells [Value.slice a ss.length cap].toArray 33)).alloc (.cells [Value.slice none 0 0].toArray 33)) (zeros (.slice none 0 0) ss.length) 22).old (.cells [Value.slice (some ⟨w.heap.size + 1 + 1, 0, none⟩) ss.length ss.length].toArray 33))
  have F0 := Lib.hid f0; have B0 := Lib.hid b0; clear f0 b0
  go_enter Try.func29, Try.ntmps29
  go_wp2
  go_loopw [14] (fun i wr => ∃ k : Nat, k ≤ ss.length ∧ i = .int .i64 k ∧ Fm Non w wr [[.slice a ss.length cap], [.slice none 0 0], cRows (w.heap.size + 1 + 1 + 2) ss k, [.slice (some ⟨w.heap.size + 1 + 1, 0, none⟩) ss.length ss.length]] ∧ Blk wr (w.heap.size + 1 + 1) 22 (cRows (w.heap.size + 1 + 1 + 2) ss k) ∧ wr.heap.size = w.heap.size + 1 + 1 + 2 + k ∧
      ∀ (i : Nat) x, i < k → ss[i]? = some x → Blk wr (w.heap.size + 1 + 1 + 2 + i) 3 (ivs x)) (fun i _ => ss.length - (intOf i).toNat)
  case atStart => exact ⟨0, Nat.zero_le _, rfl, by rw [cRows_zero]; exact F0.out, by rw [cRows_zero]; exact B0.out.at' (by simp), by simp, fun i z h => absurd h (Nat.not_lt_zero _)⟩
  case round =>
    obtain ⟨k, hk, rfl, f2, bl, hsz, hno⟩ := hrel
    have HN := Lib.hid hno; clear hno
    have HS := Lib.hid hsz
    have t3 := f2.h3
    have d0 := t3.cell 0 _ rfl; have lt3 := t3.lt (by simp)
    have F2 := Lib.hid f2
    by_cases hlt : k < ss.length
    · obtain ⟨b, o, x, ra, rl, rc, rfl, hx, hcw, hrx, _, hbw⟩ := Rows.get HR.out hlt
      have hcx := (f2.below.cell (p := ⟨b, o + k, none⟩) hbw).trans hcw
      clear f2 hcw
      have HX := Lib.hid hx; clear hx
      have hrl := hrx.hsz; have hrxl := hrx.hlen
      subst hrxl
      have HRX := Lib.hid hrx; clear hrx
      have hm2 := fun w => make_ints x.length hrl w .i64 .i64
      have g0 := bl.cell (show (cRows (w.heap.size + 1 + 1 + 2) ss k)[k]? = some (.slice none 0 0) by unfold cRows; simp [hlt])
      have g1 := bl.free k
      have lt2 := bl.lt
      have BL := Lib.hid bl; clear bl
      have hk0 : (0 : Int) ≤ (k : Int) := by omega
      have hk1 : (k : Int) < (ss.length : Int) := by omega
      clear hsz
      go_wp2
      go_region
      have wb : Blk ((wr.setCell ⟨w.heap.size + 1 + 1, k, none⟩ (.slice (some ⟨wr.heap.size, 0, none⟩) x.length x.length)).alloc (.cells (zeros (.int .i64 0) x.length).toArray 3)).drew wr.heap.size 3 (zeros (.int .i64 0) x.length) :=
        ((Blk.new (wr.setCell ⟨w.heap.size + 1 + 1, k, none⟩ (.slice (some ⟨wr.heap.size, 0, none⟩) x.length x.length)) _ _).at' (World.size_setCell _ _ _)).drew
      have f3 := ((F2.out.set 2 k (cRows (w.heap.size + 1 + 1 + 2) ss k) rfl (by rw [cRows_length]; exact hlt) (.slice (some ⟨wr.heap.size, 0, none⟩) x.length x.length)).more (.cells (zeros (.int .i64 0) x.length).toArray 3)).drew
      have b3 := ((BL.out.set k (.slice (some ⟨wr.heap.size, 0, none⟩) x.length x.length)).old (.cells (zeros (.int .i64 0) x.length).toArray 3)).drew
      have HF3 := Lib.hid f3; have HB3 := Lib.hid b3; have WB := Lib.hid wb; clear f3 b3 wb
      go_wp2_with (refine wpList_copy_laid rfl (.tmp 30) (.tmp 31) 22 22 rfl 3 Try.underlying22 (by kernel_rfl) _ _ _ _ _ _ (by rfl) (by rfl) wr.heap.size 0 (zeros (.int .i64 0) x.length) 3 WB.out (ivs x) ?c2 ?c3 ?c4 ivs_one ?_)
      case c2 => rw [ivs_length]; exact (Nat.min_self _).symm
      case c3 =>
        intro hpos
        rw [ivs_length] at hpos
        obtain ⟨ab, ao, ha, _, _, hs⟩ := (Ints.below HRX.out HF3.out.below).src hpos
        refine ⟨⟨ab, ao, none⟩, ha, fun j v e => ?_⟩
        have := hs j v e
        simpa using this
      case c4 => rw [ivs_length, zeros_length]; omega
      intro w3 hl3
      go_wp2
      go_roundw
      case measure => simp [intOf]; omega
      case rel =>
        have hS := HS.out
        have e1 := cRows_succ (B := w.heap.size + 1 + 1 + 2) HX.out
        rw [← hS] at e1
        have hl := hl3.out
        refine ⟨k + 1, by omega, by go_num, ?_, ?_, by rw [hl.size]; simp; omega, fun i y hi hy => ?_⟩
        · rw [← e1]
          exact HF3.out.chgd hl.chg (fun j hj => .inr (by simp; omega))
        · rw [← e1]
          exact HB3.out.chg hl.chg (by omega)
        · rcases Nat.lt_or_eq_of_le (Nat.le_of_lt_succ hi) with h | rfl
          · exact ((((HN.out i y h hy).other (by simp; omega) _).old _).drew).chg hl.chg (by omega)
          · rw [HX.out] at hy; cases hy
            rw [← hS]
            exact hl.blk.at (splice_all (by rw [zeros_length, ivs_length]))
    · have t1 := f2.h1
      have c0 := t1.cell 0 _ rfl; have cf := t1.free; have lt1 := t1.lt (by simp)
      have hkk : k = ss.length := by omega
      subst hkk
      have BL := Lib.hid bl; clear bl f2
      go_wp2
      refine bodyPost_ret (v := .agg #[.slice (some ⟨w.heap.size + 1 + 1, 0, none⟩) ss.length ss.length]) (by simp [results, Try.results29, go_sem, c0]) rfl ⟨rfl, ?_, (F2.out.set 1 0 [.slice none 0 0] rfl (by simp) _).below⟩
      refine copied_end (BL.out.other (by simp) _) (by omega) hn (by have := HS.out; simp; omega) (fun i x hx => ⟨((HN.out i x (List.getElem?_eq_some_iff.1 hx).1 hx).other (by simp; omega) _), ?_⟩)
      obtain ⟨b, o, _, _, _, ra, rl, rc, _, hrx⟩ := HR.out.row i x hx
      refine ⟨by rw [hrx.hlen]; exact hrx.hsz, fun z hz => ?_⟩
      obtain ⟨j, hj⟩ := List.getElem?_of_mem hz
      obtain ⟨_, _, _, _, _, h⟩ := hrx.row j z hj
      exact h.2
/-- What comes back is new contents. -/
def NewRet (ss : List (List Int)) (w : World) (e : Ending) (w' : World) : Prop :=
  ∃ a n cap, e = .returned (.agg #[.slice a n cap]) ∧ OMat w' (Ge w.heap.size) (.slice a n cap) ss ∧ Below w.heap.size w w'
theorem copied_new (K : Nat → Prop) (a : Option Addr) (len cap : Nat) (ss : List (List Int)) (w : World) (r : Mat K w a len cap ss) (hn : len ≤ 1000000) : Calls Try.prog 29 #[.agg #[.slice a len cap]] w (NewRet ss w) :=
  (copied_any K a len cap ss w r hn).mono fun _ _ ⟨h1, h2, h3⟩ => ⟨_, _, _, h1, h2, h3⟩
theorem OMat.ge {w : World} {B B' : Nat} {v : Value} {ss : List (List Int)} (h : OMat w (Ge B) v ss) (hB : B' ≤ B) : OMat w (Ge B') v ss := OwnRow.wid _ w _ _ v ss (fun _ hk => Nat.le_trans hB hk) h
theorem OMat.bt {w : World} {B : Nat} {v : Value} {ss : List (List Int)} (h : OMat w (Ge B) v ss) : OMat w (Bt B w.heap.size) v ss := by
  rcases h with h | ⟨b, cap, vs, sp, fps, hv, r⟩
  · exact .inl h
  · exact .inr ⟨b, cap, vs, sp, fps, hv, r.blk, r.hlen, r.hcap, r.hmax, r.hsz, ⟨r.own, r.blk.lt⟩, r.row, fun i k hi hk => ⟨⟨(r.sub i k hi hk).1, (r.sub i k hi hk).2.2⟩, (r.sub i k hi hk).2⟩, r.apart⟩
theorem OMat.of_bt {w : World} {B B' C : Nat} {v : Value} {ss : List (List Int)} (h : OMat w (Bt B C) v ss) (hB : B' ≤ B) : OMat w (Ge B') v ss := OwnRow.wid _ w _ _ v ss (fun _ hk => Nat.le_trans hB hk.1) h
end Go.Proofs.Ytdkpfifnegndmaa
