/-
  simplex.
  simplex.
-/
import Derived.Test.YtdegpgonphgbcaaZSxF
namespace Go.Proofs.Ytdegpgonphgbcaa
open Go.RowKit
structure Dc where
  ins : List Int
  outs : List Int
  rows : List (List Rat)
def pivD (d : Dc) (i k : Nat) : Dc := ⟨d.ins.set i (d.outs.getD k 0), d.outs.set k (d.ins.getD i 0), pivRows d.rows i k⟩
structure DcOk (d : Dc) : Prop where
  rows : d.rows.length = d.ins.length + 1
  cols : ∀ r ∈ d.rows, r.length = d.outs.length + 1
  i8 : d.ins.length ≤ 8
  o8 : d.outs.length ≤ 8
  ne : d.outs ≠ []
theorem pivD_ok {d : Dc} (h : DcOk d) (i k : Nat) : DcOk (pivD d i k) := by
  refine ⟨?_, ?_, by simp [pivD, h.i8], by simp [pivD, h.o8], ?_⟩
  · simp [pivD, pivRows_length, h.rows]
  · intro r hr
    obtain ⟨j, hj⟩ := List.getElem?_of_mem hr
    have hjl : j < d.rows.length := by have := (List.getElem?_eq_some_iff.1 hj).1; simpa [pivD, pivRows_length] using this
    obtain ⟨o, ho⟩ : ∃ o, d.rows[j]? = some o := ⟨_, List.getElem?_eq_getElem hjl⟩
    have h2 := pivRows_get (rows := d.rows) (i := i) (k := k) rfl ho
    have h3 : (pivRows d.rows i k)[j]? = some r := hj
    rw [h2] at h3
    cases h3
    have hol := h.cols o (List.mem_of_getElem? ho)
    simp only [pivD, List.length_set]
    split
    · rename_i e
      subst e
      rw [pivRow_length, List.getD_eq_getElem?_getD, ho]; exact hol
    · rw [pivOther_length]; exact hol
  · intro e
    have := congrArg List.length e
    simp [pivD] at this
    exact h.ne this
inductive Climb : Nat → Dc → Bool → Dc → Prop
  | stop {d : Dc} (h : entP d.outs d.rows = -1) : Climb 0 d true d
  | opn {d : Dc} (k : Nat) (he : entP d.outs d.rows = (k : Int)) (hk : k < d.outs.length) (lf : LevFit d.ins d.rows k) (hl : levP d.ins d.rows k = -1) : Climb 0 d false d
  | step {n : Nat} {d d' : Dc} {b : Bool} (k i : Nat) (he : entP d.outs d.rows = (k : Int)) (hk : k < d.outs.length) (lf : LevFit d.ins d.rows k) (hl : levP d.ins d.rows k = (i : Int)) (hi : i < d.ins.length) (pf : PivFit d.rows i k) (h : Climb n (pivD d i k) b d') : Climb (n + 1) d b d'
theorem Climb.ok {n : Nat} {d d' : Dc} {b : Bool} (h : Climb n d b d') (ok : DcOk d) : DcOk d' := by
  induction h with
  | stop => exact ok
  | opn => exact ok
  | step k i _ _ _ _ _ _ _ ih => exact ih (pivD_ok ok i k)
theorem Climb.inv {m : Nat} {c d' : Dc} {b : Bool} (h : Climb m c b d') :
    (b = true ∧ c = d' ∧ entP c.outs c.rows = -1) ∨ (∃ k : Nat, b = false ∧ c = d' ∧ entP c.outs c.rows = (k : Int) ∧ k < c.outs.length ∧ LevFit c.ins c.rows k ∧ levP c.ins c.rows k = -1) ∨
    ∃ m' k i : Nat, m = m' + 1 ∧ entP c.outs c.rows = (k : Int) ∧ k < c.outs.length ∧ LevFit c.ins c.rows k ∧ levP c.ins c.rows k = (i : Int) ∧ i < c.ins.length ∧ PivFit c.rows i k ∧ Climb m' (pivD c i k) b d' := by
  cases h with
  | stop h => exact .inl ⟨rfl, rfl, h⟩
  | opn k he hk lf hl => exact .inr (.inl ⟨k, rfl, rfl, he, hk, lf, hl⟩)
  | step k i he hk lf hl hi pf h => exact .inr (.inr ⟨_, k, i, rfl, he, hk, lf, hl, hi, pf, h⟩)
def ClRet (w : World) (fp : Nat → Prop) (q : Nat) (b : Bool) (d : Dc) (vI vO vR : Value) (fI fO fR : Nat → Prop) (e : Ending) (w' : World) : Prop :=
  e = .returned (.bool b) ∧ Dic w' fp q d.ins d.outs d.rows vI vO vR fI fO fR ∧ Chg fp w w'
set_option maxRecDepth 100000 in
set_option maxHeartbeats 8000000 in
theorem climb_any (w : World) (fp : Nat → Prop) (q : Nat) (d d' : Dc) (n : Nat) (b : Bool) (vI vO vR : Value) (fI fO fR : Nat → Prop) (hd : Dic w fp q d.ins d.outs d.rows vI vO vR fI fO fR) (ok : DcOk d) (hc : Climb n d b d') (hfp : ∀ x, fp x → x < w.heap.size) :
    Calls Try.prog 35 #[.pointer (some ⟨q, 0, none⟩)] w (ClRet w fp q b d' vI vO vR fI fO fR) := by
  have HC := Lib.hid hc; have HFP := Lib.hid hfp
  have HD := Lib.hid hd; have OK := Lib.hid ok
  clear hc hfp hd ok
  go_enter Try.func35, Try.ntmps35
  go_wp2_with fail
  refine (entering_any w fp q d.ins d.outs d.rows vI vO vR fI fO fR HD.out OK.out.rows OK.out.cols ⟨OK.out.i8, OK.out.o8⟩ OK.out.ne).mono ?_
  rintro e w1 ⟨rfl, hb⟩
  have D1 := Lib.hid (HD.out.chg (M := Non) (Chg.of_below hb) (fun _ _ _ h => h))
  have C1 := Lib.hid (show Chg fp w w1 from Chg.of_below hb)
  clear hb
  generalize hen : entP d.outs d.rows = en
  have HEN := Lib.hid hen
  clear hen
  go_wp2
  go_loopg [3] (n + 1) (fun g s3 wr => ∃ (m : Nat) (c : Dc), g = m + 1 ∧ Climb m c b d' ∧ DcOk c ∧ s3 = .int .i64 (entP c.outs c.rows) ∧ Dic wr fp q c.ins c.outs c.rows vI vO vR fI fO fR ∧ Chg fp w wr)
  case atStart => exact ⟨n, d, rfl, HC.out, OK.out, by rw [HEN.out], D1.out, C1.out⟩
  case round =>
    obtain ⟨m, c, rfl, hc, okc, rfl, hd, hch⟩ := hrel
    have DR := Lib.hid hd; have CR := Lib.hid hch; have OKC := Lib.hid okc
    have FPR := Lib.hid (show ∀ x, fp x → x < wr.heap.size from fun x hx => Nat.lt_of_lt_of_le (HFP.out x hx) hch.size)
    clear hd hch okc D1 C1 HC HD OK HEN
    rcases hc.inv with ⟨rfl, rfl, h⟩ | ⟨k, rfl, rfl, he, hk, lf, hl⟩ | ⟨m', k, i, rfl, he, hk, lf, hl, hi, pf, hcl⟩
    · clear hc
      rw [h]
      go_wp2
      go_ret
      exact ⟨rfl, DR.out, CR.out⟩
    · clear hc
      have LF := Lib.hid lf; have HL := Lib.hid hl; have HK := Lib.hid hk
      clear lf hl hk
      rw [he]
      clear he
      have hk0 : 0 ≤ (k : Int) := by omega
      go_wp2_with fail
      refine (leaving_any wr fp q c.ins c.outs c.rows vI vO vR fI fO fR DR.out k HK.out OKC.out.rows OKC.out.cols ⟨OKC.out.i8, OKC.out.o8⟩ LF.out FPR.out).mono ?_
      rintro e w2 ⟨rfl, hb⟩
      rw [HL.out]
      have D2 := Lib.hid (DR.out.chg (M := Non) (Chg.of_below hb) (fun _ _ _ h => h))
      have C2 := Lib.hid (CR.out.tr hb)
      clear hb
      go_wp2
      go_ret
      exact ⟨rfl, D2.out, C2.out⟩
    · clear hc
      have LF := Lib.hid lf; have HL := Lib.hid hl; have HK := Lib.hid hk; have HI := Lib.hid hi; have PF := Lib.hid pf; have HCL := Lib.hid hcl
      clear lf hl hk hi pf hcl
      rw [he]
      clear he
      have hk0 : 0 ≤ (k : Int) := by omega
      have hi0 : 0 ≤ (i : Int) := by omega
      go_wp2_with fail
      refine (leaving_any wr fp q c.ins c.outs c.rows vI vO vR fI fO fR DR.out k HK.out OKC.out.rows OKC.out.cols ⟨OKC.out.i8, OKC.out.o8⟩ LF.out FPR.out).mono ?_
      rintro e w2 ⟨rfl, hb⟩
      rw [HL.out]
      have D2 := Lib.hid (DR.out.chg (M := Non) (Chg.of_below hb) (fun _ _ _ h => h))
      have C2 := Lib.hid (CR.out.tr hb)
      clear hb
      go_wp2_with fail
      refine (pivot_any w2 fp q c.ins c.outs c.rows vI vO vR fI fO fR D2.out i k HI.out HK.out OKC.out.rows OKC.out.cols ⟨OKC.out.i8, OKC.out.o8⟩ PF.out).mono ?_
      rintro e w3 ⟨rfl, hd3, hc3⟩
      have D3 := Lib.hid (show Dic w3 fp q (pivD c i k).ins (pivD c i k).outs (pivD c i k).rows vI vO vR fI fO fR from hd3)
      have C3 := Lib.hid (C2.out.trans hc3 (fun _ _ h => h))
      have OK3 := Lib.hid (pivD_ok OKC.out i k)
      clear hd3 hc3
      generalize pivD c i k = c3 at *
      go_wp2_with fail
      refine (entering_any w3 fp q c3.ins c3.outs c3.rows vI vO vR fI fO fR D3.out OK3.out.rows OK3.out.cols ⟨OK3.out.i8, OK3.out.o8⟩ OK3.out.ne).mono ?_
      rintro e w4 ⟨rfl, hb⟩
      have D4 := Lib.hid (D3.out.chg (M := Non) (Chg.of_below hb) (fun _ _ _ h => h))
      have C4 := Lib.hid (C3.out.tr hb)
      clear hb
      go_wp2
      go_roundg (m' + 1)
      case measure => omega
      case rel => exact ⟨m', c3, rfl, HCL.out, OK3.out, rfl, D4.out, C4.out⟩
def ZRet (n : Nat) (w : World) (e : Ending) (w' : World) : Prop := ∃ g, e = .returned (.slice (some ⟨g, 0, none⟩) n n) ∧ w.heap.size ≤ g ∧ FBlk w' g (List.replicate n 0) [] ∧ Below w.heap.size w w'
set_option maxHeartbeats 4000000 in
theorem zeros_any (n : Nat) (hn : n ≤ 8) (w : World) : Calls Try.prog 36 #[.int .i64 n] w (ZRet n w) := by
  go_enter Try.func36, Try.ntmps36
  go_wp2_with fail
  refine (whole_any 0 _).mono ?_
  rintro e w1 ⟨rfl, hb⟩
  have B1 := Lib.hid hb
  have F1 := Lib.hid (Blk.new w1 (FrC 0) 31)
  have B2 := Lib.hid (show Below w1.heap.size w1 (w1.alloc (.cells (FrC 0).toArray 31)) from (Below.refl _ _).alloc (Nat.le_refl _) _)
  clear hb
  go_wp2_with fail
  refine (srepeat_fr 0 n hn w1.heap.size _ F1.out).mono ?_
  rintro e w2 ⟨g, rfl, hg, hbk, hb⟩
  have R := Lib.hid (show ZRet n w (.returned (.slice (some ⟨g, 0, none⟩) n n)) w2 from ⟨g, rfl, by have := B1.out.size; have := B2.out.size; omega, hbk.at (by simp), (B1.out.trans (B2.out.mono B1.out.size)).trans (hb.mono (Nat.le_trans B1.out.size B2.out.size))⟩)
  clear hbk hb hg
  go_wp2
  go_ret
  exact R.out
def idxP (l : List Int) (z : Int) : Int := match l.findIdx? (· == z) with | some i => (i : Int) | none => -1
theorem idx_here {l : List Int} {k : Nat} {z : Int} (h : l[k]? = some z) (hn : ∀ j, j < k → l[j]? ≠ some z) : idxP l z = (k : Int) := by
  have hk := (List.getElem?_eq_some_iff.1 h).1
  have : l.findIdx? (· == z) = some k := by
    rw [List.findIdx?_eq_some_iff_getElem]
    refine ⟨hk, by have := (List.getElem?_eq_some_iff.1 h).2; simp [this], fun j hj => ?_⟩
    have h2 := hn j hj
    rw [List.getElem?_eq_getElem (by omega)] at h2
    simpa using h2
  unfold idxP; rw [this]
theorem idx_none {l : List Int} {z : Int} (hn : ∀ j, j < l.length → l[j]? ≠ some z) : idxP l z = -1 := by
  have : l.findIdx? (· == z) = none := by
    rw [List.findIdx?_eq_none_iff]
    intro x hx
    obtain ⟨j, hj⟩ := List.getElem?_of_mem hx
    have h2 := hn j (List.getElem?_eq_some_iff.1 hj).1
    rw [hj] at h2
    simpa using h2
  unfold idxP; rw [this]
set_option maxHeartbeats 4000000 in
theorem sindex_any (K : Nat → Prop) (a : Option Addr) (n c : Nat) (l : List Int) (z : Int) (w : World) (r : Ints K w a n c l) : Calls Try.prog 65 #[.slice a n c, .int .i64 z] w fun e w' => e = .returned (.int .i64 (idxP l z)) ∧ w = w' := by
  have R := Lib.hid r
  have hsz := r.hsz
  have hll := Lib.hid r.hlen
  clear r
  go_enter Try.func65, Try.ntmps65
  go_wp2
  go_loop [8] (fun s8 => ∃ k : Nat, k ≤ n ∧ s8 = .int .i64 k ∧ ∀ j, j < k → l[j]? ≠ some z) (fun s8 => n - (intOf s8).toNat)
  case atStart => exact ⟨0, Nat.zero_le _, rfl, fun j hj => by omega⟩
  case round =>
    obtain ⟨k, hk, rfl, hall⟩ := hrel
    have HALL := Lib.hid hall
    clear hall
    by_cases hlt : k < n
    · obtain ⟨b, o, y, rfl, hy, c0, _, _, _, _⟩ := Ints.get R.out hlt
      have HY := Lib.hid hy
      clear hy
      by_cases hzy : z = y
      · have HI := Lib.hid (idx_here (z := z) (by rw [hzy]; exact HY.out) HALL.out)
        subst hzy
        go_wp2
        go_ret
        exact ⟨ret_int HI.out.symm, rfl⟩
      · have ez : (z == y) = false := by simpa using hzy
        have HN := Lib.hid (show ∀ j, j < k + 1 → l[j]? ≠ some z from fun j hj e => by
          by_cases h : j = k
          · subst h; rw [HY.out] at e; exact hzy (Option.some.inj e).symm
          · exact HALL.out j (by omega) e)
        clear hzy
        go_wp2
        go_round
        case rel => exact ⟨k + 1, by omega, by go_num, HN.out⟩
        case measure => simp [intOf]; omega
    · have HI := Lib.hid (idx_none (z := z) (l := l) (fun j hj => HALL.out j (by have := hll.out; omega)))
      go_wp2
      go_ret
      exact ⟨ret_int HI.out.symm, rfl⟩
end Go.Proofs.Ytdegpgonphgbcaa
