/-
  Ahead of simplex.
-/
import Derived.Test.YtdegpgonphgbcaaZSxO
import Derived.Test.YtdegpgonphgbcaaSxN
namespace Go.Proofs.Ytdegpgonphgbcaa
open Go.RowKit
set_option maxRecDepth 100000 in
set_option maxHeartbeats 8000000 in
theorem entering0_any (w : World) (fp : Nat → Prop) (q : Nat) (ins : List Int) (rows : List (List Rat)) (vI vO vR : Value) (fI fO fR : Nat → Prop) (d : Dic w fp q ins [] rows vI vO vR fI fO fR) (hr : rows.length = ins.length + 1) (hc : ∀ r ∈ rows, r.length = 1) (hl : ins.length ≤ 8) :
    Calls Try.prog 68 #[.pointer (some ⟨q, 0, none⟩)] w (IntRet (-1) w) := by
  obtain ⟨bR, cR, hvR, lbR, _, hrow⟩ := d.row (by intro e; rw [e] at hr; simp at hr)
  obtain ⟨aO, cO, hvO⟩ := d.hout.form
  have q1 := d.has.cell 1 _ rfl
  have q2 := d.has.cell 2 _ rfl
  obtain ⟨m, hm⟩ : ∃ m, m = ins.length := ⟨_, rfl⟩
  obtain ⟨goal, hg⟩ : ∃ g, rows[m]? = some g := ⟨_, List.getElem?_eq_getElem (by omega)⟩
  have hgl : goal.length = 1 := hc goal (List.mem_of_getElem? hg)
  obtain ⟨b, cap, sp, cg, fb, _⟩ := hrow m goal hg (by intro e; rw [e] at hgl; simp at hgl)
  rw [hvO] at q1
  rw [hvR, hr, ← hm] at q2
  rw [hgl] at cg
  have wm : IntKind.i64.wrap (((m + 1 : Nat) : Int) - 1) = (m : Int) := by rw [Go.IntWalk.i64_in _ ⟨by omega, by omega⟩]; omega
  have hm8 : m ≤ 8 := by omega
  have hmm : (m : Int) < ((m + 1 : Nat) : Int) := by omega
  have hm0 : 0 ≤ (m : Int) := by omega
  have hlen : ([] : List Int).length = 0 := rfl
  rw [hlen] at q1
  clear fb hgl hg hm hvR hvO hrow hr hc hl d hlen
  go_enter Try.func68, Try.ntmps68
  go_wp2
  go_quiet (fail)
  go_wp2
  clear q1 q2 cg wm hmm hm0
  go_loop [3, 24] (fun bs k => bs = .int .i64 (-1) ∧ k = .int .i64 0) (fun _ k => 0)
  case atStart => exact ⟨rfl, rfl⟩
  case round =>
    obtain ⟨rfl, rfl⟩ := hrel
    go_wp2
    go_ret
    exact ⟨rfl, below_drewN (Below.refl _ _) nq⟩
theorem climb0_any (w : World) (fp : Nat → Prop) (q : Nat) (ins : List Int) (rows : List (List Rat)) (vI vO vR : Value) (fI fO fR : Nat → Prop) (d : Dic w fp q ins [] rows vI vO vR fI fO fR) (hr : rows.length = ins.length + 1) (hc : ∀ r ∈ rows, r.length = 1) (hl : ins.length ≤ 8) :
    Calls Try.prog 35 #[.pointer (some ⟨q, 0, none⟩)] w fun e w' => e = .returned (.bool true) ∧ Below w.heap.size w w' := by
  have EN := Lib.hid (entering0_any w fp q ins rows vI vO vR fI fO fR d hr hc hl)
  clear d hr hc hl
  go_enter Try.func35, Try.ntmps35
  go_wp2_with fail
  refine EN.out.mono ?_
  rintro e w1 ⟨rfl, hb⟩
  have B1 := Lib.hid hb
  clear hb
  go_wp2
  go_loopw [3] (fun s wr => s = .int .i64 (-1) ∧ wr = w1) (fun s _ => 0)
  case atStart => exact ⟨rfl, rfl⟩
  case round =>
    obtain ⟨rfl, rfl⟩ := hrel
    go_wp2
    go_ret
    exact ⟨rfl, B1.out⟩
theorem rowOf_length (cols : Nat) (x : List (Int × Int) × Int) : (rowOf cols x).length = cols + 2 := by
  have := rowTo_length x.1 ([(x.2 : Rat), 1] ++ List.replicate cols 0) x.1.length
  unfold rowTo at this
  rw [List.take_length] at this
  unfold rowOf
  rw [this]; simp
theorem begD_ok {cols : Nat} {rows : List (List (Int × Int) × Int)} (hc : cols ≤ 6) (hr : rows.length ≤ 6) : DcOk (begD cols rows) := by
  refine ⟨?_, ?_, ?_, ?_, ?_⟩
  · simp [begD, insOf]
  · intro r h
    simp only [begD, List.mem_append, List.mem_map, List.mem_singleton] at h
    rcases h with ⟨x, _, rfl⟩ | rfl
    · rw [rowOf_length]; simp [begD, outsOf]
    · simp [begD, outsOf]
  · simp [begD, insOf]; omega
  · simp [begD, outsOf]; omega
  · simp [begD, outsOf]
theorem fit_small {n : Int} (h0 : -1000000 ≤ n) (h1 : n ≤ 1000000) : Fit (n : Rat) := fit_int (by omega) (by omega)
theorem rowOf_fit {cols : Nat} {x : List (Int × Int) × Int} (hx : -1000000 ≤ x.2 ∧ x.2 ≤ 1000000) (ht : ∀ t ∈ x.1, -1000000 ≤ t.2 ∧ t.2 ≤ 1000000) : FitL (rowOf cols x) := by
  have h0 : FitL ([(x.2 : Rat), 1] ++ List.replicate cols 0) := by
    intro y hy
    rcases List.mem_append.1 hy with h | h
    · simp at h
      rcases h with rfl | rfl
      · exact fit_small hx.1 hx.2
      · exact fit_small (n := 1) (by decide) (by decide)
    · obtain ⟨_, rfl⟩ := List.mem_replicate.1 h
      exact fit_small (n := 0) (by decide) (by decide)
  have : ∀ (l : List (Int × Int)) (r : List Rat), FitL r → (∀ t ∈ l, -1000000 ≤ t.2 ∧ t.2 ≤ 1000000) → FitL (l.foldl rowSet r) := by
    intro l
    induction l with
    | nil => intro r h _; exact h
    | cons t l ih =>
      intro r h hl
      rw [List.foldl_cons]
      refine ih _ ?_ (fun s hs => hl s (List.mem_cons_of_mem _ hs))
      intro y hy
      rcases List.mem_or_eq_of_mem_set hy with h1 | rfl
      · exact h y h1
      · have := hl t (List.mem_cons_self ..)
        exact fit_small (by omega) (by omega)
  exact this _ _ h0 ht
theorem begD_fit {cols : Nat} {rows : List (List (Int × Int) × Int)} (h : ∀ x ∈ rows, (-1000000 ≤ x.2 ∧ x.2 ≤ 1000000) ∧ ∀ t ∈ x.1, -1000000 ≤ t.2 ∧ t.2 ≤ 1000000) : ∀ r ∈ (begD cols rows).rows, FitL r := by
  intro r hr
  simp only [begD, List.mem_append, List.mem_map, List.mem_singleton] at hr
  rcases hr with ⟨x, hx, rfl⟩ | rfl
  · exact rowOf_fit (h x hx).1 (h x hx).2
  · intro y hy
    rcases List.mem_append.1 hy with h | h
    · simp at h
      rcases h with rfl | rfl
      · exact fit_small (n := 0) (by decide) (by decide)
      · exact fit_small (n := -1) (by decide) (by decide)
    · obtain ⟨_, rfl⟩ := List.mem_replicate.1 h
      exact fit_small (n := 0) (by decide) (by decide)
theorem climb_all (w : World) (fp : Nat → Prop) (q : Nat) (d d' : Dc) (n : Nat) (b : Bool) (vI vO vR : Value) (fI fO fR : Nat → Prop) (hd : Dic w fp q d.ins d.outs d.rows vI vO vR fI fO fR) (ok : DcFit d) (hc : Climb n d b d') (hfp : ∀ x, fp x → x < w.heap.size) :
    Calls Try.prog 35 #[.pointer (some ⟨q, 0, none⟩)] w (ClRet w fp q b d' vI vO vR fI fO fR) := by
  by_cases ho : d.outs = []
  · have he : entP d.outs d.rows = -1 := by rw [ho]; rfl
    obtain ⟨rfl, rfl⟩ : b = true ∧ d' = d := by
      rcases hc.inv with ⟨h1, h2, _⟩ | ⟨k, _, _, h, _⟩ | ⟨_, k, _, _, h, _⟩
      · exact ⟨h1, h2.symm⟩
      · rw [he] at h; omega
      · rw [he] at h; omega
    have h := climb0_any w fp q d'.ins d'.rows vI vO vR fI fO fR (by rw [← ho]; exact hd) ok.rows (fun r hr => by rw [ok.cols r hr, ho]; rfl) ok.i8
    refine h.mono ?_
    rintro e w' ⟨rfl, hb⟩
    exact ⟨rfl, hd.below hb, Chg.of_below hb⟩
  · exact climb_any w fp q d d' n b vI vO vR fI fO fR hd ⟨ok.rows, ok.cols, ok.i8, ok.o8, ho⟩ hc hfp
theorem aimD_fit {d : Dc} (ok : DcOk d) (c0 : Int) (tm : List (Int × Int)) : DcFit (aimD d c0 tm) := by
  have h := dropD_fit ok
  refine ⟨by simp [aimD, h.rows], fun r hr => ?_, h.i8, h.o8⟩
  rcases List.mem_or_eq_of_mem_set hr with h1 | rfl
  · exact h.cols r h1
  · unfold goalP
    rw [goalAt_length]
    simp [goal0, aimD]
end Go.Proofs.Ytdegpgonphgbcaa
