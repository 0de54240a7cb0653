/-
  ages.Copy, the document's Copy: lists of lists of lists in new memory.
-/
import Derived.Deep.RegionHeld3
import Derived.Test.YtlpelpjcbclemaaZMuG
namespace Go.Proofs.Ytlpelpjcbclemaa
open Go.RowKit

theorem cell_put {w : World} {b o g k : Nat} {u v : Value} (hne : g ≠ b) (h : w.cell? ⟨b, o, none⟩ = some v) : (w.setCell ⟨g, k, none⟩ u).cell? ⟨b, o, none⟩ = some v :=
  (World.cell?_setCell_other w ⟨g, k, none⟩ ⟨b, o, none⟩ u (fun e => hne (by cases e; rfl))).trans h
theorem info_sl2 : (Try.prog.info? 42).map (fun i => (i.zero, i.size, i.bytes)) = some (some (.slice none 0 0), 1, 24) := by kernel_rfl
theorem make_cubs (n : Nat) (h : n ≤ 1000000) (w : World) (kl kc : IntKind) : (Instr.makeSlice 29 (.int kl (n : Int)) (.int kc (n : Int))).run Try.prog w = .ok (.slice (some ⟨w.heap.size, 0, none⟩) n n) (w.alloc (.cells (zeros (.slice none 0 0) n).toArray 42)) := by
  rw [← madeCells_zeros]
  exact run_make_row' 29 42 (.slice none 0 0) 24 Try.underlying29 info_sl2 rfl kl kc n (by omega) (by omega) w
theorem OCub.nils {w : World} {fp : Nat → Prop} {b n : Nat} (h : Blk w b 42 (zeros (.slice none 0 0) n)) (hf : fp b) (hn : n ≤ 1000000) : OCub w fp (.slice (some ⟨b, 0, none⟩) n n) (List.replicate n []) := by
  refine .inr ⟨b, n, zeros (.slice none 0 0) n, [], fun _ _ => False, by rw [List.length_replicate], ⟨by rw [List.append_nil]; exact h, by rw [zeros_length, List.length_replicate], by simp, by omega, by rw [List.length_replicate]; omega, hf, fun i x hx => ?_, fun _ _ _ h => h.elim, fun _ _ _ _ _ h => h.elim⟩⟩
  rw [List.getElem?_replicate] at hx
  split at hx
  · cases hx; exact ⟨_, zeros_get (by assumption), .inl ⟨rfl, rfl⟩⟩
  · cases hx
/-- The first k elements of a list, then z. -/
def fil {α : Type} (z : α) (m : List α) (k : Nat) : List α := m.take k ++ List.replicate (m.length - k) z
theorem fil_zero {α : Type} (z : α) (m : List α) : fil z m 0 = List.replicate m.length z := by unfold fil; simp
theorem fil_all {α : Type} (z : α) (m : List α) : fil z m m.length = m := by unfold fil; simp
theorem fil_length {α : Type} (z : α) (m : List α) {k : Nat} (h : k ≤ m.length) : (fil z m k).length = m.length := by unfold fil; rw [List.length_append, List.length_take, List.length_replicate]; omega
theorem fil_get {α : Type} (z : α) {m : List α} {k : Nat} (h : k < m.length) : (fil z m k)[k]? = some z := by
  unfold fil
  rw [List.getElem?_append_right (by rw [List.length_take]; omega), List.length_take, List.getElem?_replicate, if_pos (by omega)]
theorem fil_set {α : Type} (z : α) {m : List α} {k : Nat} {x : α} (h : m[k]? = some x) : (fil z m k).set k x = fil z m (k + 1) := by
  have hk := (List.getElem?_eq_some_iff.1 h).1
  unfold fil
  rw [List.set_append_right _ _ (by rw [List.length_take]; omega), List.length_take, List.take_add_one, h, show k - min k m.length = 0 by omega]
  rw [show m.length - k = (m.length - (k + 1)) + 1 by omega, List.replicate_succ, List.set_cons_zero]
  simp
theorem set_get {α : Type} {X : List α} {k : Nat} {Y : α} (h : k < X.length) : (X.set k Y)[k]? = some Y := by rw [List.getElem?_set_self h]
theorem set_twice {α : Type} (X : List α) (k : Nat) (Y Z : α) : (X.set k Y).set k Z = X.set k Z := List.set_set ..

theorem clone_any (K : Nat → Prop) (a : Option Addr) (len cap : Nat) (zs : List Int) (w : World) (r : Ints K w a len cap zs) (hn : len ≤ 1000000) : Calls Try.prog 61 #[.slice a len cap] w (LstRet zs w) := by
  have hl := r.hlen
  subst hl
  by_cases h0 : 0 < zs.length
  · obtain ⟨b, o, rfl, _, _⟩ := r.addr h0
    refine (sh_slices_Clone_int b o zs.length cap zs w (Nat.le_refl _) (Nat.le_trans (Nat.mul_le_mul hn (Nat.le_refl 8)) (by decide)) r.cells).mono fun e w' ⟨v, h1, h2, h3, h4⟩ => ⟨v, h1, ?_, h4⟩
    rw [List.take_length] at h2
    refine Lst.done (Lst.of h2 r.range (fun k hk => ?_) h4.size) (by omega)
    rcases h2.2 with ⟨e, _⟩ | ⟨g, cap, cur, e, hg, hb, _⟩
    · rw [e] at hk; simp [Value.ownBlock] at hk
    · rw [e] at hk
      simp [Value.ownBlock] at hk
      subst hk
      exact ⟨hg, (Array.getElem?_eq_some_iff.1 hb).1⟩
  · obtain rfl : zs = [] := List.eq_nil_of_length_eq_zero (by omega)
    cases a with
    | none => exact (sh_slices_Clone_int_nil 0 cap w).mono fun e w' ⟨h1, h2⟩ => ⟨_, h1, .inl ⟨rfl, rfl⟩, h2 ▸ Below.refl _ _⟩
    | some ad =>
      refine (sh_slices_Clone_int_zero ad cap w).mono fun e w' ⟨v, h1, h2, h3, h4⟩ => ⟨v, h1, ?_, h4⟩
      refine Lst.done (Lst.of (xs := []) h2 (fun z hz => by cases hz) (fun k hk => ?_) h4.size) (Nat.zero_le _)
      rcases h2.2 with ⟨e, _⟩ | ⟨g, cap, cur, e, hg, hb, _⟩
      · rw [e] at hk; simp [Value.ownBlock] at hk
      · rw [e] at hk
        simp [Value.ownBlock] at hk
        subst hk
        exact ⟨hg, (Array.getElem?_eq_some_iff.1 hb).1⟩

def CubRet (m : List (List (List Int))) (w : World) (e : Ending) (w' : World) : Prop := ∃ a n cap, e = .returned (.slice a n cap) ∧ OCub w' (Ge w.heap.size) (.slice a n cap) m ∧ Below w.heap.size w w'
/-- Few sets, of few ages, of few lines. -/
def Fews (m : List (List (List Int))) : Prop := m.length ≤ 100 ∧ ∀ g ∈ m, g.length ≤ 100 ∧ ∀ l ∈ g, l.length ≤ 10000
set_option maxHeartbeats 4000000 in
theorem acopy_any (K : Nat → Prop) (a : Option Addr) (len cap : Nat) (m : List (List (List Int))) (w : World) (r : Cube K w a len cap m) (hf : Fews m) :
    Calls Try.prog 60 #[.slice a len cap] w (CubRet m w) := by
  have hl := r.hlen
  subst hl
  have hml := hf.1
  have HR := Lib.hid r; have HF := Lib.hid hf.2
  clear r hf
  have hm1 := fun w => make_cubs m.length (by omega) w .i64 .i64
  have B0 := Lib.hid ((Below.refl w.heap.size w).alloc (Nat.le_refl _) (.cells (zeros (.slice none 0 0) m.length).toArray 42))
  have O0 := Lib.hid (OCub.nils (fp := Ge w.heap.size) (Blk.new w (zeros (.slice none 0 0) m.length) 42) (Nat.le_refl _) (by omega))
  go_enter Try.func60, Try.ntmps60
  go_wp2
  clear hm1
  go_loopw [13] (fun i wr => ∃ k : Nat, k ≤ m.length ∧ i = .int .i64 k ∧ OCub wr (Ge w.heap.size) (.slice (some ⟨w.heap.size, 0, none⟩) m.length m.length) (fil [] m k) ∧ Below w.heap.size w wr) (fun i _ => m.length - (intOf i).toNat)
  case atStart => exact ⟨0, Nat.zero_le _, rfl, by rw [fil_zero]; exact O0.out, B0.out⟩
  case round =>
    obtain ⟨k, hk, rfl, ho, hB⟩ := hrel
    have hsz := hB.size
    have O1 := Lib.hid ho; have B1 := Lib.hid hB
    clear ho hB
    by_cases hlt : k < m.length
    · obtain ⟨gb, go, g, ra, rl, rc, rfl, hx, hcw, hrx, _, hbw⟩ := Rows.get HR.out hlt
      have hrl := hrx.hlen; have hr6 := hrx.hsz
      subst hrl
      obtain ⟨hg1, hg2⟩ := HF.out g (List.mem_of_getElem? hx)
      have hcw' := (B1.out.cell (p := ⟨gb, go + k, none⟩) hbw).trans hcw
      have HX := Lib.hid hx; have RX := Lib.hid hrx; have HG := Lib.hid hg2
      clear hx hcw hrx hg2
      obtain ⟨b, bc, u, fq, p⟩ := OwnRow.pick OMat.loc O1.out (fil_get [] hlt)
      have hbf := p.form
      rw [fil_length [] m hk] at hbf
      cases hbf
      have hm2 := fun w => make_rows g.length (by omega) w .i64 .i64
      have d0 := p.cell; have d1 := p.free; have d2 := p.lt
      have h0 : (0 : Int) ≤ (k : Int) := by omega
      have h1 : (k : Int) < (m.length : Int) := by omega
      have hgb : gb ≠ w.heap.size := by omega
      have sw := p.swap (wr.alloc (.cells (zeros (.slice none 0 0) g.length).toArray 22)) (fun j => j = wr.heap.size) (.slice (some ⟨wr.heap.size, 0, none⟩) g.length g.length) (List.replicate g.length []) ((Chg.refl wr).alloc _) (OMat.nils (Blk.new wr _ _) rfl (by omega)) (fun j hj => ⟨.inr (by omega), by subst hj; simp⟩)
      rw [World.setCell_alloc_past _ _ _ _ d2] at sw
      have O2 := Lib.hid (OwnRow.step sw hsz)
      have B2 := Lib.hid ((B1.out.setCell (p := ⟨w.heap.size, k, none⟩) (Nat.le_refl _) (.slice (some ⟨wr.heap.size, 0, none⟩) g.length g.length)).alloc (by simpa using hsz) (.cells (zeros (.slice none 0 0) g.length).toArray 22))
      clear sw p
      obtain ⟨wo, hwo⟩ : ∃ wo : World, wo = wr := ⟨_, rfl⟩
      subst hwo
      go_wp2
      clear hm2 d0 d1 d2
      go_loopw [26] (fun i wr => ∃ j : Nat, j ≤ g.length ∧ i = .int .i64 j ∧ OCub wr (Ge w.heap.size) (.slice (some ⟨w.heap.size, 0, none⟩) m.length m.length) ((fil [] m k).set k (fil [] g j)) ∧ Below w.heap.size w wr) (fun i _ => g.length - (intOf i).toNat)
      case atStart => exact ⟨0, Nat.zero_le _, rfl, by rw [fil_zero]; exact O2.out, B2.out⟩
      case round =>
        obtain ⟨j, hj, rfl, ho, hB⟩ := hrel
        have hsz2 := hB.size
        have O3 := Lib.hid ho; have B3 := Lib.hid hB
        clear ho hB
        by_cases hlj : j < g.length
        · obtain ⟨lb, lo, l, qa, ql, qc, rfl, hz, hcz, hrz, _, hbz⟩ := Rows.get RX.out hlj
          have hcz' := (B3.out.cell (p := ⟨lb, lo + j, none⟩) hbz).trans hcz
          have hql := HG.out l (List.mem_of_getElem? hz)
          have hlql := hrz.hlen
          have HZ := Lib.hid hz; have RZ := Lib.hid hrz
          clear hz hcz hrz
          have hXl : k < (fil [] m k).length := by rw [fil_length [] m hk]; exact hlt
          obtain ⟨b2, bc2, c, dc, u, fq, p⟩ := OCub.pick2 O3.out (set_get hXl) (fil_get [] hlj)
          have hbf := p.form
          rw [List.length_set, fil_length [] m hk] at hbf
          cases hbf
          have e0 := p.cell; have e1 := p.cell2; have e2 := p.free2; have e3 := p.lt2; have e4 := p.lt; have e5 := p.hcap2; have e6 := p.hmax2
          rw [fil_length [] g hj] at e0 e5
          have hne := p.ne
          have h2 : (0 : Int) ≤ (j : Int) := by omega
          have h3 : (j : Int) < (g.length : Int) := by omega
          have PP := Lib.hid p
          clear p
          have CL := Lib.hid (fun (w' : World) (hb : Below w.heap.size w w') => clone_any K qa ql qc l w' (RZ.out.below RInt.stays hb) (by omega))
          have e00 : wr.drew.cell? ⟨w.heap.size, k, none⟩ = some (.slice (some ⟨c, 0, none⟩) g.length dc) := e0
          go_wp2
          go_region_held3 (fun w' => w'.cell? ⟨w.heap.size, k, none⟩ = some (.slice (some ⟨c, 0, none⟩) g.length dc)) (((try dsimp only); (repeat (first | assumption | (refine cell_put hne ?_) | (refine cell_later hb5 ?_)))))
            (first | (go_at_call 61; ((with_reducible refine (CL.out _ B3.out.drew).mono ?_); rintro e w5 ⟨v5, rfl, ho5, hb5⟩; obtain ⟨vn, va, vc, rfl⟩ : ∃ n a c, v5 = .slice a n c := (by obtain ⟨a, c, h⟩ := ho5.form; exact ⟨_, a, c, h⟩); have f1 := cell_later hb5 e1; have f2 := frz_later hb5 e3 e2; have f3 : c < w5.heap.size := Nat.lt_of_lt_of_le e3 hb5.size)))
          have HO := Lib.hid ho5.lt; have HB5 := Lib.hid hb5
          have sw := PP.out.swap w5 _ _ _ (Chg.of_below (w := wr) (w' := w5) ⟨hb5.os, hb5.tape, hb5.output, hb5.size, hb5.block⟩) HO.out (fun i hi => ⟨.inr hi.1, hi.2⟩)
          rw [set_twice, fil_set [] HZ.out] at sw
          have O4 := Lib.hid (OwnRow.step sw.1 hsz2)
          have B4 := Lib.hid (B3.out.trans (sw.2.below (fun i hi h => by unfold Ge at h; omega) hsz2))
          clear sw hb5 ho5 f1 f2 f3
          go_wp2
          go_roundw
          case rel => exact ⟨j + 1, by omega, by go_num, O4.out, B4.out⟩
          case measure => simp [intOf]; omega
        · have hjl : j = g.length := by omega
          subst hjl
          rw [fil_all, fil_set [] HX.out] at O3
          go_wp2
          go_roundw
          case rel => exact ⟨k + 1, by omega, by go_num, O3.out, B3.out⟩
          case measure => simp [intOf]; omega
    · have hkl : k = m.length := by omega
      subst hkl
      rw [fil_all] at O1
      go_wp2
      go_ret
      exact ⟨_, _, _, rfl, O1.out, B1.out⟩
end Go.Proofs.Ytlpelpjcbclemaa
