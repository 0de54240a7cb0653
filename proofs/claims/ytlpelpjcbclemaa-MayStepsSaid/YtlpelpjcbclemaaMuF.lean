/-
  ages.Put: a line comes into the list of an age, in sets that the caller owns.
-/
import Derived.Test.YtlpelpjcbclemaaMuE
namespace Go.Proofs.Ytlpelpjcbclemaa
open Go.RowKit

theorem ins_cnt {x : Int} : ∀ {l : List Int}, Asc l → ins x l = l.take (cnt l x) ++ x :: l.drop (cnt l x)
  | [], _ => rfl
  | y :: l, h => by
    replace h := List.pairwise_cons.1 h
    by_cases hy : y < x
    · have e : cnt (y :: l) x = cnt l x + 1 := by unfold cnt; rw [List.countP_cons_of_pos (by simpa using hy)]
      rw [e]
      unfold ins
      rw [if_neg (by omega), ins_cnt h.2]; rfl
    · have e : cnt (y :: l) x = 0 := by
        unfold cnt
        rw [List.countP_eq_zero]
        intro z hz
        rcases List.mem_cons.1 hz with rfl | hz
        · simpa using hy
        · have := h.1 z hz; simp; omega
      rw [e]
      unfold ins
      split
      · rfl
      · obtain rfl : x = y := by omega
        have : ins x l = x :: l := by
          cases l with
          | nil => rfl
          | cons z l => have := h.1 z (by simp); unfold ins; rw [if_pos this]
        rw [this]; rfl
theorem cnt_le (l : List Int) (x : Int) : cnt l x ≤ l.length := List.countP_le_length
theorem OwnRow.lt {α : Type} {R : Ow α} {t : TypeId} {w : World} {fp : Nat → Prop} {v : Value} {xs : List α} (h : OwnRow R t w fp v xs) : OwnRow R t w (fun k => fp k ∧ k < w.heap.size) v xs := by
  rcases h with h | ⟨b, cap, vs, sp, fps, hv, r⟩
  · exact .inl h
  · exact .inr ⟨b, cap, vs, sp, fps, hv, r.blk, r.hlen, r.hcap, r.hmax, r.hsz, ⟨r.own, r.blk.lt⟩, r.row, fun i k hi hk => ⟨⟨(r.sub i k hi hk).1, (r.sub i k hi hk).2.2⟩, (r.sub i k hi hk).2⟩, r.apart⟩
/-- The element at i was changed, in its own blocks and new ones, and its new value put back. -/
theorem OwnAt.swap {α : Type} {R : Ow α} (hR : Local R) {t : TypeId} {w w2 : World} {fp : Nat → Prop} {b cap : Nat} {vs sp : List Value} {fps : Nat → Nat → Prop} {xs : List α} (r : OwnAt R t w fp b cap vs sp fps xs)
    {i : Nat} (hi : i < xs.length) (h : Chg (fps i) w w2) {f : Nat → Prop} (hf : ∀ k, f k → (fps i k ∨ w.heap.size ≤ k) ∧ k < w2.heap.size) {u : Value} {x : α} (hx : R w2 f u x) :
    OwnAt R t (w2.setCell ⟨b, i, none⟩ u) (fun k => fp k ∨ w.heap.size ≤ k) b cap (vs.set i u) sp (fun j => if j = i then f else fps j) (xs.set i x) := by
  have hb : ¬ fps i b := fun hk => (r.sub i b hi hk).2.1 rfl
  have hbl := r.blk.lt
  have hne : ∀ k, f k → k ≠ b := fun k hk e => by
    subst e
    rcases (hf _ hk).1 with h1 | h1
    · exact hb h1
    · omega
  have hc : Chg (fun k => k = b) w2 (w2.setCell ⟨b, i, none⟩ u) := Chg.setCell (M := fun k => k = b) (Chg.refl w2) (fun _ => rfl) u
  refine ⟨((r.blk.chg h hb).set i u).at (by rw [List.set_append_left _ _ (by rw [r.hlen]; exact hi)]), by simp only [List.length_set]; exact r.hlen, by rw [List.length_set]; exact r.hcap, r.hmax, by rw [List.length_set]; exact r.hsz, .inl r.own, fun j y hj => ?_, fun j k hj hk => ?_, fun j l k hj hl h1 h2 => ?_⟩
  · rw [List.getElem?_set] at hj
    by_cases e : i = j
    · subst e
      rw [if_pos rfl, if_pos hi] at hj
      cases hj
      refine ⟨u, by rw [List.getElem?_set_self (by rw [r.hlen]; exact hi)], ?_⟩
      simp only [if_true]
      exact hR.chg hx hc fun k hk _ hm => hne k hk hm
    · rw [if_neg e] at hj
      have hjl := (List.getElem?_eq_some_iff.1 hj).1
      obtain ⟨v, hv, hr⟩ := r.row j y hj
      refine ⟨v, by rw [List.getElem?_set_ne e]; exact hv, ?_⟩
      rw [if_neg (fun h => e h.symm)]
      exact hR.chg (hR.chg hr h fun k hk _ hm => e (r.apart i j k hi hjl hm hk)) hc fun k hk _ hm => (r.sub j k hjl hk).2.1 hm
  · simp only [List.length_set] at hj
    rw [World.size_setCell]
    split at hk
    · have := hf k hk
      refine ⟨this.1.elim (fun h1 => .inl (r.sub i k hi h1).1) .inr, hne k hk, this.2⟩
    · have := r.sub j k hj hk
      exact ⟨.inl this.1, this.2.1, Nat.lt_of_lt_of_le this.2.2 h.size⟩
  · simp only [List.length_set] at hj hl
    split at h1 <;> split at h2
    · omega
    · rename_i e1 e2
      rcases (hf k h1).1 with h3 | h3
      · exact absurd (r.apart i l k hi hl h3 h2) (fun e => e2 e.symm)
      · have := (r.sub l k hl h2).2.2; omega
    · rename_i e1 e2
      rcases (hf k h2).1 with h3 | h3
      · exact absurd (r.apart i j k hi hj h3 h1) (fun e => e1 e.symm)
      · have := (r.sub j k hj h1).2.2; omega
    · exact r.apart j l k hj hl h1 h2

def Grown (fp : Nat → Prop) (w : World) : Nat → Prop := fun k => fp k ∨ w.heap.size ≤ k
def PutRet (fp : Nat → Prop) (v : Value) (g : List (List Int)) (w : World) (e : Ending) (w' : World) : Prop := e = .returned (.tuple #[]) ∧ OMat w' (Grown fp w) v g ∧ Chg fp w w'
theorem OMat.grown {w : World} {fp : Nat → Prop} {v : Value} {g : List (List Int)} (r : OMat w fp v g) : OMat w (Grown fp w) v g := OwnRow.wid _ w _ _ v g (fun _ hk => .inl hk) r
set_option maxHeartbeats 2000000 in
theorem aput_any (fp : Nat → Prop) (a : Option Addr) (len cap : Nat) (g : List (List Int)) (w : World) (r : OMat w fp (.slice a len cap) g) (hlen : g.length = len) (hs : ∀ (i : Nat) l, g[i]? = some l → Asc l ∧ l.length ≤ 10000) (age : Nat) (x : Int) (hage : age ≤ 100) (hx : -9223372036854775808 ≤ x ∧ x ≤ 9223372036854775807) :
    Calls Try.prog 47 #[.slice a len cap, .int .i64 age, .int .i64 x] w (PutRet fp (.slice a len cap) (put g age x) w) := by
  by_cases hlt : age < len
  · rcases r with ⟨hv, rfl⟩ | ⟨b, cap', vs, sp, fps, hv, r⟩
    · cases hv; omega
    cases hv
    have hl6 := r.hsz; have hcap : g.length ≤ cap := by have := r.hcap; omega
    have hcm := r.hmax
    obtain ⟨l, hl⟩ : ∃ l, g[age]? = some l := ⟨_, List.getElem?_eq_getElem hlt⟩
    obtain ⟨ha, hll⟩ := hs age l hl
    obtain ⟨u, hu, hrow⟩ := r.row age l hl
    obtain ⟨ra, rc, rfl⟩ := hrow.form
    have hrd : Ints (fun _ => True) w ra l.length rc l := OInts.read (fun _ _ => trivial) hrow
    have hb := r.blk.cell (i := age) (v := .slice ra l.length rc) (by rw [List.getElem?_append_left (by rw [r.hlen]; exact hlt)]; exact hu)
    have hfb := r.blk.free age; have hbl := r.blk.lt
    have h0 : (0 : Int) ≤ (age : Int) := by omega
    have h1 : (age : Int) < (g.length : Int) := by omega
    have hck := cnt_le l x
    have BS := Lib.hid (bs_any (fun _ => True) ra l.length rc l x w hrd ha)
    unfold BsRet at BS
    have IC := Lib.hid (ins_cnt (x := x) ha)
    have R := Lib.hid r; have HL := Lib.hid hl; have HU := Lib.hid hu; have HROW := Lib.hid hrow; have HX := Lib.hid hx
    clear r hl hu hrow hrd hx hs ha
    obtain ⟨k, hk⟩ : ∃ k, k = cnt l x := ⟨_, rfl⟩
    rw [← hk] at BS IC hck
    have c63 : k ≤ 9223372036854775807 := by omega
    have IN := Lib.hid (fun q => insert_any (fps age) (.slice ra l.length rc) l x k hck ((w.drewN q).alloc (.cells #[.int .i64 x] 3)) (OInts.loc.below HROW.out ((below_drewN (Below.refl _ _) q).alloc (Nat.le_refl _) _)) w.heap.size (Blk.new (w.drewN q) [.int .i64 x] 3) (fun h => by have := (R.out.sub age _ hlt h).2.2; omega) HX.out hll)
    clear hk hck
    go_enter Try.func47, Try.ntmps47
    go_wp2_with fail
    refine BS.out.mono ?_
    rintro e w1 ⟨rfl, q, rfl⟩
    go_wp2_with fail
    refine (IN.out q).mono ?_
    rintro e w2 ⟨v', rfl, ho, hc⟩
    have hcw : Chg (fps age) w w2 := (((Chg.refl w).drewN q).alloc _).trans hc (fun _ _ h => h)
    have hnb : ¬ fps age b := fun h => (R.out.sub age b hlt h).2.1 rfl
    have d0 := hcw.cell hnb hb; have d1 := hcw.frz hnb hbl hfb; have d2 : b < w2.heap.size := Nat.lt_of_lt_of_le hbl hcw.size
    have HC := Lib.hid hcw; have HO := Lib.hid ho.lt
    obtain ⟨vn, va, vc, rfl⟩ : ∃ n a c, v' = .slice a n c := by obtain ⟨a, c, h⟩ := ho.form; exact ⟨_, a, c, h⟩
    clear ho hc hcw
    go_wp2
    go_end0
    have hsw := OwnAt.swap OInts.loc R.out hlt HC.out (f := fun j => (fps age j ∨ ((w.drewN q).alloc (.cells #[.int .i64 x] 3)).heap.size ≤ j) ∧ j < w2.heap.size) (fun j hj => ⟨hj.1.elim .inl (fun h => .inr (by simp at h; omega)), hj.2⟩) HO.out
    have hp : put g age x = g.set age (l.take k ++ x :: l.drop k) := by rw [put_get HL.out, IC.out]
    refine ⟨rfl, .inr ⟨b, cap, _, sp, _, by rw [hp, List.length_set], by rw [hp]; exact hsw⟩, ?_⟩
    exact (HC.out.mono (fun j _ hj => (R.out.sub age j hlt hj).1)).setCell (fun _ => R.out.own) _
  · have hd : decide ((age : Int) < 0) = false := by simp
    go_enter Try.func47, Try.ntmps47
    go_wp2
    go_end0
    exact ⟨rfl, by rw [put_out (by omega)]; exact r.grown, Chg.refl _⟩
end Go.Proofs.Ytlpelpjcbclemaa
