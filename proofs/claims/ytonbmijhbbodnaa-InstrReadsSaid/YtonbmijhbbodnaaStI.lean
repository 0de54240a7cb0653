/-
  Registers that an instruction does not read do not matter for what it does (plain).
-/
import Derived.Test.YtonbmijhbbodnaaZInW
import Derived.Test.YtonbmijhbbodnaaInN
import Derived.Test.YtonbmijhbbodnaaInL
namespace Go.Proofs.Ytonbmijhbbodnaa
open Go.RowKit

def gA (l : List Int) (r : Nat) : Int := l.getD r 0
theorem gA_set {l : List Int} {i r : Nat} {z : Int} (h : r < l.length) : gA (l.set i z) r = if i = r then z else gA l r := by
  unfold gA
  rw [List.getD_eq_getElem?_getD, List.getD_eq_getElem?_getD, List.getElem?_set]
  by_cases e : i = r
  · subst e; simp [h]
  · simp [e]
/-- What the law asks of the registers behind the two steps. -/
def RegsOk (wr : Int) (W : Nat) (rx p q : List Int) : Prop := ∀ r : Nat, r < 8 → (r = W ∨ gA p r = gA q r) ∧ ((r : Int) = wr ∨ gA p r = gA rx r) ∧ (r ≠ W ∨ (r : Int) ≠ wr ∨ gA p r = gA q r)
theorem regs_write {A W : Nat} {z t : Int} {rx : List Int} (hl : rx.length = 8) (h0 : gA rx 0 = 0) (_hW : 1 ≤ W) : RegsOk (A : Int) W rx ((rx.set A z).set 0 0) (((rx.set W t).set A z).set 0 0) := by
  intro r hr
  rw [gA_set (by simp; omega), gA_set (by omega), gA_set (by simp; omega), gA_set (by simp; omega), gA_set (by omega)]
  by_cases h1 : 0 = r
  · subst h1; simp <;> omega
  · by_cases h2 : A = r
    · subst h2; simp
    · by_cases h3 : W = r
      · subst h3; simp [h1, h2] <;> omega
      · simp [h1, h2, h3]
theorem regs_no {W : Nat} {t : Int} {rx : List Int} (hl : rx.length = 8) (_h0 : gA rx 0 = 0) (hW : 1 ≤ W) : RegsOk 0 W rx (rx.set 0 0) ((rx.set W t).set 0 0) := by
  intro r hr
  rw [gA_set (by omega), gA_set (by simp; omega), gA_set (by omega)]
  by_cases h1 : 0 = r
  · subst h1; simp <;> omega
  · by_cases h3 : W = r
    · subst h3; simp [h1] <;> omega
    · simp [h1, h3]
theorem reads_ne {x : Ins} {W : Nat} (hch : chkI x = 0) (hW : 1 ≤ W ∧ W < 8) (hr : (W : Int) ∉ readsI x) : ∀ z ∈ regs x, z ≠ (W : Int) := by
  intro z hz e
  subst e
  apply hr
  unfold readsI rdl
  rw [if_pos hch, List.mem_filter]
  refine ⟨?_, by simpa using hz⟩
  have : W = 1 ∨ W = 2 ∨ W = 3 ∨ W = 4 ∨ W = 5 ∨ W = 6 ∨ W = 7 := by omega
  rcases this with rfl | rfl | rfl | rfl | rfl | rfl | rfl <;> decide
/-- Two steps of an instruction, from registers that differ at W alone. -/
theorem step_two {x : Ins} {W cn : Nat} {D t : Int} {rx dx : List Int} {hx : List Bool} (hch : chkI x = 0) (hW : 1 ≤ W ∧ W < 8) (hk : x.k ≠ 8 ∧ x.k ≠ 9 ∧ x.k ≠ 10) (hr : ∀ z ∈ regs x, z ≠ (W : Int)) (hl : rx.length = 8) (h0 : gA rx 0 = 0) :
    (∃ e, stepP x cn D ⟨rx, dx, hx, 0, false⟩ = .inl e ∧ stepP x cn D ⟨rx.set W t, dx, hx, 0, false⟩ = .inl e) ∨
    ∃ v d d', stepP x cn D ⟨rx, dx, hx, 0, false⟩ = .inr (v, d) ∧ stepP x cn D ⟨rx.set W t, dx, hx, 0, false⟩ = .inr (v, d') ∧ d.data = d'.data ∧ RegsOk (wrI x) W rx d.regs d'.regs := by
  have hs := small_of hch
  have hkk : kn x.k = true := by
    unfold chkI at hch
    split at hch
    · assumption
    · omega
  obtain ⟨xk, xa, xb, xc, xo, xi⟩ := x
  obtain ⟨A, hA⟩ := Int.eq_ofNat_of_zero_le hs.a0
  simp only [] at hk hkk hA
  have ev : evP ⟨xk, xa, xb, xc, xo, xi⟩ D ⟨rx, dx, hx, 0, false⟩ = evP ⟨xk, xa, xb, xc, xo, xi⟩ D ⟨rx.set W t, dx, hx, 0, false⟩ := by
    rcases kn_cases hkk with rfl | rfl | rfl | rfl | rfl | rfl | rfl | rfl | rfl | rfl | rfl
    all_goals first
      | (simp [evP]; done)
      | (have hb : xb ≠ (W : Int) := hr xb (by simp [regs])
         simp [evP, rAt_set hs.b0 hb]; done)
      | (have hb : xa ≠ (W : Int) := hr xa (by simp [regs])
         simp [evP, rAt_set hs.a0 hb]; done)
      | (exfalso; omega)
  have ef : ∀ v : Ev, effD ⟨xk, xa, xb, xc, xo, xi⟩ v ⟨rx, dx, hx, 0, false⟩ = effD ⟨xk, xa, xb, xc, xo, xi⟩ v ⟨rx.set W t, dx, hx, 0, false⟩ ∧ RegsOk (wrI ⟨xk, xa, xb, xc, xo, xi⟩) W rx (effR ⟨xk, xa, xb, xc, xo, xi⟩ v ⟨rx, dx, hx, 0, false⟩) (effR ⟨xk, xa, xb, xc, xo, xi⟩ v ⟨rx.set W t, dx, hx, 0, false⟩) := by
    intro v
    subst hA
    rcases kn_cases hkk with rfl | rfl | rfl | rfl | rfl | rfl | rfl | rfl | rfl | rfl | rfl
    · exact ⟨by simp [effD], by simp only [wrI, effR, hch]; simpa using regs_no hl h0 hW.1⟩
    · exact ⟨by simp [effD], by simp only [wrI, effR, hch]; simpa using regs_write hl h0 hW.1⟩
    · have hb : xb ≠ (W : Int) := hr xb (by simp [regs])
      exact ⟨by simp [effD], by simp only [wrI, effR, hch, rAt_set hs.b0 hb]; simpa using regs_write hl h0 hW.1⟩
    · have hb : xb ≠ (W : Int) := hr xb (by simp [regs])
      have hc : xc ≠ (W : Int) := hr xc (by simp [regs])
      exact ⟨by simp [effD], by simp only [wrI, effR, hch, rAt_set hs.b0 hb, rAt_set hs.c0 hc]; simpa using regs_write hl h0 hW.1⟩
    · exact ⟨by simp [effD], by simp only [wrI, effR, hch]; simpa using regs_write hl h0 hW.1⟩
    · have hb : (A : Int) ≠ (W : Int) := hr A (by simp [regs])
      exact ⟨by simp only [effD, rAt_set hs.a0 hb], by simp only [wrI, effR, hch]; simpa using regs_no hl h0 hW.1⟩
    · exact ⟨by simp [effD], by simp only [wrI, effR, hch]; simpa using regs_no hl h0 hW.1⟩
    · exact ⟨by simp [effD], by simp only [wrI, effR, hch]; simpa using regs_no hl h0 hW.1⟩
    all_goals (exfalso; omega)
  unfold stepP
  rw [← ev]
  cases he : evP ⟨xk, xa, xb, xc, xo, xi⟩ D ⟨rx, dx, hx, 0, false⟩ with
  | inl e => exact .inl ⟨e, rfl, rfl⟩
  | inr p =>
    obtain ⟨v, n⟩ := p
    dsimp only
    by_cases hn : (cn : Int) ≤ n
    · exact .inl ⟨12, if_pos hn, if_pos hn⟩
    · refine .inr ⟨v, _, _, if_neg hn, if_neg hn, (ef v).1, (ef v).2⟩
theorem regs_im (x : Ins) : regs (imI x) = regs x ∧ (imI x).k = x.k := by
  unfold imI
  split
  · exact ⟨rfl, rfl⟩
  · split
    · exact ⟨rfl, rfl⟩
    · exact ⟨rfl, rfl⟩
theorem wr_im {x : Ins} (h : chkI x = 0) : wrI (imI x) = wrI x := by
  have h2 := imI_ok h
  unfold wrI
  rw [h, h2]
  have : (imI x).a = x.a ∧ (imI x).k = x.k := by
    unfold imI
    split
    · exact ⟨rfl, rfl⟩
    · split <;> exact ⟨rfl, rfl⟩
  rw [this.1, this.2]
/-- The law, plain. -/
theorem reads_plain {x : Ins} {W : Nat} {t : Int} {rx dx : List Int} {hx : List Bool} {d d' : Co} {v v' : Ev} {e f : Int} (hch : chkI x = 0) (hk : x.k ≠ 8 ∧ x.k ≠ 9 ∧ x.k ≠ 10) (hW : 1 ≤ W ∧ W < 8) (hr : (W : Int) ∉ readsI x) (hl : rx.length = 8) (h0 : rx[0]? = some 0)
    (hw : wds rx = true) (ht : Wd t) (hd : dx.length = 4) (hdw : wds dx = true) (hh : hx.length = 4)
    (h : StepIs (imgOf x) ⟨rx, dx, hx, 0, false⟩ d v e) (h' : StepIs (imgOf x) ⟨rx.set W t, dx, hx, 0, false⟩ d' v' f) :
    e = f ∧ v = v' ∧ (e = 0 → d.data = d'.data ∧ RegsOk (wrI x) W rx d.regs d'.regs) := by
  have c1 : CoOk (imgOf x) ⟨rx, dx, hx, 0, false⟩ := ⟨hl, hw, h0, by simp [hd, imgOf], hdw, hh, by simp, by simp [imgOf]⟩
  have c2 : CoOk (imgOf x) ⟨rx.set W t, dx, hx, 0, false⟩ := ⟨by simp [hl], wds_set hw W ht, by rw [List.getElem?_set_ne (by omega)]; exact h0, by simp [hd, imgOf], hdw, hh, by simp, by simp [imgOf]⟩
  have hg : gA rx 0 = 0 := by unfold gA; rw [List.getD_eq_getElem?_getD, h0]; rfl
  have key := fun cn D => step_two (x := imI x) (W := W) (cn := cn) (D := D) (t := t) (rx := rx) (dx := dx) (hx := hx) (imI_ok hch) hW (by rw [(regs_im x).2]; exact hk) (by rw [(regs_im x).1]; exact reads_ne hch hW hr) hl hg
  rw [wr_im hch] at key
  cases h with
  | form h => cases h' with
    | form h' => exact ⟨rfl, rfl, fun h => by omega⟩
    | ended a b => exact absurd ⟨a, c1⟩ h
    | err a b => exact absurd ⟨a, c1⟩ h
    | ok a b => exact absurd ⟨a, c1⟩ h
  | ended a b he => cases he
  | err a b he y hy _ er h => cases h' with
    | form h' => exact absurd ⟨a, c2⟩ h'
    | ended _ _ he => cases he
    | err _ _ _ y' hy' _ er' h' =>
      simp [imgOf] at hy hy'
      subst hy; subst hy'
      rcases key (imgOf x).code.length (imgOf x).data with ⟨e, k1, k2⟩ | ⟨v, d, d', k1, k2, _⟩
      · rw [h] at k1; rw [h'] at k2; cases k1; cases k2
        exact ⟨rfl, rfl, fun h0 => by rcases stepP_err h with rfl | rfl <;> omega⟩
      · rw [h] at k1; cases k1
    | ok _ _ _ y' hy' _ _ _ h' =>
      simp [imgOf] at hy hy'
      subst hy; subst hy'
      rcases key (imgOf x).code.length (imgOf x).data with ⟨e, k1, k2⟩ | ⟨v, d, d', k1, k2, _⟩
      · rw [h'] at k2; cases k2
      · rw [h] at k1; cases k1
  | ok a b he y hy _ _ _ h => cases h' with
    | form h' => exact absurd ⟨a, c2⟩ h'
    | ended _ _ he => cases he
    | err _ _ _ y' hy' _ er' h' =>
      simp [imgOf] at hy hy'
      subst hy; subst hy'
      rcases key (imgOf x).code.length (imgOf x).data with ⟨e, k1, k2⟩ | ⟨v, d, d', k1, k2, _⟩
      · rw [h] at k1; cases k1
      · rw [h'] at k2; cases k2
    | ok _ _ _ y' hy' _ _ _ h' =>
      simp [imgOf] at hy hy'
      subst hy; subst hy'
      rcases key (imgOf x).code.length (imgOf x).data with ⟨e, k1, k2⟩ | ⟨v, d, d', k1, k2, k3⟩
      · rw [h] at k1; cases k1
      · rw [h] at k1; rw [h'] at k2; cases k1; cases k2
        exact ⟨rfl, rfl, fun _ => k3⟩
end Go.Proofs.Ytonbmijhbbodnaa
