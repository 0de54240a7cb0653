/-
  Theory of dictionaries.
  Theory of dictionaries.
  Theory.
  Theory.
  Theory.
  Theory.
  Theory.
-/
import Derived.Handy
namespace Go.Proofs.Ytdegpgonphgbcaa
def sm (f : Nat → Rat) : Nat → Rat
  | 0 => 0
  | n + 1 => sm f n + f n
theorem sm_congr {f g : Nat → Rat} : ∀ {n : Nat}, (∀ k, k < n → f k = g k) → sm f n = sm g n
  | 0, _ => rfl
  | n + 1, h => by
    have h1 := sm_congr (n := n) (fun k hk => h k (by omega))
    have h2 := h n (by omega)
    unfold sm; rw [h1, h2]
theorem sm_zero {f : Nat → Rat} : ∀ {n : Nat}, (∀ k, k < n → f k = 0) → sm f n = 0
  | 0, _ => rfl
  | n + 1, h => by
    have h1 := sm_zero (n := n) (fun k hk => h k (by omega))
    have h2 := h n (by omega)
    unfold sm; rw [h1, h2]; grind
theorem sm_add (f g : Nat → Rat) : ∀ n, sm (fun k => f k + g k) n = sm f n + sm g n
  | 0 => by unfold sm; grind
  | n + 1 => by
    have h1 := sm_add f g n
    unfold sm; rw [h1]; grind
theorem sm_mul (c : Rat) (f : Nat → Rat) : ∀ n, sm (fun k => c * f k) n = c * sm f n
  | 0 => by unfold sm; grind
  | n + 1 => by
    have h1 := sm_mul c f n
    unfold sm; rw [h1]; grind
theorem sm_one {f g : Nat → Rat} {k : Nat} : ∀ {n : Nat}, k < n → (∀ j, j < n → j ≠ k → f j = g j) → sm f n = sm g n - g k + f k
  | 0, h, _ => by omega
  | n + 1, h, hg => by
    unfold sm
    by_cases e : k = n
    · subst e
      rw [sm_congr (f := f) (g := g) (fun j hj => hg j (by omega) (by omega))]; grind
    · rw [sm_one (n := n) (by omega) (fun j hj hne => hg j (by omega) hne), hg n (by omega) (fun h => e h.symm)]; grind
theorem sm_nonneg {f : Nat → Rat} : ∀ {n : Nat}, (∀ k, k < n → 0 ≤ f k) → 0 ≤ sm f n
  | 0, _ => by unfold sm; grind
  | n + 1, h => by
    have h1 := sm_nonneg (n := n) (fun k hk => h k (by omega))
    have h2 := h n (by omega)
    unfold sm; grind
theorem sm_le {f g : Nat → Rat} : ∀ {n : Nat}, (∀ k, k < n → f k ≤ g k) → sm f n ≤ sm g n
  | 0, _ => by unfold sm; grind
  | n + 1, h => by
    have h1 := sm_le (n := n) (fun k hk => h k (by omega))
    have h2 := h n (by omega)
    unfold sm; grind
theorem sm_neg {f : Nat → Rat} {n : Nat} (h : sm f n < 0) : ∃ k, k < n ∧ f k < 0 := by
  refine Classical.byContradiction fun hn => ?_
  have : 0 ≤ sm f n := sm_nonneg fun k hk => by
    have : ¬ f k < 0 := fun e => hn ⟨k, hk, e⟩
    grind
  grind
end Go.Proofs.Ytdegpgonphgbcaa
namespace Go.Proofs.Ytdegpgonphgbcaa
structure Dg where
  m : Nat
  n : Nat
  B : Nat → Nat
  N : Nat → Nat
  a : Nat → Nat → Rat
def Dg.val (d : Dg) (i : Nat) (x : Nat → Rat) : Rat := d.a i 0 + sm (fun k => d.a i (k + 1) * x (d.N k)) d.n
def Dg.Sat (d : Dg) (x : Nat → Rat) (z : Rat) : Prop := (∀ i, i < d.m → x (d.B i) = d.val i x) ∧ z = d.val d.m x
structure IsPiv (d : Dg) (i k : Nat) (e : Dg) : Prop where
  m : e.m = d.m
  n : e.n = d.n
  hi : i < d.m
  hk : k < d.n
  ne : d.a i (k + 1) ≠ 0
  Bi : e.B i = d.N k
  Br : ∀ r, r < d.m → r ≠ i → e.B r = d.B r
  Nk : e.N k = d.B i
  Nc : ∀ c, c < d.n → c ≠ k → e.N c = d.N c
  ik : e.a i (k + 1) = 1 / d.a i (k + 1)
  ij : ∀ j, j ≤ d.n → j ≠ k + 1 → e.a i j = d.a i j * -(1 / d.a i (k + 1))
  rk : ∀ r, r ≤ d.m → r ≠ i → e.a r (k + 1) = d.a r (k + 1) * (1 / d.a i (k + 1))
  rj : ∀ r, r ≤ d.m → r ≠ i → ∀ j, j ≤ d.n → j ≠ k + 1 → e.a r j = d.a r j + d.a r (k + 1) * (d.a i j * -(1 / d.a i (k + 1)))
def Dg.rest (d : Dg) (k r : Nat) (x : Nat → Rat) : Rat := d.a r 0 + sm (fun c => if c = k then 0 else d.a r (c + 1) * x (d.N c)) d.n
theorem Dg.val_rest (d : Dg) (x : Nat → Rat) {k : Nat} (hk : k < d.n) (r : Nat) : d.val r x = d.rest k r x + d.a r (k + 1) * x (d.N k) := by
  unfold val rest
  rw [sm_one (f := fun c => d.a r (c + 1) * x (d.N c)) (g := fun c => if c = k then 0 else d.a r (c + 1) * x (d.N c)) hk (fun j _ hne => by simp [hne])]
  simp; grind
theorem IsPiv.rest_i {d e : Dg} {i k : Nat} (h : IsPiv d i k e) (x : Nat → Rat) : e.rest k i x = -(1 / d.a i (k + 1)) * d.rest k i x := by
  unfold Dg.rest
  rw [h.n, h.ij 0 (by omega) (by omega)]
  have : sm (fun c => if c = k then 0 else e.a i (c + 1) * x (e.N c)) d.n = sm (fun c => -(1 / d.a i (k + 1)) * (if c = k then 0 else d.a i (c + 1) * x (d.N c))) d.n := sm_congr fun c hc => by
    by_cases hck : c = k
    · rw [if_pos hck, if_pos hck]; grind
    · rw [if_neg hck, if_neg hck, h.ij (c + 1) (by omega) (by omega), h.Nc c hc hck]; grind
  rw [this, sm_mul]; grind
theorem IsPiv.rest_r {d e : Dg} {i k : Nat} (h : IsPiv d i k e) (x : Nat → Rat) {r : Nat} (hr : r ≤ d.m) (hne : r ≠ i) : e.rest k r x = d.rest k r x + d.a r (k + 1) * (-(1 / d.a i (k + 1)) * d.rest k i x) := by
  unfold Dg.rest
  rw [h.n, h.rj r hr hne 0 (by omega) (by omega)]
  have : sm (fun c => if c = k then 0 else e.a r (c + 1) * x (e.N c)) d.n = sm (fun c => (if c = k then 0 else d.a r (c + 1) * x (d.N c)) + (d.a r (k + 1) * -(1 / d.a i (k + 1))) * (if c = k then 0 else d.a i (c + 1) * x (d.N c))) d.n := sm_congr fun c hc => by
    by_cases hck : c = k
    · rw [if_pos hck, if_pos hck, if_pos hck]; grind
    · rw [if_neg hck, if_neg hck, if_neg hck, h.rj r hr hne (c + 1) (by omega) (by omega), h.Nc c hc hck]; grind
  rw [this, sm_add, sm_mul]; grind
theorem IsPiv.sat {d e : Dg} {i k : Nat} (h : IsPiv d i k e) (x : Nat → Rat) (z : Rat) : e.Sat x z ↔ d.Sat x z := by
  have hne := h.ne
  have hi := h.hi
  have vi := d.val_rest x h.hk i
  have wi := e.val_rest x (k := k) (by rw [h.n]; exact h.hk) i
  rw [h.rest_i, h.ik, h.Nk] at wi
  have key : x (d.B i) = d.val i x ↔ x (e.B i) = e.val i x := by
    rw [h.Bi, vi, wi]
    constructor
    · intro q; rw [q]; grind
    · intro q
      have : x (d.N k) * d.a i (k + 1) = (-(1 / d.a i (k + 1)) * d.rest k i x + 1 / d.a i (k + 1) * x (d.B i)) * d.a i (k + 1) := by rw [← q]
      grind
  have vr : ∀ r, r ≤ d.m → r ≠ i → x (d.B i) = d.val i x → e.val r x = d.val r x := by
    intro r hr hne q
    rw [d.val_rest x h.hk r, e.val_rest x (k := k) (by rw [h.n]; exact h.hk) r, h.rest_r x hr hne, h.rk r hr hne, h.Nk, q, vi]
    grind
  unfold Dg.Sat
  rw [h.m]
  constructor
  · rintro ⟨q1, q2⟩
    have qi := key.2 (q1 i hi)
    refine ⟨fun r hr => ?_, by rw [q2, vr d.m (Nat.le_refl _) (by omega) qi]⟩
    by_cases hri : r = i
    · rw [hri]; exact qi
    · rw [← h.Br r hr hri, q1 r hr, vr r (by omega) hri qi]
  · rintro ⟨q1, q2⟩
    have qi := q1 i hi
    refine ⟨fun r hr => ?_, by rw [q2, vr d.m (Nat.le_refl _) (by omega) qi]⟩
    by_cases hri : r = i
    · rw [hri]; exact key.1 qi
    · rw [h.Br r hr hri, q1 r hr, vr r (by omega) hri qi]
end Go.Proofs.Ytdegpgonphgbcaa
namespace Go.Proofs.Ytdegpgonphgbcaa
def Dg.Bas (d : Dg) (v : Nat) : Prop := ∃ i, i < d.m ∧ d.B i = v
def Dg.Non (d : Dg) (v : Nat) : Prop := ∃ k, k < d.n ∧ d.N k = v
structure Dg.Inj (d : Dg) : Prop where
  b : ∀ i j, i < d.m → j < d.m → d.B i = d.B j → i = j
  n : ∀ i j, i < d.n → j < d.n → d.N i = d.N j → i = j
  bn : ∀ i k, i < d.m → k < d.n → d.B i ≠ d.N k
structure DEqv (d e : Dg) : Prop where
  m : e.m = d.m
  n : e.n = d.n
  v : ∀ v, (e.Bas v ∨ e.Non v) ↔ (d.Bas v ∨ d.Non v)
  s : ∀ x z, e.Sat x z ↔ d.Sat x z
  i : d.Inj
  j : e.Inj
theorem DEqv.refl {d : Dg} (h : d.Inj) : DEqv d d := ⟨rfl, rfl, fun _ => Iff.rfl, fun _ _ => Iff.rfl, h, h⟩
theorem DEqv.symm {d e : Dg} (h : DEqv d e) : DEqv e d := ⟨h.m.symm, h.n.symm, fun v => (h.v v).symm, fun x z => (h.s x z).symm, h.j, h.i⟩
theorem DEqv.trans {d e f : Dg} (h : DEqv d e) (k : DEqv e f) : DEqv d f := ⟨k.m.trans h.m, k.n.trans h.n, fun v => (k.v v).trans (h.v v), fun x z => (k.s x z).trans (h.s x z), h.i, k.j⟩
theorem IsPiv.bas {d e : Dg} {i k : Nat} (h : IsPiv d i k e) (I : d.Inj) (v : Nat) : e.Bas v ↔ v = d.N k ∨ (d.Bas v ∧ v ≠ d.B i) := by
  constructor
  · rintro ⟨r, hr, rfl⟩
    rw [h.m] at hr
    by_cases hri : r = i
    · rw [hri, h.Bi]; exact .inl rfl
    · rw [h.Br r hr hri]
      exact .inr ⟨⟨r, hr, rfl⟩, fun q => hri (I.b r i hr h.hi q)⟩
  · rintro (rfl | ⟨⟨r, hr, rfl⟩, hne⟩)
    · exact ⟨i, by rw [h.m]; exact h.hi, h.Bi⟩
    · exact ⟨r, by rw [h.m]; exact hr, h.Br r hr (fun q => hne (by rw [q]))⟩
theorem IsPiv.non {d e : Dg} {i k : Nat} (h : IsPiv d i k e) (I : d.Inj) (v : Nat) : e.Non v ↔ v = d.B i ∨ (d.Non v ∧ v ≠ d.N k) := by
  constructor
  · rintro ⟨c, hc, rfl⟩
    rw [h.n] at hc
    by_cases hck : c = k
    · rw [hck, h.Nk]; exact .inl rfl
    · rw [h.Nc c hc hck]
      exact .inr ⟨⟨c, hc, rfl⟩, fun q => hck (I.n c k hc h.hk q)⟩
  · rintro (rfl | ⟨⟨c, hc, rfl⟩, hne⟩)
    · exact ⟨k, by rw [h.n]; exact h.hk, h.Nk⟩
    · exact ⟨c, by rw [h.n]; exact hc, h.Nc c hc (fun q => hne (by rw [q]))⟩
theorem IsPiv.eqv {d e : Dg} {i k : Nat} (h : IsPiv d i k e) (I : d.Inj) : DEqv d e := by
  refine ⟨h.m, h.n, fun v => ?_, h.sat, I, ?_⟩
  · rw [h.bas I, h.non I]
    constructor
    · rintro ((rfl | ⟨q, _⟩) | (rfl | ⟨q, _⟩))
      · exact .inr ⟨k, h.hk, rfl⟩
      · exact .inl q
      · exact .inl ⟨i, h.hi, rfl⟩
      · exact .inr q
    · rintro (q | q)
      · by_cases hv : v = d.B i
        · exact .inr (.inl hv)
        · exact .inl (.inr ⟨q, hv⟩)
      · by_cases hv : v = d.N k
        · exact .inl (.inl hv)
        · exact .inr (.inr ⟨q, hv⟩)
  · refine ⟨fun r s hr hs q => ?_, fun r s hr hs q => ?_, fun r c hr hc q => ?_⟩
    · rw [h.m] at hr hs
      by_cases h1 : r = i <;> by_cases h2 : s = i
      · omega
      · rw [h1, h.Bi, h.Br s hs h2] at q; exact absurd q.symm (I.bn s k hs h.hk)
      · rw [h2, h.Bi, h.Br r hr h1] at q; exact absurd q (I.bn r k hr h.hk)
      · rw [h.Br s hs h2, h.Br r hr h1] at q; exact I.b r s hr hs q
    · rw [h.n] at hr hs
      by_cases h1 : r = k <;> by_cases h2 : s = k
      · omega
      · rw [h1, h.Nk, h.Nc s hs h2] at q; exact absurd q (I.bn i s h.hi hs)
      · rw [h2, h.Nk, h.Nc r hr h1] at q; exact absurd q.symm (I.bn i r h.hi hr)
      · rw [h.Nc s hs h2, h.Nc r hr h1] at q; exact I.n r s hr hs q
    · rw [h.m] at hr; rw [h.n] at hc
      by_cases h1 : r = i <;> by_cases h2 : c = k
      · rw [h1, h2, h.Bi, h.Nk] at q; exact absurd q.symm (I.bn i k h.hi h.hk)
      · rw [h1, h.Bi, h.Nc c hc h2] at q; exact h2 (I.n c k hc h.hk q.symm)
      · rw [h2, h.Nk, h.Br r hr h1] at q; exact h1 (I.b r i hr h.hi q)
      · rw [h.Br r hr h1, h.Nc c hc h2] at q; exact absurd q (I.bn r c hr hc)
theorem Dg.Inj.sol {d : Dg} (I : d.Inj) (y : Nat → Rat) : ∃ x z, d.Sat x z ∧ (∀ k, k < d.n → x (d.N k) = y k) ∧ (∀ r, d.val r x = d.a r 0 + sm (fun k => d.a r (k + 1) * y k) d.n) := by
  classical
  let x : Nat → Rat := fun v => if h : ∃ k, k < d.n ∧ d.N k = v then y (Classical.choose h) else if h : ∃ i, i < d.m ∧ d.B i = v then d.a (Classical.choose h) 0 + sm (fun k => d.a (Classical.choose h) (k + 1) * y k) d.n else 0
  have xn : ∀ k, k < d.n → x (d.N k) = y k := by
    intro k hk
    have hx : ∃ c, c < d.n ∧ d.N c = d.N k := ⟨k, hk, rfl⟩
    show (if h : ∃ c, c < d.n ∧ d.N c = d.N k then y (Classical.choose h) else _) = _
    rw [dif_pos hx]
    have := Classical.choose_spec hx
    rw [I.n _ _ this.1 hk this.2]
  have xv : ∀ r, d.val r x = d.a r 0 + sm (fun k => d.a r (k + 1) * y k) d.n := by
    intro r
    unfold Dg.val
    rw [sm_congr fun k hk => by rw [xn k hk]]
  refine ⟨x, d.val d.m x, ⟨fun i hi => ?_, rfl⟩, xn, xv⟩
  rw [xv]
  have h0 : ¬ ∃ c, c < d.n ∧ d.N c = d.B i := fun ⟨c, hc, q⟩ => I.bn i c hi hc q.symm
  have hx : ∃ j, j < d.m ∧ d.B j = d.B i := ⟨i, hi, rfl⟩
  show (if h : ∃ c, c < d.n ∧ d.N c = d.B i then y (Classical.choose h) else if h : ∃ j, j < d.m ∧ d.B j = d.B i then d.a (Classical.choose h) 0 + sm (fun k => d.a (Classical.choose h) (k + 1) * y k) d.n else 0) = _
  rw [dif_neg h0, dif_pos hx]
  have := Classical.choose_spec hx
  rw [I.b _ _ this.1 hi this.2]
theorem Dg.Inj.sol0 {d : Dg} (I : d.Inj) : ∃ x, d.Sat x (d.a d.m 0) ∧ (∀ k, k < d.n → x (d.N k) = 0) ∧ (∀ i, i < d.m → x (d.B i) = d.a i 0) := by
  obtain ⟨x, z, hs, hn, hv⟩ := I.sol (fun _ => 0)
  have e : ∀ r, d.val r x = d.a r 0 := fun r => by rw [hv, sm_zero fun k _ => by grind]; grind
  refine ⟨x, ⟨hs.1, (e _).symm⟩, hn, fun i hi => by rw [hs.1 i hi, e]⟩
theorem Dg.Inj.sol1 {d : Dg} (I : d.Inj) {k : Nat} (hk : k < d.n) (t : Rat) : ∃ x, d.Sat x (d.a d.m 0 + d.a d.m (k + 1) * t) ∧ x (d.N k) = t ∧ (∀ c, c < d.n → c ≠ k → x (d.N c) = 0) ∧ (∀ i, i < d.m → x (d.B i) = d.a i 0 + d.a i (k + 1) * t) := by
  obtain ⟨x, z, hs, hn, hv⟩ := I.sol (fun c => if c = k then t else 0)
  have e : ∀ r, d.val r x = d.a r 0 + d.a r (k + 1) * t := fun r => by
    rw [hv, sm_one (g := fun _ => 0) hk (fun c _ h => by rw [if_neg h]; grind), sm_zero (f := fun _ => 0) (fun _ _ => rfl), if_pos rfl]; grind
  refine ⟨x, ⟨hs.1, (e _).symm⟩, by rw [hn k hk, if_pos rfl], fun c hc h => by rw [hn c hc, if_neg h], fun i hi => by rw [hs.1 i hi, e]⟩
end Go.Proofs.Ytdegpgonphgbcaa
namespace Go.Proofs.Ytdegpgonphgbcaa
def Dg.lim (d : Dg) (k r : Nat) : Rat := -(d.a r 0 / d.a r (k + 1))
def Dg.Ok (d : Dg) : Prop := ∀ i, i < d.m → 0 ≤ d.a i 0
structure Bland (d : Dg) (i k : Nat) (e : Dg) : Prop where
  p : IsPiv d i k e
  pos : 0 < d.a d.m (k + 1)
  ent : ∀ c, c < d.n → 0 < d.a d.m (c + 1) → d.N k ≤ d.N c
  neg : d.a i (k + 1) < 0
  lev : ∀ r, r < d.m → d.a r (k + 1) < 0 → d.lim k i ≤ d.lim k r ∧ (d.lim k r = d.lim k i → d.B i ≤ d.B r)
theorem lim_nonneg {x y : Rat} (hx : 0 ≤ x) (hy : y < 0) : 0 ≤ -(x / y) := by
  have h1 : 0 ≤ -(1 / y) := by
    have : 0 < -y := by grind
    have h2 := Rat.inv_pos.2 this
    have h3 : -(1 / y) = (-y)⁻¹ := by grind
    rw [h3]; grind
  have := Rat.mul_nonneg hx h1
  have e : -(x / y) = x * -(1 / y) := by grind
  rw [e]; exact this
theorem Bland.ok {d e : Dg} {i k : Nat} (h : Bland d i k e) (o : d.Ok) : e.Ok := by
  intro r hr
  rw [h.p.m] at hr
  have li := lim_nonneg (o i h.p.hi) h.neg
  by_cases hri : r = i
  · rw [hri, h.p.ij 0 (by omega) (by omega)]
    have : d.a i 0 * -(1 / d.a i (k + 1)) = -(d.a i 0 / d.a i (k + 1)) := by grind
    rw [this]; exact li
  · rw [h.p.rj r (by omega) hri 0 (by omega) (by omega)]
    have e1 : d.a r 0 + d.a r (k + 1) * (d.a i 0 * -(1 / d.a i (k + 1))) = d.a r 0 + d.a r (k + 1) * d.lim k i := by unfold Dg.lim; grind
    rw [e1]
    by_cases hn : d.a r (k + 1) < 0
    · have h1 := (h.lev r hr hn).1
      have h2 : d.a r (k + 1) * d.lim k r = -d.a r 0 := by unfold Dg.lim; grind
      have h3 : 0 ≤ (d.lim k r - d.lim k i) * -(d.a r (k + 1)) := Rat.mul_nonneg (by grind) (by grind)
      grind
    · have h1 : 0 ≤ d.a r (k + 1) * d.lim k i := Rat.mul_nonneg (by grind) li
      have := o r hr
      grind
theorem Bland.goal {d e : Dg} {i k : Nat} (h : Bland d i k e) : e.a e.m 0 = d.a d.m 0 + d.a d.m (k + 1) * d.lim k i := by
  have hi := h.p.hi
  rw [h.p.m, h.p.rj d.m (Nat.le_refl _) (by omega) 0 (by omega) (by omega)]
  unfold Dg.lim; grind
theorem Bland.up {d e : Dg} {i k : Nat} (h : Bland d i k e) (o : d.Ok) : d.a d.m 0 ≤ e.a e.m 0 := by
  rw [h.goal]
  have := Rat.mul_nonneg (Rat.le_of_lt h.pos) (lim_nonneg (o i h.p.hi) h.neg)
  unfold Dg.lim; grind
def Dg.Zero (d : Dg) (v : Nat) : Prop := (∃ i, i < d.m ∧ d.B i = v ∧ d.a i 0 = 0) ∨ d.Non v
structure Run (s : Nat → Dg) (p q : Nat) : Prop where
  lt : p < q
  I : (s p).Inj
  ok : (s p).Ok
  st : ∀ t, p ≤ t → t < q → ∃ i k, Bland (s t) i k (s (t + 1))
theorem Run.eqv {s : Nat → Dg} {p q : Nat} (h : Run s p q) : ∀ j, p + j ≤ q → DEqv (s p) (s (p + j)) ∧ (s (p + j)).Ok
  | 0, _ => ⟨DEqv.refl h.I, h.ok⟩
  | j + 1, hj => by
    obtain ⟨e, o⟩ := h.eqv j (by omega)
    obtain ⟨i, k, b⟩ := h.st (p + j) (by omega) (by omega)
    exact ⟨e.trans (b.p.eqv e.j), b.ok o⟩
theorem Run.up {s : Nat → Dg} {p q : Nat} (h : Run s p q) (a : Nat) (ha : p ≤ a) : ∀ j, a + j ≤ q → (s a).a (s a).m 0 ≤ (s (a + j)).a (s (a + j)).m 0
  | 0, _ => Rat.le_refl
  | j + 1, hj => by
    have h1 := h.up a ha j (by omega)
    obtain ⟨i, k, b⟩ := h.st (a + j) (by omega) (by omega)
    have o := (h.eqv (a + j - p) (by omega)).2
    rw [show p + (a + j - p) = a + j by omega] at o
    exact Rat.le_trans h1 (b.up o)
theorem Run.at' {s : Nat → Dg} {p q : Nat} (h : Run s p q) {t : Nat} (h1 : p ≤ t) (h2 : t ≤ q) : DEqv (s p) (s t) ∧ (s t).Ok := by
  have := h.eqv (t - p) (by omega)
  rw [show p + (t - p) = t by omega] at this; exact this
theorem Run.le {s : Nat → Dg} {p q : Nat} (h : Run s p q) {t u : Nat} (h1 : p ≤ t) (h2 : t ≤ u) (h3 : u ≤ q) : (s t).a (s t).m 0 ≤ (s u).a (s u).m 0 := by
  have := h.up t h1 (u - t) (by omega)
  rw [show t + (u - t) = u by omega] at this; exact this
theorem goal_same {d e : Dg} (h : DEqv d e) (hb : ∀ v, d.Non v → e.Non v) : d.a d.m 0 = e.a e.m 0 := by
  obtain ⟨x, hs, hn, _⟩ := h.j.sol0
  have hs := (h.s x _).1 hs
  have : d.val d.m x = d.a d.m 0 := by
    unfold Dg.val
    rw [sm_zero fun k hk => by
      obtain ⟨c, hc, q⟩ := hb _ ⟨k, hk, rfl⟩
      rw [← q, hn c hc]; grind]
    grind
  rw [← this, ← hs.2]
end Go.Proofs.Ytdegpgonphgbcaa
namespace Go.Proofs.Ytdegpgonphgbcaa
theorem Dg.Inj.apart {d : Dg} (I : d.Inj) {v : Nat} (h : d.Bas v) (k : d.Non v) : False := by
  obtain ⟨i, hi, q⟩ := h
  obtain ⟨c, hc, r⟩ := k
  exact I.bn i c hi hc (by rw [q, r])
structure Loop (s : Nat → Dg) (p q : Nat) : Prop extends Run s p q where
  back : ∀ v, (s q).Non v ↔ (s p).Non v
theorem Loop.backB {s : Nat → Dg} {p q : Nat} (h : Loop s p q) (v : Nat) : (s q).Bas v ↔ (s p).Bas v := by
  have e := (h.at' (t := q) (by have := h.lt; omega) (Nat.le_refl _)).1
  constructor
  · intro b
    rcases (e.v v).1 (.inl b) with r | r
    · exact r
    · exact absurd ((h.back v).2 r) (fun r2 => e.j.apart b r2)
  · intro b
    rcases (e.v v).2 (.inl b) with r | r
    · exact r
    · exact absurd ((h.back v).1 r) (fun r2 => e.i.apart b r2)
theorem Loop.flat {s : Nat → Dg} {p q : Nat} (h : Loop s p q) {t i k : Nat} (h1 : p ≤ t) (h2 : t < q) (b : Bland (s t) i k (s (t + 1))) : (s t).a i 0 = 0 := by
  have e := (h.at' (t := q) (by have := h.lt; omega) (Nat.le_refl _)).1
  have g := goal_same e (fun v hv => (h.back v).2 hv)
  have l1 := h.le (Nat.le_refl p) h1 (by omega)
  have l2 := h.le (t := t + 1) (by omega) (show t + 1 ≤ q by omega) (Nat.le_refl q)
  have o := (h.at' h1 (by omega)).2 i b.p.hi
  have gg := b.goal
  have ln := lim_nonneg o b.neg
  have z : (s t).a (s t).m (k + 1) * (s t).lim k i = 0 := by
    have := Rat.mul_nonneg (Rat.le_of_lt b.pos) ln
    have e2 : (s t).lim k i = -((s t).a i 0 / (s t).a i (k + 1)) := rfl
    rw [e2] at gg ⊢
    grind
  have hp := b.pos
  have hn := b.neg
  have : (s t).lim k i = 0 := by
    rcases Rat.mul_eq_zero.1 z with r | r
    · grind
    · exact r
  unfold Dg.lim at this
  grind
theorem IsPiv.zero {d e : Dg} {i k : Nat} (h : IsPiv d i k e) (I : d.Inj) (z : d.a i 0 = 0) {v : Nat} : e.Zero v ↔ d.Zero v := by
  have hr : ∀ r, r < d.m → e.a r 0 = d.a r 0 := fun r hr => by
    by_cases hri : r = i
    · rw [hri, h.ij 0 (by omega) (by omega), z]; grind
    · rw [h.rj r (by omega) hri 0 (by omega) (by omega), z]; grind
  constructor
  · rintro (⟨r, hr1, rfl, hz⟩ | q)
    · rw [h.m] at hr1
      by_cases hri : r = i
      · rw [hri, h.Bi]; exact .inr ⟨k, h.hk, rfl⟩
      · rw [h.Br r hr1 hri]; exact .inl ⟨r, hr1, rfl, by rw [← hr r hr1]; exact hz⟩
    · rcases (h.non I v).1 q with rfl | ⟨q, _⟩
      · exact .inl ⟨i, h.hi, rfl, z⟩
      · exact .inr q
  · rintro (⟨r, hr1, rfl, hz⟩ | q)
    · by_cases hri : r = i
      · exact .inr ((h.non I _).2 (.inl (by rw [hri])))
      · exact .inl ⟨r, by rw [h.m]; exact hr1, h.Br r hr1 hri, by rw [hr r hr1]; exact hz⟩
    · by_cases hv : v = d.N k
      · exact .inl ⟨i, by rw [h.m]; exact h.hi, by rw [hv, h.Bi], by rw [hr i h.hi]; exact z⟩
      · exact .inr ((h.non I v).2 (.inr ⟨q, hv⟩))
theorem Loop.zero {s : Nat → Dg} {p q : Nat} (h : Loop s p q) (v : Nat) : ∀ j, p + j ≤ q → ((s (p + j)).Zero v ↔ (s p).Zero v)
  | 0, _ => Iff.rfl
  | j + 1, hj => by
    obtain ⟨i, k, b⟩ := h.st (p + j) (by omega) (by omega)
    have z := h.flat (by omega) (by omega) b
    exact (b.p.zero (h.at' (t := p + j) (by omega) (by omega)).1.j z).trans (h.zero v j (by omega))
theorem Loop.zeros {s : Nat → Dg} {p q : Nat} (h : Loop s p q) {t u : Nat} (h1 : p ≤ t) (h2 : t ≤ q) (h3 : p ≤ u) (h4 : u ≤ q) (v : Nat) : (s t).Zero v ↔ (s u).Zero v := by
  have a := h.zero v (t - p) (by omega)
  have b := h.zero v (u - p) (by omega)
  rw [show p + (t - p) = t by omega] at a
  rw [show p + (u - p) = u by omega] at b
  exact a.trans b.symm
def Enters (s : Nat → Dg) (v t : Nat) : Prop := ∃ i k, Bland (s t) i k (s (t + 1)) ∧ (s t).N k = v
def Leaves (s : Nat → Dg) (v t : Nat) : Prop := ∃ i k, Bland (s t) i k (s (t + 1)) ∧ (s t).B i = v
theorem Run.stay_non {s : Nat → Dg} {p q : Nat} (h : Run s p q) {v t : Nat} (h1 : p ≤ t) (hn : (s t).Non v) : ∀ j, t + j ≤ q → (∀ u, t ≤ u → u < t + j → ¬ Enters s v u) → (s (t + j)).Non v
  | 0, _, _ => hn
  | j + 1, hj, he => by
    have ih := h.stay_non h1 hn j (by omega) (fun u a b => he u a (by omega))
    obtain ⟨i, k, b⟩ := h.st (t + j) (by omega) (by omega)
    exact (b.p.non (h.at' (t := t + j) (by omega) (by omega)).1.j v).2 (.inr ⟨ih, fun e => he (t + j) (by omega) (by omega) ⟨i, k, b, e.symm⟩⟩)
theorem Run.stay_bas {s : Nat → Dg} {p q : Nat} (h : Run s p q) {v t : Nat} (h1 : p ≤ t) (hn : (s t).Bas v) : ∀ j, t + j ≤ q → (∀ u, t ≤ u → u < t + j → ¬ Leaves s v u) → (s (t + j)).Bas v
  | 0, _, _ => hn
  | j + 1, hj, he => by
    have ih := h.stay_bas h1 hn j (by omega) (fun u a b => he u a (by omega))
    obtain ⟨i, k, b⟩ := h.st (t + j) (by omega) (by omega)
    exact (b.p.bas (h.at' (t := t + j) (by omega) (by omega)).1.j v).2 (.inr ⟨ih, fun e => he (t + j) (by omega) (by omega) ⟨i, k, b, e.symm⟩⟩)
theorem Loop.comes {s : Nat → Dg} {p q : Nat} (h : Loop s p q) {v t u : Nat} (h1 : p ≤ t) (h2 : t ≤ q) (h3 : p ≤ u) (h4 : u ≤ q) (hb : (s t).Bas v) (hn : (s u).Non v) : ∃ x, p ≤ x ∧ x < q ∧ Enters s v x := by
  refine Classical.byContradiction fun no => ?_
  have no : ∀ x, p ≤ x → x < q → ¬ Enters s v x := fun x a b c => no ⟨x, a, b, c⟩
  have r := h.stay_non h3 hn (q - u) (by omega) (fun x a b => no x (by omega) (by omega))
  rw [show u + (q - u) = q by omega] at r
  have r2 := h.stay_non (Nat.le_refl p) ((h.back v).1 r) (t - p) (by omega) (fun x a b => no x (by omega) (by omega))
  rw [show p + (t - p) = t by omega] at r2
  exact (h.at' h1 h2).1.j.apart hb r2
theorem Loop.goes {s : Nat → Dg} {p q : Nat} (h : Loop s p q) {v t : Nat} (h1 : p ≤ t) (h2 : t < q) (he : Enters s v t) : ∃ x, p ≤ x ∧ x < q ∧ Leaves s v x := by
  refine Classical.byContradiction fun no => ?_
  have no : ∀ x, p ≤ x → x < q → ¬ Leaves s v x := fun x a b c => no ⟨x, a, b, c⟩
  obtain ⟨i, k, b, rfl⟩ := he
  have I := (h.at' h1 (by omega)).1.j
  have r0 : (s (t + 1)).Bas ((s t).N k) := (b.p.bas I _).2 (.inl rfl)
  have r := h.stay_bas (t := t + 1) (by omega) r0 (q - (t + 1)) (by omega) (fun x a b => no x (by omega) (by omega))
  rw [show t + 1 + (q - (t + 1)) = q by omega] at r
  have r2 := h.stay_bas (Nat.le_refl p) ((h.backB _).1 r) (t - p) (by omega) (fun x a b => no x (by omega) (by omega))
  rw [show p + (t - p) = t by omega] at r2
  exact I.apart r2 ⟨k, b.p.hk, rfl⟩
end Go.Proofs.Ytdegpgonphgbcaa
namespace Go.Proofs.Ytdegpgonphgbcaa
theorem sm_pos {f : Nat → Rat} {n : Nat} (h : 0 < sm f n) : ∃ k, k < n ∧ 0 < f k := by
  have e : sm (fun k => (-1) * f k) n = (-1) * sm f n := sm_mul _ _ _
  obtain ⟨k, hk, q⟩ := sm_neg (f := fun k => (-1) * f k) (n := n) (by rw [e]; grind)
  exact ⟨k, hk, by grind⟩
theorem top_of (f : Nat → Nat) (p : Nat) : ∀ j : Nat, ∃ t, p ≤ t ∧ t < p + (j + 1) ∧ ∀ x, p ≤ x → x < p + (j + 1) → f x ≤ f t
  | 0 => ⟨p, Nat.le_refl _, by omega, fun x a b => by rw [show x = p by omega]; exact Nat.le_refl _⟩
  | j + 1 => by
    obtain ⟨t, h1, h2, h4⟩ := top_of f p j
    by_cases hvw : f t ≤ f (p + (j + 1))
    · refine ⟨p + (j + 1), by omega, by omega, fun x a b => ?_⟩
      by_cases hx : x = p + (j + 1)
      · rw [hx]; exact Nat.le_refl _
      · exact Nat.le_trans (h4 x a (by omega)) hvw
    · refine ⟨t, h1, by omega, fun x a b => ?_⟩
      by_cases hx : x = p + (j + 1)
      · rw [hx]; omega
      · exact h4 x a (by omega)
theorem Enters.same {s : Nat → Dg} {t u v : Nat} (_I : (s t).Inj) (h : Enters s u t) (k : Enters s v t) : u = v := by
  obtain ⟨i1, k1, b1, rfl⟩ := h
  obtain ⟨i2, k2, b2, rfl⟩ := k
  have := b1.ent k2 b2.p.hk b2.pos
  have := b2.ent k1 b1.p.hk b1.pos
  omega
theorem Loop.top {s : Nat → Dg} {p q : Nat} (h : Loop s p q) : ∃ T t, p ≤ t ∧ t < q ∧ Enters s T t ∧ ∀ u x, p ≤ x → x < q → Enters s u x → u ≤ T := by
  classical
  have hlt := h.lt
  let f : Nat → Nat := fun t => if e : ∃ v, Enters s v t then Classical.choose e else 0
  have hf : ∀ u x, p ≤ x → x < q → Enters s u x → f x = u := by
    intro u x h1 h2 he
    have hx : ∃ v, Enters s v x := ⟨u, he⟩
    show (if e : ∃ v, Enters s v x then Classical.choose e else 0) = u
    rw [dif_pos hx]
    exact Enters.same (h.at' h1 (by omega)).1.j (Classical.choose_spec hx) he
  obtain ⟨t, h1, h2, h4⟩ := top_of f p (q - p - 1)
  obtain ⟨i, k, b⟩ := h.st t h1 (by omega)
  have et : Enters s ((s t).N k) t := ⟨i, k, b, rfl⟩
  refine ⟨_, t, h1, by omega, et, fun u x a b he => ?_⟩
  have := h4 x a (by omega)
  rw [hf u x a b he, hf _ t h1 (by omega) et] at this
  exact this
theorem Loop.no {s : Nat → Dg} {p q : Nat} (h : Loop s p q) : False := by
  have hlt := h.lt
  obtain ⟨T, t1, a1, b1, e1, top⟩ := h.top
  obtain ⟨t0, a0, b0, i0, k0, S0, hi0⟩ := h.goes a1 b1 e1
  obtain ⟨i1, k1, S1, hk1⟩ := e1
  have E0 := h.at' (t := t0) a0 (by omega)
  have E1 := h.at' (t := t1) a1 (by omega)
  have I0 := E0.1.j
  have I1 := E1.1.j
  have ED := E0.1.symm.trans E1.1
  obtain ⟨x0, s0, n0, r0⟩ := I0.sol0
  obtain ⟨x1, s1, m1, n1, r1⟩ := I0.sol1 S0.p.hk 1
  have g0 := ((ED.s x0 _).2 s0).2
  have g1 := ((ED.s x1 _).2 s1).2
  have hpos := S0.pos
  have key : 0 < sm (fun j => (s t1).a (s t1).m (j + 1) * (x1 ((s t1).N j) - x0 ((s t1).N j))) (s t1).n := by
    have e : sm (fun j => (s t1).a (s t1).m (j + 1) * (x1 ((s t1).N j) - x0 ((s t1).N j))) (s t1).n = (s t1).val (s t1).m x1 - (s t1).val (s t1).m x0 := by
      unfold Dg.val
      rw [sm_congr (g := fun j => (s t1).a (s t1).m (j + 1) * x1 ((s t1).N j) + (-1) * ((s t1).a (s t1).m (j + 1) * x0 ((s t1).N j))) (fun k _ => by grind), sm_add, sm_mul]
      grind
    rw [e, ← g0, ← g1]; grind
  obtain ⟨j, hj, hjp⟩ := sm_pos key
  have cand : 0 < (s t1).a (s t1).m (j + 1) → T ≤ (s t1).N j := fun hc => by rw [← hk1]; exact S1.ent j hj hc
  rcases (ED.v ((s t1).N j)).1 (.inr ⟨j, hj, rfl⟩) with ⟨i, hi, hw⟩ | ⟨k, hk, hw⟩
  · -- a row of t0
    rw [← hw, r1 i hi, r0 i hi] at hjp
    obtain ⟨x, xa, xb, xe⟩ := h.comes (v := (s t1).N j) a0 (by omega) a1 (by omega) ⟨i, hi, hw⟩ ⟨j, hj, rfl⟩
    have le := top _ x xa xb xe
    have hneg := S0.neg
    have hp2 : 0 < (s t1).a (s t1).m (j + 1) * (s t0).a i (k0 + 1) := by grind
    by_cases hT : (s t1).N j = T
    · have hii : i = i0 := I0.b i i0 hi S0.p.hi (by rw [hw, hT, hi0])
      have hjk : j = k1 := I1.n j k1 hj S1.p.hk (by rw [hT, hk1])
      have hpos1 := S1.pos
      rw [hii, hjk] at hp2
      have := Rat.mul_pos hpos1 (show 0 < -(s t0).a i0 (k0 + 1) by grind)
      grind
    · have hc : ¬ 0 < (s t1).a (s t1).m (j + 1) := fun hc => by have := cand hc; omega
      have hin : (s t0).a i (k0 + 1) < 0 := by
        refine Classical.byContradiction fun hn => ?_
        have := Rat.mul_nonneg (show 0 ≤ -(s t1).a (s t1).m (j + 1) by grind) (show 0 ≤ (s t0).a i (k0 + 1) by grind)
        grind
      have z1 : (s t1).Zero ((s t1).N j) := .inr ⟨j, hj, rfl⟩
      have z0 := (h.zeros a1 (by omega) a0 (by omega) _).1 z1
      have zi : (s t0).a i 0 = 0 := by
        rcases z0 with ⟨r, hr, hrv, hz⟩ | hz
        · rw [I0.b i r hi hr (by rw [hw, hrv])]; exact hz
        · exact absurd hz (fun hz => I0.apart ⟨i, hi, hw⟩ hz)
      have z2 := h.flat a0 b0 S0
      have := (S0.lev i hi hin).2 (by unfold Dg.lim; rw [zi, z2]; grind)
      rw [hi0, hw] at this
      omega
  · by_cases hkk : k = k0
    · rw [← hw, hkk, m1, n0 k0 S0.p.hk] at hjp
      have := cand (by grind)
      have le := top _ t0 a0 b0 ⟨i0, k0, S0, rfl⟩
      rw [← hw, hkk] at this
      have : (s t0).B i0 = (s t0).N k0 := by omega
      exact I0.bn i0 k0 S0.p.hi S0.p.hk this
    · rw [← hw, n1 k hk hkk, n0 k hk] at hjp
      grind
end Go.Proofs.Ytdegpgonphgbcaa
namespace Go.Proofs.Ytdegpgonphgbcaa
theorem pigeon : ∀ (M : Nat) (f : Nat → Nat), (∀ t, t ≤ M → f t < M) → ∃ p q, p < q ∧ q ≤ M ∧ f p = f q
  | 0, f, h => by have := h 0 (Nat.le_refl _); omega
  | M + 1, f, h => by
    by_cases hx : ∃ t, t ≤ M ∧ f t = f (M + 1)
    · obtain ⟨t, ht, e⟩ := hx
      exact ⟨t, M + 1, by omega, Nat.le_refl _, e⟩
    · have no : ∀ t, t ≤ M → f t ≠ f (M + 1) := fun t a b => hx ⟨t, a, b⟩
      obtain ⟨p, q, h1, h2, h3⟩ := pigeon M (fun t => if f t = M then f (M + 1) else f t) (fun t ht => by
        have a := h t (by omega)
        have b := h (M + 1) (Nat.le_refl _)
        have c := no t ht
        show (if f t = M then f (M + 1) else f t) < M
        split <;> omega)
      have c1 := no p (by omega)
      have c2 := no q (by omega)
      refine ⟨p, q, h1, by omega, ?_⟩
      have h3 : (if f p = M then f (M + 1) else f p) = (if f q = M then f (M + 1) else f q) := h3
      split at h3 <;> split at h3 <;> omega
def code (P : Nat → Bool) : Nat → Nat
  | 0 => 0
  | n + 1 => 2 * code P n + (if P n then 1 else 0)
theorem code_lt (P : Nat → Bool) : ∀ n, code P n < 2 ^ n
  | 0 => by simp [code]
  | n + 1 => by have := code_lt P n; unfold code; rw [Nat.pow_succ]; split <;> omega
theorem code_inj {P Q : Nat → Bool} : ∀ {n : Nat}, code P n = code Q n → ∀ k, k < n → P k = Q k
  | 0, _, k, hk => by omega
  | n + 1, h, k, hk => by
    unfold code at h
    have h1 : code P n = code Q n := by split at h <;> split at h <;> omega
    by_cases e : k = n
    · subst e
      cases hp : P k <;> cases hq : Q k <;> simp [hp, hq] at h ⊢ <;> omega
    · exact code_inj h1 k (by omega)
theorem no_run {s : Nat → Dg} (I : (s 0).Inj) (o : (s 0).Ok) (V : Nat) (hv : ∀ v, (s 0).Non v → v < V) (hb : ∀ v, (s 0).Bas v → v < V) (st : ∀ t, ∃ i k, Bland (s t) i k (s (t + 1))) : False := by
  classical
  obtain ⟨p, q, h1, _, h3⟩ := pigeon (2 ^ V) (fun t => code (fun v => decide ((s t).Non v)) V) (fun t _ => code_lt _ _)
  have R0 : Run s 0 q := ⟨by omega, I, o, fun t _ _ => st t⟩
  have ep := R0.at' (t := p) (by omega) (by omega)
  have eq := R0.at' (t := q) (by omega) (by omega)
  have R : Run s p q := ⟨h1, ep.1.j, ep.2, fun t _ _ => st t⟩
  have hV : ∀ t, DEqv (s 0) (s t) → ∀ v, (s t).Non v → v < V := fun t e v h => by
    rcases (e.v v).1 (.inr h) with h | h
    · exact hb v h
    · exact hv v h
  refine Loop.no (s := s) (p := p) (q := q) ⟨R, fun v => ⟨fun h => ?_, fun h => ?_⟩⟩
  · have := code_inj h3 v (hV q eq.1 v h)
    simp [h] at this; exact this
  · have := code_inj h3 v (hV p ep.1 v h)
    simp [h] at this; exact this
end Go.Proofs.Ytdegpgonphgbcaa
