/-
  Lines that a cache can have, by their ages in one set, and the age of all others: use, join, order. Plain laws of lists, no program in sight.
-/
import Derived.Test.YtlpelpjcbclemaaMuA
namespace Go.Proofs.Ytlpelpjcbclemaa

/-- A set of a state: lists of lines by their ages, and the age of all other lines; no line is listed as older. -/
structure YSet (P : Int → Prop) (W : Nat) (g : List (List Int)) (o : Nat) : Prop where
  ws : WSet P W g
  ole : o ≤ W
  le : ∀ (i : Nat) (y : Int), At g i y → i ≤ o
/-- The age of a line. -/
def ageF (W : Nat) (g : List (List Int)) (o : Nat) (y : Int) : Nat := if plc g y < W then plc g y else o
theorem YSet.mono {P Q : Int → Prop} {W o : Nat} {g : List (List Int)} (h : YSet P W g o) (hP : ∀ x, P x → Q x) : YSet Q W g o := ⟨⟨h.ws.len, h.ws.asc, fun i x k => hP x (h.ws.mem i x k), h.ws.once⟩, h.ole, h.le⟩
theorem ageF_at {P : Int → Prop} {W o : Nat} {g : List (List Int)} (h : YSet P W g o) {i : Nat} {y : Int} (k : At g i y) : ageF W g o y = i := by
  have e := h.ws.plc k
  have := k.lt; have := h.ws.len
  unfold ageF; rw [e, if_pos (by omega)]
theorem ageF_no {P : Int → Prop} {W o : Nat} {g : List (List Int)} (h : YSet P W g o) {y : Int} (k : ∀ i, ¬ At g i y) : ageF W g o y = o := by
  unfold ageF; rw [plc_no k, h.ws.len, if_neg (Nat.lt_irrefl _)]
theorem ageF_or {P : Int → Prop} {W o : Nat} {g : List (List Int)} (h : YSet P W g o) (y : Int) : (∃ i, At g i y ∧ ageF W g o y = i ∧ i < W) ∨ ((∀ i, ¬ At g i y) ∧ ageF W g o y = o) := by
  by_cases e : ∃ i, At g i y
  · obtain ⟨i, k⟩ := e
    exact .inl ⟨i, k, ageF_at h k, by have := k.lt; have := h.ws.len; omega⟩
  · exact .inr ⟨fun i k => e ⟨i, k⟩, ageF_no h fun i k => e ⟨i, k⟩⟩
theorem ageF_le {P : Int → Prop} {W o : Nat} {g : List (List Int)} (h : YSet P W g o) (y : Int) : ageF W g o y ≤ o := by
  rcases ageF_or h y with ⟨i, k, e, _⟩ | ⟨_, e⟩
  · have := h.le i y k; omega
  · omega

/-! ### A use of a line -/
/-- One line more is younger than a line of age a, if a is at most h. -/
def tick (W h a : Nat) : Nat := if a ≤ h then min (a + 1) W else a
theorem tick_mono {W h k a b : Nat} (ha : a ≤ b) (hh : h ≤ k) (hb : b ≤ W) : tick W h a ≤ tick W k b := by unfold tick; split <;> split <;> omega
theorem tick_le {W h a : Nat} (ha : a ≤ W) : tick W h a ≤ W := by unfold tick; split <;> omega
theorem le_tick {W h a : Nat} (ha : a ≤ W) : a ≤ tick W h a := by unfold tick; split <;> omega
/-- The lists behind the use of n, whose age was h. -/
def useY (W : Nat) (n : Int) (h : Nat) (g : List (List Int)) : List (List Int) := put (useP W n (h + 1) g g.length) 0 n
theorem useY_spec {P : Int → Prop} {W h : Nat} {n : Int} {g : List (List Int)} (hg : WSet P W g) (hW : 0 < W) (hn : P n) :
    WSet P W (useY W n h g) ∧ ∀ i y, At (useY W n h g) i y ↔ (i = 0 ∧ y = n) ∨ (y ≠ n ∧ ∃ a, At g a y ∧ i = dst (h + 1) a ∧ i < W) := by
  obtain ⟨h1, h2⟩ := useP_spec (W := W) (n := n) (h := h + 1) hg g.length
  refine ⟨h1.put hn (fun i hi => ((h2 i n).1 hi).1 rfl) 0, fun i y => ?_⟩
  unfold useY
  rw [at_put, h2, h1.len]
  constructor
  · rintro (⟨k1, a, k2, k3, k4, k5⟩ | ⟨k1, k2, k3⟩)
    · exact .inr ⟨k1, a, k3, k4, k5⟩
    · exact .inl ⟨k1, k2⟩
  · rintro (⟨k1, k2⟩ | ⟨k1, a, k3, k4, k5⟩)
    · exact .inr ⟨k1, k2, hW⟩
    · exact .inl ⟨k1, a, by have := k3.lt; omega, k3, k4, k5⟩
theorem dst_tick {W h a : Nat} (k : dst (h + 1) a < W) : dst (h + 1) a = tick W h a := by unfold dst tick at *; split at k <;> split <;> split <;> omega
theorem dst_full {W h a : Nat} (ha : a < W) (k : ¬ dst (h + 1) a < W) : a + 1 = W ∧ a ≤ h := by unfold dst at k; split at k <;> omega
theorem use_yset {P : Int → Prop} {W o : Nat} {n : Int} {g : List (List Int)} (hg : YSet P W g o) (hW : 0 < W) (hn : P n) : YSet P W (useY W n (ageF W g o n) g) (tick W (ageF W g o n) o) := by
  obtain ⟨h1, h2⟩ := useY_spec (h := ageF W g o n) hg.ws hW hn
  refine ⟨h1, tick_le hg.ole, fun i y k => ?_⟩
  rcases (h2 i y).1 k with ⟨rfl, _⟩ | ⟨_, a, k1, k2, k3⟩
  · exact Nat.zero_le _
  · have := hg.le a y k1
    have hd : dst (ageF W g o n + 1) a < W := by omega
    rw [k2, dst_tick hd]
    exact tick_mono this (Nat.le_refl _) hg.ole
/-- Behind a use each age is what the order says. -/
theorem use_ageF {P : Int → Prop} {W o : Nat} {n : Int} {g : List (List Int)} (hg : YSet P W g o) (hW : 0 < W) (hn : P n) (y : Int) :
    ageF W (useY W n (ageF W g o n) g) (tick W (ageF W g o n) o) y = if y = n then 0 else tick W (ageF W g o n) (ageF W g o y) := by
  have hy := use_yset hg hW hn
  obtain ⟨h1, h2⟩ := useY_spec (h := ageF W g o n) hg.ws hW hn
  by_cases e : y = n
  · rw [if_pos e]; exact ageF_at hy ((h2 0 y).2 (.inl ⟨rfl, e⟩))
  · rw [if_neg e]
    rcases ageF_or hg y with ⟨a, k, ea, ha⟩ | ⟨k, ea⟩
    · rw [ea]
      by_cases hd : dst (ageF W g o n + 1) a < W
      · rw [ageF_at hy ((h2 _ y).2 (.inr ⟨e, a, k, rfl, hd⟩)), dst_tick hd]
      · obtain ⟨d1, d2⟩ := dst_full ha hd
        rw [ageF_no hy fun i ki => by
          rcases (h2 i y).1 ki with ⟨_, e'⟩ | ⟨_, a', k', e', hi⟩
          · exact e e'
          · obtain rfl := hg.ws.once _ _ _ k k'; omega]
        have := hg.le a y k; have := hg.ole
        unfold tick; (repeat' split) <;> omega
    · rw [ea, ageF_no hy fun i ki => by
        rcases (h2 i y).1 ki with ⟨_, e'⟩ | ⟨_, a', k', _⟩
        · exact e e'
        · exact k a' k']
/-! ### Order -/
/-- The second state says at most as much as the first. -/
def BelowF (W : Nat) (f : List (List Int)) (p : Nat) (g : List (List Int)) (o : Nat) : Prop := o ≤ p ∧ ∀ y, ageF W g o y ≤ ageF W f p y
theorem BelowF.refl {W : Nat} {f : List (List Int)} {p : Nat} : BelowF W f p f p := ⟨Nat.le_refl _, fun _ => Nat.le_refl _⟩
theorem BelowF.trans {W : Nat} {f g k : List (List Int)} {p o q : Nat} (h : BelowF W f p g o) (h' : BelowF W g o k q) : BelowF W f p k q := ⟨Nat.le_trans h'.1 h.1, fun y => Nat.le_trans (h'.2 y) (h.2 y)⟩
theorem BelowF.use {P Q : Int → Prop} {W p o : Nat} {n : Int} {f g : List (List Int)} (hf : YSet P W f p) (hg : YSet Q W g o) (hW : 0 < W) (hp : P n) (hq : Q n) (h : BelowF W f p g o) :
    BelowF W (useY W n (ageF W f p n) f) (tick W (ageF W f p n) p) (useY W n (ageF W g o n) g) (tick W (ageF W g o n) o) := by
  refine ⟨tick_mono h.1 (h.2 n) hf.ole, fun y => ?_⟩
  rw [use_ageF hf hW hp, use_ageF hg hW hq]
  split
  · exact Nat.le_refl _
  · exact tick_mono (h.2 y) (h.2 n) (Nat.le_trans (ageF_le hf y) hf.ole)
/-! ### Many uses of different lines -/
/-- All lines but those of T are at least i old. -/
def Past (W : Nat) (g : List (List Int)) (o : Nat) (T : List Int) (i : Nat) : Prop := i ≤ o ∧ ∀ y, y ∉ T → i ≤ ageF W g o y
theorem Past.use {P : Int → Prop} {W o i : Nat} {n : Int} {g : List (List Int)} {T : List Int} (hg : YSet P W g o) (hW : 0 < W) (hn : P n) (hT : n ∉ T) (hi : i < W) (h : Past W g o T i) :
    Past W (useY W n (ageF W g o n) g) (tick W (ageF W g o n) o) (T ++ [n]) (i + 1) := by
  have h0 := h.2 n hT
  refine ⟨by have := h.1; unfold tick; split <;> omega, fun y hy => ?_⟩
  rw [use_ageF hg hW hn]
  simp only [List.mem_append, List.mem_singleton, not_or] at hy
  rw [if_neg hy.2]
  have := h.2 y hy.1
  unfold tick; split <;> omega
/-- Each line of T is at most as old as there were uses behind it. -/
def Young (W : Nat) (g : List (List Int)) (o : Nat) (T : List Int) : Prop := ∀ (j : Nat) y, T[j]? = some y → ageF W g o y + j < T.length
theorem Young.use {P : Int → Prop} {W o : Nat} {n : Int} {g : List (List Int)} {T : List Int} (hg : YSet P W g o) (hW : 0 < W) (hn : P n) (hT : n ∉ T) (h : Young W g o T) :
    Young W (useY W n (ageF W g o n) g) (tick W (ageF W g o n) o) (T ++ [n]) := fun j y hj => by
  rw [use_ageF hg hW hn]
  rcases Nat.lt_or_ge j T.length with hl | hl
  · rw [List.getElem?_append_left hl] at hj
    have := h j y hj
    have hne : y ≠ n := fun e => hT (e ▸ List.mem_of_getElem? hj)
    rw [if_neg hne, List.length_append]
    simp
    unfold tick; split <;> omega
  · have hlt := (List.getElem?_eq_some_iff.1 hj).1
    rw [List.length_append, List.length_singleton] at hlt
    obtain rfl : j = T.length := by omega
    rw [List.getElem?_append_right (Nat.le_refl _)] at hj
    simp at hj
    subst hj
    rw [if_pos rfl, List.length_append]; simp
end Go.Proofs.Ytlpelpjcbclemaa
