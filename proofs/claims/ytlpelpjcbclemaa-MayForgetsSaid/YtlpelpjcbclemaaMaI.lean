/-
  The join of two states of lines that can be there. Plain laws of lists, no program in sight.
-/
import Derived.Test.YtlpelpjcbclemaaMaC
namespace Go.Proofs.Ytlpelpjcbclemaa

/-- The younger one of a line's two ages. -/
def minF (W : Nat) (f : List (List Int)) (p : Nat) (g : List (List Int)) (o : Nat) (y : Int) : Nat := min (ageF W f p y) (ageF W g o y)
/-- A line comes in at its age, if it is young enough and not there yet. -/
def jStep (W : Nat) (n : Int → Nat) (out : List (List Int)) (x : Int) : List (List Int) := if n x < W ∧ ¬ plc out x < out.length then put out (n x) x else out
def jL (W : Nat) (n : Int → Nat) (out : List (List Int)) (l : List Int) : List (List Int) := l.foldl (jStep W n) out
def joinY (W : Nat) (f : List (List Int)) (p : Nat) (g : List (List Int)) (o : Nat) : List (List Int) := jL W (minF W f p g o) (List.replicate W []) (f ++ g).flatten
theorem jL_snoc {W : Nat} {n : Int → Nat} {out : List (List Int)} {l : List Int} {j : Nat} {x : Int} (h : l[j]? = some x) : jL W n out (l.take (j + 1)) = jStep W n (jL W n out (l.take j)) x := by
  unfold jL; rw [List.take_add_one, h, List.foldl_append]; rfl
theorem jL_append {W : Nat} {n : Int → Nat} {out : List (List Int)} {l k : List Int} : jL W n out (l ++ k) = jL W n (jL W n out l) k := List.foldl_append
theorem jL_spec {P : Int → Prop} {W : Nat} {n : Int → Nat} : ∀ {l : List Int} {out : List (List Int)}, WSet P W out → (∀ i y, At out i y → i = n y) → (∀ x ∈ l, P x) →
    WSet P W (jL W n out l) ∧ ∀ i y, At (jL W n out l) i y ↔ At out i y ∨ (y ∈ l ∧ i = n y ∧ i < W)
  | [], out, ho, _, _ => ⟨ho, fun i y => by simp [jL]⟩
  | x :: l, out, ho, hn, hx => by
    have hx0 := hx x (by simp)
    show WSet P W (jL W n (jStep W n out x) l) ∧ ∀ i y, At (jL W n (jStep W n out x) l) i y ↔ _
    by_cases e : n x < W ∧ ¬ plc out x < out.length
    · have e1 : jStep W n out x = put out (n x) x := if_pos e
      have hno : ∀ i, ¬ At out i x := plc_none (by have := plc_le out x; omega)
      rw [e1]
      obtain ⟨h1, h2⟩ := jL_spec (n := n) (l := l) (ho.put hx0 hno (n x)) (fun i y hi => by
        rcases at_put.1 hi with k | ⟨k1, k2, _⟩
        · exact hn i y k
        · rw [k1, k2]) (fun y hy => hx y (by simp [hy]))
      refine ⟨h1, fun i y => ?_⟩
      rw [h2, at_put, ho.len]
      constructor
      · rintro ((k | ⟨rfl, rfl, k⟩) | ⟨k1, k2⟩)
        · exact .inl k
        · exact .inr ⟨by simp, rfl, k⟩
        · exact .inr ⟨by simp [k1], k2⟩
      · rintro (k | ⟨k1, k2, k3⟩)
        · exact .inl (.inl k)
        · rcases List.mem_cons.1 k1 with k5 | k5
          · subst k5; exact .inl (.inr ⟨k2, rfl, by omega⟩)
          · exact .inr ⟨k5, k2, k3⟩
    · have e1 : jStep W n out x = out := if_neg e
      rw [e1]
      obtain ⟨h1, h2⟩ := jL_spec (n := n) (l := l) ho hn (fun y hy => hx y (by simp [hy]))
      refine ⟨h1, fun i y => ?_⟩
      rw [h2]
      constructor
      · rintro (k | ⟨k1, k2⟩)
        · exact .inl k
        · exact .inr ⟨by simp [k1], k2⟩
      · rintro (k | ⟨k1, k2, k3⟩)
        · exact .inl k
        · rcases List.mem_cons.1 k1 with k5 | k5
          · subst k5
            have hp : plc out y < out.length := by
              rcases Nat.lt_or_ge (plc out y) out.length with h | h
              · exact h
              · exact absurd ⟨by omega, by omega⟩ e
            have ha := plc_found hp
            have := hn _ _ ha
            rw [this, ← k2] at ha
            exact .inl ha
          · exact .inr ⟨k5, k2, k3⟩
theorem mem_flat {f : List (List Int)} {y : Int} : y ∈ f.flatten ↔ ∃ i, At f i y := by
  rw [List.mem_flatten]
  constructor
  · rintro ⟨l, hl, hy⟩; obtain ⟨i, hi⟩ := List.getElem?_of_mem hl; exact ⟨i, l, hi, hy⟩
  · rintro ⟨i, l, hi, hy⟩; exact ⟨l, List.mem_of_getElem? hi, hy⟩
def Kn (f g : List (List Int)) (y : Int) : Prop := (∃ i, At f i y) ∨ ∃ i, At g i y
theorem mem_kn {f g : List (List Int)} {y : Int} : y ∈ (f ++ g).flatten ↔ Kn f g y := by rw [List.flatten_append, List.mem_append, mem_flat, mem_flat]; rfl
theorem joinY_spec {P : Int → Prop} {W p o : Nat} {f g : List (List Int)} (hf : YSet P W f p) (hg : YSet P W g o) :
    WSet P W (joinY W f p g o) ∧ ∀ i y, At (joinY W f p g o) i y ↔ Kn f g y ∧ i = minF W f p g o y := by
  obtain ⟨h1, h2⟩ := jL_spec (P := P) (W := W) (n := minF W f p g o) (l := (f ++ g).flatten) (WSet.nils P W) (fun i y h => absurd h not_at_nils) (fun x hx => by
    rcases mem_kn.1 hx with ⟨i, h⟩ | ⟨i, h⟩
    · exact hf.ws.mem i x h
    · exact hg.ws.mem i x h)
  refine ⟨h1, fun i y => ?_⟩
  show At (jL W _ _ _) i y ↔ _
  rw [h2, mem_kn]
  constructor
  · rintro (k | ⟨k1, k2, _⟩)
    · exact absurd k not_at_nils
    · exact ⟨k1, k2⟩
  · rintro ⟨k1, k2⟩
    refine .inr ⟨k1, k2, ?_⟩
    rw [k2]
    unfold minF
    rcases k1 with ⟨i, h⟩ | ⟨i, h⟩
    · have := ageF_at hf h; have := h.lt; have := hf.ws.len; omega
    · have := ageF_at hg h; have := h.lt; have := hg.ws.len; omega
theorem minF_le {P : Int → Prop} {W p o : Nat} {f g : List (List Int)} (hf : YSet P W f p) (hg : YSet P W g o) (y : Int) : minF W f p g o y ≤ min p o := by
  have := ageF_le hf y; have := ageF_le hg y; unfold minF; omega
theorem join_yset {P : Int → Prop} {W p o : Nat} {f g : List (List Int)} (hf : YSet P W f p) (hg : YSet P W g o) : YSet P W (joinY W f p g o) (min p o) :=
  ⟨(joinY_spec hf hg).1, by have := hf.ole; omega, fun i y h => by rw [(((joinY_spec hf hg).2 i y).1 h).2]; exact minF_le hf hg y⟩
theorem join_ageF {P : Int → Prop} {W p o : Nat} {f g : List (List Int)} (hf : YSet P W f p) (hg : YSet P W g o) (y : Int) : ageF W (joinY W f p g o) (min p o) y = minF W f p g o y := by
  have hj := join_yset hf hg
  by_cases k : Kn f g y
  · exact ageF_at hj (((joinY_spec hf hg).2 _ y).2 ⟨k, rfl⟩)
  · rw [ageF_no hj fun i h => k (((joinY_spec hf hg).2 i y).1 h).1]
    unfold minF
    rw [ageF_no hf fun i h => k (.inl ⟨i, h⟩), ageF_no hg fun i h => k (.inr ⟨i, h⟩)]
/-! ### States -/
def joinYm (S W : Nat) (m : List (List (List Int))) (o : List Int) (q : List (List (List Int))) (r : List Int) : List (List (List Int)) := (List.range S).map fun s => joinY W (m.getD s []) (o.getD s 0).toNat (q.getD s []) (r.getD s 0).toNat
def joinYo (S : Nat) (o r : List Int) : List Int := (List.range S).map fun s => min (o.getD s 0) (r.getD s 0)
theorem joinYm_len {S W : Nat} {m q : List (List (List Int))} {o r : List Int} : (joinYm S W m o q r).length = S := by unfold joinYm; simp
theorem joinYo_len {S : Nat} {o r : List Int} : (joinYo S o r).length = S := by unfold joinYo; simp
theorem joinYm_get {S W s : Nat} {m q : List (List (List Int))} {o r : List Int} {f g : List (List Int)} {k l : Nat} (hs : s < S) (h1 : m.getD s [] = f) (h2 : o.getD s 0 = (k : Int)) (h3 : q.getD s [] = g) (h4 : r.getD s 0 = (l : Int)) : (joinYm S W m o q r)[s]? = some (joinY W f k g l) := by
  unfold joinYm; rw [List.getElem?_map, List.getElem?_range hs, Option.map_some, h1, h2, h3, h4, Int.toNat_natCast, Int.toNat_natCast]
theorem joinYo_get {S s : Nat} {o r : List Int} {k l : Nat} (hs : s < S) (h2 : o.getD s 0 = (k : Int)) (h4 : r.getD s 0 = (l : Int)) : (joinYo S o r)[s]? = some ((min k l : Nat) : Int) := by
  unfold joinYo; rw [List.getElem?_map, List.getElem?_range hs, Option.map_some, h2, h4]; congr 1; omega
theorem YSt.union {U V : List Int} {S W : Nat} {m : List (List (List Int))} {o : List Int} (h : YSt U S W m o) (hU : ∀ x ∈ U, x ∈ V) : YSt V S W m o := ⟨h.len, h.olen, fun s g hs => by
  obtain ⟨k, hk, hy⟩ := h.set s g hs
  exact ⟨k, hk, hy.mono fun x hx => ⟨hx.1, hx.2.1, hx.2.2.1, hU x hx.2.2.2⟩⟩⟩
theorem yjoin_st {U : List Int} {S W : Nat} {m q : List (List (List Int))} {o r : List Int} (h : YSt U S W m o) (k : YSt U S W q r) : YSt U S W (joinYm S W m o q r) (joinYo S o r) := by
  refine ⟨joinYm_len, joinYo_len, fun s g hs => ?_⟩
  have hlt : s < S := by have := (List.getElem?_eq_some_iff.1 hs).1; rw [joinYm_len] at this; exact this
  obtain ⟨f, i, _, _, e1, e2, hf⟩ := h.at hlt
  obtain ⟨f', j, _, _, e3, e4, hg⟩ := k.at hlt
  rw [joinYm_get hlt e1 e2 e3 e4] at hs
  cases hs
  exact ⟨min i j, joinYo_get hlt e2 e4, join_yset hf hg⟩
end Go.Proofs.Ytlpelpjcbclemaa
