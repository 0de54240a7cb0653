/-
  Variables of the laws: a cache, states; what is kept when a deck gives a number or memory is made. Ages behind a use.
-/
import Derived.Test.YtikhbijobkkhgaaMuX
import Derived.Test.YtikhbijobkkhgaaMuV
import Derived.Test.YtikhbijobkkhgaaQuiet
namespace Go.Proofs.Ytikhbijobkkhgaa
open Go.RowKit

/-- A block that is not the deck. -/
def Nd (d k : Nat) : Prop := k ≠ d
structure CVar (d S W L b : Nat) (w : World) : Prop where
  has : Has w b [.int .i64 S, .int .i64 W, .int .i64 L]
  ne : b ≠ d
  lt : b < w.heap.size
structure SVar (d S b : Nat) (a : Option Addr) (c : Nat) (m : List (List (List Int))) (w : World) : Prop where
  has : Has w b [.slice a S c]
  cub : Cube (Nd d) w a S c m
  ne : b ≠ d
  lt : b < w.heap.size
theorem Cube.chg {K M : Nat → Prop} {w w' : World} {a : Option Addr} {len cap : Nat} {xs : List (List (List Int))} (r : Cube K w a len cap xs) (h : Chg M w w') (hM : ∀ k, K k → ¬ M k) : Cube K w' a len cap xs := Row.chg (RSl.stays (RSl.stays RInt.stays)) r h hM
theorem CVar.keep {d S W L b : Nat} {w w' : World} (h : CVar d S W L b w) (c : Chg (fun k => k = d) w w') : CVar d S W L b w' := ⟨c.has h.has h.lt h.ne, h.ne, Nat.lt_of_lt_of_le h.lt c.size⟩
theorem SVar.keep {d S b c : Nat} {a : Option Addr} {m : List (List (List Int))} {w w' : World} (h : SVar d S b a c m w) (k : Chg (fun k => k = d) w w') : SVar d S b a c m w' :=
  ⟨k.has h.has h.lt h.ne, Cube.chg h.cub k (fun _ h => h), h.ne, Nat.lt_of_lt_of_le h.lt k.size⟩
theorem Chg.dk {d : Nat} {w w' : World} (h : Below w.heap.size w w') : Chg (fun k => k = d) w w' := Chg.of_below h
theorem Chg.dka {d : Nat} (w : World) (o : Obj) : Chg (fun k => k = d) w (w.alloc o) := (Chg.refl w).alloc o
theorem Chg.dkd {d : Nat} (w : World) : Chg (fun k => k = d) w w.drew := (Chg.refl w).drew
theorem Chg.dt {d : Nat} {a b c : World} (h : Chg (fun k => k = d) a b) (k : Chg (fun k => k = d) b c) : Chg (fun k => k = d) a c := h.trans k (fun _ _ h => h)
theorem Chg.gt {B d : Nat} {a b c : World} (h : Chg (Ge B) a b) (k : Chg (fun k => k = d) b c) (hd : B ≤ d) : Chg (Ge B) a c := h.trans k (fun j _ e => by unfold Ge; omega)
theorem CVar.new {d S W L : Nat} {w : World} (hd : d < w.heap.size) : CVar d S W L w.heap.size (w.alloc (.cells #[.int .i64 S, .int .i64 W, .int .i64 L] 26)) :=
  ⟨Has.new w [.int .i64 S, .int .i64 W, .int .i64 L] 26, by omega, by simp⟩
theorem OCub.nd {d B : Nat} {w : World} {a : Option Addr} {n cap : Nat} {X : List (List (List Int))} (h : OCub w (Ge B) (.slice a n cap) X) (hd : d < B) : Cube (Nd d) w a n cap X := h.read (fun k hk => by unfold Ge at hk; unfold Nd; omega)
theorem SVar.new {d S c : Nat} {a : Option Addr} {m : List (List (List Int))} {w : World} (hd : d < w.heap.size) (h : Cube (Nd d) w a S c m) : SVar d S w.heap.size a c m (w.alloc (.cells #[.slice a S c] 30)) :=
  ⟨Has.new w [.slice a S c] 30, Row.below (RSl.stays (RSl.stays RInt.stays)) h ((Below.refl _ _).alloc (Nat.le_refl _) _), by omega, by simp⟩
theorem Cube.k_below {d : Nat} {w w' : World} {a : Option Addr} {n cap : Nat} {X : List (List (List Int))} (hb : Below w.heap.size w w') (h : Cube (Nd d) w a n cap X) : Cube (Nd d) w' a n cap X := Row.below (RSl.stays (RSl.stays RInt.stays)) h hb
theorem Deck.k_below {w w' : World} {d : Nat} (hb : Below w.heap.size w w') (h : Deck w d) : Deck w' d := h.below hb (Nat.le_refl _)

/-! ### Ages -/
theorem setN_eq {S : Nat} (h : 0 < S) {x y : Int} : setN S x = setN S y ↔ x % (S : Int) = y % (S : Int) := by
  have a := setN_int h x; have b := setN_int h y
  omega
theorem touch_get {S W : Nat} {m : List (List (List Int))} {n : Int} (h : ¬ S = 0) : touchM S W m n = m.set (setN S n) (useS W n (m.getD (setN S n) [])) := by unfold touchM; rw [if_neg h]
/-- Lines of other sets are not touched. -/
theorem age_apart {S W : Nat} {m : List (List (List Int))} {k n : Int} (h : setN S n ≠ setN S k) : ageN S W (touchM S W m k) n = ageN S W m n := by
  unfold ageN
  split
  · rfl
  · rename_i h0
    rw [touch_get h0, List.getD_eq_getElem?_getD, List.getElem?_set_ne (fun e => h e.symm), List.getD_eq_getElem?_getD]
/-- Other lines do not get younger. -/
theorem age_older {U : List Int} {S W : Nat} {m : List (List (List Int))} {k n : Int} (hm : MSt U S W m) (hW : 0 < W) (h0 : 0 ≤ k) (h1 : k ≤ 1048576) (hU : k ∈ U) (h : n ≠ k) : ageN S W m n ≤ ageN S W (touchM S W m k) n := by
  by_cases hS : S = 0
  · unfold ageN; rw [if_pos hS, if_pos hS]; exact Nat.le_refl _
  · by_cases hs : setN S n = setN S k
    · unfold ageN
      rw [if_neg hS, if_neg hS, touch_get hS, hs]
      obtain ⟨g, hg, hgd, hw⟩ := hm.at (setN_lt (by omega) k)
      have hlt : setN S k < m.length := by rw [hm.len]; exact setN_lt (by omega) k
      rw [List.getD_eq_getElem?_getD (l := m.set _ _), List.getElem?_set_self hlt, Option.getD_some, hgd]
      exact use_older hw hW ⟨h0, h1, (setN_int (by omega) k).symm, hU⟩ h
    · rw [age_apart hs]; exact Nat.le_refl _
/-- A line that was used is known as the youngest one. -/
theorem age_used {U : List Int} {S W : Nat} {m : List (List (List Int))} {k : Int} (hm : MSt U S W m) (hW : 0 < W) (h0 : 0 ≤ k) (h1 : k ≤ 1048576) (hU : k ∈ U) (hS : ¬ S = 0) : ageN S W (touchM S W m k) k = 0 := by
  unfold ageN
  rw [if_neg hS, touch_get hS]
  obtain ⟨g, hg, hgd, hw⟩ := hm.at (setN_lt (by omega) k)
  have hlt : setN S k < m.length := by rw [hm.len]; exact setN_lt (by omega) k
  rw [List.getD_eq_getElem?_getD, List.getElem?_set_self hlt, Option.getD_some, hgd]
  exact use_age hw hW ⟨h0, h1, (setN_int (by omega) k).symm, hU⟩
/-- Age, with its answer written out. -/
theorem age_ret {S W L : Nat} (hc : COk S W L) {U : List Int} {m : List (List (List Int))} (hm : MSt U S W m) {d : Nat} {a : Option Addr} {cap : Nat} {n : Int} (hn : 0 ≤ n) (hn' : n ≤ 9223372036854775807) {w : World} (r : Cube (Nd d) w a S cap m) {v : Int} (hv : ((ageN S W m n : Nat) : Int) = v) :
    Calls Try.prog 20 #[CV S W L, .agg #[.slice a S cap], .int .i64 n] w fun e w' => e = .returned (.int .i64 v) ∧ Below w.heap.size w w' :=
  (age_any S W L hc m hm (Nd d) a S cap n hn hn' w r).mono (fun e w' h => ⟨by rw [h.1, hv], h.2⟩)
end Go.Proofs.Ytikhbijobkkhgaa
