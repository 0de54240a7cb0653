/-
  A state in a variable that is read; what is kept. The order of states: plain laws.
-/
import Derived.Test.YtlpelpjcbclemaaMaT
import Derived.Test.YtlpelpjcbclemaaMaM
import Derived.Test.YtlpelpjcbclemaaMaO
import Derived.Test.YtlpelpjcbclemaaZMaV
import Derived.Test.YtlpelpjcbclemaaZCacheL
namespace Go.Proofs.Ytlpelpjcbclemaa
open Go.RowKit

/-! ### Variables -/
def Nd (d k : Nat) : Prop := k ≠ d
structure CVar (d S W L b : Nat) (w : World) : Prop where
  has : Has w b [.int .i64 S, .int .i64 W, .int .i64 L]
  ne : b ≠ d
  lt : b < w.heap.size
theorem YCub.chg {K M : Nat → Prop} {w w' : World} {a : Option Addr} {n c : Nat} {oa : Option Addr} {on oc : Nat} {m : List (List (List Int))} {o : List Int} (h : YCub K w a n c oa on oc m o) (k : Chg M w w') (hM : ∀ k, K k → ¬ M k) : YCub K w' a n c oa on oc m o :=
  ⟨Row.chg (RSl.stays (RSl.stays RInt.stays)) h.cub k hM, h.ints.chg k hM⟩
/-- A state in a variable: none of its blocks is block d. -/
structure SVar (d S b : Nat) (a : Option Addr) (c : Nat) (oa : Option Addr) (oc : Nat) (m : List (List (List Int))) (o : List Int) (w : World) : Prop where
  has : Has w b [.slice a S c, .slice oa S oc]
  cub : YCub (Nd d) w a S c oa S oc m o
  ne : b ≠ d
  lt : b < w.heap.size
theorem CVar.keep {d S W L b : Nat} {w w' : World} (h : CVar d S W L b w) (c : Chg (fun k => k = d) w w') : CVar d S W L b w' := ⟨c.has h.has h.lt h.ne, h.ne, Nat.lt_of_lt_of_le h.lt c.size⟩
theorem SVar.keep {d S b c oc : Nat} {a oa : Option Addr} {m : List (List (List Int))} {o : List Int} {w w' : World} (h : SVar d S b a c oa oc m o w) (k : Chg (fun k => k = d) w w') : SVar d S b a c oa oc m o w' :=
  ⟨k.has h.has h.lt h.ne, h.cub.chg k (fun _ h => h), h.ne, Nat.lt_of_lt_of_le h.lt k.size⟩
theorem Chg.dk {d : Nat} {w w' : World} (h : Below w.heap.size w w') : Chg (fun k => k = d) w w' := Chg.of_below h
theorem Chg.dka {d : Nat} (w : World) (o : Obj) : Chg (fun k => k = d) w (w.alloc o) := (Chg.refl w).alloc o
theorem Chg.dkd {d : Nat} (w : World) : Chg (fun k => k = d) w w.drew := (Chg.refl w).drew
theorem Chg.dt {d : Nat} {a b c : World} (h : Chg (fun k => k = d) a b) (k : Chg (fun k => k = d) b c) : Chg (fun k => k = d) a c := h.trans k (fun _ _ h => h)
theorem Chg.gt {B d : Nat} {a b c : World} (h : Chg (Ge B) a b) (k : Chg (fun k => k = d) b c) (hd : B ≤ d) : Chg (Ge B) a c := h.trans k (fun j _ e => by unfold Ge; omega)
theorem CVar.new {d S W L : Nat} {w : World} (hd : d < w.heap.size) : CVar d S W L w.heap.size (w.alloc (.cells #[.int .i64 S, .int .i64 W, .int .i64 L] 26)) :=
  ⟨Has.new w [.int .i64 S, .int .i64 W, .int .i64 L] 26, by omega, by simp⟩
theorem OY.nd {d : Nat} {w : World} {B : Nat} {f1 f2 : Nat → Prop} {a : Option Addr} {n c : Nat} {oa : Option Addr} {on oc : Nat} {m : List (List (List Int))} {o : List Int} (hd : d < B) (h : OY w B f1 f2 a n c oa on oc m o) : YCub (Nd d) w a n c oa on oc m o := h.ycub (fun k hk _ => by unfold Nd; omega)
theorem SVar.new {d S c oc : Nat} {a oa : Option Addr} {m : List (List (List Int))} {o : List Int} {w : World} (hd : d < w.heap.size) (h : YCub (Nd d) w a S c oa S oc m o) : SVar d S w.heap.size a c oa oc m o (w.alloc (.cells #[.slice a S c, .slice oa S oc] 31)) :=
  ⟨Has.new w [.slice a S c, .slice oa S oc] 31, h.below ((Below.refl _ _).alloc (Nat.le_refl _) _), by omega, by simp⟩
theorem YCub.k_below {K : Nat → Prop} {w w' : World} {a : Option Addr} {n c : Nat} {oa : Option Addr} {on oc : Nat} {m : List (List (List Int))} {o : List Int} (hb : Below w.heap.size w w') (h : YCub K w a n c oa on oc m o) : YCub K w' a n c oa on oc m o := h.below hb
theorem YCub.k_alloc {K : Nat → Prop} {w : World} {a : Option Addr} {n c : Nat} {oa : Option Addr} {on oc : Nat} {m : List (List (List Int))} {o : List Int} {ob : Obj} (h : YCub K w a n c oa on oc m o) : YCub K (w.alloc ob) a n c oa on oc m o := h.below ((Below.refl _ _).alloc (Nat.le_refl _) _)
theorem YCub.k_drew {K : Nat → Prop} {w : World} {a : Option Addr} {n c : Nat} {oa : Option Addr} {on oc : Nat} {m : List (List (List Int))} {o : List Int} (h : YCub K w a n c oa on oc m o) : YCub K w.drew a n c oa on oc m o := h.below (Below.refl _ _).drew
theorem YCub.k_chg {d : Nat} {w w' : World} {a : Option Addr} {n c : Nat} {oa : Option Addr} {on oc : Nat} {m : List (List (List Int))} {o : List Int} (hc : Chg (fun k => k = d) w w') (h : YCub (Nd d) w a n c oa on oc m o) : YCub (Nd d) w' a n c oa on oc m o := h.chg hc (fun _ h => h)
theorem YCub.k_chgi {d : Nat} {K : Nat → Prop} {w w' : World} {a : Option Addr} {n c : Nat} {oa : Option Addr} {on oc : Nat} {m : List (List (List Int))} {o : List Int} (hc : Chg (fun k => k = d) w w') (hd : ∀ i, K i → i ≠ d) (h : YCub K w a n c oa on oc m o) : YCub K w' a n c oa on oc m o := h.chg hc hd
theorem YCub.k_set {K : Nat → Prop} {w : World} {b i : Nat} {a : Option Addr} {n c : Nat} {oa : Option Addr} {on oc : Nat} {m : List (List (List Int))} {o : List Int} {v : Value} (hb : ∀ i, K i → i ≠ b) (h : YCub K w a n c oa on oc m o) : YCub K (w.setCell ⟨b, i, none⟩ v) a n c oa on oc m o :=
  h.chg (M := fun j => j = b) (Chg.setCell (M := fun j => j = b) (Chg.refl _) (fun _ => rfl) _) hb
theorem OY.bt {w : World} {B : Nat} {f1 f2 : Nat → Prop} {a : Option Addr} {n c : Nat} {oa : Option Addr} {on oc : Nat} {m : List (List (List Int))} {o : List Int} (h : OY w B f1 f2 a n c oa on oc m o) : YCub (Bt B w.heap.size) w a n c oa on oc m o := h.ycub (fun _k h1 h2 => ⟨h1, h2⟩)
theorem YCub.ndb {d A C : Nat} {w : World} {a : Option Addr} {n c : Nat} {oa : Option Addr} {on oc : Nat} {m : List (List (List Int))} {o : List Int} (hd : d < A) (h : YCub (Bt A C) w a n c oa on oc m o) : YCub (Nd d) w a n c oa on oc m o :=
  ⟨Row.wide (RSl.wider (RSl.wider RInt.wider)) (fun k hk _ => by have := hk.1; unfold Nd; omega) h.cub, Row.wide RInt.wider (fun k hk _ => by have := hk.1; unfold Nd; omega) h.ints⟩
theorem YCub.ndb' {d A C : Nat} {w : World} {a : Option Addr} {n c : Nat} {oa : Option Addr} {on oc : Nat} {m : List (List (List Int))} {o : List Int} (h : YCub (Bt A C) w a n c oa on oc m o) (hd : d < A) : YCub (Nd d) w a n c oa on oc m o := h.ndb hd
theorem Has.k_set01 {w : World} {b : Nat} {u v : Value} (h : Has w b [.slice none 0 0, .slice none 0 0]) : Has ((w.setCell ⟨b, 0, none⟩ u).setCell ⟨b, 1, none⟩ v) b [u, v] := (h.set0 u).set1 v
theorem Deck.k_below {w w' : World} {d : Nat} (hb : Below w.heap.size w w') (h : Deck w d) : Deck w' d := h.below hb (Nat.le_refl _)
theorem Chg.k_tr {M : Nat → Prop} {a b c : World} (hc : Below b.heap.size b c) (h : Chg M a b) : Chg M a c := h.tr hc
theorem Has.k_new2 {w : World} {b : Nat} {u v : Value} {t : TypeId} (e : b = w.heap.size) : Has (w.alloc (.cells #[u, v] t)) b [u, v] := e ▸ Has.new w [u, v] t
theorem Has.k_old {w : World} {b : Nat} {vs : List Value} {o : Obj} (hb : b < w.heap.size) (h : Has w b vs) : Has (w.alloc o) b vs := h.old hb
theorem BoolIff.tt {p : Prop} {w w' : World} {e : Ending} (h : BoolIff p w e w') (hp : p) : e = .returned (.bool true) ∧ Below w.heap.size w w' := by
  obtain ⟨b, rfl, hb, hw⟩ := h
  exact ⟨by rw [hb.2 hp], hw⟩
theorem YSt.union' {U V : List Int} {S W : Nat} {m : List (List (List Int))} {o : List Int} (h : YSt V S W m o) : YSt (U ++ V) S W m o := h.union (fun _ hx => List.mem_append_right _ hx)
theorem YSt.unionL {U V : List Int} {S W : Nat} {m : List (List (List Int))} {o : List Int} (h : YSt U S W m o) : YSt (U ++ V) S W m o := h.union (fun _ hx => List.mem_append_left _ hx)

/-! ### The order of states -/
theorem BelowY.at {U V : List Int} {S W : Nat} {m q : List (List (List Int))} {o r : List Int} (hm : YSt U S W m o) (hq : YSt V S W q r) : BelowY S W m o q r ↔ ∀ s, s < S → ∃ f i g j, m[s]? = some f ∧ o[s]? = some ((i : Nat) : Int) ∧ q[s]? = some g ∧ r[s]? = some ((j : Nat) : Int) ∧ BelowF W f i g j := by
  constructor
  · intro h s hs
    obtain ⟨f, i, hf, hi, hfd, hid, hfy⟩ := hm.at hs
    obtain ⟨g, j, hg, hj, hgd, hjd, hgy⟩ := hq.at hs
    have := h s hs
    rw [hfd, hid, hgd, hjd, Int.toNat_natCast, Int.toNat_natCast] at this
    exact ⟨f, i, g, j, hf, hi, hg, hj, (BelowAt.iff hfy hgy).1 this⟩
  · intro h s hs
    obtain ⟨f, i, hf, hi, hfd, hid, hfy⟩ := hm.at hs
    obtain ⟨g, j, hg, hj, hgd, hjd, hgy⟩ := hq.at hs
    obtain ⟨f', i', g', j', h1, h2, h3, h4, h5⟩ := h s hs
    rw [hf] at h1; cases h1
    rw [hg] at h3; cases h3
    rw [hi] at h2; rw [hj] at h4
    have e1 : i = i' := by have := Option.some.inj h2; omega
    have e2 : j = j' := by have := Option.some.inj h4; omega
    subst e1; subst e2
    rw [hfd, hid, hgd, hjd, Int.toNat_natCast, Int.toNat_natCast]
    exact (BelowAt.iff hfy hgy).2 h5
theorem BelowY.trans {U : List Int} {S W : Nat} {m q n : List (List (List Int))} {o r p : List Int} (hm : YSt U S W m o) (hq : YSt U S W q r) (hn : YSt U S W n p) (h : BelowY S W m o q r) (k : BelowY S W q r n p) : BelowY S W m o n p := by
  rw [BelowY.at hm hq] at h; rw [BelowY.at hq hn] at k; rw [BelowY.at hm hn]
  intro s hs
  obtain ⟨f, i, g, j, h1, h2, h3, h4, h5⟩ := h s hs
  obtain ⟨g', j', e, l, k1, k2, k3, k4, k5⟩ := k s hs
  rw [h3] at k1; cases k1
  rw [h4] at k2
  have e2 : j = j' := by have := Option.some.inj k2; omega
  subst e2
  exact ⟨f, i, e, l, h1, h2, k3, k4, h5.trans k5⟩
theorem below_yjoin {U : List Int} {S W : Nat} {m q : List (List (List Int))} {o r : List Int} (hm : YSt U S W m o) (hq : YSt U S W q r) : BelowY S W m o (joinYm S W m o q r) (joinYo S o r) ∧ BelowY S W q r (joinYm S W m o q r) (joinYo S o r) := by
  rw [BelowY.at hm (yjoin_st hm hq), BelowY.at hq (yjoin_st hm hq)]
  have key : ∀ s, s < S → ∃ f i g j, m[s]? = some f ∧ o[s]? = some ((i : Nat) : Int) ∧ q[s]? = some g ∧ r[s]? = some ((j : Nat) : Int) ∧ (joinYm S W m o q r)[s]? = some (joinY W f i g j) ∧ (joinYo S o r)[s]? = some ((min i j : Nat) : Int) ∧ YSet (PS U S s) W f i ∧ YSet (PS U S s) W g j := fun s hs => by
    obtain ⟨f, i, hf, hi, hfd, hid, hfy⟩ := hm.at hs
    obtain ⟨g, j, hg, hj, hgd, hjd, hgy⟩ := hq.at hs
    exact ⟨f, i, g, j, hf, hi, hg, hj, joinYm_get hs hfd hid hgd hjd, joinYo_get hs hid hjd, hfy, hgy⟩
  constructor
  · intro s hs
    obtain ⟨f, i, g, j, h1, h2, h3, h4, h5, h6, h7, h8⟩ := key s hs
    exact ⟨f, i, _, _, h1, h2, h5, h6, by omega, fun y => by rw [join_ageF h7 h8]; unfold minF; omega⟩
  · intro s hs
    obtain ⟨f, i, g, j, h1, h2, h3, h4, h5, h6, h7, h8⟩ := key s hs
    exact ⟨g, j, _, _, h3, h4, h5, h6, by omega, fun y => by rw [join_ageF h7 h8]; unfold minF; omega⟩
theorem BelowY.least {U : List Int} {S W : Nat} {m q n : List (List (List Int))} {o r p : List Int} (hm : YSt U S W m o) (hq : YSt U S W q r) (hn : YSt U S W n p) (h : BelowY S W m o n p) (k : BelowY S W q r n p) : BelowY S W (joinYm S W m o q r) (joinYo S o r) n p := by
  rw [BelowY.at hm hn] at h; rw [BelowY.at hq hn] at k; rw [BelowY.at (yjoin_st hm hq) hn]
  intro s hs
  obtain ⟨f, i, e, l, h1, h2, h3, h4, h5⟩ := h s hs
  obtain ⟨g, j, e', l', k1, k2, k3, k4, k5⟩ := k s hs
  rw [h3] at k3; cases k3
  rw [h4] at k4
  have e2 : l = l' := by have := Option.some.inj k4; omega
  subst e2
  obtain ⟨f', i', hf, hi, hfd, hid, hfy⟩ := hm.at hs
  obtain ⟨g', j', hg, hj, hgd, hjd, hgy⟩ := hq.at hs
  rw [hf] at h1; cases h1
  rw [hg] at k1; cases k1
  rw [hi] at h2; rw [hj] at k2
  have e1 : i' = i := by have := Option.some.inj h2; omega
  have e3 : j' = j := by have := Option.some.inj k2; omega
  subst e1; subst e3
  refine ⟨_, _, e, l, joinYm_get hs hfd hid hgd hjd, joinYo_get hs hid hjd, h3, h4, by have := h5.1; have := k5.1; omega, fun y => ?_⟩
  rw [join_ageF hfy hgy]
  have := h5.2 y; have := k5.2 y; unfold minF; omega
end Go.Proofs.Ytlpelpjcbclemaa
