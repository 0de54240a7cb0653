/-
  A node that fits its code (plain); lists of numbers compared; accesses under construction.
  What the document's Check of an image gives (plain).
-/
import Derived.Test.YtonbmijhbbodnaaZImA
import Derived.Test.YtonbmijhbbodnaaInV
namespace Go.Proofs.Ytonbmijhbbodnaa
open Go.RowKit

set_option maxHeartbeats 4000000 in
theorem sameints_any (K K' : Nat → Prop) (a a' : Option Addr) (n n' c c' : Nat) (xs ys : List Int) (w : World) (r : Ints K w a n c xs) (r' : Ints K' w a' n' c' ys) :
    Calls Try.prog 31 #[.slice a n c, .slice a' n' c'] w fun e w' => e = .returned (.bool (decide (xs = ys))) ∧ Below w.heap.size w w' := by
  have R := Lib.hid r; have R' := Lib.hid r'
  have hsz := r.hsz; have hsz' := r'.hsz
  have hl := r.hlen; have hl' := r'.hlen
  clear r r'
  go_enter Try.func31, Try.ntmps31
  by_cases hn : n = n'
  · subst hn
    go_wp2
    go_loopw [5] (fun i wr => ∃ k : Nat, k ≤ n ∧ i = .int .i64 k ∧ xs.take k = ys.take k ∧ Below w.heap.size w wr) (fun i _ => n - (intOf i).toNat)
    case atStart => exact ⟨0, Nat.zero_le _, rfl, rfl, Below.refl _ _⟩
    case round =>
      obtain ⟨k, hk, rfl, ht, hb⟩ := hrel
      have B := Lib.hid hb; have HT := Lib.hid ht
      clear hb ht
      by_cases hlt : k < n
      · obtain ⟨b1, o1, z, rfl, hz, c1, _, _, _, l1⟩ := Ints.get R.out hlt
        obtain ⟨b2, o2, z', rfl, hz', c2, _, _, _, l2⟩ := Ints.get R'.out hlt
        have d1 := (B.out.cell (p := ⟨b1, o1 + k, none⟩) l1).trans c1
        have d2 := (B.out.cell (p := ⟨b2, o2 + k, none⟩) l2).trans c2
        have HZ := Lib.hid hz; have HZ' := Lib.hid hz'
        clear c1 c2 hz hz'
        by_cases he : z = z'
        · subst he
          have HT2 := Lib.hid (show xs.take (k + 1) = ys.take (k + 1) by rw [List.take_add_one, List.take_add_one, HT.out, HZ.out, HZ'.out])
          go_wp2
          go_quiet (fail)
          go_wp2
          go_roundw
          case rel => exact ⟨k + 1, by omega, by go_num, HT2.out, below_drewN B.out nq⟩
          case measure => simp [intOf]; omega
        · have HF := Lib.hid (show decide (xs = ys) = false from decide_eq_false (fun e => he (by have h1 := HZ.out; have h2 := HZ'.out; rw [e, h2] at h1; exact (Option.some.inj h1).symm)))
          have he' : (z != z') = true := by simpa using he
          go_wp2
          go_quiet (fail)
          go_wp2
          go_ret
          exact ⟨ret_b HF.out.symm, below_drewN B.out nq⟩
      · have e1 : xs.take k = xs := List.take_of_length_le (by omega)
        have e2 : ys.take k = ys := List.take_of_length_le (by omega)
        have HE := Lib.hid (show decide (xs = ys) = true from decide_eq_true (by rw [← e1, ← e2]; exact HT.out))
        clear e1 e2
        go_wp2
        go_ret
        exact ⟨ret_b HE.out.symm, B.out⟩
  · have HF := Lib.hid (show decide (xs = ys) = false from decide_eq_false (fun e => hn (by rw [← hl, ← hl', e])))
    go_wp2
    go_ret
    exact ⟨ret_b HF.out.symm, Below.refl _ _⟩

def cAt (c : List Ins) (i : Nat) : Ins := c.getD i ⟨0, 0, 0, 0, 0, 0⟩
theorem cAt_of {c : List Ins} {i : Nat} {x : Ins} (h : c[i]? = some x) : cAt c i = x := by unfold cAt; rw [List.getD_eq_getElem?_getD, h]; rfl
def isMem (x : Ins) : Prop := x.k = 4 ∨ x.k = 5
def isBr (x : Ins) : Prop := x.k = 6 ∨ x.k = 7 ∨ x.k = 10
instance (x : Ins) : Decidable (isMem x) := inferInstanceAs (Decidable (_ ∨ _))
instance (x : Ins) : Decidable (isBr x) := inferInstanceAs (Decidable (_ ∨ _ ∨ _))
/-- The loads and stores of the first j instructions from f on. -/
def wantP (c : List Ins) (f : Nat) : Nat → List Int
  | 0 => []
  | j + 1 => wantP c f j ++ (if isMem (cAt c (f + j)) then [((f + j : Nat) : Int)] else [])
/-- Of the first j of n instructions from f on, none but the last of all is a branch. -/
def NoBr (c : List Ins) (f n j : Nat) : Prop := ∀ i, i < j → i + 1 = n ∨ ¬ isBr (cAt c (f + i))
def AccOk (D : Int) (ws : List Int) (acc : List Acc) (j : Nat) : Prop := ∀ i a p, i < j → acc[i]? = some a → ws[i]? = some p → a.at_ = p ∧ 0 ≤ a.lo ∧ a.lo ≤ a.hi ∧ a.hi < D
def nextI (c : List Ins) (l : List Nd) (f n k : Nat) : List Int :=
  let x := cAt c (f + n - 1)
  if x.k = 10 then [] else if x.k = 6 then [atI l x.imm] else if x.k = 7 then [((k + 1 : Nat) : Int), atI l x.imm] else [((k + 1 : Nat) : Int)]
structure NodeOk (c : List Ins) (D : Int) (l : List Nd) (k f n : Nat) (x : Nd) : Prop where
  br : NoBr c f n n
  len : (wantP c f n).length = x.acc.length
  acc : AccOk D (wantP c f n) x.acc x.acc.length
  next : x.next = nextI c l f n k
  all : allI (nextI c l f n k) (l.length : Int) = true
theorem wantP_len (c : List Ins) (f j : Nat) : (wantP c f j).length ≤ j := by
  induction j with
  | zero => simp [wantP]
  | succ j ih => simp only [wantP, List.length_append]; split <;> simp <;> omega
theorem wantP_range (c : List Ins) (f j : Nat) : ∀ z ∈ wantP c f j, 0 ≤ z ∧ z < ((f + j : Nat) : Int) := by
  induction j with
  | zero => intro z hz; simp [wantP] at hz
  | succ j ih =>
    intro z hz
    simp only [wantP, List.mem_append] at hz
    rcases hz with h | h
    · have := ih z h; omega
    · split at h
      · simp at h; omega
      · simp at h
theorem noBr_succ {c : List Ins} {f n j : Nat} (h : NoBr c f n j) (h2 : j + 1 = n ∨ ¬ isBr (cAt c (f + j))) : NoBr c f n (j + 1) := fun i hi => by
  by_cases e : i = j
  · subst e; exact h2
  · exact h i (by omega)
/-- Accesses as cells. -/
def acs (l : List Int) : List Value := l.flatMap fun i => [.int .i64 i, .int .i64 0, .int .i64 0]
theorem acs_append (l m : List Int) : acs (l ++ m) = acs l ++ acs m := by unfold acs; rw [List.flatMap_append]
theorem acs_one {l : List Int} : ∀ v ∈ acs l, v.oneCell' = true := fun v h => by
  obtain ⟨x, _, hx⟩ := List.mem_flatMap.1 h
  simp at hx
  rcases hx with rfl | rfl <;> rfl
theorem acs_length (l : List Int) : (acs l).length = l.length * 3 := by
  induction l with
  | nil => rfl
  | cons x l ih => unfold acs at ih ⊢; rw [List.flatMap_cons, List.length_append, ih]; simp; omega
theorem acs_get : ∀ {l : List Int} {i : Nat} {z : Int}, l[i]? = some z → (acs l)[i * 3]? = some (.int .i64 z)
  | [], i, z, h => by simp at h
  | y :: l, 0, z, h => by simp at h; subst h; rfl
  | y :: l, i + 1, z, h => by
    have ih := acs_get (l := l) (i := i) (z := z) (by simpa using h)
    unfold acs at ih ⊢
    rw [List.flatMap_cons, List.getElem?_append_right (by simp; omega)]
    rw [show (i + 1) * 3 - [Value.int .i64 y, .int .i64 0, .int .i64 0].length = i * 3 by simp; omega]
    exact ih
theorem info_acc : (Try.prog.info? 89).map (fun i => (i.zero, i.size, i.bytes)) = some (some (.agg #[.int .i64 0, .int .i64 0, .int .i64 0]), 3, 24) := by kernel_rfl
end Go.Proofs.Ytonbmijhbbodnaa
namespace Go.Proofs.Ytonbmijhbbodnaa
open Go.RowKit

/-- The nodes follow one another from the instruction e on, each of one instruction or more, within the code. -/
def Chain (cn : Nat) : Int → List Nd → Prop
  | _, [] => True
  | e, x :: l => x.first = e ∧ 1 ≤ x.cnt ∧ x.cnt ≤ (cn : Int) - e ∧ Chain cn (e + x.cnt) l
def endOf (e : Int) (l : List Nd) : Int := e + (l.map (·.cnt)).sum
theorem endOf_nil (e : Int) : endOf e [] = e := by simp [endOf]
theorem endOf_cons (e : Int) (x : Nd) (l : List Nd) : endOf e (x :: l) = endOf (e + x.cnt) l := by unfold endOf; rw [List.map_cons, List.sum_cons]; omega
theorem endOf_app (e : Int) (l m : List Nd) : endOf e (l ++ m) = endOf (endOf e l) m := by
  induction l generalizing e with
  | nil => rw [List.nil_append, endOf_nil]
  | cons x l ih => rw [List.cons_append, endOf_cons, endOf_cons, ih]
theorem chain_app {cn : Nat} {e : Int} {l m : List Nd} : Chain cn e (l ++ m) ↔ Chain cn e l ∧ Chain cn (endOf e l) m := by
  induction l generalizing e with
  | nil => rw [endOf_nil]; simp [Chain]
  | cons x l ih =>
    rw [List.cons_append, endOf_cons]
    simp only [Chain, ih, and_assoc]
theorem chain_ge {cn : Nat} {e : Int} {l : List Nd} (h : Chain cn e l) : e ≤ endOf e l := by
  induction l generalizing e with
  | nil => rw [endOf_nil]; exact Int.le_refl _
  | cons x l ih => rw [endOf_cons]; have := ih h.2.2.2; have := h.2.1; omega
theorem chain_le {cn : Nat} {e : Int} {l : List Nd} (h : Chain cn e l) (he : e ≤ cn) : endOf e l ≤ cn := by
  induction l generalizing e with
  | nil => rw [endOf_nil]; exact he
  | cons x l ih => rw [endOf_cons]; exact ih h.2.2.2 (by have := h.2.2.1; omega)
def isEnd (c : List Ins) (x : Nd) : Bool := (cAt c ((x.first + x.cnt).toNat - 1)).k == 10
def endsN (c : List Ins) (l : List Nd) : Int := ((l.filter (isEnd c)).length : Int)
/-- A unit whose nodes begin at e is right. -/
structure UnitOk (c : List Ins) (D : Int) (e : Int) (l : List Nd) : Prop where
  ne : l ≠ []
  len : l.length ≤ 1024
  chain : Chain c.length e l
  nodes : ∀ k x, l[k]? = some x → NodeOk c D l k x.first.toNat x.cnt.toNat x
  ends : endsN c l = 1
def UnitsOk (c : List Ins) (D : Int) : Int → List (List Nd) → Prop
  | e, [] => e = c.length
  | e, u :: us => UnitOk c D e u ∧ UnitsOk c D (endOf e u) us
def Limit (m : Img) : Prop := 1024 < m.code.length ∨ 1024 < m.data ∨ 6 < m.units.length
/-- What Check gives. -/
inductive ChkIs (m : Img) : Int → Prop
  | limit (h : Limit m) : ChkIs m 4
  | code (h : ¬ Limit m) (x : Ins) (hb : bad m.code = some x) : ChkIs m (chkI x)
  | neg (h : ¬ Limit m) (hb : Good m.code) (hd : m.data < 0) : ChkIs m 10
  | no (h : ¬ Limit m) (hb : Good m.code) (hd : ¬ m.data < 0) (hu : ¬ UnitsOk m.code m.data 0 m.units) : ChkIs m 10
  | ok (h : ¬ Limit m) (hb : Good m.code) (hd : ¬ m.data < 0) (hu : UnitsOk m.code m.data 0 m.units) : ChkIs m 0
theorem ChkIs.same {m : Img} {r q : Int} (h : ChkIs m r) (k : ChkIs m q) : r = q := by
  cases h with
  | limit h => cases k with
    | limit => rfl
    | code k => exact absurd h k
    | neg k => exact absurd h k
    | no k => exact absurd h k
    | ok k => exact absurd h k
  | code h x hb => cases k with
    | limit k => exact absurd k h
    | code _ y kb => rw [hb] at kb; cases kb; rfl
    | neg _ kb => rw [bad_none kb] at hb; cases hb
    | no _ kb => rw [bad_none kb] at hb; cases hb
    | ok _ kb => rw [bad_none kb] at hb; cases hb
  | neg h hb hd => cases k with
    | limit k => exact absurd k h
    | code _ y kb => rw [bad_none hb] at kb; cases kb
    | neg => rfl
    | no => rfl
    | ok _ _ kd => exact absurd hd kd
  | no h hb hd hu => cases k with
    | limit k => exact absurd k h
    | code _ y kb => rw [bad_none hb] at kb; cases kb
    | neg => rfl
    | no => rfl
    | ok _ _ _ ku => exact absurd ku hu
  | ok h hb hd hu => cases k with
    | limit k => exact absurd k h
    | code _ y kb => rw [bad_none hb] at kb; cases kb
    | neg _ _ kd => exact absurd kd hd
    | no _ _ _ ku => exact absurd hu ku
    | ok => rfl
/-- The first j units are right, and end at e. -/
def UPre (c : List Ins) (D : Int) (us : List (List Nd)) (j : Nat) (e : Int) : Prop := (UnitsOk c D 0 us ↔ UnitsOk c D e (us.drop j))
theorem upre_zero (c : List Ins) (D : Int) (us : List (List Nd)) : UPre c D us 0 0 := by unfold UPre; rw [List.drop_zero]
theorem upre_next {c : List Ins} {D : Int} {us : List (List Nd)} {j : Nat} {e : Int} {u : List Nd} (h : UPre c D us j e) (hu : us[j]? = some u) (ho : UnitOk c D e u) : UPre c D us (j + 1) (endOf e u) := by
  unfold UPre at h ⊢
  obtain ⟨hj, hg⟩ := List.getElem?_eq_some_iff.1 hu
  rw [h, List.drop_eq_getElem_cons hj, hg]
  exact ⟨fun k => k.2, fun k => ⟨ho, k⟩⟩
theorem upre_no {c : List Ins} {D : Int} {us : List (List Nd)} {j : Nat} {e : Int} {u : List Nd} (h : UPre c D us j e) (hu : us[j]? = some u) (ho : ¬ UnitOk c D e u) : ¬ UnitsOk c D 0 us := by
  unfold UPre at h
  obtain ⟨hj, hg⟩ := List.getElem?_eq_some_iff.1 hu
  rw [h, List.drop_eq_getElem_cons hj, hg]
  exact fun k => ho k.1
theorem upre_end {c : List Ins} {D : Int} {us : List (List Nd)} {j : Nat} {e : Int} (h : UPre c D us j e) (hj : us.length ≤ j) : UnitsOk c D 0 us ↔ e = c.length := by
  unfold UPre at h
  rw [h, List.drop_eq_nil_of_le hj]
  exact Iff.rfl
def ChkMRet (m : Img) (w : World) (e : Ending) (w' : World) : Prop := ∃ r, e = .returned (.int .i64 r) ∧ ChkIs m r ∧ Below w.heap.size w w'
end Go.Proofs.Ytonbmijhbbodnaa
