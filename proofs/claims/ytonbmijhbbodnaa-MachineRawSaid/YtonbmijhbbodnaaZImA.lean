/-
  Images of units that have nodes alone: what they are (plain), and how they lie in memory.
  The document's in, all, at and unit (of a unit that has nodes alone).
-/
import Derived.Test.YtonbmijhbbodnaaZGrow
import Derived.Test.YtonbmijhbbodnaaZInE
namespace Go.Proofs.Ytonbmijhbbodnaa
open Go.RowKit

structure Acc where
  at_ : Int
  lo : Int
  hi : Int
structure Nd where
  first : Int
  cnt : Int
  next : List Int
  acc : List Acc
structure Img where
  code : List Ins
  data : Int
  units : List (List Nd)
abbrev NIL : Value := .slice none 0 0
def RAcc : Rd Acc := fun _ w b o x => w.cell? ⟨b, o, none⟩ = some (.int .i64 x.at_) ∧ w.cell? ⟨b, o + 1, none⟩ = some (.int .i64 x.lo) ∧ w.cell? ⟨b, o + 2, none⟩ = some (.int .i64 x.hi) ∧ I64 x.at_ ∧ I64 x.lo ∧ I64 x.hi
def RNd : Rd Nd := fun K w b o x => w.cell? ⟨b, o, none⟩ = some (.int .i64 x.first) ∧ w.cell? ⟨b, o + 1, none⟩ = some (.int .i64 x.cnt) ∧ I64 x.first ∧ I64 x.cnt ∧
  (∃ a n c, w.cell? ⟨b, o + 2, none⟩ = some (.slice a n c) ∧ Ints K w a n c x.next) ∧ (∃ a n c, w.cell? ⟨b, o + 3, none⟩ = some (.slice a n c) ∧ Row RAcc 3 K w a n c x.acc)
def RUn : Rd (List Nd) := fun K w b o x => (∃ s, w.cell? ⟨b, o, none⟩ = some (.string s)) ∧ (∃ a n c, w.cell? ⟨b, o + 1, none⟩ = some (.slice a n c) ∧ Row RNd 4 K w a n c x) ∧
  ∀ i, 2 ≤ i → i < 10 → w.cell? ⟨b, o + i, none⟩ = some NIL
theorem RAcc.stays : Stays RAcc := fun _ _ _ _ _ _ h _ hK ⟨h1, h2, h3, h4⟩ => ⟨cell_stays h hK h1, cell_stays h hK h2, cell_stays h hK h3, h4⟩
theorem RNd.stays : Stays RNd := fun _ _ _ _ _ _ h hs hK ⟨h1, h2, h3, h4, ⟨a, n, c, h5, h6⟩, ⟨a', n', c', h7, h8⟩⟩ =>
  ⟨cell_stays h hK h1, cell_stays h hK h2, h3, h4, ⟨a, n, c, cell_stays h hK h5, h6.keeps RInt.stays h hs⟩, ⟨a', n', c', cell_stays h hK h7, h8.keeps RAcc.stays h hs⟩⟩
theorem RUn.stays : Stays RUn := fun _ _ _ _ _ _ h hs hK ⟨⟨s, h1⟩, ⟨a, n, c, h2, h3⟩, h4⟩ =>
  ⟨⟨s, cell_stays h hK h1⟩, ⟨a, n, c, cell_stays h hK h2, h3.keeps RNd.stays h hs⟩, fun i hi hj => cell_stays h hK (h4 i hi hj)⟩
abbrev NdL := Row RNd 4
abbrev UnL := Row RUn 10
theorem AccL.get {K : Nat → Prop} {w : World} {a : Option Addr} {len cap : Nat} {l : List Acc} (r : Row RAcc 3 K w a len cap l) {i : Nat} (h : i < len) :
    ∃ b o x, a = some ⟨b, o, none⟩ ∧ l[i]? = some x ∧ K b ∧ b < w.heap.size ∧ I64 x.at_ ∧ I64 x.lo ∧ I64 x.hi ∧ w.cell? ⟨b, o + i * 3, none⟩ = some (.int .i64 x.at_) ∧ w.cell? ⟨b, o + i * 3 + 1, none⟩ = some (.int .i64 x.lo) ∧ w.cell? ⟨b, o + i * 3 + 2, none⟩ = some (.int .i64 x.hi) := by
  obtain ⟨x, e⟩ : ∃ x, l[i]? = some x := ⟨_, List.getElem?_eq_getElem (by rw [r.hlen]; exact h)⟩
  obtain ⟨b, o, e1, e2, e3, e4, e5, e6, e7, e8, e9⟩ := r.row i _ e
  exact ⟨b, o, x, e1, e, e2, e3, e7, e8, e9, e4, e5, e6⟩
theorem NdL.get {K : Nat → Prop} {w : World} {a : Option Addr} {len cap : Nat} {l : List Nd} (r : NdL K w a len cap l) {i : Nat} (h : i < len) :
    ∃ b o x na nl nc aa al ac, a = some ⟨b, o, none⟩ ∧ l[i]? = some x ∧ K b ∧ b < w.heap.size ∧ I64 x.first ∧ I64 x.cnt ∧ w.cell? ⟨b, o + i * 4, none⟩ = some (.int .i64 x.first) ∧ w.cell? ⟨b, o + i * 4 + 1, none⟩ = some (.int .i64 x.cnt) ∧
      w.cell? ⟨b, o + i * 4 + 2, none⟩ = some (.slice na nl nc) ∧ w.cell? ⟨b, o + i * 4 + 3, none⟩ = some (.slice aa al ac) ∧ Ints K w na nl nc x.next ∧ Row RAcc 3 K w aa al ac x.acc := by
  obtain ⟨x, e⟩ : ∃ x, l[i]? = some x := ⟨_, List.getElem?_eq_getElem (by rw [r.hlen]; exact h)⟩
  obtain ⟨b, o, e1, e2, e3, h1, h2, h3, h4, ⟨na, nl, nc, h5, h6⟩, ⟨aa, al, ac, h7, h8⟩⟩ := r.row i _ e
  exact ⟨b, o, x, na, nl, nc, aa, al, ac, e1, e, e2, e3, h3, h4, h1, h2, h5, h7, h6, h8⟩
/-- A unit as a value. -/
abbrev UV (s : ByteArray) (na : Option Addr) (nl nc : Nat) : Value := .agg #[.string s, .slice na nl nc, NIL, NIL, NIL, NIL, NIL, NIL, NIL, NIL]
abbrev UCells (s : ByteArray) (na : Option Addr) (nl nc : Nat) : List Value := [.string s, .slice na nl nc, NIL, NIL, NIL, NIL, NIL, NIL, NIL, NIL]
theorem UnL.get {K : Nat → Prop} {w : World} {a : Option Addr} {len cap : Nat} {l : List (List Nd)} (r : UnL K w a len cap l) {i : Nat} (h : i < len) :
    ∃ b o x s na nl nc, a = some ⟨b, o, none⟩ ∧ l[i]? = some x ∧ K b ∧ b < w.heap.size ∧ NdL K w na nl nc x ∧ ∀ j v, (UCells s na nl nc)[j]? = some v → w.cell? ⟨b, o + i * 10 + j, none⟩ = some v := by
  obtain ⟨x, e⟩ : ∃ x, l[i]? = some x := ⟨_, List.getElem?_eq_getElem (by rw [r.hlen]; exact h)⟩
  obtain ⟨b, o, e1, e2, e3, ⟨s, h1⟩, ⟨na, nl, nc, h2, h3⟩, h4⟩ := r.row i _ e
  refine ⟨b, o, x, s, na, nl, nc, e1, e, e2, e3, h3, fun j v hj => ?_⟩
  match j, hj with
  | 0, hj => cases hj; exact h1
  | 1, hj => cases hj; exact h2
  | 2, hj => cases hj; exact h4 2 (by omega) (by omega)
  | 3, hj => cases hj; exact h4 3 (by omega) (by omega)
  | 4, hj => cases hj; exact h4 4 (by omega) (by omega)
  | 5, hj => cases hj; exact h4 5 (by omega) (by omega)
  | 6, hj => cases hj; exact h4 6 (by omega) (by omega)
  | 7, hj => cases hj; exact h4 7 (by omega) (by omega)
  | 8, hj => cases hj; exact h4 8 (by omega) (by omega)
  | 9, hj => cases hj; exact h4 9 (by omega) (by omega)
/-- An image in memory: its value, and what it stands for. -/
structure IsImg (K : Nat → Prop) (w : World) (ca : Option Addr) (cn cc : Nat) (D : Int) (ua : Option Addr) (un uc : Nat) (m : Img) : Prop where
  code : InsL K w ca cn cc m.code
  data : D = m.data
  dI : I64 m.data
  units : UnL K w ua un uc m.units
abbrev MV (ca : Option Addr) (cn cc : Nat) (D : Int) (ua : Option Addr) (un uc : Nat) : Value := .agg #[.slice ca cn cc, .int .i64 D, NIL, .slice ua un uc]
abbrev MCells (ca : Option Addr) (cn cc : Nat) (D : Int) (ua : Option Addr) (un uc : Nat) : List Value := [.slice ca cn cc, .int .i64 D, NIL, .slice ua un uc]
theorem IsImg.below {K : Nat → Prop} {w w' : World} {ca : Option Addr} {cn cc : Nat} {D : Int} {ua : Option Addr} {un uc : Nat} {m : Img} (h : IsImg K w ca cn cc D ua un uc m) (hb : Below w.heap.size w w') : IsImg K w' ca cn cc D ua un uc m :=
  ⟨Row.below RIns.stays h.code hb, h.data, h.dI, Row.below RUn.stays h.units hb⟩

theorem rin_any (z n : Int) (w : World) : Calls Try.prog 96 #[.int .i64 z, .int .i64 n] w fun e w' => e = .returned (.bool (inB z n)) ∧ w' = w := by
  by_cases h : 0 ≤ z
  · go_enter Try.func96, Try.ntmps96
    go_wp2
    go_ret
    exact ⟨ret_b (by simp [inB, h] <;> omega), rfl⟩
  · go_enter Try.func96, Try.ntmps96
    go_wp2
    go_ret
    exact ⟨ret_b (by simp [inB] <;> omega), rfl⟩
def allI (l : List Int) (n : Int) : Bool := l.all (fun z => inB z n)
theorem allI_no {l : List Int} {n : Int} {k : Nat} {z : Int} (h : l[k]? = some z) (hz : inB z n = false) : allI l n = false := by
  unfold allI
  rw [List.all_eq_false]
  exact ⟨z, List.mem_of_getElem? h, by simp [hz]⟩
theorem allI_take {l : List Int} {n : Int} {k : Nat} {z : Int} (h : l[k]? = some z) (hk : allI (l.take k) n = true) (hz : inB z n = true) : allI (l.take (k + 1)) n = true := by
  unfold allI at hk ⊢
  rw [List.take_add_one, h, List.all_append, hk]
  simp [hz]
set_option maxHeartbeats 4000000 in
theorem rall_any (K : Nat → Prop) (a : Option Addr) (len cap : Nat) (l : List Int) (n : Int) (w : World) (r : Ints K w a len cap l) : Calls Try.prog 95 #[.slice a len cap, .int .i64 n] w fun e w' => e = .returned (.bool (allI l n)) ∧ w' = w := by
  have R := Lib.hid r
  have hsz := r.hsz
  have hll := r.hlen
  clear r
  go_enter Try.func95, Try.ntmps95
  go_wp2
  go_loopw [5] (fun i wr => ∃ k : Nat, k ≤ len ∧ i = .int .i64 k ∧ allI (l.take k) n = true ∧ w = wr) (fun i _ => len - (intOf i).toNat)
  case atStart => exact ⟨0, Nat.zero_le _, rfl, rfl, rfl⟩
  case round =>
    obtain ⟨k, hk, rfl, ha, hw⟩ := hrel
    subst hw
    have HA := Lib.hid ha
    clear ha
    by_cases hlt : k < len
    · obtain ⟨b, o, z, rfl, hz, hc, _, _, _, _⟩ := Ints.get R.out hlt
      have HZ := Lib.hid hz
      clear hz
      go_wp2_with fail
      refine (rin_any z n _).mono ?_
      rintro e w' ⟨rfl, hw'⟩
      subst hw'
      cases hin : inB z n with
      | true =>
        have HI := Lib.hid (allI_take HZ.out HA.out hin)
        go_wp2
        go_roundw
        case rel => exact ⟨k + 1, by omega, by go_num, HI.out, trivial⟩
        case measure => simp [intOf]; omega
      | false =>
        have HI := Lib.hid (allI_no HZ.out hin)
        go_wp2
        go_ret
        exact ⟨ret_b HI.out.symm, rfl⟩
    · have hkk : l.take k = l := List.take_of_length_le (by omega)
      rw [hkk] at HA
      go_wp2
      go_ret
      exact ⟨ret_b HA.out.symm, rfl⟩
/-- The node that begins with an instruction. -/
def atF (l : List Nd) (f : Int) : Nat → Int
  | k => match (l.drop k) with
    | [] => -1
    | x :: _ => if x.first = f then k else if h : k < l.length then atF l f (k + 1) else -1
  termination_by k => l.length - k
theorem atF_end {l : List Nd} {f : Int} {k : Nat} (h : l.length ≤ k) : atF l f k = -1 := by
  rw [atF, List.drop_eq_nil_of_le h]
theorem atF_hit {l : List Nd} {f : Int} {k : Nat} {x : Nd} (h : l[k]? = some x) (hx : x.first = f) : atF l f k = k := by
  obtain ⟨hk, e⟩ := List.getElem?_eq_some_iff.1 h
  rw [atF, List.drop_eq_getElem_cons hk]
  simp only [e, hx, if_true]
theorem atF_next {l : List Nd} {f : Int} {k : Nat} {x : Nd} (h : l[k]? = some x) (hx : ¬ x.first = f) : atF l f k = atF l f (k + 1) := by
  obtain ⟨hk, e⟩ := List.getElem?_eq_some_iff.1 h
  rw [atF, List.drop_eq_getElem_cons hk]
  simp only [e, hx, if_false]
  rw [dif_pos hk]
def atI (l : List Nd) (f : Int) : Int := atF l f 0
theorem atF_range (l : List Nd) (f : Int) : ∀ n k, l.length - k ≤ n → -1 ≤ atF l f k ∧ atF l f k ≤ l.length
  | 0, k, h => by rw [atF_end (by omega)]; omega
  | n + 1, k, h => by
    by_cases hk : k < l.length
    · have e := List.getElem?_eq_getElem hk
      by_cases hx : l[k].first = f
      · rw [atF_hit e hx]; omega
      · rw [atF_next e hx]; exact atF_range l f n (k + 1) (by omega)
    · rw [atF_end (by omega)]; omega
set_option maxHeartbeats 4000000 in
theorem rat_any (K : Nat → Prop) (s : ByteArray) (na : Option Addr) (nl nc : Nat) (l : List Nd) (f : Int) (w : World) (r : NdL K w na nl nc l) : Calls Try.prog 94 #[UV s na nl nc, .int .i64 f] w fun e w' => e = .returned (.int .i64 (atI l f)) ∧ Below w.heap.size w w' := by
  have hsz := r.hsz
  have hll := r.hlen
  have F0 := Lib.hid (Fm.new (Fm.start Non w) rfl (UCells s na nl nc) 79)
  have R := Lib.hid (Row.below RNd.stays r F0.out.below)
  clear r
  go_enter Try.func94, Try.ntmps94
  have t0 := F0.out.h0
  have c1 := t0.cell 1 _ rfl
  clear t0
  go_wp2
  go_loopw [5] (fun i wr => ∃ k : Nat, k ≤ nl ∧ i = .int .i64 k ∧ atF l f 0 = atF l f k ∧ w.alloc (.cells (UCells s na nl nc).toArray 79) = wr) (fun i _ => nl - (intOf i).toNat)
  case atStart => exact ⟨0, Nat.zero_le _, rfl, rfl, rfl⟩
  case round =>
    obtain ⟨k, hk, rfl, ha, hw⟩ := hrel
    subst hw
    have HA := Lib.hid ha
    clear ha
    by_cases hlt : k < nl
    · obtain ⟨b, o, x, _, _, _, _, _, _, rfl, hx, _, _, _, _, g0, _, _, _, _, _⟩ := NdL.get R.out hlt
      have HX := Lib.hid hx
      clear hx
      by_cases hf : x.first = f
      · have HF := Lib.hid (show atI l f = (k : Int) from HA.out.trans (atF_hit HX.out hf))
        go_wp2
        go_ret
        exact ⟨by rw [HF.out]; rfl, F0.out.below⟩
      · have HF := Lib.hid (HA.out.trans (atF_next HX.out hf))
        go_wp2
        go_roundw
        case rel => exact ⟨k + 1, by omega, by go_num, HF.out, trivial⟩
        case measure => simp [intOf]; omega
    · have HF := Lib.hid (show atI l f = -1 from HA.out.trans (atF_end (by omega)))
      go_wp2
      go_ret
      exact ⟨by rw [HF.out]; rfl, F0.out.below⟩
set_option maxHeartbeats 4000000 in
theorem runit_any (s : ByteArray) (na : Option Addr) (nl nc : Nat) (w : World) (_hn : nl ≤ 1000000) : Calls Try.prog 75 #[UV s na nl nc] w fun e w' => e = .returned (.bool true) ∧ Below w.heap.size w w' := by
  have F0 := Lib.hid (Fm.new (Fm.start Non w) rfl (UCells s na nl nc) 79)
  go_enter Try.func75, Try.ntmps75
  obtain ⟨w1, hw1⟩ : ∃ w1, w1 = w.alloc (.cells (UCells s na nl nc).toArray 79) := ⟨_, rfl⟩
  have F1 := Lib.hid (show Fm Non w w1 [UCells s na nl nc] by rw [hw1]; exact F0.out)
  have t0 := F1.out.h0
  have c1 := t0.cell 1 _ rfl; have c2 := t0.cell 2 _ rfl; have c3 := t0.cell 3 _ rfl; have c4 := t0.cell 4 _ rfl; have c5 := t0.cell 5 _ rfl
  clear t0
  go_upto_region 1 with fail
  have hw2 : w.alloc (.cells #[.string s, .slice na nl nc, NIL, NIL, NIL, NIL, NIL, NIL, NIL, NIL] 79) = w1 := hw1.symm
  rw [hw2]
  clear hw1 hw2 F0
  go_wp2
  go_loopw [4] (fun i wr => i = .int .i64 0 ∧ w1 = wr) (fun _ _ => 0)
  case atStart => exact ⟨rfl, rfl⟩
  case round =>
    obtain ⟨rfl, hw⟩ := hrel
    subst hw
    go_wp2
    go_loopw [6] (fun i wr => i = .int .i64 0 ∧ w1 = wr) (fun _ _ => 0)
    case atStart => exact ⟨rfl, rfl⟩
    case round =>
      obtain ⟨rfl, hw⟩ := hrel
      subst hw
      go_wp2
      go_loopw [7] (fun i wr => i = .int .i64 0 ∧ w1 = wr) (fun _ _ => 0)
      case atStart => exact ⟨rfl, rfl⟩
      case round =>
        obtain ⟨rfl, hw⟩ := hrel
        subst hw
        go_wp2
        go_loopw [8] (fun i wr => i = .int .i64 0 ∧ w1 = wr) (fun _ _ => 0)
        case atStart => exact ⟨rfl, rfl⟩
        case round =>
          obtain ⟨rfl, hw⟩ := hrel
          subst hw
          go_wp2
          go_ret
          exact ⟨rfl, F1.out.below⟩
end Go.Proofs.Ytonbmijhbbodnaa
