/-
  Cores in memory; the document's words and Valid.
  A step of a core (plain).
-/
import Derived.Test.YtonbmijhbbodnaaZImC
import Derived.Test.YtonbmijhbbodnaaImG
namespace Go.Proofs.Ytonbmijhbbodnaa
open Go.RowKit

structure Co where
  regs : List Int
  data : List Int
  held : List Bool
  pc : Int
  ended : Bool
def RBo : Rd Bool := fun _ w b o z => w.cell? ⟨b, o, none⟩ = some (.bool z)
theorem RBo.stays : Stays RBo := fun _ _ _ _ _ _ h _ hK hr => cell_stays h hK hr
abbrev Bools := Row RBo 1
structure IsCo (K : Nat → Prop) (w : World) (ra : Option Addr) (rn rc : Nat) (da : Option Addr) (dn dc : Nat) (ha : Option Addr) (hn hc : Nat) (c : Co) : Prop where
  regs : Ints K w ra rn rc c.regs
  data : Ints K w da dn dc c.data
  held : Bools K w ha hn hc c.held
  pc : I64 c.pc
abbrev CoV (ra : Option Addr) (rn rc : Nat) (da : Option Addr) (dn dc : Nat) (ha : Option Addr) (hn hc : Nat) (pc : Int) (en : Bool) : Value := .agg #[.slice ra rn rc, .slice da dn dc, .slice ha hn hc, .int .i64 pc, .bool en]
abbrev CoCells (ra : Option Addr) (rn rc : Nat) (da : Option Addr) (dn dc : Nat) (ha : Option Addr) (hn hc : Nat) (pc : Int) (en : Bool) : List Value := [.slice ra rn rc, .slice da dn dc, .slice ha hn hc, .int .i64 pc, .bool en]
theorem IsCo.below {K : Nat → Prop} {w w' : World} {ra : Option Addr} {rn rc : Nat} {da : Option Addr} {dn dc : Nat} {ha : Option Addr} {hn hc : Nat} {c : Co} (h : IsCo K w ra rn rc da dn dc ha hn hc c) (hb : Below w.heap.size w w') : IsCo K w' ra rn rc da dn dc ha hn hc c :=
  ⟨Ints.below h.regs hb, Ints.below h.data hb, Row.below RBo.stays h.held hb, h.pc⟩
def wds (l : List Int) : Bool := l.all wordB
theorem wds_no {l : List Int} {k : Nat} {z : Int} (h : l[k]? = some z) (hz : wordB z = false) : wds l = false := by
  unfold wds
  rw [List.all_eq_false]
  exact ⟨z, List.mem_of_getElem? h, by simp [hz]⟩
theorem wds_take {l : List Int} {k : Nat} {z : Int} (h : l[k]? = some z) (hk : wds (l.take k) = true) (hz : wordB z = true) : wds (l.take (k + 1)) = true := by
  unfold wds at hk ⊢
  rw [List.take_add_one, h, List.all_append, hk]
  simp [hz]
theorem wds_get {l : List Int} (h : wds l = true) {k : Nat} {z : Int} (hz : l[k]? = some z) : Wd z := by
  unfold wds at h
  have := List.all_eq_true.1 h z (List.mem_of_getElem? hz)
  simp [wordB] at this
  exact this
set_option maxHeartbeats 4000000 in
theorem rwords_any (K : Nat → Prop) (a : Option Addr) (len cap : Nat) (l : List Int) (w : World) (r : Ints K w a len cap l) : Calls Try.prog 44 #[.slice a len cap] w fun e w' => e = .returned (.bool (wds l)) ∧ w' = w := by
  have R := Lib.hid r
  have hsz := r.hsz
  have hll := r.hlen
  clear r
  go_enter Try.func44, Try.ntmps44
  go_wp2
  go_loopw [3] (fun i wr => ∃ k : Nat, k ≤ len ∧ i = .int .i64 k ∧ wds (l.take k) = true ∧ w = wr) (fun i _ => len - (intOf i).toNat)
  case atStart => exact ⟨0, Nat.zero_le _, rfl, rfl, rfl⟩
  case round =>
    obtain ⟨k, hk, rfl, ha, hw⟩ := hrel
    subst hw
    have HA := Lib.hid ha
    clear ha
    by_cases hlt : k < len
    · obtain ⟨b, o, z, rfl, hz, hc, _, _, _, _⟩ := Ints.get R.out hlt
      have HZ := Lib.hid hz
      clear hz
      go_wp2_with fail
      refine (word_any z _).mono ?_
      rintro e w' ⟨rfl, hw'⟩
      subst hw'
      cases hin : wordB z with
      | true =>
        have HI := Lib.hid (wds_take HZ.out HA.out hin)
        go_wp2
        go_roundw
        case rel => exact ⟨k + 1, by omega, by go_num, HI.out, trivial⟩
        case measure => simp [intOf]; omega
      | false =>
        have HI := Lib.hid (wds_no HZ.out hin)
        go_wp2
        go_ret
        exact ⟨ret_b HI.out.symm, rfl⟩
    · have hkk : l.take k = l := List.take_of_length_le (by omega)
      rw [hkk] at HA
      go_wp2
      go_ret
      exact ⟨ret_b HA.out.symm, rfl⟩
/-- A right core of an image. -/
structure CoOk (m : Img) (c : Co) : Prop where
  regs : c.regs.length = 8
  words : wds c.regs = true
  zero : c.regs[0]? = some 0
  data : (c.data.length : Int) = m.data
  dwords : wds c.data = true
  held : c.held.length = 4
  pc0 : 0 ≤ c.pc
  pc1 : c.pc < m.code.length
def ORet (P : Prop) (w : World) (e : Ending) (w' : World) : Prop := ∃ b, e = .returned (.bool b) ∧ (b = true ↔ P) ∧ Below w.heap.size w w'
set_option maxRecDepth 100000 in
set_option maxHeartbeats 8000000 in
theorem rvalid_any (K K2 : Nat → Prop) (ca : Option Addr) (cn cc : Nat) (D : Int) (ua : Option Addr) (un uc : Nat) (m : Img) (ra : Option Addr) (rn rc : Nat) (da : Option Addr) (dn dc : Nat) (ha : Option Addr) (hn hc : Nat) (c : Co) (w : World)
    (h : IsImg K w ca cn cc D ua un uc m) (g : IsCo K2 w ra rn rc da dn dc ha hn hc c) :
    Calls Try.prog 18 #[MV ca cn cc D ua un uc, CoV ra rn rc da dn dc ha hn hc c.pc c.ended] w (ORet (CoOk m c) w) := by
  obtain ⟨regs, data, held, pc, en⟩ := c
  have hcl := h.code.hlen; have hcs := h.code.hsz
  have hD := h.data
  have hrl := g.regs.hlen; have hrs := g.regs.hsz
  have hdl := g.data.hlen; have hds := g.data.hsz
  have hhl := g.held.hlen; have hhs := g.held.hsz
  have hpc := g.pc
  have hDI := h.dI
  rw [← hD] at hDI
  have hDI0 := hDI.1; have hDI1 := hDI.2
  have hpc0 := hpc.1; have hpc1 := hpc.2
  have HD := Lib.hid hD
  simp only [] at hrl hdl hhl hpc0 hpc1
  have F0 := Lib.hid (Fm.new (Fm.new (Fm.start Non w) rfl (MCells ca cn cc D ua un uc) 31) (by simp) (CoCells ra rn rc da dn dc ha hn hc pc en) 36)
  have G := Lib.hid (g.below F0.out.below)
  clear h g hD hpc hDI
  go_enter Try.func18, Try.ntmps18
  obtain ⟨w1, hw1⟩ : ∃ w1, w1 = (w.alloc (.cells (MCells ca cn cc D ua un uc).toArray 31)).alloc (.cells (CoCells ra rn rc da dn dc ha hn hc pc en).toArray 36) := ⟨_, rfl⟩
  have F1 := Lib.hid (show Fm Non w w1 [MCells ca cn cc D ua un uc, CoCells ra rn rc da dn dc ha hn hc pc en] by rw [hw1]; exact F0.out)
  have G1 := Lib.hid (show IsCo K2 w1 ra rn rc da dn dc ha hn hc ⟨regs, data, held, pc, en⟩ by rw [hw1]; exact G.out)
  go_upto_region 1 with fail
  have hw2 : (w.alloc (.cells #[.slice ca cn cc, .int .i64 D, NIL, .slice ua un uc] 31)).alloc (.cells #[.slice ra rn rc, .slice da dn dc, .slice ha hn hc, .int .i64 pc, .bool en] 36) = w1 := hw1.symm
  rw [hw2]
  clear hw1 hw2 F0 G
  have t0 := F1.out.h0; have t1 := F1.out.h1
  have m0 := t0.cell 0 _ rfl; have m1 := t0.cell 1 _ rfl
  have x0 := t1.cell 0 _ rfl; have x1 := t1.cell 1 _ rfl; have x2 := t1.cell 2 _ rfl; have x3 := t1.cell 3 _ rfl
  clear t0 t1
  obtain ⟨br, hbr⟩ : ∃ b, b = wds regs := ⟨_, rfl⟩
  obtain ⟨bd, hbd⟩ : ∃ b, b = wds data := ⟨_, rfl⟩
  have RW := Lib.hid (show Calls Try.prog 44 #[.slice ra rn rc] w1 fun e w' => e = .returned (.bool br) ∧ w' = w1 by rw [hbr]; exact rwords_any K2 ra rn rc regs w1 G1.out.regs)
  have DW := Lib.hid (show Calls Try.prog 44 #[.slice da dn dc] w1 fun e w' => e = .returned (.bool bd) ∧ w' = w1 by rw [hbd]; exact rwords_any K2 da dn dc data w1 G1.out.data)
  have HBR := Lib.hid hbr; have HBD := Lib.hid hbd
  clear hbr hbd
  by_cases d1 : rn = 8
  · subst d1
    cases br with
    | true =>
      obtain ⟨rb, ro, z, hra, hz, c0, _, _, _, _⟩ := Ints.get G1.out.regs (show 0 < 8 by omega)
      subst hra
      rw [Nat.add_zero] at c0
      have HZ := Lib.hid hz
      clear hz
      by_cases d2 : z = 0
      · subst d2
        by_cases d3 : (dn : Int) = D
        · have e3 : ((dn : Int) == D) = true := by simpa using d3
          have D3 := Lib.hid d3
          clear d3
          cases bd with
          | true =>
            by_cases d4 : hn = 4
            · subst d4
              by_cases d5 : 0 ≤ pc
              · by_cases d6 : pc < cn
                · have HY := Lib.hid (show CoOk m ⟨regs, data, held, pc, en⟩ from ⟨hrl, HBR.out.symm, HZ.out, by rw [← HD.out, ← D3.out, hdl], HBD.out.symm, hhl, d5, by rw [hcl]; exact d6⟩)
                  go_wp2_with (first | (go_at_call 44; first | (with_reducible refine RW.out.mono ?_; rintro e w' ⟨rfl, hw'⟩; subst hw') | (with_reducible refine DW.out.mono ?_; rintro e w' ⟨rfl, hw'⟩; subst hw')))
                  go_ret
                  exact ⟨true, rfl, ⟨(fun _ => HY.out), (fun _ => rfl)⟩, F1.out.below⟩
                · have HNO := Lib.hid (show ¬ CoOk m ⟨regs, data, held, pc, en⟩ from fun h => d6 (by have := h.pc1; rw [hcl] at this; exact this))
                  go_wp2_with (first | (go_at_call 44; first | (with_reducible refine RW.out.mono ?_; rintro e w' ⟨rfl, hw'⟩; subst hw') | (with_reducible refine DW.out.mono ?_; rintro e w' ⟨rfl, hw'⟩; subst hw')))
                  go_ret
                  exact ⟨decide (pc < (cn : Int)), rfl, ⟨(fun h => absurd (of_decide_eq_true h) (by omega)), (fun h => absurd h HNO.out)⟩, F1.out.below⟩
              · have HNO := Lib.hid (show ¬ CoOk m ⟨regs, data, held, pc, en⟩ from fun h => d5 h.pc0)
                go_wp2_with (first | (go_at_call 44; first | (with_reducible refine RW.out.mono ?_; rintro e w' ⟨rfl, hw'⟩; subst hw') | (with_reducible refine DW.out.mono ?_; rintro e w' ⟨rfl, hw'⟩; subst hw')))
                go_ret
                exact ⟨false, rfl, ⟨(fun h => by cases h), (fun h => absurd h HNO.out)⟩, F1.out.below⟩
            · have e4 : ((hn : Int) == 4) = false := by simp; omega
              have HNO := Lib.hid (show ¬ CoOk m ⟨regs, data, held, pc, en⟩ from fun h => d4 (by rw [← hhl]; exact h.held))
              go_wp2_with (first | (go_at_call 44; first | (with_reducible refine RW.out.mono ?_; rintro e w' ⟨rfl, hw'⟩; subst hw') | (with_reducible refine DW.out.mono ?_; rintro e w' ⟨rfl, hw'⟩; subst hw')))
              go_ret
              exact ⟨false, rfl, ⟨(fun h => by cases h), (fun h => absurd h HNO.out)⟩, F1.out.below⟩
          | false =>
            have HNO := Lib.hid (show ¬ CoOk m ⟨regs, data, held, pc, en⟩ from fun h => by have := HBD.out; rw [h.dwords] at this; cases this)
            go_wp2_with (first | (go_at_call 44; first | (with_reducible refine RW.out.mono ?_; rintro e w' ⟨rfl, hw'⟩; subst hw') | (with_reducible refine DW.out.mono ?_; rintro e w' ⟨rfl, hw'⟩; subst hw')))
            go_ret
            exact ⟨false, rfl, ⟨(fun h => by cases h), (fun h => absurd h HNO.out)⟩, F1.out.below⟩
        · have e3 : ((dn : Int) == D) = false := by simpa using d3
          have HNO := Lib.hid (show ¬ CoOk m ⟨regs, data, held, pc, en⟩ from fun h => d3 (by have := h.data; rw [← HD.out] at this; rw [← this, ← hdl]))
          go_wp2_with (first | (go_at_call 44; first | (with_reducible refine RW.out.mono ?_; rintro e w' ⟨rfl, hw'⟩; subst hw') | (with_reducible refine DW.out.mono ?_; rintro e w' ⟨rfl, hw'⟩; subst hw')))
          go_ret
          exact ⟨false, rfl, ⟨(fun h => by cases h), (fun h => absurd h HNO.out)⟩, F1.out.below⟩
      · have e2 : (z == 0) = false := by simpa using d2
        have HNO := Lib.hid (show ¬ CoOk m ⟨regs, data, held, pc, en⟩ from fun h => d2 (by have := h.zero; rw [HZ.out] at this; exact Option.some.inj this))
        go_wp2_with (first | (go_at_call 44; first | (with_reducible refine RW.out.mono ?_; rintro e w' ⟨rfl, hw'⟩; subst hw') | (with_reducible refine DW.out.mono ?_; rintro e w' ⟨rfl, hw'⟩; subst hw')))
        go_ret
        exact ⟨false, rfl, ⟨(fun h => by cases h), (fun h => absurd h HNO.out)⟩, F1.out.below⟩
    | false =>
      have HNO := Lib.hid (show ¬ CoOk m ⟨regs, data, held, pc, en⟩ from fun h => by have := HBR.out; rw [h.words] at this; cases this)
      go_wp2_with (first | (go_at_call 44; first | (with_reducible refine RW.out.mono ?_; rintro e w' ⟨rfl, hw'⟩; subst hw') | (with_reducible refine DW.out.mono ?_; rintro e w' ⟨rfl, hw'⟩; subst hw')))
      go_ret
      exact ⟨false, rfl, ⟨(fun h => by cases h), (fun h => absurd h HNO.out)⟩, F1.out.below⟩
  · have e1 : ((rn : Int) == 8) = false := by simp; omega
    have HNO := Lib.hid (show ¬ CoOk m ⟨regs, data, held, pc, en⟩ from fun h => d1 (by rw [← hrl]; exact h.regs))
    go_wp2_with (first | (go_at_call 44; first | (with_reducible refine RW.out.mono ?_; rintro e w' ⟨rfl, hw'⟩; subst hw') | (with_reducible refine DW.out.mono ?_; rintro e w' ⟨rfl, hw'⟩; subst hw')))
    go_ret
    exact ⟨false, rfl, ⟨(fun h => by cases h), (fun h => absurd h HNO.out)⟩, F1.out.below⟩
end Go.Proofs.Ytonbmijhbbodnaa
namespace Go.Proofs.Ytonbmijhbbodnaa
open Go.RowKit

structure Ev where
  at_ : Int
  addr : Int
  jumped : Bool
abbrev EvV (v : Ev) : Value := .agg #[.int .i64 v.at_, .int .i64 v.addr, .bool v.jumped]
abbrev EvCells (v : Ev) : List Value := [.int .i64 v.at_, .int .i64 v.addr, .bool v.jumped]
abbrev ev0 : Ev := ⟨0, 0, false⟩
def rAt (l : List Int) (i : Int) : Int := l.getD i.toNat 0
def hAt (l : List Bool) (i : Int) : Bool := l.getD i.toNat false
/-- The event of an instruction and what comes next, or the error. -/
def evP (x : Ins) (D : Int) (c : Co) : Int ⊕ (Ev × Int) :=
  if x.k = 8 ∨ x.k = 9 then (if hAt c.held x.imm != (x.k == 9) then .inl 14 else .inr (⟨c.pc, -1, false⟩, c.pc + 1)) else
  if x.k = 4 ∨ x.k = 5 then (if rAt c.regs x.b + x.imm < 0 ∨ D ≤ rAt c.regs x.b + x.imm then .inl 12 else .inr (⟨c.pc, rAt c.regs x.b + x.imm, false⟩, c.pc + 1)) else
  if x.k = 6 then .inr (⟨c.pc, -1, true⟩, x.imm) else
  if x.k = 7 then (if rAt c.regs x.a = 0 then .inr (⟨c.pc, -1, true⟩, x.imm) else .inr (⟨c.pc, -1, false⟩, c.pc + 1)) else
  if x.k = 10 then .inr (⟨c.pc, -1, false⟩, c.pc) else .inr (⟨c.pc, -1, false⟩, c.pc + 1)
/-- What an instruction does to registers, data and resources. -/
def effR (x : Ins) (v : Ev) (c : Co) : List Int :=
  (if x.k = 1 then c.regs.set x.a.toNat x.imm else
   if x.k = 2 then c.regs.set x.a.toNat (rAt c.regs x.b) else
   if x.k = 3 then c.regs.set x.a.toNat (doI x.op (rAt c.regs x.b) (rAt c.regs x.c)) else
   if x.k = 4 then c.regs.set x.a.toNat (rAt c.data v.addr) else c.regs).set 0 0
def effD (x : Ins) (v : Ev) (c : Co) : List Int := if x.k = 5 then c.data.set v.addr.toNat (rAt c.regs x.a) else c.data
def effH (x : Ins) (c : Co) : List Bool := if x.k = 8 then c.held.set x.imm.toNat true else if x.k = 9 then c.held.set x.imm.toNat false else c.held
def stepP (x : Ins) (cn : Nat) (D : Int) (c : Co) : Int ⊕ (Ev × Co) :=
  match evP x D c with
  | .inl e => .inl e
  | .inr (v, n) => if (cn : Int) ≤ n then .inl 12 else .inr (v, ⟨effR x v c, effD x v c, effH x c, n, c.ended || x.k == 10⟩)
/-- Registers that an instruction does not read do not matter for its event. -/
theorem rAt_set {l : List Int} {w : Nat} {t i : Int} (hi : 0 ≤ i) (h : i ≠ w) : rAt (l.set w t) i = rAt l i := by
  unfold rAt
  rw [List.getD_eq_getElem?_getD, List.getD_eq_getElem?_getD, List.getElem?_set_ne (by omega)]
end Go.Proofs.Ytonbmijhbbodnaa
