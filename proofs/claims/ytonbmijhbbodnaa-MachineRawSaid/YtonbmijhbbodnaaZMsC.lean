/-
  emit.leads of a right node: where it leads. The function that finds a node by its first instruction.
  emit.touches, emit.names, emit.unit and emit.Check of right images of units that have nodes alone.
-/
import Derived.Deep.CutBlock
import Derived.Deep.DeepCutAuto
import Derived.Deep.RegionHeld3
import Derived.Outline
import Derived.Laws.EntriesVeiled
import Derived.Test.YtonbmijhbbodnaaZMake
import Derived.Test.YtonbmijhbbodnaaZImG
import Derived.Test.YtonbmijhbbodnaaZInA
namespace Go.Proofs.Ytonbmijhbbodnaa
open Go.RowKit

abbrev NdV (f n : Int) (na : Option Addr) (nl nc : Nat) (aa : Option Addr) (al ac : Nat) : Value := .agg #[.int .i64 f, .int .i64 n, .slice na nl nc, .slice aa al ac]
abbrev NdC (f n : Int) (na : Option Addr) (nl nc : Nat) (aa : Option Addr) (al ac : Nat) : List Value := [.int .i64 f, .int .i64 n, .slice na nl nc, .slice aa al ac]
set_option maxHeartbeats 4000000 in
theorem lead1_any (f n : Int) (na : Option Addr) (nl nc : Nat) (aa : Option Addr) (al ac : Nat) (q : Nat) (z : Int) (w : World) (hq : w.cell? ⟨q, 5, none⟩ = some (.int .i64 z)) :
    Calls Try.prog 113 #[NdV f n na nl nc aa al ac, .pointer (some ⟨q, 0, none⟩)] w fun e w' => e = .returned (.bool (f == z)) ∧ Below w.heap.size w w' := by
  have lq := World.block_lt_of_cell? w _ hq
  dsimp only at lq
  have hq' := ((Below.refl w.heap.size w).alloc (Nat.le_refl _) (.cells #[.int .i64 f, .int .i64 n, .slice na nl nc, .slice aa al ac] 70)).cell (p := ⟨q, 5, none⟩) lq |>.trans hq
  go_enter Try.func113, Try.ntmps113
  go_wp2
  go_ret
  exact ⟨rfl, (Below.refl _ _).alloc (Nat.le_refl _) _⟩
set_option maxHeartbeats 8000000 in
theorem lidx_any (K : Nat → Prop) (na : Option Addr) (nl nc : Nat) (l : List Nd) (q : Nat) (z : Int) (w : World) (r : NdL K w na nl nc l) (hq : w.cell? ⟨q, 5, none⟩ = some (.int .i64 z)) :
    Calls Try.prog 112 #[.slice na nl nc, .func (.func 113) #[] #[.pointer (some ⟨q, 0, none⟩)]] w fun e w' => e = .returned (.int .i64 (atI l z)) ∧ Below w.heap.size w w' := by
  have hsz := r.hsz
  have hll := r.hlen
  have R := Lib.hid r; have HQ := Lib.hid hq; have LQ := Lib.hid (World.block_lt_of_cell? w _ hq)
  clear r hq
  go_enter Try.func112, Try.ntmps112
  go_wp2
  go_loopw [8] (fun i wr => ∃ k : Nat, k ≤ nl ∧ i = .int .i64 k ∧ atF l z 0 = atF l z k ∧ Below w.heap.size w wr) (fun i _ => nl - (intOf i).toNat)
  case atStart => exact ⟨0, Nat.zero_le _, rfl, rfl, Below.refl _ _⟩
  case round =>
    obtain ⟨k, hk, rfl, ha, hb⟩ := hrel
    have HA := Lib.hid ha; have HB := Lib.hid hb
    clear ha hb
    by_cases hlt : k < nl
    · obtain ⟨b, o, x, na', nl', nc', aa, al, ac, rfl, hx, _, _, _, _, g0, g1, g2, g3, _, _⟩ := NdL.get (Row.below RNd.stays R.out HB.out) hlt
      have HX := Lib.hid hx
      have C := Lib.hid (lead1_any x.first x.cnt na' nl' nc' aa al ac q z wr ((HB.out.cell (p := ⟨q, 5, none⟩) LQ.out).trans HQ.out))
      clear hx
      go_wp2_with fail
      refine C.out.mono ?_
      rintro e w' ⟨rfl, hb⟩
      have HB2 := Lib.hid (HB.out.trans (hb.mono HB.out.size))
      clear hb
      by_cases hf : x.first = z
      · have HF := Lib.hid (show atI l z = (k : Int) from HA.out.trans (atF_hit HX.out hf))
        rw [show (x.first == z) = true by simpa using hf]
        go_wp2
        go_ret
        exact ⟨by rw [HF.out]; rfl, HB2.out⟩
      · have HF := Lib.hid (HA.out.trans (atF_next HX.out hf))
        rw [show (x.first == z) = false by simpa using hf]
        go_wp2
        go_roundw
        case rel => exact ⟨k + 1, by omega, by go_num, HF.out, HB2.out⟩
        case measure => simp [intOf]; omega
    · have HF := Lib.hid (show atI l z = -1 from HA.out.trans (atF_end (by omega)))
      go_wp2
      go_ret
      exact ⟨by rw [HF.out]; rfl, HB.out⟩
def LeadRet (l : List Int) (w : World) (e : Ending) (w' : World) : Prop := ∃ a n c, e = .returned (.tuple #[.slice a n c, .bool true]) ∧ Ints (fun _ => True) w' a n c l ∧ Below w.heap.size w w'
theorem ints_lead (w : World) (l : List Int) (hl : ∀ z ∈ l, I64 z) (hm : l.length ≤ 1000) : Ints (fun _ => True) (w.alloc (.cells (ivs l).toArray 3)) (some ⟨w.heap.size, 0, none⟩) l.length l.length l :=
  ⟨rfl, Nat.le_refl _, by omega, by omega, fun i x hx => ⟨w.heap.size, 0, rfl, trivial, by simp, by rw [Nat.zero_add, Nat.mul_one]; exact (Blk.new w (ivs l) 3).cell (ivs_get hx), hl x (List.mem_of_getElem? hx)⟩⟩
theorem lead_new {l : List Int} {w w3 w' : World} (hb : Below w.heap.size w w3) (hl : ∀ z ∈ l, I64 z) (hm : l.length ≤ 1000) (h : Below (w3.alloc (.cells (ivs l).toArray 3)).heap.size (w3.alloc (.cells (ivs l).toArray 3)) w') :
    LeadRet l w (.returned (.tuple #[.slice (some ⟨w3.heap.size, 0, none⟩) l.length l.length, .bool true])) w' :=
  ⟨_, _, _, rfl, Row.below RInt.stays (ints_lead w3 l hl hm) h, (hb.alloc (by have := hb.size; omega) _).trans (h.mono (by have := hb.size; simp; omega))⟩
set_option maxRecDepth 100000 in
set_option maxHeartbeats 16000000 in
theorem leads_any (K : Nat → Prop) (ca : Option Addr) (cn cc : Nat) (D : Int) (ua : Option Addr) (un uc : Nat) (s : ByteArray) (na : Option Addr) (nl nc : Nat) (code : List Ins) (nodes : List Nd) (k : Nat) (xnext : List Int) (xacc : List Acc) (f n : Nat) (w : World)
    (rc : InsL K w ca cn cc code) (rn : NdL K w na nl nc nodes) (hcn : cn ≤ 1024) (hnl : nl ≤ 1024) (hx : nodes[k]? = some ⟨f, n, xnext, xacc⟩) (h1 : 1 ≤ n) (hfn : f + n ≤ cn) (hok : NodeOk code D nodes k f n ⟨f, n, xnext, xacc⟩) :
    Calls Try.prog 89 #[MV ca cn cc D ua un uc, UV s na nl nc, .int .i64 k] w (LeadRet (nextI code nodes f n k) w) := by
  have F0 := Lib.hid (Fm.new (Fm.new (Fm.start Non w) rfl (MCells ca cn cc D ua un uc) 31) (by simp) (UCells s na nl nc) 79)
  have RC := Lib.hid rc; have RN := Lib.hid rn
  have hk : k < nl := by have := (List.getElem?_eq_some_iff.1 hx).1; have := rn.hlen; omega
  have hcc := rc.hcap; have hcm := rc.hmax
  obtain ⟨nb, no, x, ya, yl, yc, aa, al, ac, rfl, hx', _, lnb, _, _, g0, g1, g2, g3, _, _⟩ := NdL.get (Row.below RNd.stays rn F0.out.below) hk
  rw [hx] at hx'
  cases hx'
  dsimp only at g0 g1
  have HX := Lib.hid hx; have HOK := Lib.hid hok
  have F1 := Lib.hid (Fm.new F0.out (by simp) (NdC f n ya yl yc aa al ac) 70)
  clear rc rn hx hok
  go_enter Try.func89, Try.ntmps89
  obtain ⟨cb, co, c0x, rfl, -, -, -, -, -, -, -, -, -, -⟩ := InsL.get RC.out (show f < cn by omega)
  go_upto_block 0 with fail
  obtain ⟨w1, hw1⟩ : ∃ w1, w1 = ((w.alloc (.cells #[.slice (some ⟨cb, co, none⟩) cn cc, .int .i64 D, NIL, .slice ua un uc] 31)).alloc (.cells #[.string s, .slice (some ⟨nb, no, none⟩) nl nc, NIL, NIL, NIL, NIL, NIL, NIL, NIL, NIL] 79)).alloc (.cells #[.int .i64 f, .int .i64 n, .slice ya yl yc, .slice aa al ac] 70) := ⟨_, rfl⟩
  rw [← hw1]
  have F2 := Lib.hid (show Fm Non w w1 [MCells (some ⟨cb, co, none⟩) cn cc D ua un uc, UCells s (some ⟨nb, no, none⟩) nl nc, NdC f n ya yl yc aa al ac] by rw [hw1]; exact F1.out)
  clear hw1 F0 F1 g0 g1 g2 g3
  go_wp2
  go_loopw [29] (fun i wr => ∃ j : Nat, j ≤ n ∧ i = .int .i64 j ∧ Fm Non w wr [MCells (some ⟨cb, co, none⟩) cn cc D ua un uc, UCells s (some ⟨nb, no, none⟩) nl nc, NdC f n ya yl yc aa al ac]) (fun i _ => n - (intOf i).toNat)
  case atStart => exact ⟨0, Nat.zero_le _, rfl, F2.out⟩
  case round =>
    obtain ⟨j, hj, rfl, hfm⟩ := hrel
    have FR := Lib.hid hfm
    clear hfm F2
    by_cases hlt : j < n
    · obtain ⟨b, o, y, hb, hy, _, _, lb, c0, c1, c2, c3, c4, c5⟩ := InsL.get (Row.below RIns.stays RC.out FR.out.below) (show f + j < cn by omega)
      cases hb
      obtain ⟨yk, ya', yb, yc', yo, yi⟩ := y
      have HBR := Lib.hid (show j + 1 = n ∨ ¬ (yk = 6 ∨ yk = 7 ∨ yk = 10) from by
        have := HOK.out.br j hlt
        rw [cAt_of hy] at this
        exact this)
      have e : co + (f + j) * 6 = co + f * 6 + j * 6 := by omega
      rw [e] at c0 c1 c2 c3 c4 c5
      have n1 := FR.out.h2.cell 1 _ rfl
      have nlt := FR.out.h2.lt (by simp)
      have FN := Lib.hid (FR.out.more (.cells (ICells ⟨yk, ya', yb, yc', yo, yi⟩).toArray 50))
      clear hy e
      by_cases hl : j + 1 = n
      · have hl2 : decide ((j : Int) < (n : Int) - 1) = false := by simp; omega
        cases h6 : (yk == 6) <;> cases h7 : (yk == 7) <;> cases h10 : (yk == 10)
        all_goals
          go_wp2
          go_roundw
          case rel => exact ⟨j + 1, by omega, by go_num, FN.out⟩
          case measure => simp [intOf]; omega
      · have hbr := HBR.out.resolve_left hl
        have h6 : (yk == 6) = false := by simp; omega
        have h7 : (yk == 7) = false := by simp; omega
        have h10 : (yk == 10) = false := by simp; omega
        go_wp2
        go_roundw
        case rel => exact ⟨j + 1, by omega, by go_num, FN.out⟩
        case measure => simp [intOf]; omega
    · obtain ⟨p, hp⟩ : ∃ p, f + n = p + 1 := ⟨f + n - 1, by omega⟩
      have hpi : (f : Int) + (n : Int) - 1 = (p : Int) := by omega
      obtain ⟨b, o, y, hb, hy, _, _, lb, c0, c1, c2, c3, c4, c5⟩ := InsL.get (Row.below RIns.stays RC.out FR.out.below) (show p < cn by omega)
      cases hb
      obtain ⟨yk, ya', yb, yc', yo, yi⟩ := y
      have HY := Lib.hid (show cAt code (f + n - 1) = ⟨yk, ya', yb, yc', yo, yi⟩ by rw [show f + n - 1 = p by omega]; exact cAt_of hy)
      have HNX := Lib.hid (show nextI code nodes f n k = if yk = 10 then [] else if yk = 6 then [atI nodes yi] else if yk = 7 then [((k + 1 : Nat) : Int), atI nodes yi] else [((k + 1 : Nat) : Int)] by unfold nextI; rw [HY.out])
      have m0 := FR.out.h0.cell 0 _ rfl; have n0 := FR.out.h2.cell 0 _ rfl; have n1 := FR.out.h2.cell 1 _ rfl; have u1 := FR.out.h1.cell 1 _ rfl
      have nlt := FR.out.h2.lt (by simp); have mlt := FR.out.h0.lt (by simp); have ult := FR.out.h1.lt (by simp)
      have FN := Lib.hid (FR.out.more (.cells (ICells ⟨yk, ya', yb, yc', yo, yi⟩).toArray 50))
      have IN := Lib.hid (Has.new wr (ICells ⟨yk, ya', yb, yc', yo, yi⟩) 50)
      clear hy FR
      go_wp2_with fail
      refine (lidx_any K (some ⟨nb, no, none⟩) nl nc nodes wr.heap.size yi _ (Row.below RNd.stays RN.out FN.out.below) (IN.out.cell 5 _ rfl)).mono ?_
      rintro e w3 ⟨rfl, hb3⟩
      have F3 := Lib.hid (Fm.call hb3 FN.out)
      have I3 := Lib.hid (IN.out.below hb3 (by simp))
      clear hb3 FN IN m0 n0 n1 u1 nlt mlt ult hpi c0 c1 c2 c3 c4 c5
      have HAL := Lib.hid HOK.out.all
      have HI := Lib.hid (show ∀ z ∈ nextI code nodes f n k, I64 z from fun z hz => by
        have h := HOK.out.all
        unfold allI at h
        rw [List.all_eq_true] at h
        have h2 := h z hz
        have := RN.out.hlen
        simp [inB] at h2
        unfold I64; omega)
      have HALN := Lib.hid (show allI (nextI code nodes f n k) (nl : Int) = true from by have := RN.out.hlen; rw [← this]; exact HOK.out.all)
      have i0 := I3.out.cell 0 _ rfl
      have u1 := F3.out.h1.cell 1 _ rfl
      obtain ⟨z, hz⟩ : ∃ z, z = atI nodes yi := ⟨_, rfl⟩
      rw [← hz] at HNX ⊢
      clear hz
      obtain ⟨k1, hk1⟩ : ∃ k1, k1 = k + 1 := ⟨_, rfl⟩
      have hw1 : IntKind.i64.wrap ((k : Int) + 1) = (k1 : Int) := by rw [hk1]; exact Go.IntWalk.i64_in _ ⟨by omega, by omega⟩
      have HK1 := Lib.hid hk1
      rw [← hk1] at HNX
      by_cases h10 : yk = 10
      · subst h10
        have HE := Lib.hid (show nextI code nodes f n k = [] by rw [HNX.out]; rfl)
        go_wp2
        exact bodyPost_ret (v := .tuple #[NIL, .bool true]) (by simp [results, Try.results89, go_sem]) rfl ⟨_, _, _, rfl, by rw [HE.out]; exact Row.nil _ _ _ _ _ (by omega), F3.out.below⟩
      · have e10 : (yk == 10) = false := by simpa using h10
        by_cases h6 : yk = 6
        · subst h6
          have HE := Lib.hid (show nextI code nodes f n k = [z] by rw [HNX.out]; rfl)
          have hz0 : 0 ≤ z := by have := HALN.out; rw [HE.out] at this; simp [allI, inB] at this; omega
          have HZ := Lib.hid (show ∀ y ∈ [z], I64 y by rw [← HE.out]; exact HI.out)
          clear h10
          go_wp2
          go_ret2
          rw [HE.out]
          exact lead_new (l := [z]) F3.out.below HZ.out (by simp) (Below.refl _ _)
        · have e6 : (yk == 6) = false := by simpa using h6
          by_cases h7 : yk = 7
          · subst h7
            have HE := Lib.hid (show nextI code nodes f n k = [(k1 : Int), z] by rw [HNX.out]; rfl)
            have hz0 : 0 ≤ z ∧ k1 < nl := by have := HALN.out; rw [HE.out] at this; simp [allI, inB] at this; omega
            have HZ := Lib.hid (show ∀ y ∈ [(k1 : Int), z], I64 y by rw [← HE.out]; exact HI.out)
            clear hk1
            clear h10 h6
            go_wp2
            go_region_held3 (fun w' => w'.cell? ⟨w.heap.size + 1, 1, none⟩ = some (.slice (some ⟨nb, no, none⟩) nl nc)) (first | go_keep | assumption) (fail)
            go_wp2
            go_ret2
            rw [HE.out]
            exact lead_new (l := [(k1 : Int), z]) F3.out.below HZ.out (by simp) (Below.refl _ _).drew
          · have e7 : (yk == 7) = false := by simpa using h7
            have HE := Lib.hid (show nextI code nodes f n k = [(k1 : Int)] by rw [HNX.out, if_neg h10, if_neg h6, if_neg h7])
            have hz0 : k1 < nl := by have := HALN.out; rw [HE.out] at this; simp [allI, inB] at this; omega
            have HZ := Lib.hid (show ∀ y ∈ [(k1 : Int)], I64 y by rw [← HE.out]; exact HI.out)
            clear hk1
            clear h10 h6 h7
            go_wp2
            go_region_held3 (fun w' => w'.cell? ⟨w.heap.size + 1, 1, none⟩ = some (.slice (some ⟨nb, no, none⟩) nl nc)) (first | go_keep | assumption) (fail)
            go_wp2
            go_ret2
            rw [HE.out]
            exact lead_new (l := [(k1 : Int)]) F3.out.below HZ.out (by simp) (Below.refl _ _).drew

set_option maxHeartbeats 4000000 in
theorem equal_any (K K' : Nat → Prop) (a a' : Option Addr) (n n' c c' : Nat) (xs : List Int) (w : World) (r : Ints K w a n c xs) (r' : Ints K' w a' n' c' xs) :
    Calls Try.prog 90 #[.slice a n c, .slice a' n' c'] w fun e w' => e = .returned (.bool true) ∧ Below w.heap.size w w' := by
  have R := Lib.hid r; have R' := Lib.hid r'
  have hsz := r.hsz; have hsz' := r'.hsz
  obtain rfl : n = n' := by rw [← r.hlen, r'.hlen]
  clear r r'
  go_enter Try.func90, Try.ntmps90
  go_wp2
  go_loopw [13] (fun i wr => ∃ k : Nat, k ≤ n ∧ i = .int .i64 k ∧ Below w.heap.size w wr) (fun i _ => n - (intOf i).toNat)
  case atStart => exact ⟨0, Nat.zero_le _, rfl, Below.refl _ _⟩
  case round =>
    obtain ⟨k, hk, rfl, hb⟩ := hrel
    have B := Lib.hid hb
    clear hb
    by_cases hlt : k < n
    · obtain ⟨b1, o1, z, rfl, hz, c1, _, _, _, l1⟩ := Ints.get R.out hlt
      obtain ⟨b2, o2, z', rfl, hz', c2, _, _, _, l2⟩ := Ints.get R'.out hlt
      rw [hz] at hz'
      cases hz'
      have d1 := (B.out.cell (p := ⟨b1, o1 + k, none⟩) l1).trans c1
      have d2 := (B.out.cell (p := ⟨b2, o2 + k, none⟩) l2).trans c2
      clear c1 c2 hz
      go_wp2
      go_quiet (fail)
      go_wp2
      go_roundw
      case rel => exact ⟨k + 1, by omega, by go_num, below_drewN B.out nq⟩
      case measure => simp [intOf]; omega
    · go_wp2
      go_ret
      exact ⟨rfl, B.out⟩
set_option maxRecDepth 100000 in
set_option maxHeartbeats 8000000 in
theorem names_any (s : ByteArray) (na : Option Addr) (nl nc : Nat) (w : World) : Calls Try.prog 92 #[UV s na nl nc] w fun e w' => e = .returned (.bool true) ∧ Below w.heap.size w w' := by
  have F0 := Lib.hid (Fm.new (Fm.new (Fm.start Non w) rfl (UCells s na nl nc) 79) (by simp) [.func (.func 114) #[] #[.pointer (some ⟨w.heap.size, 0, none⟩)]] 165)
  go_enter Try.func92, Try.ntmps92
  go_upto_block 0 with fail
  obtain ⟨w1, hw1⟩ : ∃ w1, w1 = (w.alloc (.cells #[.string s, .slice na nl nc, NIL, NIL, NIL, NIL, NIL, NIL, NIL, NIL] 79)).alloc (.cells #[.func (.func 114) #[] #[.pointer (some ⟨w.heap.size, 0, none⟩)]] 165) := ⟨_, rfl⟩
  rw [← hw1]
  have F1 := Lib.hid (show Fm Non w w1 [UCells s na nl nc, [.func (.func 114) #[] #[.pointer (some ⟨w.heap.size, 0, none⟩)]]] by rw [hw1]; exact F0.out)
  clear hw1 F0
  have u3 := F1.out.h0.cell 3 _ rfl; have u4 := F1.out.h0.cell 4 _ rfl; have u5 := F1.out.h0.cell 5 _ rfl
  go_wp2
  go_loopw [16] (fun i wr => i = .int .i64 0 ∧ w1 = wr) (fun _ _ => 0)
  case atStart => exact ⟨rfl, rfl⟩
  case round =>
    obtain ⟨rfl, hw⟩ := hrel
    subst hw
    go_wp2
    go_loopw [52] (fun i wr => i = .int .i64 0 ∧ w1 = wr) (fun _ _ => 0)
    case atStart => exact ⟨rfl, rfl⟩
    case round =>
      obtain ⟨rfl, hw⟩ := hrel
      subst hw
      go_wp2
      go_loopw [65] (fun i wr => i = .int .i64 0 ∧ w1 = wr) (fun _ _ => 0)
      case atStart => exact ⟨rfl, rfl⟩
      case round =>
        obtain ⟨rfl, hw⟩ := hrel
        subst hw
        go_wp2
        go_loopw [77] (fun i wr => i = .int .i64 0 ∧ w1 = wr) (fun _ _ => 0)
        case atStart => exact ⟨rfl, rfl⟩
        case round =>
          obtain ⟨rfl, hw⟩ := hrel
          subst hw
          go_wp2
          go_ret
          exact ⟨rfl, F1.out.below⟩
theorem wantP_get {c : List Ins} {f j : Nat} (hm : isMem (cAt c (f + j))) : ∀ {n : Nat}, j < n → (wantP c f n)[(wantP c f j).length]? = some ((f + j : Nat) : Int)
  | 0, h => by omega
  | n + 1, h => by
    by_cases e : j = n
    · subst e
      rw [wantP, if_pos hm, List.getElem?_append_right (Nat.le_refl _), Nat.sub_self]; rfl
    · have ih := wantP_get (f := f) hm (n := n) (by omega)
      rw [wantP, List.getElem?_append_left (List.getElem?_eq_some_iff.1 ih).1]
      exact ih
theorem acc_tail {K : Nat → Prop} {w : World} {b o n c : Nat} {x : Acc} {l : List Acc} (r : Row RAcc 3 K w (some ⟨b, o, none⟩) (n + 1) c (x :: l)) : Row RAcc 3 K w (some ⟨b, o + 3, none⟩) n (c - 1) l := by
  refine ⟨by have := r.hlen; simp at this; omega, by have := r.hcap; omega, by have := r.hmax; omega, by have := r.hsz; omega, fun i y hy => ?_⟩
  obtain ⟨b', o', e, h1, h2, h3⟩ := r.row (i + 1) y (by simpa using hy)
  cases e
  exact ⟨b, o + 3, rfl, h1, h2, by rw [show o + 3 + i * 3 = o + (i + 1) * 3 by omega]; exact h3⟩
def AccAt (w : World) (l : List Acc) (v : Value) : Prop := ∃ a n c, v = .slice a n c ∧ Row RAcc 3 (fun _ => True) w a n c l
set_option maxRecDepth 100000 in
set_option maxHeartbeats 16000000 in
theorem touches_any (K : Nat → Prop) (ca : Option Addr) (cn cc : Nat) (D : Int) (ua : Option Addr) (un uc : Nat) (code : List Ins) (nodes : List Nd) (k : Nat) (xnext : List Int) (xacc : List Acc) (f n : Nat) (ya : Option Addr) (yl yc : Nat) (aa : Option Addr) (al ac : Nat) (w : World)
    (rc : InsL K w ca cn cc code) (ra : Row RAcc 3 K w aa al ac xacc) (hcn : cn ≤ 1024) (_hD : D ≤ 1024) (h1 : 1 ≤ n) (hfn : f + n ≤ cn) (hok : NodeOk code D nodes k f n ⟨f, n, xnext, xacc⟩) :
    Calls Try.prog 91 #[MV ca cn cc D ua un uc, NdV f n ya yl yc aa al ac] w fun e w' => e = .returned (.bool true) ∧ Below w.heap.size w w' := by
  have F0 := Lib.hid (Fm.new (Fm.new (Fm.start Non w) rfl (MCells ca cn cc D ua un uc) 31) (by simp) (NdC f n ya yl yc aa al ac) 70)
  have RC := Lib.hid rc
  have RA := Lib.hid (show Row RAcc 3 (fun _ => True) w aa al ac xacc from Row.wide (fun _ _ _ _ _ _ _ h => h) (fun _ _ _ => trivial) ra)
  have HOK := Lib.hid hok
  have hcc := rc.hcap; have hcm := rc.hmax
  clear rc ra hok
  go_enter Try.func91, Try.ntmps91
  obtain ⟨cb, co, c0x, rfl, -, -, -, -, -, -, -, -, -, -⟩ := InsL.get RC.out (show f < cn by omega)
  go_upto_block 0 with fail
  obtain ⟨w1, hw1⟩ : ∃ w1, w1 = (w.alloc (.cells #[.slice (some ⟨cb, co, none⟩) cn cc, .int .i64 D, NIL, .slice ua un uc] 31)).alloc (.cells #[.int .i64 f, .int .i64 n, .slice ya yl yc, .slice aa al ac] 70) := ⟨_, rfl⟩
  rw [← hw1]
  have F2 := Lib.hid (show Fm Non w w1 [MCells (some ⟨cb, co, none⟩) cn cc D ua un uc, NdC f n ya yl yc aa al ac] by rw [hw1]; exact F0.out)
  clear hw1 F0
  go_wp2
  go_loopw [5, 6] (fun l i wr => ∃ j q : Nat, j ≤ n ∧ i = .int .i64 ((f + j : Nat) : Int) ∧ q = (wantP code f j).length ∧ AccAt wr (xacc.drop q) l ∧ Fm Non w wr [MCells (some ⟨cb, co, none⟩) cn cc D ua un uc, NdC f n ya yl yc aa al ac]) (fun _ i _ => f + n - (intOf i).toNat)
  case atStart => exact ⟨0, 0, Nat.zero_le _, rfl, rfl, ⟨_, _, _, rfl, Row.below RAcc.stays RA.out F2.out.below⟩, F2.out⟩
  case round =>
    obtain ⟨j, q, hj, rfl, hq, ⟨la, ln, lc, rfl, hla⟩, hfm⟩ := hrel
    have FR := Lib.hid hfm; have HQ := Lib.hid hq; have LA := Lib.hid hla
    have lnh := LA.out.hlen
    rw [List.length_drop] at lnh
    have n0 := FR.out.h1.cell 0 _ rfl; have n1 := FR.out.h1.cell 1 _ rfl; have m0 := FR.out.h0.cell 0 _ rfl; have m1 := FR.out.h0.cell 1 _ rfl
    have nlt := FR.out.h1.lt (by simp); have mlt := FR.out.h0.lt (by simp)
    clear hfm F2 hq hla
    obtain ⟨p, hp⟩ : ∃ p, p = f + j := ⟨_, rfl⟩
    have HP := Lib.hid hp
    rw [← hp]
    clear hp
    by_cases hlt : p < f + n
    · obtain ⟨b, o, y, hb, hy, _, _, lb, c0, c1, c2, c3, c4, c5⟩ := InsL.get (Row.below RIns.stays RC.out FR.out.below) (show p < cn by omega)
      cases hb
      obtain ⟨yk, ya', yb, yc', yo, yi⟩ := y
      have HCA := Lib.hid (cAt_of hy)
      have FN := Lib.hid (FR.out.more (.cells (ICells ⟨yk, ya', yb, yc', yo, yi⟩).toArray 50))
      clear hy
      by_cases hm : yk = 4 ∨ yk = 5
      · have HW := Lib.hid (show wantP code f (j + 1) = wantP code f j ++ [(p : Int)] by rw [wantP, ← HP.out, HCA.out, if_pos (show isMem ⟨yk, ya', yb, yc', yo, yi⟩ from hm)])
        have hg := wantP_get (c := code) (f := f) (j := j) (by rw [← HP.out, HCA.out]; exact hm) (n := n) (by have := HP.out; omega)
        rw [← HQ.out, ← HP.out] at hg
        have hql : q < xacc.length := by have := HOK.out.len; dsimp only at this; have := (List.getElem?_eq_some_iff.1 hg).1; omega
        obtain ⟨x, hx⟩ : ∃ x, xacc[q]? = some x := ⟨_, List.getElem?_eq_getElem hql⟩
        obtain ⟨a1, a2, a3, a4⟩ := HOK.out.acc q x p hql hx hg
        have hdr : xacc.drop q = x :: xacc.drop (q + 1) := by rw [List.drop_eq_getElem_cons hql]; rw [List.getElem?_eq_getElem hql] at hx; cases hx; rfl
        have LB := LA.out
        rw [hdr] at LB
        obtain ⟨m, rfl⟩ : ∃ m, ln = m + 1 := ⟨ln - 1, by omega⟩
        obtain ⟨xb, xo, x', rfl, hx', _, xlt, _, _, _, t0, t1, t2⟩ := AccL.get LB (i := 0) (by omega)
        cases hx'
        obtain ⟨xat, xlo, xhi⟩ := x
        dsimp only at a1 a2 a3 a4 t0 t1 t2
        subst a1
        have LT := Lib.hid (acc_tail LB)
        have lcm := LB.hcap; have lcx := LB.hmax; have lcs := LB.hsz
        simp only [Nat.zero_mul, Nat.add_zero] at t0 t1 t2
        have e0 : ((p : Int) != (p : Int)) = false := by simp
        have HW2 := Lib.hid (show q + 1 = (wantP code f (j + 1)).length by rw [HW.out, List.length_append, ← HQ.out]; rfl)
        clear LB hdr hx hg hql lnh
        rcases hm with rfl | rfl
        all_goals
          by_cases hc1 : lc = 1
          · subst hc1
            obtain rfl : m = 0 := by omega
            go_wp2
            go_quiet (fail)
            go_wp2
            go_roundw
            case rel => exact ⟨j + 1, q + 1, by have := HP.out; omega, by have := HP.out; congr 1; omega, HW2.out, ⟨_, _, _, rfl, by have h := LT.out.hlen; rw [List.length_eq_zero_iff.1 h]; exact Row.nil _ _ _ _ _ (by omega)⟩, FN.out.drewN nq⟩
            case measure => have := HP.out; simp [intOf]; omega
          · have hm1 : (((m : Int) + 1) == 0) = false := by simp; omega
            have hm2 : (((m + 1 : Nat) : Int) == 0) = false := by simp; omega
            have hm3 : decide (m + 1 = 0) = false := by simp
            go_wp2
            go_quiet (fail)
            go_wp2
            go_roundw
            case rel => exact ⟨j + 1, q + 1, by have := HP.out; omega, by have := HP.out; congr 1; omega, HW2.out, ⟨_, _, _, rfl, Row.below RAcc.stays LT.out (below_drewN ((Below.refl _ _).alloc (Nat.le_refl _) _) nq)⟩, FN.out.drewN nq⟩
            case measure => have := HP.out; simp [intOf]; omega
      · have e4 : (yk != 4) = true := by simp; omega
        have e5 : (yk != 5) = true := by simp; omega
        have HW := Lib.hid (show wantP code f (j + 1) = wantP code f j by rw [wantP, ← HP.out, HCA.out, if_neg (show ¬ isMem ⟨yk, ya', yb, yc', yo, yi⟩ from hm), List.append_nil])
        have B1 := Lib.hid (show Below wr.heap.size wr (wr.alloc (.cells (ICells ⟨yk, ya', yb, yc', yo, yi⟩).toArray 50)) from (Below.refl _ _).alloc (Nat.le_refl _) _)
        clear hm
        go_wp2
        go_roundw
        case rel => exact ⟨j + 1, q, by have := HP.out; omega, by have := HP.out; congr 1; omega, by rw [HW.out]; exact HQ.out, ⟨_, _, _, rfl, Row.below RAcc.stays LA.out B1.out⟩, FN.out⟩
        case measure => have := HP.out; simp [intOf]; omega
    · have hjn : j = n := by have := HP.out; omega
      subst hjn
      have hl0 : ln = 0 := by have := HOK.out.len; dsimp only at this; have := HQ.out; omega
      subst hl0
      go_wp2
      go_ret
      exact ⟨rfl, FR.out.below⟩
end Go.Proofs.Ytonbmijhbbodnaa
