/-
  Slices of bytes as strings; a literal of instructions. Small laws.
  instr.Decode.
-/
import Derived.Deep.RegionHeld3
import Derived.Test.YtonbmijhbbodnaaZInS
import Derived.Test.YtonbmijhbbodnaaZGrow
import Derived.Test.YtonbmijhbbodnaaZInE
import Derived.Test.YtonbmijhbbodnaaZMsB
import Derived.Test.YtonbmijhbbodnaaZInA
namespace Go.Proofs.Ytonbmijhbbodnaa
open Go.RowKit

theorem conv_bytes {K : Nat → Prop} {w : World} {a : Option Addr} {len cap : Nat} {xs : List Int} (r : Bytes K w a len cap xs) : (convert 47 9 (.slice a len cap)).run Try.prog w = .ok (.string (strOfNums xs)) w := by
  have hcell : ∀ b o, a = some ⟨b, o, none⟩ → ∀ i, i < len → w.cell? ⟨b, o + i, none⟩ = some (.int .u8 (xs.getD i 0)) := fun b o e i hi => by
    obtain ⟨b', o', z, e', hz, hc, _⟩ := Bytes.get r hi
    rw [e] at e'
    cases e'
    rw [hc, List.getD_eq_getElem?_getD, hz]
    rfl
  by_cases h0 : len = 0
  · have hx : xs = [] := by have := r.hlen; exact List.eq_nil_of_length_eq_zero (by omega)
    subst hx
    subst h0
    cases a with
    | none => exact run_convert_bytes_nil w 47 5 Try.underlying47 Try.underlying5 0 cap 9 Try.underlying9
    | some ad =>
      rw [run_convert_bytes_string w _ _ 5 _ 0 cap Try.underlying47 Try.underlying5 Try.underlying9]
      simp [Conv.bytesToString, loadCells, strOfNums]
      rfl
  · obtain ⟨b, o, z, rfl, _⟩ := Bytes.get r (show 0 < len by omega)
    exact run_convert_bytes_arg w 47 5 Try.underlying47 Try.underlying5 b o len cap xs r.hlen (hcell b o rfl) 9 Try.underlying9
theorem u8_inj {x y : Int} (hx : 0 ≤ x ∧ x ≤ 255) (hy : 0 ≤ y ∧ y ≤ 255) (h : UInt8.ofNat x.toNat = UInt8.ofNat y.toNat) : x = y := by
  have := congrArg UInt8.toNat h
  simp at this
  omega
theorem bytesOf_inj : ∀ {xs ys : List Int}, Byt xs → Byt ys → Lib.bytesOf xs = Lib.bytesOf ys → xs = ys
  | [], [], _, _, _ => rfl
  | [], y :: ys, _, _, h => by simp [Lib.bytesOf] at h
  | x :: xs, [], _, _, h => by simp [Lib.bytesOf] at h
  | x :: xs, y :: ys, hx, hy, h => by
    simp only [Lib.bytesOf, List.map_cons, List.cons.injEq] at h
    rw [u8_inj (hx x (by simp)) (hy y (by simp)) h.1, bytesOf_inj (fun z hz => hx z (by simp [hz])) (fun z hz => hy z (by simp [hz])) h.2]
theorem bytes_beq {xs ys : List Int} (hx : Byt xs) (hy : Byt ys) : (Lib.bytesOf xs == Lib.bytesOf ys) = decide (xs = ys) := by
  by_cases h : xs = ys
  · subst h; simp
  · rw [decide_eq_false h]
    have : ¬ Lib.bytesOf xs = Lib.bytesOf ys := fun e => h (bytesOf_inj hx hy e)
    simpa using this
theorem str_beq {xs ys : List Int} (hx : Byt xs) (hy : Byt ys) : ((strOfNums xs).toList == (strOfNums ys).toList) = decide (xs = ys) := by
  rw [Lib.strOfNums_toList, Lib.strOfNums_toList]; exact bytes_beq hx hy
theorem bequal_any (K K' : Nat → Prop) (a a' : Option Addr) (n n' c c' : Nat) (xs ys : List Int) (w : World) (r : Bytes K w a n c xs) (r' : Bytes K' w a' n' c' ys) (hx : Byt xs) (hy : Byt ys) :
    Calls Try.prog 53 #[.slice a n c, .slice a' n' c'] w fun e w' => e = .returned (.bool (decide (xs = ys))) ∧ w' = w := by
  have h := sh_bytes_Equal (.slice a n c) (.slice a' n' c') xs ys w (conv_bytes r) (conv_bytes r')
  rw [bytes_beq hx hy] at h
  exact h
/-- A literal of instructions reads as its list. -/
theorem ins_new (w : World) (l : List Ins) (n : Nat) (t : TypeId) (hn : l.length = n) (hm : n ≤ 1000) (hz : ∀ x ∈ l, x.In) : InsL (Ge w.heap.size) (w.alloc (.cells (ics l).toArray t)) (some ⟨w.heap.size, 0, none⟩) n n l :=
  ⟨hn, Nat.le_refl _, by omega, by omega, fun i x hx => ⟨w.heap.size, 0, rfl, Nat.le_refl _, by simp, fun j v hv => by
    rw [Nat.zero_add]
    exact (Blk.new w (ics l) t).cell (ics_get hx hv), hz x (List.mem_of_getElem? hx)⟩⟩
/-- A part of a slice of bytes. -/
theorem Bytes.part {K : Nat → Prop} {w : World} {b o len cap : Nat} {xs : List Int} (r : Bytes K w (some ⟨b, o, none⟩) len cap xs) (k n c : Nat) (h : k + n ≤ len) (hc : n ≤ c) (hc2 : c ≤ cap) : Bytes K w (some ⟨b, o + k, none⟩) n c ((xs.drop k).take n) := by
  have hl := r.hlen; have := r.hmax; have := r.hsz
  refine ⟨by rw [List.length_take, List.length_drop]; omega, hc, by omega, by omega, fun i x hx => ?_⟩
  have hi := (List.getElem?_eq_some_iff.1 hx).1
  rw [List.length_take, List.length_drop] at hi
  rw [List.getElem?_take, if_pos (by omega), List.getElem?_drop] at hx
  obtain ⟨b', o', e, e1, e2, e3⟩ := r.row (k + i) x hx
  cases e
  refine ⟨b, o + k, rfl, e1, e2, ?_⟩
  rw [Nat.mul_one] at e3 ⊢
  rw [Nat.add_assoc]
  exact e3

theorem take8_of {bs : List Int} {k : Nat} {z0 z1 z2 z3 z4 z5 z6 z7 : Int} (h0 : bs[k]? = some z0) (h1 : bs[k + 1]? = some z1) (h2 : bs[k + 2]? = some z2) (h3 : bs[k + 3]? = some z3) (h4 : bs[k + 4]? = some z4) (h5 : bs[k + 5]? = some z5) (h6 : bs[k + 6]? = some z6) (h7 : bs[k + 7]? = some z7) : (bs.drop k).take 8 = [z0, z1, z2, z3, z4, z5, z6, z7] := by
  apply List.ext_getElem?
  intro i
  rw [List.getElem?_take]
  by_cases hi : i < 8
  · rw [if_pos hi, List.getElem?_drop]
    match i, hi with
    | 0, _ => exact h0
    | 1, _ => exact h1
    | 2, _ => exact h2
    | 3, _ => exact h3
    | 4, _ => exact h4
    | 5, _ => exact h5
    | 6, _ => exact h6
    | 7, _ => exact h7
  · rw [if_neg hi, List.getElem?_eq_none (by simp; omega)]
theorem encE_one {X : Ins} : encE [X] = chkI X ∧ (chkI X = 0 → encB [X] = enc8 X) := by
  by_cases h : chkI X = 0
  · have := encE_good (l := [X]) (by simp) (fun x hx => by simp at hx; subst hx; exact h)
    refine ⟨this.1.trans h.symm, fun _ => this.2.trans ?_⟩
    simp [encs]
  · have := encE_bad (l := [X]) (x := X) (by simp) (bad_of (k := 0) rfl (fun _ hx => by simp at hx) h)
    exact ⟨this.1, fun h' => absurd h' h⟩
theorem enc8_byt (x : Ins) : Byt (enc8 x) := by
  intro z hz
  simp only [enc8, List.mem_cons, List.not_mem_nil, or_false] at hz
  rcases hz with rfl | rfl | rfl | rfl | rfl | rfl | rfl | rfl <;> (unfold b8; omega)
set_option maxRecDepth 100000 in
set_option maxHeartbeats 8000000 in
theorem decode_any (K : Nat → Prop) (a : Option Addr) (len cap : Nat) (bs : List Int) (w : World) (r : Bytes K w a len cap bs) (hby : Byt bs) : Calls Try.prog 25 #[.slice a len cap] w (DecRet bs w) := by
  have R := Lib.hid r
  have hll := r.hlen
  have hsz := r.hsz
  have hcap := r.hcap
  clear r
  go_enter Try.func25, Try.ntmps25
  have HB := Lib.hid hby
  clear hby
  by_cases hm : len % 8 = 0
  · by_cases hbig : 8192 < len
    · have E1 := Lib.hid (decE_bad (bs := bs) (.inr (by omega)))
      go_wp2
      exact bodyPost_ret (v := .tuple #[.slice none 0 0, .int .i64 10]) (by simp [results, Try.results25, go_sem]) rfl ⟨.slice none 0 0, by rw [E1.out.1], by rw [E1.out.2]; exact World.ownsRow_nil _ _ _ _, Below.refl _ _⟩
    · have NB := Lib.hid (show ¬ decBad bs from fun h => by unfold decBad at h; omega)
      go_wp2
      go_loopw [0, 4] (fun u v wr => ∃ (k j : Nat) (a2 : Option Addr) (m c2 : Nat), k = 8 * j ∧ j ≤ len / 8 ∧ m = len - k ∧ u = .slice a2 m c2 ∧ m ≤ c2 ∧ c2 ≤ cap ∧ (0 < m → ∃ b o, a = some ⟨b, o, none⟩ ∧ a2 = some ⟨b, o + k, none⟩) ∧ Good (decP bs j) ∧ wr.ownsRow w.heap.size 50 6 v j (ics (decP bs j)) ∧ Below w.heap.size w wr) (fun u _ _ => match u with | .slice _ m _ => m | _ => 0)
      case atStart => exact ⟨0, 0, a, len, cap, rfl, Nat.zero_le _, rfl, rfl, hcap, Nat.le_refl _, fun h => by obtain ⟨b, o, z, e, _⟩ := Bytes.get R.out h; exact ⟨b, o, e, e⟩, fun _ h => by simp [decP] at h, World.ownsRow_nil _ _ _ _, Below.refl _ _⟩
      case round =>
        obtain ⟨k, j, a2, m, c2, hkj, hj, hm2, rfl, hmc, hcc, ha2, hg, h1, h2⟩ := hrel
        obtain ⟨va, vc, rfl⟩ := flat_form h1
        have H1 := Lib.hid h1; have H2 := Lib.hid h2; have HG := Lib.hid hg; clear h1 h2 hg
        have hk8 : k % 8 = 0 := by omega
        have HKJ := Lib.hid hkj; clear hkj
        by_cases hlt : 0 < m
        · obtain ⟨b, o, rfl, rfl⟩ := ha2 hlt
          have h8 : 8 ≤ m := by omega
          have HM2 := Lib.hid hm2; clear hm2 ha2
          have hbw : b < w.heap.size := by obtain ⟨b', o', z, e, _, _, _, _, _, h⟩ := Bytes.get R.out (show 0 < len by have := HM2.out; omega); cases e; exact h
          obtain ⟨b', o', z0, e', y0, c0, l0, u0, _, _⟩ := Bytes.get R.out (show k + 0 < len by have := HM2.out; omega)
          cases e'
          obtain ⟨b', o', z1, e', y1, c1, l1, u1, _, _⟩ := Bytes.get R.out (show k + 1 < len by have := HM2.out; omega)
          cases e'
          obtain ⟨b', o', z2, e', y2, c2, l2, u2, _, _⟩ := Bytes.get R.out (show k + 2 < len by have := HM2.out; omega)
          cases e'
          obtain ⟨b', o', z3, e', y3, c3, l3, u3, _, _⟩ := Bytes.get R.out (show k + 3 < len by have := HM2.out; omega)
          cases e'
          obtain ⟨b', o', z4, e', y4, c4, l4, u4, _, _⟩ := Bytes.get R.out (show k + 4 < len by have := HM2.out; omega)
          cases e'
          obtain ⟨b', o', z5, e', y5, c5, l5, u5, _, _⟩ := Bytes.get R.out (show k + 5 < len by have := HM2.out; omega)
          cases e'
          obtain ⟨b', o', z6, e', y6, c6, l6, u6, _, _⟩ := Bytes.get R.out (show k + 6 < len by have := HM2.out; omega)
          cases e'
          obtain ⟨b', o', z7, e', y7, c7, l7, u7, _, _⟩ := Bytes.get R.out (show k + 7 < len by have := HM2.out; omega)
          cases e'
          have d0 := (H2.out.cell (p := ⟨b, o + k, none⟩) hbw).trans c0
          have d1 := (H2.out.cell (p := ⟨b, o + k + 1, none⟩) hbw).trans c1
          have d2 := (H2.out.cell (p := ⟨b, o + k + 2, none⟩) hbw).trans c2
          have d3 := (H2.out.cell (p := ⟨b, o + k + 3, none⟩) hbw).trans c3
          have d4 := (H2.out.cell (p := ⟨b, o + k + 4, none⟩) hbw).trans c4
          have d5 := (H2.out.cell (p := ⟨b, o + k + 5, none⟩) hbw).trans c5
          have d6 := (H2.out.cell (p := ⟨b, o + k + 6, none⟩) hbw).trans c6
          have d7 := (H2.out.cell (p := ⟨b, o + k + 7, none⟩) hbw).trans c7
          have Y0 := Lib.hid y0
          have Y1 := Lib.hid y1
          have Y2 := Lib.hid y2
          have Y3 := Lib.hid y3
          have Y4 := Lib.hid y4
          have Y5 := Lib.hid y5
          have Y6 := Lib.hid y6
          have Y7 := Lib.hid y7
          clear c0 y0 c1 y1 c2 y2 c3 y3 c4 y4 c5 y5 c6 y6 c7 y7
          have v0 : IntKind.i64.wrap z0 = z0 := Go.IntWalk.i64_in _ ⟨by omega, by omega⟩
          have v1 : IntKind.i64.wrap z1 = z1 := Go.IntWalk.i64_in _ ⟨by omega, by omega⟩
          have v2 : IntKind.i64.wrap z2 = z2 := Go.IntWalk.i64_in _ ⟨by omega, by omega⟩
          have v3 : IntKind.i64.wrap z3 = z3 := Go.IntWalk.i64_in _ ⟨by omega, by omega⟩
          have v4 : IntKind.i64.wrap z4 = z4 := Go.IntWalk.i64_in _ ⟨by omega, by omega⟩
          have v5 : IntKind.i64.wrap z5 = z5 := Go.IntWalk.i64_in _ ⟨by omega, by omega⟩
          have v6 : IntKind.i64.wrap z6 = z6 := Go.IntWalk.i64_in _ ⟨by omega, by omega⟩
          have v7 : IntKind.i64.wrap z7 = z7 := Go.IntWalk.i64_in _ ⟨by omega, by omega⟩
          have m4 := byt_in l4 u4 16777216 (by omega) (by omega)
          have m5 := byt_in l5 u5 65536 (by omega) (by omega)
          have m6 := byt_in l6 u6 256 (by omega) (by omega)
          have r5 : bits .or .i64 (z4 * 16777216) (z5 * 65536) = z4 * 16777216 + z5 * 65536 := or_join 24 (by omega) (by omega) (by omega) (by omega) (by omega) (by omega)
          have r6 : bits .or .i64 (z4 * 16777216 + z5 * 65536) (z6 * 256) = z4 * 16777216 + z5 * 65536 + z6 * 256 := or_join 16 (by omega) (by omega) (by omega) (by omega) (by omega) (by omega)
          have r7 : bits .or .i64 (z4 * 16777216 + z5 * 65536 + z6 * 256) z7 = z4 * 16777216 + z5 * 65536 + z6 * 256 + z7 := or_join 8 (by omega) (by omega) (by omega) (by omega) (by omega) (by omega)
          have W0 : 0 ≤ z4 * 16777216 + z5 * 65536 + z6 * 256 + z7 := by omega
          have W1 : z4 * 16777216 + z5 * 65536 + z6 * 256 + z7 < 4294967296 := by omega
          obtain ⟨N, hN⟩ : ∃ N, N = z4 * 16777216 + z5 * 65536 + z6 * 256 + z7 := ⟨_, rfl⟩
          rw [← hN] at r7 W0 W1
          have HN := Lib.hid hN; clear hN
          go_wp2
          go_quiet ((go_at_call 52; with_reducible exact Calls.quiet_of_same (wrap_any N _ W0 W1)))
          obtain ⟨ws, hws⟩ : ∃ ws, ws = wr.drewN nq := ⟨_, rfl⟩
          have f0 : ws.cell? ⟨b, o + k, none⟩ = some (.int .u8 z0) := by rw [hws]; exact d0
          have f1 : ws.cell? ⟨b, o + k + 1, none⟩ = some (.int .u8 z1) := by rw [hws]; exact d1
          have f2 : ws.cell? ⟨b, o + k + 2, none⟩ = some (.int .u8 z2) := by rw [hws]; exact d2
          have f3 : ws.cell? ⟨b, o + k + 3, none⟩ = some (.int .u8 z3) := by rw [hws]; exact d3
          have H3 := Lib.hid (show ws.ownsRow _ _ _ _ _ _ by rw [hws]; exact H1.out)
          have H4 := Lib.hid (show Below w.heap.size w ws by rw [hws]; exact below_drewN H2.out nq)
          rw [← hws]
          have lb : b < ws.heap.size := Nat.lt_of_lt_of_le hbw H4.out.size
          have QZ := Lib.hid (show (0 ≤ z0 ∧ z0 ≤ 255) ∧ (0 ≤ z1 ∧ z1 ≤ 255) ∧ (0 ≤ z2 ∧ z2 ≤ 255) ∧ (0 ≤ z3 ∧ z3 ≤ 255) ∧ (0 ≤ z4 ∧ z4 ≤ 255) ∧ (0 ≤ z5 ∧ z5 ≤ 255) ∧ (0 ≤ z6 ∧ z6 ≤ 255) ∧ (0 ≤ z7 ∧ z7 ≤ 255) by omega)
          clear hws H1 H2 d0 d1 d2 d3
          clear d4 d5 d6 d7 v4 v5 v6 v7 m4 m5 m6 r5 r6 r7 W0 W1 l4 l5 l6 l7 u4 u5 u6 u7
          have t1 : IntKind.i64.wrap (z1 / 16) = z1 / 16 := Go.IntWalk.i64_in _ ⟨by omega, by omega⟩
          have t2 : bits .and .u8 z1 15 = z1 % 16 := u8_and15 z1 l1 (by omega)
          have t3 : IntKind.i64.wrap (z1 % 16) = z1 % 16 := Go.IntWalk.i64_in _ ⟨by omega, by omega⟩
          obtain ⟨X, hX⟩ : ∃ X : Ins, X = ⟨z0, z1 / 16, z1 % 16, z2, z3, w32 N⟩ := ⟨_, rfl⟩
          have HX := Lib.hid (show insAt bs (8 * j) = X by
            rw [hX, HN.out, ← HKJ.out]
            exact insAt_of Y0.out Y1.out Y2.out Y3.out Y4.out Y5.out Y6.out Y7.out)
          have HXX := Lib.hid hX; clear hX
          have i1 : 1 < m := by omega
          have i2 : 2 < m := by omega
          have i3 : 3 < m := by omega
          have j1 : (1 : Int) < (m : Int) := by omega
          have j2 : (2 : Int) < (m : Int) := by omega
          have j3 : (3 : Int) < (m : Int) := by omega
          go_wp2
          go_region_held3 (fun w' => w'.cell? ⟨b, o + k, none⟩ = some (.int .u8 z0) ∧ w'.cell? ⟨b, o + k + 1, none⟩ = some (.int .u8 z1) ∧ w'.cell? ⟨b, o + k + 2, none⟩ = some (.int .u8 z2) ∧ w'.cell? ⟨b, o + k + 3, none⟩ = some (.int .u8 z3)) (((try dsimp only); (try go_split_ands); (repeat' apply And.intro); all_goals (repeat (first | with_reducible assumption | (with_reducible refine cell_set (by omega) ?_) | (with_reducible refine cell_alloc (by omega) ?_) | (with_reducible refine cell_drew ?_))))) (fail)
          obtain ⟨wn, hwn⟩ : ∃ wn : World, wn = (ws.alloc (.cells (ICells X).toArray 50)).drew := ⟨_, rfl⟩
          have N1 := Lib.hid (show Has wn ws.heap.size (ICells X) by rw [hwn]; exact (Has.new ws (ICells X) 50).drew)
          have B1 := Lib.hid (show Below w.heap.size w wn by rw [hwn]; exact (H4.out.alloc H4.out.size _).drew)
          have H5 := Lib.hid (show wn.ownsRow w.heap.size 50 6 (.slice va j vc) j (ics (decP bs j)) by rw [hwn]; exact flat_below H3.out ((Below.refl _ _).alloc (Nat.le_refl _) (.cells (ICells X).toArray 50)).drew)
          have SZ := Lib.hid (show wn.heap.size = ws.heap.size + 1 by rw [hwn]; simp)
          have hwn2 : wn = (ws.alloc (.cells #[.int .i64 z0, .int .i64 (z1 / 16), .int .i64 (z1 % 16), .int .i64 z2, .int .i64 z3, .int .i64 (w32 N)] 50)).drew := by rw [hwn, HXX.out]
          rw [← hwn2]
          clear hwn hwn2 f0 f1 f2 f3 H3 H4 lb t1 t2
          have e0 := N1.out.cell 0 _ rfl; have e1 := N1.out.cell 1 _ rfl; have e2 := N1.out.cell 2 _ rfl; have e3 := N1.out.cell 3 _ rfl; have e4 := N1.out.cell 4 _ rfl; have e5 := N1.out.cell 5 _ rfl
          have HIN := Lib.hid (show X.In from HX.out ▸ insAt_in HB.out (8 * j))
          have LN := Lib.hid (ins_new wn [X] 1 50 rfl (by omega) (fun x hx => by simp at hx; subst hx; exact HIN.out))
          go_wp2_with fail
          refine (encode_any (Ge wn.heap.size) _ 1 1 [X] _ LN.out).mono ?_
          rintro e w2 ⟨ev, rfl, hown, hb2⟩
          obtain ⟨ea, ec, rfl⟩ := flat_form hown
          have hb2' : Below wn.heap.size wn w2 := ((Below.refl _ _).alloc (Nat.le_refl _) _).trans (hb2.mono (by simp))
          have N2 := Lib.hid (N1.out.below hb2' (by have := SZ.out; omega))
          have B2 := Lib.hid (B1.out.trans (hb2'.mono B1.out.size))
          have H6 := Lib.hid (flat_below H5.out hb2')
          have HS2 := Lib.hid hb2'.size
          have HO := Lib.hid hown
          clear hb2 hb2' hown e0 e1 e2 e3 e4 e5 N1 H5 LN
          have e0 := N2.out.cell 0 _ rfl; have e1 := N2.out.cell 1 _ rfl; have e2 := N2.out.cell 2 _ rfl; have e3 := N2.out.cell 3 _ rfl; have e4 := N2.out.cell 4 _ rfl; have e5 := N2.out.cell 5 _ rfl
          by_cases hc : chkI X = 0
          · have g1 : encE [X] = 0 := encE_one.1.trans hc
            have g2 : encB [X] = [z0, z1, z2, z3, z4, z5, z6, z7] := by
              rw [encE_one.2 hc, HXX.out]
              have := enc_mkI QZ.out.1 QZ.out.2.1 QZ.out.2.2.1 QZ.out.2.2.2.1 QZ.out.2.2.2.2.1 QZ.out.2.2.2.2.2.1 QZ.out.2.2.2.2.2.2.1 QZ.out.2.2.2.2.2.2.2
              unfold mkI at this
              rw [← HN.out] at this
              exact this
            rw [g1]
            rw [g2] at HO ⊢
            have e8 : [z0, z1, z2, z3, z4, z5, z6, z7].length = 8 := rfl
            rw [e8] at HO ⊢
            have P1 := Lib.hid (flat_bytes (K := Ge wn.heap.size) HO.out (fun z hz => by
              have q := QZ.out
              simp only [List.mem_cons, List.not_mem_nil, or_false] at hz
              rcases hz with rfl | rfl | rfl | rfl | rfl | rfl | rfl | rfl <;> omega) (by simp) (fun j hj => by unfold Ge at *; simp at hj; omega))
            have P2 := Lib.hid (Row.below RU8.stays (Bytes.part R.out k 8 c2 (by have := HM2.out; omega) (by omega) hcc) B2.out)
            rw [take8_of (k := k) Y0.out Y1.out Y2.out Y3.out Y4.out Y5.out Y6.out Y7.out] at P2
            have BZ := Lib.hid (show Byt [z0, z1, z2, z3, z4, z5, z6, z7] from fun z hz => by
              have q := QZ.out
              simp only [List.mem_cons, List.not_mem_nil, or_false] at hz
              rcases hz with rfl | rfl | rfl | rfl | rfl | rfl | rfl | rfl <;> omega)
            clear g1 g2 e8
            go_wp2_with fail
            refine (bequal_any _ _ _ _ 8 8 _ _ _ _ _ P1.out P2.out BZ.out BZ.out).mono ?_
            rintro e w3 ⟨rfl, rfl⟩
            rw [decide_eq_true rfl]
            have H7 := Lib.hid (flat_below H6.out ((Below.refl _ _).alloc (Nat.le_refl _) (.cells (ICells X).toArray 50)))
            have B3 := Lib.hid (B2.out.alloc B2.out.size (.cells (ICells X).toArray 50))
            have HJ := Lib.hid (Blk.new w3 (ICells X) 50)
            go_wp2_with (at_builtin; refine wpList_append_flat rfl _ _ 27 rfl 50 Try.underlying27 info_ins rfl (by decide) H7.out rfl B3.out.size ⟨w3.heap.size, 0, none⟩ 1 1 (ics [X]) rfl rfl (fun j u hu => by rw [Go.WideShapes.add_plain, Nat.zero_add]; exact HJ.out.cell hu) ics_one (by decide) (by omega) (by decide) ?_; intro g c6 w6 hap)
            have C6 := Lib.hid (hap.out.non H7.out (M := Non) (Chg.of_below B3.out) (Nat.le_refl _)).below0
            have Q6 := Lib.hid hap.out.owns
            have HG2 := Lib.hid (show Good (decP bs (j + 1)) by
              rw [decP_succ, HX.out]
              intro y hy
              rcases List.mem_append.1 hy with h | h
              · exact HG.out y h
              · simp at h; subst h; exact hc)
            clear hap
            go_roundw
            case rel =>
              refine ⟨k + 8, j + 1, _, _, _, by have := HKJ.out; omega, by have := HKJ.out; have := HM2.out; omega, (show m - 8 = len - (k + 8) by have := HM2.out; omega), rfl, by omega, by omega, fun h0 => ⟨b, o, rfl, ?_⟩, HG2.out, by rw [decP_succ, HX.out, ics_append]; exact Q6.out, C6.out⟩
              rw [if_neg (by omega), Nat.add_assoc]
            case measure => simp only []; omega
          · have g1 : encE [X] = chkI X := encE_one.1
            have E1 := Lib.hid (decE_some NB.out (bad_of (l := decL bs) (k := j) (x := X) (by unfold decL; rw [decP_get (by have := HKJ.out; have := HM2.out; omega), HX.out]) (by unfold decL; rw [decP_take (by omega)]; exact HG.out) hc))
            rw [g1]
            clear g1
            go_wp2
            exact bodyPost_ret (v := .tuple #[.slice none 0 0, .int .i64 10]) (by simp [results, Try.results25, go_sem]) rfl ⟨.slice none 0 0, by rw [E1.out.1], by rw [E1.out.2]; exact World.ownsRow_nil _ _ _ _, B2.out⟩
        · have e : j = bs.length / 8 := by have := HKJ.out; omega
          have E1 := Lib.hid (decE_good NB.out (by unfold decL; rw [← e]; exact HG.out))
          have e2 : decL bs = decP bs j := by unfold decL; rw [e]
          rw [e2] at E1
          clear e2
          go_wp2
          exact bodyPost_ret (v := .tuple #[.slice va j vc, .int .i64 0]) (by simp [results, Try.results25, go_sem]) rfl ⟨_, by rw [E1.out.1], by rw [E1.out.2, decP_length]; exact H1.out, H2.out⟩
  · have E1 := Lib.hid (decE_bad (bs := bs) (.inl (by omega)))
    go_wp2
    exact bodyPost_ret (v := .tuple #[.slice none 0 0, .int .i64 10]) (by simp [results, Try.results25, go_sem]) rfl ⟨.slice none 0 0, by rw [E1.out.1], by rw [E1.out.2]; exact World.ownsRow_nil _ _ _ _, Below.refl _ _⟩
end Go.Proofs.Ytonbmijhbbodnaa
