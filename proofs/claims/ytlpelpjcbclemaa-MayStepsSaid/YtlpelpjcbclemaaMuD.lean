/-
  Lists of numbers that a call builds; the document's Put.
-/
import Derived.Test.YtlpelpjcbclemaaZMuB
namespace Go.Proofs.Ytlpelpjcbclemaa
open Go.RowKit

/-- The slice v has the numbers xs, in blocks from B on that nothing else lies in. -/
def Lst (B : Nat) (w : World) (v : Value) (xs : List Int) : Prop := ∃ M us fq, Grw OInt 3 w B M v us fq xs
theorem Lst.nil {w : World} {B : Nat} (h : B ≤ w.heap.size) : Lst B w (.slice none 0 0) [] := ⟨_, _, _, Grw.nil _ _ _ _ h⟩
theorem Lst.alloc {B : Nat} {w : World} {v : Value} {xs : List Int} (h : Lst B w v xs) (o : Obj) : Lst B (w.alloc o) v xs := by obtain ⟨M, us, fq, g⟩ := h; exact ⟨M, us, fq, g.alloc OInt.loc o⟩
theorem Lst.call {B : Nat} {w w' : World} {v : Value} {xs : List Int} (h : Lst B w v xs) (hb : Below w.heap.size w w') : Lst B w' v xs := by obtain ⟨M, us, fq, g⟩ := h; exact ⟨M, us, fq, g.below OInt.loc hb⟩
theorem Lst.chg {B : Nat} {N : Nat → Prop} {w w' : World} {v : Value} {xs : List Int} (h : Lst B w v xs) (hb : Chg N w w') (hN : ∀ k, B ≤ k → ¬ N k) : Lst B w' v xs := by obtain ⟨M, us, fq, g⟩ := h; exact ⟨M, us, fq, g.chg OInt.loc hb (fun k h1 _ => hN k h1)⟩
theorem Lst.form {B : Nat} {w : World} {v : Value} {xs : List Int} (h : Lst B w v xs) {n : Nat} (hn : xs.length = n) : ∃ a cap, v = .slice a n cap := by obtain ⟨M, us, fq, g⟩ := h; exact g.form hn
theorem Lst.done {B : Nat} {w : World} {v : Value} {xs : List Int} (h : Lst B w v xs) (hl : xs.length ≤ 17592186044416) : OInts w (Ge B) v xs := by obtain ⟨M, us, fq, g⟩ := h; exact g.done hl
def Appd (B n : Nat) (xs : List Int) (x : Int) (w : World) (g cap : Nat) (w' : World) : Prop := Lst B w' (.slice (some ⟨g, 0, none⟩) (n + 1) cap) (xs ++ [x]) ∧ Below B w w'
theorem wpList_append_lst {P : Program} {w : World} {ops : Array Oper} {rest : List Oper} {o : Oper} {a : Act} {Q : Exit → Act → World → Prop} (n : Nat) (hgd : o.guard = none) (s y : Operand) (t : TypeId)
    (ho : o.op = .call { callee := .builtin .append, args := #[s, y], argTypes := #[t, t] }) (ht : P.underlying t = some (.slice 3)) {z : Value} {bytes : Nat} (hinfo : (P.info? 3).map (fun i => (i.zero, i.size, i.bytes)) = some (some z, 1, bytes)) (hz : z.cells.size = 1)
    {B : Nat} {v : Value} {xs : List Int} (r : Lst B w v xs) (hs : a.eval s = v) (ab : Nat) (x : Int) (hb : Blk w ab 3 [.int .i64 x]) (hy : a.eval y = .slice (some ⟨ab, 0, none⟩) 1 1)
    (hx : -9223372036854775808 ≤ x ∧ x ≤ 9223372036854775807) (hn : xs.length = n) (h63 : n < 1000000) (hby : bytes ≤ 1000)
    (h : ∀ g cap w', Hid (Appd B n xs x w g cap w') → wpList P ops Q rest (a.put o.dst (.slice (some ⟨g, 0, none⟩) (n + 1) cap)) w') : wpList P ops Q (o :: rest) a w := by
  obtain ⟨M, us, fq, q⟩ := r
  refine wpList_append_n n hgd s y t ho 3 ht hinfo hz OInt.loc q hs ab (.int .i64 x) 3 hb hy (f := fun _ => False) (x := x) ⟨rfl, hx.1, hx.2⟩ (fun _ h => h.elim) rfl hn h63 hby ?_
  intro g cap w' hap
  refine h g cap w' ⟨?_, hap.out.chg.below (fun k hk e => by have := (q.own k e).1; omega) (Nat.le_trans q.hB q.hN)⟩
  have := hap.out.grw
  rw [hn] at this
  exact ⟨_, _, _, this⟩

/-! ### Insertion, element by element -/
theorem ins_all {x : Int} : ∀ {p : List Int}, (∀ z ∈ p, ¬ x < z) → ins x p = p ++ [x]
  | [], _ => rfl
  | y :: p, h => by
    unfold ins
    rw [if_neg (h y (by simp)), ins_all fun z hz => h z (by simp [hz])]; rfl
theorem ins_snoc {x y : Int} : ∀ {p : List Int}, (∃ z ∈ p, x < z) → ins x (p ++ [y]) = ins x p ++ [y]
  | [], h => by obtain ⟨z, hz, _⟩ := h; cases hz
  | u :: p, h => by
    rw [List.cons_append]
    unfold ins
    by_cases hu : x < u
    · rw [if_pos hu, if_pos hu]; rfl
    · rw [if_neg hu, if_neg hu, ins_snoc (by
        obtain ⟨z, hz, k⟩ := h
        rcases List.mem_cons.1 hz with rfl | hz
        · exact absurd k hu
        · exact ⟨z, hz, k⟩)]; rfl
theorem ins_here {x y : Int} : ∀ {p : List Int}, (∀ z ∈ p, ¬ x < z) → x < y → ins x (p ++ [y]) = p ++ [x] ++ [y]
  | [], _, hy => by show ins x [y] = [x, y]; unfold ins; rw [if_pos hy]
  | u :: p, h, hy => by
    rw [List.cons_append]
    unfold ins
    rw [if_neg (h u (by simp)), ins_here (fun z hz => h z (by simp [hz])) hy]; rfl
/-- Behind the first elements p: out has them, and x if one of them is greater. -/
def PutAt (x : Int) (p : List Int) (d : Bool) (xs : List Int) : Prop := (d = false ∧ xs = p ∧ ∀ z ∈ p, ¬ x < z) ∨ (d = true ∧ xs = ins x p ∧ ∃ z ∈ p, x < z)
theorem PutAt.len {x : Int} {p xs : List Int} {d : Bool} (h : PutAt x p d xs) : xs.length = p.length + (if d then 1 else 0) := by
  rcases h with ⟨rfl, rfl, _⟩ | ⟨rfl, rfl, _⟩
  · simp
  · rw [ins_length]; simp

def LstRet (xs : List Int) (w : World) (e : Ending) (w' : World) : Prop := ∃ v, e = .returned v ∧ OInts w' (Ge w.heap.size) v xs ∧ Below w.heap.size w w'
set_option maxHeartbeats 2000000 in
theorem rput_any (K : Nat → Prop) (a : Option Addr) (len cap : Nat) (l : List Int) (x : Int) (hx : -9223372036854775808 ≤ x ∧ x ≤ 9223372036854775807) (w : World) (r : Ints K w a len cap l) (hn : len ≤ 10000) :
    Calls Try.prog 45 #[.slice a len cap, .int .i64 x] w (LstRet (ins x l) w) := by
  have hl := r.hlen
  subst hl
  have HR := Lib.hid r; clear r
  have HX := Lib.hid hx; clear hx
  go_enter Try.func45, Try.ntmps45
  go_wp2
  go_loopw [5, 6, 11] (fun v d i wr => ∃ (k : Nat) (b : Bool) (xs : List Int), k ≤ l.length ∧ i = .int .i64 k ∧ d = .bool b ∧ Lst w.heap.size wr v xs ∧ PutAt x (l.take k) b xs ∧ Below w.heap.size w wr) (fun _ _ i _ => l.length - (intOf i).toNat)
  case atStart => exact ⟨0, false, [], Nat.zero_le _, rfl, rfl, Lst.nil (Nat.le_refl _), .inl ⟨rfl, by simp, by simp⟩, Below.refl _ _⟩
  case round =>
    obtain ⟨k, b, xs, hk, rfl, rfl, hL, hP, hB⟩ := hrel
    have hxl := hP.len
    rw [List.length_take, Nat.min_eq_left hk] at hxl
    by_cases hlt : k < l.length
    · obtain ⟨lb, lo, z, rfl, hz, hcz, hz1, hz2, _, hbw⟩ := Ints.get HR.out hlt
      have cz := (hB.cell (p := ⟨lb, lo + k, none⟩) hbw).trans hcz
      have HTS := Lib.hid (show l.take (k + 1) = l.take k ++ [z] by rw [List.take_add_one, hz]; rfl)
      clear hz hcz
      have LL := Lib.hid hL; have PP := Lib.hid hP; have BB := Lib.hid hB; have XL := Lib.hid hxl
      clear hL hP hB hxl
      by_cases hgo : b = false ∧ x < z
      · obtain ⟨rfl, hxz⟩ := hgo
        have PP' := PP.out
        have XK := Lib.hid (show xs.length = k by have := XL.out; simpa using this)
        obtain ⟨va, vc, rfl⟩ := LL.out.form XK.out
        go_wp2_with (first
          | (at_builtin; refine wpList_append_lst k rfl (.tmp 22) (.tmp 24) 22 rfl Try.underlying22 info_int rfl (LL.out.alloc (.cells #[.int .i64 x] 3)) rfl wr.heap.size x (Blk.new wr [.int .i64 x] 3) rfl HX.out XK.out (by omega) (by decide) ?_; intro g1 c1 w1 hap1; have L1 := Lib.hid (hap1.out.1); have B1 := Lib.hid ((BB.out.alloc BB.out.size (.cells #[.int .i64 x] 3)).trans (hap1.out.2.mono (Nat.le_refl _))); have XK1 := Lib.hid (show (xs ++ [x]).length = k + 1 by rw [List.length_append, XK.out]; rfl); clear hap1)
          | (at_builtin; refine wpList_append_lst (k + 1) rfl (.tmp 26) (.tmp 28) 22 rfl Try.underlying22 info_int rfl (L1.out.alloc (.cells #[.int .i64 z] 3)) rfl w1.heap.size z (Blk.new w1 [.int .i64 z] 3) rfl ⟨hz1, hz2⟩ XK1.out (by omega) (by decide) ?_; intro g2 c2 w2 hap2))
        have L2 := Lib.hid (hap2.out.1)
        have B2 := Lib.hid ((B1.out.alloc B1.out.size (.cells #[.int .i64 z] 3)).trans (hap2.out.2.mono (Nat.le_refl _)))
        clear hap2
        have P2 := Lib.hid (show PutAt x (l.take (k + 1)) true (xs ++ [x] ++ [z]) from by
          rw [HTS.out]
          rcases PP' with ⟨_, h2, h3⟩ | ⟨h1, _⟩
          · exact .inr ⟨rfl, by rw [ins_here h3 hxz, h2], z, by simp, hxz⟩
          · cases h1)
        clear PP'
        go_roundw
        case rel => exact ⟨k + 1, true, _, by omega, by go_num, rfl, L2.out, P2.out, B2.out⟩
        case measure => simp [intOf]; omega
      · have hno : ¬ (b = false ∧ x < z) := hgo
        have P2 := Lib.hid (show PutAt x (l.take (k + 1)) b (xs ++ [z]) from by
          rw [HTS.out]
          rcases PP.out with ⟨h1, h2, h3⟩ | ⟨h1, h2, h3⟩
          · subst h1
            refine .inl ⟨rfl, by rw [h2], fun y hy => ?_⟩
            rcases List.mem_append.1 hy with h | h
            · exact h3 y h
            · simp at h; subst h; exact fun e => hno ⟨rfl, e⟩
          · subst h1
            obtain ⟨u, hu, hxu⟩ := h3
            exact .inr ⟨rfl, by rw [ins_snoc ⟨u, hu, hxu⟩, h2], u, by simp [hu], hxu⟩)
        obtain ⟨n, hnn⟩ : ∃ n, xs.length = n := ⟨_, rfl⟩
        have HN := Lib.hid hnn
        have hn2 : n ≤ k + 1 := by have := XL.out; rw [hnn] at this; split at this <;> omega
        obtain ⟨va, vc, rfl⟩ := LL.out.form hnn
        clear hnn hgo
        cases b with
        | true =>
          clear hno
          go_wp2_with (at_builtin; refine wpList_append_lst n rfl _ _ 22 rfl Try.underlying22 info_int rfl (LL.out.alloc (.cells #[.int .i64 z] 3)) rfl wr.heap.size z (Blk.new wr [.int .i64 z] 3) rfl ⟨hz1, hz2⟩ HN.out (by omega) (by decide) ?_; intro g2 c2 w2 hap2)
          have L2 := Lib.hid (hap2.out.1)
          have B2 := Lib.hid ((BB.out.alloc BB.out.size (.cells #[.int .i64 z] 3)).trans (hap2.out.2.mono (Nat.le_refl _)))
          clear hap2
          go_roundw
          case rel => exact ⟨k + 1, true, _, by omega, by go_num, rfl, L2.out, P2.out, B2.out⟩
          case measure => simp [intOf]; omega
        | false =>
          have hxz : ¬ x < z := fun e => hno ⟨rfl, e⟩
          clear hno
          go_wp2_with (at_builtin; refine wpList_append_lst n rfl _ _ 22 rfl Try.underlying22 info_int rfl (LL.out.alloc (.cells #[.int .i64 z] 3)) rfl wr.heap.size z (Blk.new wr [.int .i64 z] 3) rfl ⟨hz1, hz2⟩ HN.out (by omega) (by decide) ?_; intro g2 c2 w2 hap2)
          have L2 := Lib.hid (hap2.out.1)
          have B2 := Lib.hid ((BB.out.alloc BB.out.size (.cells #[.int .i64 z] 3)).trans (hap2.out.2.mono (Nat.le_refl _)))
          clear hap2
          go_roundw
          case rel => exact ⟨k + 1, false, _, by omega, by go_num, rfl, L2.out, P2.out, B2.out⟩
          case measure => simp [intOf]; omega
    · have hkl : k = l.length := by omega
      subst hkl
      rw [List.take_length] at hP
      have LL := Lib.hid hL; have PP := Lib.hid hP; have BB := Lib.hid hB; have XL := Lib.hid hxl
      clear hL hP hB hxl
      cases b with
      | true =>
        go_wp2
        go_ret
        refine ⟨_, rfl, ?_, BB.out⟩
        rcases PP.out with ⟨h1, _⟩ | ⟨_, h2, _⟩
        · cases h1
        · rw [← h2]; exact LL.out.done (by have := XL.out; simp at this; omega)
      | false =>
        have XK := Lib.hid (show xs.length = l.length by have := XL.out; simpa using this)
        obtain ⟨va, vc, rfl⟩ := LL.out.form XK.out
        go_wp2_with (at_builtin; refine wpList_append_lst l.length rfl _ _ 22 rfl Try.underlying22 info_int rfl (LL.out.alloc (.cells #[.int .i64 x] 3)) rfl wr.heap.size x (Blk.new wr [.int .i64 x] 3) rfl HX.out XK.out (by omega) (by decide) ?_; intro g1 c1 w1 hap1)
        have L1 := Lib.hid (hap1.out.1)
        have B1 := Lib.hid ((BB.out.alloc BB.out.size (.cells #[.int .i64 x] 3)).trans (hap1.out.2.mono (Nat.le_refl _)))
        clear hap1
        go_wp2
        go_ret
        refine ⟨_, rfl, ?_, B1.out⟩
        rcases PP.out with ⟨_, h2, h3⟩ | ⟨h1, _⟩
        · have e : ins x l = xs ++ [x] := by rw [ins_all h3, h2]
          rw [e]; exact L1.out.done (by rw [List.length_append, XK.out]; simp; omega)
        · cases h1
end Go.Proofs.Ytlpelpjcbclemaa
