/-
  The document's Misses.
-/
import Derived.Test.YtdkpfifnegndmaaRunD
import Derived.Test.YtdkpfifnegndmaaCacheQ
import Derived.Test.YtdkpfifnegndmaaKeep4
import Derived.Deep.DeepCutAuto
namespace Go.Proofs.Ytdkpfifnegndmaa
open Go.RowKit

theorem off_old {A k : Nat} (h : k < A) : Off [A, A + 1] k := fun hm => by simp at hm; omega
def mn (S L : Nat) : List (List Int) → List Int → Nat
  | _, [] => 0
  | ss, a :: l => (if thit S L ss a then 0 else 1) + mn S L (tch S L ss a) l
theorem mn_eq (S L : Nat) : ∀ (adr : List Int) (ss : List (List Int)), mn S L ss adr = msn S L ss adr
  | [], ss => by unfold mn msn; simp [mm]
  | a :: l, ss => by
    unfold mn
    rw [mn_eq S L l]
    unfold msn tch thit
    by_cases hS : S = 0
    · simp [hS]; omega
    · simp only [if_neg hS, List.map_cons, mm]

set_option maxHeartbeats 2000000 in
theorem rmisses_bad (S W L : Nat) (hc : COk S W L) (K : Nat → Prop) (a : Option Addr) (len cap : Nat) (ss : List (List Int)) (w : World) (r : Mat K w a len cap ss) (ab : Option Addr) (al ac : Nat) (hv : ¬ ValidP S W ss) :
    Calls Try.prog 36 #[CV S W L, .agg #[.slice a len cap], .slice ab al ac] w (Int2Ret 0 10 w) := by
  have HR := Lib.hid r; clear r
  have hC := Lib.hid hc
  have HV := Lib.hid hv; clear hv
  clear hc
  have f0 := Fm.new (Fm.new (Fm.start Non w) rfl [.int .i64 S, .int .i64 W, .int .i64 L] 29) (by simp) [.slice a len cap] 33
  have F0 := Lib.hid f0; clear f0
  go_enter Try.func36, Try.ntmps36
  go_wp2_with fail
  refine (rcheck_ok _ _ _ hC.out _).mono ?_
  rintro e w1 ⟨rfl, hb1⟩
  have F1 := Lib.hid (Fm.call hb1 F0.out); clear hb1
  have t0 := F1.out.h0; have t1 := F1.out.h1
  have c0 := t0.cell 0 _ rfl; have c1 := t0.cell 1 _ rfl; have c2 := t0.cell 2 _ rfl; have d0 := t1.cell 0 _ rfl; have lt0 := t0.lt (by simp); have lt1 := t1.lt (by simp)
  go_wp2_with fail
  refine (rvalid_any S W L hC.out K a len cap ss _ (HR.out.below F1.out.below)).mono ?_
  rintro e w2 ⟨vb, rfl, hvb, hb2⟩
  obtain rfl : vb = false := by
    cases vb
    · rfl
    · exact absurd (hvb.1 rfl) HV.out
  have F2 := Lib.hid (Fm.call hb2 F1.out)
  clear t0 t1 c0 c1 c2 d0 lt0 lt1 hb2 hvb
  go_wp2
  go_ret2
  exact ⟨rfl, F2.out.below⟩

set_option maxRecDepth 100000 in
set_option maxHeartbeats 4000000 in
theorem rmisses_ok (S W L : Nat) (hc : COk S W L) (K K2 : Nat → Prop) (a : Option Addr) (len cap : Nat) (ss : List (List Int)) (w : World) (r : Mat K w a len cap ss) (ab : Option Addr) (al ac : Nat) (adr : List Int) (ra : Ints K2 w ab al ac adr) (hv : ValidP S W ss) (hr : ∀ z ∈ adr, 0 ≤ z ∧ z ≤ 1048576) :
    Calls Try.prog 36 #[CV S W L, .agg #[.slice a len cap], .slice ab al ac] w (Int2Ret (msn S L ss adr) 0 w) := by
  rw [← mn_eq]
  have hal := ra.hsz
  have halen := ra.hlen
  have HR := Lib.hid r; have HA := Lib.hid ra; have HRR := Lib.hid hr
  have hC := Lib.hid hc
  have HV := Lib.hid hv
  clear r ra hv hr hc
  have f0 := Fm.new (Fm.new (Fm.start Non w) rfl [.int .i64 S, .int .i64 W, .int .i64 L] 29) (by simp) [.slice a len cap] 33
  have F0 := Lib.hid f0; clear f0
  go_enter Try.func36, Try.ntmps36
  go_wp2_with fail
  refine (rcheck_ok _ _ _ hC.out _).mono ?_
  rintro e w1 ⟨rfl, hb1⟩
  have F1 := Lib.hid (Fm.call hb1 F0.out); clear hb1
  have t0 := F1.out.h0; have t1 := F1.out.h1
  have c0 := t0.cell 0 _ rfl; have c1 := t0.cell 1 _ rfl; have c2 := t0.cell 2 _ rfl; have d0 := t1.cell 0 _ rfl; have lt0 := t0.lt (by simp); have lt1 := t1.lt (by simp)
  go_wp2_with fail
  refine (rvalid_any S W L hC.out K a len cap ss _ (HR.out.below F1.out.below)).mono ?_
  rintro e w2 ⟨vb, rfl, hvb, hb2⟩
  obtain rfl : vb = true := hvb.2 HV.out
  have F2 := Lib.hid (Fm.call hb2 F1.out)
  clear t0 t1 c0 c1 c2 d0 lt0 lt1 hb2 hvb
  have M2 := Lib.hid (show Mat (Off [w.heap.size, w.heap.size + 1]) w2 a len cap ss from Mat.below (Row.wide (K' := Off [w.heap.size, w.heap.size + 1]) (RSl.wider RInt.wider) (fun k _ hk => off_old hk) HR.out) F2.out.below)
  obtain ⟨tot, htot⟩ : ∃ tot, tot = mn S L ss adr := ⟨_, rfl⟩
  rw [← htot]
  have HT := Lib.hid htot.symm; clear htot
  go_wp2
  go_loopw [9, 10] (fun c i wr => ∃ (k n : Nat) (la : Option Addr) (ln lc : Nat) (tt : List (List Int)), k ≤ al ∧ n ≤ k ∧ i = .int .i64 k ∧ c = .int .i64 n ∧ n + mn S L tt (adr.drop k) = tot ∧ ValidP S W tt ∧ Fm Non w wr [[.int .i64 S, .int .i64 W, .int .i64 L], [.slice la ln lc]] ∧ Mat (Off [w.heap.size, w.heap.size + 1]) wr la ln lc tt) (fun _ i _ => al - (intOf i).toNat)
  case atStart => exact ⟨0, 0, _, _, _, _, Nat.zero_le _, Nat.le_refl _, rfl, rfl, by rw [Nat.zero_add]; exact HT.out, HV.out, F2.out, M2.out⟩
  case round =>
    clear F2 M2
    obtain ⟨k, n, la, ln, lc, tt, hk, hnk, rfl, rfl, hsum, hvt, f3, m3⟩ := hrel
    have F3 := Lib.hid f3; have M3 := Lib.hid m3; have HS := Lib.hid hsum; have VT := Lib.hid hvt
    clear f3 m3 hsum hvt
    by_cases hlt : k < al
    · obtain ⟨b, o, z, rfl, hz, hcz, _, _, _, hbz⟩ := Ints.get (HA.out.below F3.out.below) hlt
      obtain ⟨z0, z1⟩ := HRR.out z (List.mem_of_getElem? hz)
      have hd : adr.drop k = z :: adr.drop (k + 1) := by rw [List.drop_eq_getElem_cons (by omega)]; congr 1; exact (List.getElem?_eq_some_iff.1 hz).2
      rw [hd] at HS
      have T1 := Lib.hid (fun w r => rtouch_ok S W L hC.out (Off [w2.heap.size, 0]) la ln lc tt w r VT.out z z0 z1)
      clear T1
      have t1 := fun w' r => rtouch_ok S W L hC.out (Off [w.heap.size, w.heap.size + 1]) la ln lc tt w' r VT.out z z0 z1
      have vu := tch_valid hC.out VT.out z0 z1
      have hs := HS.out
      unfold mn at hs
      obtain ⟨uu, huu⟩ : ∃ uu, uu = tch S L tt z := ⟨_, rfl⟩
      obtain ⟨hit, hhit⟩ : ∃ hit, hit = thit S L tt z := ⟨_, rfl⟩
      rw [← huu, ← hhit] at t1 hs; rw [← huu] at vu
      have T1 := Lib.hid t1; have HS2 := Lib.hid hs; have VU := Lib.hid vu
      have LS := F3.out.size
      simp only [List.length_append, List.length_cons, List.length_nil, Nat.zero_add] at LS
      clear t1 hs vu huu hhit hz hd HS
      have t0 := F3.out.h0
      have c0 := t0.cell 0 _ rfl; have c1 := t0.cell 1 _ rfl; have c2 := t0.cell 2 _ rfl; have d0 := F3.out.h1.cell 0 _ rfl
      have k0 : (0 : Int) ≤ (k : Int) := by omega
      have k1 : (k : Int) < (al : Int) := by omega
      clear t0
      go_upto_region 10 with fail
      obtain ⟨wu, hwu⟩ : ∃ wu : World, wu = wr := ⟨_, rfl⟩
      rw [← hwu] at F3 M3 c0 c1 c2 d0 hcz hbz LS ⊢
      clear hwu
      go_cut [11, 12, 13] (fun s11 s12 s13 wx => ∃ g ua un uc, s11 = .pointer (some ⟨g, 0, none⟩) ∧ s12 = .bool hit ∧ s13 = .int .i64 0 ∧ wu.heap.size ≤ g ∧ Has wx g [.slice ua un uc] ∧ Mat (Off [w.heap.size, w.heap.size + 1]) wx ua un uc uu ∧ Chg Non wu wx)
      case first =>
        go_region_held3 (fun w' => w'.cell? ⟨w.heap.size, 0, none⟩ = some (.int .i64 S) ∧ w'.cell? ⟨w.heap.size, 1, none⟩ = some (.int .i64 W) ∧ w'.cell? ⟨w.heap.size, 2, none⟩ = some (.int .i64 L) ∧ w'.cell? ⟨w.heap.size + 1, 0, none⟩ = some (.slice la ln lc) ∧ w'.cell? ⟨b, o + k, none⟩ = some (.int .i64 z)) (((try dsimp only); (try go_split_ands); (repeat' apply And.intro); all_goals (repeat (first | assumption | (refine cell_later hb8 ?_) | (refine cell_alloc (by first | assumption | omega) ?_) | (refine cell_set (by omega) ?_) | (refine cell_drew ?_)))))
          (first
            | (go_at_call 25; refine (T1.out _ (by first | exact M3.out.below ((Below.refl _ _).drew) | exact M3.out.below (((Below.refl _ _).drew).alloc (Nat.le_refl _) _))).mono ?_; rintro e w8 ⟨ua, un, uc, rfl, ho8, hb8⟩; have l8 := Nat.le_trans LS (Nat.le_trans (by first | exact Nat.le_refl _ | (simp; done)) hb8.size); have p8 := Nat.lt_of_lt_of_le hbz (Nat.le_trans (by first | exact Nat.le_refl _ | (simp; done)) hb8.size); try (have x8 := ((Has.new wu.drew [.slice none 0 0] 33).below hb8 (by simp)).at' (show _ = wu.heap.size from rfl); have e8 := x8.cell 0 _ rfl; have f8 := x8.free; have n8 := x8.lt (by simp))))
        all_goals
          go_wp2_with fail
          go_meet
          first
            | exact ⟨w8.heap.size, ua, un, uc, rfl, rfl, rfl, hb8.size, Has.new w8 _ _, (mat_off ho8 (lt_pair (by simp; omega) (by simp; omega))).below ((Below.refl _ _).alloc (Nat.le_refl _) _), ((Chg.refl wu).drew.tr hb8).alloc _⟩
            | exact ⟨wu.heap.size, ua, un, uc, rfl, rfl, rfl, Nat.le_refl _, x8.set0 _, mat_off (OMat.k_set ho8 (fun h => by unfold Ge at h; simp at h; omega)) (lt_pair (by simp; omega) (by simp; omega)), (((Chg.refl wu).drew.alloc _).tr hb8).setCell (fun h => by simp at h) _⟩
      case rest =>
      obtain ⟨g, ua, un, uc, rfl, rfl, rfl, hgl, hg, mu, hcc⟩ := hcut
      have HG := Lib.hid hg; have MU := Lib.hid mu
      have F4 := Lib.hid (F3.out.chgd hcc (fun j hj => hj.elim))
      clear c0 c1 c2 d0 hcz hbz hg mu hcc T1 F3 M3
      have x0 := HG.out.cell 0 _ rfl; have d0 := F4.out.h1.cell 0 _ rfl; have df := F4.out.h1.free; have lt1 := F4.out.h1.lt (by simp)
      have hs2 := HS2.out
      cases hit with
      | false =>
        go_wp2
        go_roundw
        case rel => exact ⟨k + 1, n + 1, ua, un, uc, uu, by omega, by omega, by go_num, by go_num, by simp at hs2; omega, VU.out, F4.out.set 1 0 [.slice la ln lc] rfl (by simp) (.slice ua un uc), mat_store (by simp) MU.out⟩
        case measure => simp [intOf]; omega
      | true =>
        go_wp2
        go_roundw
        case rel => exact ⟨k + 1, n, ua, un, uc, uu, by omega, by omega, by go_num, rfl, by simp at hs2; omega, VU.out, F4.out.set 1 0 [.slice la ln lc] rfl (by simp) (.slice ua un uc), mat_store (by simp) MU.out⟩
        case measure => simp [intOf]; omega
    · obtain rfl : k = al := by omega
      have hd : adr.drop k = [] := List.drop_eq_nil_of_le (by omega)
      rw [hd] at HS
      have hs : n + 0 = tot := HS.out
      go_wp2
      go_ret2
      exact ⟨ret_ii (by have := HT.out; omega), F3.out.below⟩
end Go.Proofs.Ytdkpfifnegndmaa
