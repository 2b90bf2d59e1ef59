/- Walks: f6big, LawPick, f6ones; what the schedule of the formula is. -/
import Derived.Test.YtnbpcdcdfkfmiaaPBinRun
import Derived.Test.YtnbpcdcdfkfmiaaWSrc2
import Derived.Test.YtnbpcdcdfkfmiaaWIntRow
import Derived.Test.YtnbpcdcdfkfmiaaWBest
import Derived.Test.YtnbpcdcdfkfmiaaWAdv
import Derived.Test.YtnbpcdcdfkfmiaaWRepeats
namespace Go.Proofs.Ytnbpcdcdfkfmiaa
open Go.RowKit Plain

theorem big_any (A : Option Addr) (n cap : Nat) (w : World) (hn : n ≤ 9223372036854775807) :
    Calls Try.prog 7 #[.slice A n cap] w fun e w' => e = .returned (.bool (decide (4096 < n))) ∧ w = w' := by
  by_cases h : 4096 < n
  · have HE : Hid (decide (4096 < n) = true) := by show _ = _; simp [h]
    have hd : decide ((4096 : Int) < (n : Int)) = true := by simp; omega
    rw [HE.out]
    go_enter Try.func7, Try.ntmps7
    go_wp2
    go_ret
    exact ⟨rfl, rfl⟩
  · have HE : Hid (decide (4096 < n) = false) := by show _ = _; simp [h]
    have hd : decide ((4096 : Int) < (n : Int)) = false := by simp; omega
    rw [HE.out]
    go_enter Try.func7, Try.ntmps7
    go_wp2
    go_ret
    exact ⟨rfl, rfl⟩

theorem lawPick_any (A : Option Addr) (n cap : Nat) (q : Nat) (w : World) (hA : Byt w A n) (hn : n ≤ 4611686018427387904) (hq : 1 < q) (hq2 : q ≤ 65536) :
    Calls Try.prog 8 #[.slice A n cap, .int .i64 q] w fun e w' => ∃ x : Nat, e = .returned (.int .i64 x) ∧ x < q ∧ Below w.heap.size w w' := by
  go_enter Try.func8, Try.ntmps8
  go_wp2_with fail
  refine (from_any A n cap w hA hn).mono ?_
  rintro e w1 ⟨rfl, hs, hb, hlt⟩
  have HS := Lib.hid hs
  have HB := Lib.hid hb
  clear hs hb
  go_wp2_with fail
  refine (pick_any w.heap.size 0 q w1 HS.out (by omega)).mono ?_
  rintro e w2 ⟨x, rfl, ⟨x0, _, x1⟩, hs, ho⟩
  obtain ⟨k, rfl⟩ := Int.eq_ofNat_of_zero_le x0
  have x2 := x1 (by omega)
  have HO := Lib.hid ho
  clear hs ho x1 x0
  go_wp2
  go_ret
  exact ⟨k, rfl, by omega, HB.out.trans (HO.out.below HB.out.size (fun q hq => by omega))⟩

theorem ones_snoc (k : Nat) : ones (k + 1) = ones k ++ [1] := by unfold ones; exact List.replicate_succ'
theorem ones_length (n : Nat) : (ones n).length = n := by simp [ones]

set_option maxRecDepth 100000 in
set_option maxHeartbeats 1000000 in
theorem f6ones_any (n : Nat) (w : World) (hn : n ≤ 1000000) :
    Calls Try.prog 14 #[.int .i64 n] w fun e w' => ∃ A' cp, e = .returned (.slice A' n cp) ∧ Ints w' A' (ones n) ∧ Below w.heap.size w w' := by
  obtain ⟨i0, hi, hz0, hz1, hz2⟩ := info_parts Try.infoI
  go_enter Try.func14, Try.ntmps14
  go_wp2
  go_loopw [3, 4] (fun o i wr => ∃ (k : Nat) (Av : Option Addr) (cp : Nat), k ≤ n ∧ i = .int .i64 (k : Int) ∧ o = .slice Av k cp ∧ Hid (IntRow wr w.heap.size (.slice Av k cp) (ones k)) ∧ Hid (Below w.heap.size w wr)) (fun _ i _ => n - (intOf i).toNat)
  case atStart =>
    refine ⟨0, _, _, by omega, by go_num, rfl, ?_, by show Below _ _ _; go_grown⟩
    exact World.ownsRow_lit w #[] 0 (Nat.le_refl _) (by unfold maxLen; omega) (by rfl)
  case round =>
    obtain ⟨k, Av, cp, hk, rfl, rfl, HR, HB'⟩ := hrel
    by_cases hlt : k < n
    · have hkn : (k : Int) < (n : Int) := by omega
      go_wp2_with (at_builtin; refine wpList_append_own _ rfl _ _ 28 rfl w.heap.size 2 i0 (.int .i64 0) 1 8 Try.underlying28 hi hz0 hz1 hz2 rfl (by decide) _ k _ rfl ((HR.out.ownN (ones_length _).symm).alloc _) ⟨wr.heap.size, 0, none⟩ 1 1 [.int .i64 1] rfl rfl ?c1 ?c2 ?c3 ?c4 ?c5 ?_)
      try (case c1 => intro j u hj; match j with | 0 => (simp at hj; subst hj; simp [addr_add]) | j + 1 => simp at hj)
      try (case c2 => first | rfl | (intro u hu; simp at hu; subst hu; rfl) | (simp; done))
      case c3 => unfold maxLen; omega
      case c4 => omega
      case c5 => first | (simp; have := HB'.out.size; omega) | (have := HB'.out.size; omega)
      intro v2 w2 hown hg _
      have hr2 : IntRow w2 w.heap.size v2 (ones (k + 1)) := by rw [ones_snoc]; exact IntRow.push (ones_length _).symm hown
      obtain ⟨A2, c2, hv⟩ := hr2.form
      rw [ones_length] at hv
      subst hv
      have hb1 : Below wr.heap.size wr (wr.alloc (.cells #[.int .i64 1] 2)) := by go_grown
      have hb2 := bnext HB'.out hb1
      have HB2 : Hid (Below w.heap.size w w2) := hb2.grown hg hb2.size (fun q hq => (HR.out.lt hq).1)
      have HR2 := Lib.hid hr2
      clear hr2 hb1 hb2 hown hg
      go_wp2
      go_roundw
      case rel => exact ⟨k + 1, A2, c2, by omega, by go_num, rfl, HR2.out, HB2.out⟩
      case measure => simp [intOf]; omega
    · obtain rfl : k = n := by omega
      have hrr : IntRow wr w.heap.size (.slice Av (ones k).length cp) (ones k) := by rw [ones_length]; exact HR.out
      have HM := Lib.hid hrr.intsM.ints
      clear hrr
      go_wp2
      go_ret
      exact ⟨Av, cp, rfl, HM.out, HB'.out⟩

theorem wts_ones {n : Nat} (h : n ≤ 40) : wts (ones n) = true := by
  unfold wts
  rw [ones_length, Bool.and_eq_true, List.all_eq_true]
  refine ⟨by simpa using h, fun x hx => ?_⟩
  have : x = 1 := List.eq_of_mem_replicate hx
  subst this; rfl
theorem costC_ones {n s : Nat} (h : n ≤ 40) (hs : s ≤ 8) : costC (ones n) s = 0 := by
  unfold costC
  rw [wts_ones h, inR_yes (by omega) (by omega)]; rfl
theorem lc_ones {n s : Nat} (h : n ≤ 40) (hs : s ≤ 8) : (gc n s < 0 → lcC (ones n) s = 4) ∧ (0 ≤ gc n s → lcC (ones n) s = 0 ∧ lcV (ones n) s = gc n s) := by
  have e : lcost (ones n) 0 (ones n).length ((s : Int)).toNat = gc n s := by rw [ones_length, Int.toNat_natCast]; rfl
  unfold lcC lcV
  rw [costC_ones h hs, e]
  simp only [if_true]
  refine ⟨fun h => by rw [if_pos h], fun h => ?_⟩
  have : ¬ gc n s < 0 := by omega
  rw [if_neg this, if_neg this]; exact ⟨rfl, rfl⟩

/-- what the planned schedule for weights of 1 does -/
theorem adv_ones {n s r : Nat} (hn : n ≤ 40) (hs : s ≤ 8) (hr : r < 41) (h0 : 0 ≤ gc n s) (hu : (n : Int) ≤ ch (s + r) s) (hl : r = 0 ∨ ch (s + r - 1) s < n) :
    bsL (ones n) s = planL (ones n) s n 0 n s false ∧ avC (bsL (ones n) s) n s = 0 ∧ (avL (bsL (ones n) s) n s).length = n ∧ ∀ i, (avL (bsL (ones n) s) n s).getD i 0 ≤ r := by
  have hb : bsL (ones n) s = planL (ones n) s n 0 n s false := by
    unfold bsL
    rw [if_pos ((lc_ones hn hs).2 h0).1, ones_length, Int.toNat_natCast]
  refine ⟨hb, ?_⟩
  rw [hb]
  have hlc : 0 ≤ lcost (ones n) 0 n s := h0
  have hsch : planC (planL (ones n) s n 0 n s false) n s = 0 := by
    unfold planC
    have hlen : (planL (ones n) s n 0 n s false).length ≤ 400 := by
      rcases Nat.eq_zero_or_pos n with rfl | hp
      · simp [planL]
      · have := planL_len (ones n) s n 0 n s false hp (by omega) hlc; omega
    have h1 : isSched (planL (ones n) s n 0 n s false) = true := by
      unfold isSched
      rw [Bool.and_eq_true, List.all_eq_true]
      exact ⟨by simpa using hlen, fun x hx => plan_isSched hn hs n 0 n s false (Nat.le_refl _) (by omega) (Nat.le_refl _) hlc (by omega) x hx⟩
    rw [h1, inR_yes (by omega) (by omega), inR_yes (by omega) (by omega)]; rfl
  rcases Nat.eq_zero_or_pos n with rfl | hp
  · have e : planL (ones 0) s 0 0 0 s false = [] := rfl
    rw [e] at hsch ⊢
    have hv : badV [] ((0 : Nat) : Int).toNat ((s : Int)).toNat < 0 := by
      rw [Int.toNat_natCast, Int.toNat_natCast]; unfold badV badC newC; simp
    unfold avC avL
    rw [hsch]
    simp only [if_true]
    rw [if_pos hv, if_pos hv, Int.toNat_natCast, Int.toNat_natCast]
    refine ⟨rfl, by simp [badC, newC], fun i => ?_⟩
    simp [badC, newC]
  · obtain ⟨X, r1, l1, _, o1, _, v1⟩ := plan_runs n s hn hs n 0 n s r false (newC n s) (by omega) hp (Nat.le_refl _) (Nat.le_refl _) hlc hr (by rw [Nat.sub_zero]; exact hu) (by rw [Nat.sub_zero]; exact hl) rfl rfl (by simp [newC]) (fun h => by cases h)
    have hbad := badC_runs r1 0
    have hv : badV (planL (ones n) s n 0 n s false) ((n : Int)).toNat ((s : Int)).toNat < 0 := by
      rw [Int.toNat_natCast, Int.toNat_natCast]; unfold badV; rw [hbad, l1]; simp
    unfold avC avL
    rw [hsch]
    simp only [if_true]
    rw [if_pos hv, if_pos hv, Int.toNat_natCast, Int.toNat_natCast, hbad]
    refine ⟨rfl, by rw [o1]; simp [newC], fun i => ?_⟩
    have h := v1 i
    have h2 : (newC n s).over.getD i 0 = 0 := by
      simp only [newC, List.getD, List.getElem?_replicate]; split <;> rfl
    rw [h2] at h
    show X.over.getD i 0 ≤ _
    split at h <;> omega

end Go.Proofs.Ytnbpcdcdfkfmiaa
