/- Walks of RepeatsNeeded and FormulaCost, of the program and of the reference, and of both laws. -/
import Derived.Test.YtnbpcdcdfkfmiaaWReach
import Derived.Test.YtnbpcdcdfkfmiaaPRepeats
namespace Go.Proofs.Ytnbpcdcdfkfmiaa
open Go.RowKit Plain

/-- what RepeatsNeeded returns -/
def repsV (n s : Int) : Int := if inR s 0 8 && inR n 0 40 then (if repV n s < 0 then 0 else repV n s) else 0
def repsC (n s : Int) : Int := if inR s 0 8 && inR n 0 40 then (if repV n s < 0 then 4 else 0) else 2

set_option maxHeartbeats 400000 in
theorem repS_in (n s : Int) (w : World) (hs : inR s 0 8 = true) (hn : inR n 0 40 = true) :
    Calls Try.prog 10 #[.int .i64 n, .int .i64 s] w fun e w' => e = .returned (.tuple #[.int .i64 (repsV n s), .int .i64 (repsC n s)]) ∧ w = w' := by
  have HV : Hid (repsV n s = (if repV n s < 0 then 0 else repV n s) ∧ repsC n s = (if repV n s < 0 then 4 else 0)) := by show _ ∧ _; simp [repsV, repsC, hs, hn]
  have b1 := inR_true.1 hs
  have H := Lib.hid hs; clear hs
  have H2 := Lib.hid hn; clear hn
  go_enter Try.func10, Try.ntmps10
  go_wp2_with fail
  refine (in_b true _ _ _ H.out _).mono ?_; rintro e w' ⟨rfl, rfl⟩
  go_wp2_with fail
  refine (in_b true _ _ _ H2.out _).mono ?_; rintro e w' ⟨rfl, rfl⟩
  go_wp2_with fail
  go_loop [6] (fun i => ∃ j : Nat, j ≤ 41 ∧ i = .int .i64 (j : Int) ∧ Hid (repV n s = rep n s (41 - j) j)) (fun i => (41 - intOf i).toNat)
  case atStart => exact ⟨0, by omega, by go_num, rfl⟩
  case round =>
    obtain ⟨j, hj, rfl, HR⟩ := hrel
    by_cases hlt : (j : Int) ≤ 40
    · have HS : Hid (rep n s (41 - j) j = if chooseS (s + j) s ≥ n then (j : Int) else rep n s (41 - (j + 1)) (j + 1)) := by
        show _ = _
        rw [show 41 - j = (41 - (j + 1)) + 1 by omega]; rfl
      go_wp2_with (go_at_call 36; refine (chooseS_any _ _ _ (by omega) (by omega) (by omega) (by omega)).mono ?_; rintro e w' ⟨rfl, rfl⟩)
      · have hc : n ≤ chooseS (s + j) s := by assumption
        go_ret2
        have e1 : repV n s = (j : Int) := by rw [HR.out, HS.out, if_pos hc]
        exact ⟨by rw [HV.out.1, HV.out.2, if_neg (by omega), if_neg (by omega), e1]; rfl, rfl⟩
      · have hc : ¬ n ≤ chooseS (s + j) s := by omega
        go_round
        case rel => exact ⟨j + 1, by omega, by go_num, by show _ = _; rw [HR.out, HS.out, if_neg hc]⟩
        case measure => simp [intOf]; omega
    · obtain rfl : j = 41 := by omega
      go_wp2
      go_ret2
      have e1 : repV n s = -1 := HR.out
      exact ⟨by rw [HV.out.1, HV.out.2, if_pos (by omega), if_pos (by omega)]; rfl, rfl⟩

set_option maxHeartbeats 400000 in
theorem repS_any (n s : Int) (w : World) :
    Calls Try.prog 10 #[.int .i64 n, .int .i64 s] w fun e w' => e = .returned (.tuple #[.int .i64 (repsV n s), .int .i64 (repsC n s)]) ∧ w = w' := by
  cases hs : inR s 0 8
  · have HV : Hid (repsV n s = 0 ∧ repsC n s = 2) := by show _ ∧ _; simp [repsV, repsC, hs]
    have H := Lib.hid hs; clear hs
    go_enter Try.func10, Try.ntmps10
    go_wp2_with (go_at_call 35; refine (in_b false _ _ _ H.out _).mono ?_; rintro e w' ⟨rfl, rfl⟩)
    go_ret2
    exact ⟨by rw [HV.out.1, HV.out.2]; rfl, rfl⟩
  · cases hn : inR n 0 40
    · have HV : Hid (repsV n s = 0 ∧ repsC n s = 2) := by show _ ∧ _; simp [repsV, repsC, hs, hn]
      have H := Lib.hid hs; clear hs
      have H2 := Lib.hid hn; clear hn
      go_enter Try.func10, Try.ntmps10
      go_wp2_with fail
      refine (in_b true _ _ _ H.out _).mono ?_; rintro e w' ⟨rfl, rfl⟩
      go_wp2_with fail
      refine (in_b false _ _ _ H2.out _).mono ?_; rintro e w' ⟨rfl, rfl⟩
      go_wp2
      go_ret2
      exact ⟨by rw [HV.out.1, HV.out.2]; rfl, rfl⟩
    · exact repS_in n s w hs hn

set_option maxHeartbeats 400000 in
theorem repI_in (n s : Int) (w : World) (hs : inR s 0 8 = true) (hn : inR n 0 40 = true) :
    Calls Try.prog 9 #[.int .i64 n, .int .i64 s] w fun e w' => e = .returned (.tuple #[.int .i64 (repsV n s), .int .i64 (repsC n s)]) ∧ w = w' := by
  have HV : Hid (repsV n s = (if repV n s < 0 then 0 else repV n s) ∧ repsC n s = (if repV n s < 0 then 4 else 0)) := by show _ ∧ _; simp [repsV, repsC, hs, hn]
  have b1 := inR_true.1 hs
  have H := Lib.hid hs; clear hs
  have H2 := Lib.hid hn; clear hn
  go_enter Try.func9, Try.ntmps9
  go_wp2_with fail
  refine (areSlots_b true _ H.out _).mono ?_; rintro e w' ⟨rfl, rfl⟩
  go_wp2_with fail
  refine (areSteps_b true _ H2.out _).mono ?_; rintro e w' ⟨rfl, rfl⟩
  go_wp2_with fail
  go_loop [6] (fun i => ∃ j : Nat, j ≤ 41 ∧ i = .int .i64 (j : Int) ∧ Hid (repV n s = rep n s (41 - j) j)) (fun i => (41 - intOf i).toNat)
  case atStart => exact ⟨0, by omega, by go_num, rfl⟩
  case round =>
    obtain ⟨j, hj, rfl, HR⟩ := hrel
    by_cases hlt : (j : Int) ≤ 40
    · have HS : Hid (rep n s (41 - j) j = if chooseS (s + j) s ≥ n then (j : Int) else rep n s (41 - (j + 1)) (j + 1)) := by
        show _ = _
        rw [show 41 - j = (41 - (j + 1)) + 1 by omega]; rfl
      go_wp2_with (go_at_call 34; refine (ways_any _ _ _ (by omega) (by omega) (by omega) (by omega)).mono ?_; rintro e w' ⟨rfl, rfl⟩)
      · have hc : n ≤ chooseS (s + j) s := by assumption
        go_ret2
        have e1 : repV n s = (j : Int) := by rw [HR.out, HS.out, if_pos hc]
        exact ⟨by rw [HV.out.1, HV.out.2, if_neg (by omega), if_neg (by omega), e1]; rfl, rfl⟩
      · have hc : ¬ n ≤ chooseS (s + j) s := by omega
        go_round
        case rel => exact ⟨j + 1, by omega, by go_num, by show _ = _; rw [HR.out, HS.out, if_neg hc]⟩
        case measure => simp [intOf]; omega
    · obtain rfl : j = 41 := by omega
      go_wp2
      go_ret2
      have e1 : repV n s = -1 := HR.out
      exact ⟨by rw [HV.out.1, HV.out.2, if_pos (by omega), if_pos (by omega)]; rfl, rfl⟩

set_option maxHeartbeats 400000 in
theorem repI_any (n s : Int) (w : World) :
    Calls Try.prog 9 #[.int .i64 n, .int .i64 s] w fun e w' => e = .returned (.tuple #[.int .i64 (repsV n s), .int .i64 (repsC n s)]) ∧ w = w' := by
  cases hs : inR s 0 8
  · have HV : Hid (repsV n s = 0 ∧ repsC n s = 2) := by show _ ∧ _; simp [repsV, repsC, hs]
    have H := Lib.hid hs; clear hs
    go_enter Try.func9, Try.ntmps9
    go_wp2_with (go_at_call 32; refine (areSlots_b false _ H.out _).mono ?_; rintro e w' ⟨rfl, rfl⟩)
    go_ret2
    exact ⟨by rw [HV.out.1, HV.out.2]; rfl, rfl⟩
  · cases hn : inR n 0 40
    · have HV : Hid (repsV n s = 0 ∧ repsC n s = 2) := by show _ ∧ _; simp [repsV, repsC, hs, hn]
      have H := Lib.hid hs; clear hs
      have H2 := Lib.hid hn; clear hn
      go_enter Try.func9, Try.ntmps9
      go_wp2_with fail
      refine (areSlots_b true _ H.out _).mono ?_; rintro e w' ⟨rfl, rfl⟩
      go_wp2_with fail
      refine (areSteps_b false _ H2.out _).mono ?_; rintro e w' ⟨rfl, rfl⟩
      go_wp2
      go_ret2
      exact ⟨by rw [HV.out.1, HV.out.2]; rfl, rfl⟩
    · exact repI_in n s w hs hn

theorem reps_of_ok (n s : Int) (h : repsC n s = 0) : 0 ≤ s ∧ s ≤ 8 ∧ 0 ≤ n ∧ n ≤ 40 ∧ 0 ≤ repsV n s ∧ repsV n s ≤ 40 := by
  have hb := rep_bd n s 41 0
  change -1 ≤ repV n s ∧ repV n s < _ at hb
  unfold repsC at h; unfold repsV
  cases hs : inR s 0 8
  · simp [hs] at h
  · cases hn : inR n 0 40
    · simp [hs, hn] at h
    · have b1 := inR_true.1 hs
      have b2 := inR_true.1 hn
      simp only [hs, hn, Bool.and_self, if_true] at h ⊢
      split at h
      · omega
      · rename_i hq
        rw [if_neg hq]; omega

def costV (n s : Int) : Int := if repsC n s = 0 then wrap64 (repsV n s * n - chooseS (s + repsV n s) (s + 1)) else 0

set_option maxHeartbeats 400000 in
theorem costS_any (n s : Int) (w : World) :
    Calls Try.prog 12 #[.int .i64 n, .int .i64 s] w fun e w' => e = .returned (.tuple #[.int .i64 (costV n s), .int .i64 (repsC n s)]) ∧ w = w' := by
  by_cases h : repsC n s = 0
  · have HV : Hid (costV n s = wrap64 (repsV n s * n - chooseS (s + repsV n s) (s + 1)) ∧ repsC n s = 0) := by show _ ∧ _; simp [costV, h]
    obtain ⟨b1, b2, b3, b4, b5, b6⟩ := reps_of_ok n s h
    have hp : 0 ≤ repsV n s * n ∧ repsV n s * n ≤ 1600 := by
      constructor
      · exact Int.mul_nonneg b5 b3
      · exact Int.le_trans (Int.mul_le_mul b6 b4 b3 (by omega)) (by omega)
    have hd : (repsC n s == 0) = true := by simp [h]
    clear h
    go_enter Try.func12, Try.ntmps12
    go_wp2_with fail
    refine (repS_any _ _ _).mono ?_; rintro e w' ⟨rfl, rfl⟩
    go_wp2_with fail
    refine (chooseS_any _ _ _ (by omega) (by omega) (by omega) (by omega)).mono ?_; rintro e w' ⟨rfl, rfl⟩
    go_wp2
    go_ret2
    exact ⟨by rw [HV.out.1, HV.out.2]; first | rfl | simp, rfl⟩
  · have HV : Hid (costV n s = 0) := by show _ = _; simp [costV, h]
    have hd : (repsC n s == 0) = false := by simp [h]
    go_enter Try.func12, Try.ntmps12
    go_wp2_with fail
    refine (repS_any _ _ _).mono ?_; rintro e w' ⟨rfl, rfl⟩
    go_wp2
    go_ret2
    exact ⟨by rw [HV.out]; rfl, rfl⟩

set_option maxHeartbeats 400000 in
theorem costI_any (n s : Int) (w : World) :
    Calls Try.prog 11 #[.int .i64 n, .int .i64 s] w fun e w' => e = .returned (.tuple #[.int .i64 (costV n s), .int .i64 (repsC n s)]) ∧ w = w' := by
  by_cases h : repsC n s = 0
  · have HV : Hid (costV n s = wrap64 (repsV n s * n - chooseS (s + repsV n s) (s + 1)) ∧ repsC n s = 0) := by show _ ∧ _; simp [costV, h]
    obtain ⟨b1, b2, b3, b4, b5, b6⟩ := reps_of_ok n s h
    have hp : 0 ≤ repsV n s * n ∧ repsV n s * n ≤ 1600 := by
      constructor
      · exact Int.mul_nonneg b5 b3
      · exact Int.le_trans (Int.mul_le_mul b6 b4 b3 (by omega)) (by omega)
    have hd : (repsC n s == 0) = true := by simp [h]
    clear h
    go_enter Try.func11, Try.ntmps11
    go_wp2_with fail
    refine (repI_any _ _ _).mono ?_; rintro e w' ⟨rfl, rfl⟩
    go_wp2_with fail
    refine (ways_any _ _ _ (by omega) (by omega) (by omega) (by omega)).mono ?_; rintro e w' ⟨rfl, rfl⟩
    go_wp2
    go_ret2
    exact ⟨by rw [HV.out.1, HV.out.2]; first | rfl | simp, rfl⟩
  · have HV : Hid (costV n s = 0) := by show _ = _; simp [costV, h]
    have hd : (repsC n s == 0) = false := by simp [h]
    go_enter Try.func11, Try.ntmps11
    go_wp2_with fail
    refine (repI_any _ _ _).mono ?_; rintro e w' ⟨rfl, rfl⟩
    go_wp2
    go_ret2
    exact ⟨by rw [HV.out]; rfl, rfl⟩

end Go.Proofs.Ytnbpcdcdfkfmiaa
