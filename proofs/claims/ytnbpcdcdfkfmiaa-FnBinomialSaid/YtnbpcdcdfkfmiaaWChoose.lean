/- Walks of within, l00In, ways, l06Choose: what these small functions return. -/
import Derived.Test.YtnbpcdcdfkfmiaaB0
import Derived.Test.YtnbpcdcdfkfmiaaPChoose
namespace Go.Proofs.Ytnbpcdcdfkfmiaa
open Go.RowKit Plain

theorem in_any (n lo hi : Int) (w : World) :
    Calls Try.prog 35 #[.int .i64 n, .int .i64 lo, .int .i64 hi] w fun e w' => e = .returned (.bool (inR n lo hi)) ∧ w = w' := by
  by_cases h1 : lo ≤ n
  · go_enter Try.func35, Try.ntmps35
    go_wp2
    all_goals (go_ret; exact ⟨by simp [inR, *], rfl⟩)
  · go_enter Try.func35, Try.ntmps35
    go_wp2
    all_goals (go_ret; exact ⟨by rw [show inR n lo hi = false from inR_false.2 (by omega)]; rfl, rfl⟩)

theorem within_any (n lo hi : Int) (w : World) :
    Calls Try.prog 60 #[.int .i64 n, .int .i64 lo, .int .i64 hi] w fun e w' => e = .returned (.bool (inR n lo hi)) ∧ w = w' := by
  by_cases h1 : lo ≤ n
  · go_enter Try.func60, Try.ntmps60
    go_wp2
    all_goals (go_ret; exact ⟨by simp [inR, *], rfl⟩)
  · go_enter Try.func60, Try.ntmps60
    go_wp2
    all_goals (go_ret; exact ⟨by rw [show inR n lo hi = false from inR_false.2 (by omega)]; rfl, rfl⟩)

theorem areSlots_any (n : Int) (w : World) :
    Calls Try.prog 32 #[.int .i64 n] w fun e w' => e = .returned (.bool (inR n 0 8)) ∧ w = w' := by
  go_enter Try.func32, Try.ntmps32
  go_wp2_with (go_at_call 60; refine (within_any _ _ _ _).mono ?_; rintro e w' ⟨rfl, rfl⟩)
  go_ret
  exact ⟨rfl, rfl⟩

theorem areSteps_any (n : Int) (w : World) :
    Calls Try.prog 33 #[.int .i64 n] w fun e w' => e = .returned (.bool (inR n 0 40)) ∧ w = w' := by
  go_enter Try.func33, Try.ntmps33
  go_wp2_with (go_at_call 60; refine (within_any _ _ _ _).mono ?_; rintro e w' ⟨rfl, rfl⟩)
  go_ret
  exact ⟨rfl, rfl⟩

set_option maxHeartbeats 400000 in
theorem chooseS_any (n k : Int) (w : World) (hn : 0 ≤ n) (hn' : n ≤ 48) (hk : 0 ≤ k) (hk' : k ≤ 9) :
    Calls Try.prog 36 #[.int .i64 n, .int .i64 k] w fun e w' => e = .returned (.int .i64 (chooseS n k)) ∧ w = w' := by
  by_cases h : k ≤ n
  · have HF : Hid (chooseS n k = chS n k k.toNat) := by show _ = _; unfold chooseS; rw [if_neg (by omega)]
    go_enter Try.func36, Try.ntmps36
    go_wp2
    go_loop [5, 6] (fun o i => ∃ j : Nat, (j : Int) ≤ k ∧ i = .int .i64 ((j : Int) + 1) ∧ o = .int .i64 (chS n k j)) (fun _ i => (k - intOf i + 1).toNat)
    case atStart => exact ⟨0, by omega, by go_num, rfl⟩
    case round =>
      obtain ⟨j, hj, rfl, rfl⟩ := hrel
      have hb := chS_bd n k j hn hn' hk hk' h hj
      by_cases hlt : (j : Int) + 1 ≤ k
      · have hm : 0 ≤ chS n k j * (n - k + ((j : Int) + 1)) ∧ chS n k j * (n - k + ((j : Int) + 1)) ≤ 98000000000 := by
          constructor
          · exact Int.mul_nonneg hb.1 (by omega)
          · exact Int.le_trans (Int.mul_le_mul hb.2 (show n - k + ((j : Int) + 1) ≤ 48 by omega) (by omega) (by omega)) (by omega)
        have hs : Hid (chS n k (j + 1) = chS n k j * (n - k + ((j : Int) + 1)) / ((j : Int) + 1)) := rfl
        go_wp2
        go_round
        case rel => exact ⟨j + 1, by omega, by go_num, by rw [hs.out]⟩
        case measure => simp [intOf]; omega
      · go_wp2
        go_ret
        exact ⟨ret_int (by rw [HF.out]; congr 1; omega), rfl⟩
  · have HF : Hid (chooseS n k = 0) := by show _ = _; unfold chooseS; rw [if_pos (by omega)]
    go_enter Try.func36, Try.ntmps36
    go_wp2
    go_ret
    exact ⟨ret_int HF.out.symm, rfl⟩

set_option maxHeartbeats 400000 in
theorem ways_any (n k : Int) (w : World) (hn : 0 ≤ n) (hn' : n ≤ 48) (hk : 0 ≤ k) (hk' : k ≤ 9) :
    Calls Try.prog 34 #[.int .i64 n, .int .i64 k] w fun e w' => e = .returned (.int .i64 (chooseS n k)) ∧ w = w' := by
  have HE : Hid (chooseS n k = chooseI n k) := choose_eq n k hn hn' hk hk'
  by_cases h : k ≤ n
  · have HF : Hid (chooseI n k = chI n k.toNat) := by show _ = _; unfold chooseI; rw [if_neg (by omega)]
    go_enter Try.func34, Try.ntmps34
    go_wp2
    go_loop [5, 6, 15] (fun o _ i => ∃ j : Nat, (j : Int) ≤ k ∧ i = .int .i64 (j : Int) ∧ o = .int .i64 (chI n j)) (fun _ _ i => (k - intOf i).toNat)
    case atStart => exact ⟨0, by omega, by go_num, rfl⟩
    case round =>
      obtain ⟨j, hj, rfl, rfl⟩ := hrel
      have hb := chI_bd n k j hn hn' hk hk' h hj
      by_cases hlt : (j : Int) < k
      · have hm : 0 ≤ chI n j * (n - (j : Int)) ∧ chI n j * (n - (j : Int)) ≤ 98000000000 := by
          constructor
          · exact Int.mul_nonneg hb.1 (by omega)
          · exact Int.le_trans (Int.mul_le_mul hb.2 (show n - (j : Int) ≤ 48 by omega) (by omega) (by omega)) (by omega)
        have hs : Hid (chI n (j + 1) = chI n j * (n - (j : Int)) / ((j : Int) + 1)) := rfl
        go_wp2
        go_round
        case rel => exact ⟨j + 1, by omega, by go_num, by rw [hs.out]⟩
        case measure => simp [intOf]; omega
      · go_wp2
        go_ret
        exact ⟨ret_int (by rw [HE.out, HF.out]; congr 1; omega), rfl⟩
  · have HF : Hid (chooseI n k = 0) := by show _ = _; unfold chooseI; rw [if_pos (by omega)]
    go_enter Try.func34, Try.ntmps34
    go_wp2
    go_ret
    exact ⟨ret_int (by rw [HE.out, HF.out]), rfl⟩

end Go.Proofs.Ytnbpcdcdfkfmiaa
