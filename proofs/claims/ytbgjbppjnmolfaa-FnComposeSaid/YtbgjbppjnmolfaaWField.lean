/- Walks of the program's arithmetic of residues. -/
import Derived.Test.YtbgjbppjnmolfaaB0
import Derived.Test.YtbgjbppjnmolfaaPField
namespace Go.Proofs.Ytbgjbppjnmolfaa
open Go.RowKit Plain

theorem tmod_bd (a : Int) : -1000002 ≤ a.tmod 1000003 ∧ a.tmod 1000003 ≤ 1000002 ∧ (a.tmod 1000003 + 1000003) % 1000003 = rs a := by
  have h := Int.tmod_eq_emod (a := a) (b := 1000003)
  unfold rs
  rw [h]
  split
  · have h1 := Int.emod_nonneg a (b := 1000003) (by omega)
    have h2 := Int.emod_lt_of_pos a (b := 1000003) (by omega)
    omega
  · rename_i hn
    have h1 := Int.emod_nonneg a (b := 1000003) (by omega)
    have h2 := Int.emod_lt_of_pos a (b := 1000003) (by omega)
    have h3 : a % 1000003 ≠ 0 := fun e => hn (.inr (Int.dvd_of_emod_eq_zero e))
    have h4 : ((1000003 : Int).natAbs : Int) = 1000003 := rfl
    rw [h4]
    omega

theorem residue_any (a : Int) (w : World) : Calls Try.prog 12 #[.int .i64 a] w fun e w' => e = .returned (.int .i64 (rs a)) ∧ w = w' := by
  obtain ⟨h1, h2, h3⟩ := tmod_bd a
  have H3 := Lib.hid h3; clear h3
  go_enter Try.func12, Try.ntmps12
  go_wp2
  go_ret
  exact ⟨ret_int H3.out, rfl⟩

theorem mul_bd {a b : Int} (ha : 0 ≤ a) (ha' : a ≤ 1000002) (hb : 0 ≤ b) (hb' : b ≤ 1000002) : 0 ≤ a * b ∧ a * b ≤ 1000004000004 := by
  have h1 := Int.mul_nonneg ha hb
  have h2 : a * b ≤ 1000002 * 1000002 := Int.mul_le_mul ha' hb' hb (by omega)
  omega

theorem plus_any (a b : Int) (w : World) : Calls Try.prog 9 #[.int .i64 a, .int .i64 b] w fun e w' => e = .returned (.int .i64 (pl a b)) ∧ w = w' := by
  have ha := rs_bd a
  have hb := rs_bd b
  have H := Lib.hid (pl_rs a b)
  go_enter Try.func9, Try.ntmps9
  go_wp2_with fail
  refine (residue_any a _).mono ?_; rintro e w' ⟨rfl, rfl⟩
  go_wp2_with fail
  refine (residue_any b _).mono ?_; rintro e w' ⟨rfl, rfl⟩
  generalize rs a = x at *
  generalize rs b = y at *
  go_wp2
  go_ret
  exact ⟨ret_int H.out, rfl⟩

theorem times_any (a b : Int) (w : World) : Calls Try.prog 10 #[.int .i64 a, .int .i64 b] w fun e w' => e = .returned (.int .i64 (tm a b)) ∧ w = w' := by
  have ha := rs_bd a
  have hb := rs_bd b
  have hm := mul_bd ha.1 ha.2 hb.1 hb.2
  have H := Lib.hid (tm_rs a b)
  go_enter Try.func10, Try.ntmps10
  go_wp2_with fail
  refine (residue_any a _).mono ?_; rintro e w' ⟨rfl, rfl⟩
  go_wp2_with fail
  refine (residue_any b _).mono ?_; rintro e w' ⟨rfl, rfl⟩
  generalize rs a = x at *
  generalize rs b = y at *
  go_wp2
  go_ret
  exact ⟨ret_int H.out, rfl⟩

theorem pw_half_odd {o b : Int} {k : Nat} (hk : k % 2 = 1) : tm o (pw b k) = tm (o * b % 1000003) (pw (b * b % 1000003) (k / 2)) := by
  rw [pw_two_even]
  unfold tm pw
  rw [mulr, mull, mulr]
  congr 1
  have e : k = 2 * (k / 2) + 1 := by omega
  rw [Int.mul_assoc, ← Int.pow_succ', ← e]
theorem pw_half_even {o b : Int} {k : Nat} (hk : k % 2 = 0) : tm o (pw b k) = tm o (pw (b * b % 1000003) (k / 2)) := by
  rw [pw_two_even]
  have e : k = 2 * (k / 2) := by omega
  rw [← e]
theorem tm_one {o : Int} (h : 0 ≤ o) (h' : o ≤ 1000002) (b : Int) : tm o (pw b 0) = o := by
  unfold tm pw; simp; omega

set_option maxHeartbeats 400000 in
theorem power_any (a : Int) (n : Nat) (w : World) (hn : n ≤ 4611686018427387904) : Calls Try.prog 13 #[.int .i64 a, .int .i64 n] w fun e w' => e = .returned (.int .i64 (pw a n)) ∧ w = w' := by
  have ha := rs_bd a
  have HP := Lib.hid (pw_rs a n)
  go_enter Try.func13, Try.ntmps13
  go_wp2_with fail
  refine (residue_any a _).mono ?_; rintro e w' ⟨rfl, rfl⟩
  generalize rs a = x at *
  go_wp2_with fail
  go_loop [1, 5, 6] (fun nn o b => ∃ (k : Nat) (oo bb : Int), k ≤ n ∧ nn = .int .i64 (k : Int) ∧ o = .int .i64 oo ∧ b = .int .i64 bb ∧ 0 ≤ oo ∧ oo ≤ 1000002 ∧ 0 ≤ bb ∧ bb ≤ 1000002 ∧ Hid (pw x n = tm oo (pw bb k))) (fun nn _ _ => (intOf nn).toNat)
  case atStart => exact ⟨n, 1, x, by omega, rfl, rfl, rfl, by omega, by omega, ha.1, ha.2, by show _ = _; unfold tm pw; rw [Int.one_mul, Int.emod_emod]⟩
  case round =>
    obtain ⟨k, oo, bb, hk, rfl, rfl, rfl, o0, o1, b0, b1, HE⟩ := hrel
    have m1 := mul_bd o0 o1 b0 b1
    have m2 := mul_bd b0 b1 b0 b1
    by_cases hlt : 0 < k
    · by_cases h2 : k % 2 = 1
      · have hd : ((k : Int) % 2 == 1) = true := by simp; omega
        have HS := Lib.hid (pw_half_odd (o := oo) (b := bb) h2)
        go_wp2
        go_round
        case rel => exact ⟨k / 2, oo * bb % 1000003, bb * bb % 1000003, by omega, by go_num, rfl, rfl, by omega, by omega, by omega, by omega, by show _ = _; rw [HE.out, HS.out]⟩
        case measure => simp [intOf]; omega
      · have hd : ((k : Int) % 2 == 1) = false := by simp; omega
        have HS := Lib.hid (pw_half_even (o := oo) (b := bb) (show k % 2 = 0 by omega))
        go_wp2
        go_round
        case rel => exact ⟨k / 2, oo, bb * bb % 1000003, by omega, by go_num, rfl, rfl, by omega, by omega, by omega, by omega, by show _ = _; rw [HE.out, HS.out]⟩
        case measure => simp [intOf]; omega
    · obtain rfl : k = 0 := by omega
      have HF := Lib.hid (tm_one o0 o1 bb)
      go_wp2
      go_ret
      exact ⟨ret_int (by rw [← HP.out, HE.out, HF.out]), rfl⟩

theorem inverse_any (a : Int) (w : World) : Calls Try.prog 31 #[.int .i64 a] w fun e w' => e = .returned (.int .i64 (iv a)) ∧ w = w' := by
  go_enter Try.func31, Try.ntmps31
  go_wp2_with fail
  refine (power_any a 1000001 _ (by omega)).mono ?_; rintro e w' ⟨rfl, rfl⟩
  go_wp2
  go_ret
  exact ⟨rfl, rfl⟩

theorem inverseI_any (a : Int) (w : World) : Calls Try.prog 11 #[.int .i64 a] w fun e w' => e = .returned (.tuple #[.int .i64 (if rs a = 0 then 0 else iv a), .int .i64 (if rs a = 0 then 6 else 0)]) ∧ w = w' := by
  by_cases h : rs a = 0
  · have H := Lib.hid h
    rw [if_pos h, if_pos h]
    clear h
    go_enter Try.func11, Try.ntmps11
    go_wp2_with fail
    refine (residue_any a _).mono ?_; rintro e w' ⟨rfl, rfl⟩
    rw [H.out]
    go_wp2
    go_ret2
    exact ⟨rfl, rfl⟩
  · have hb : (rs a == 0) = false := by simpa using h
    rw [if_neg h, if_neg h]
    clear h
    go_enter Try.func11, Try.ntmps11
    go_wp2_with fail
    refine (residue_any a _).mono ?_; rintro e w' ⟨rfl, rfl⟩
    go_wp2_with fail
    refine (inverse_any a _).mono ?_; rintro e w' ⟨rfl, rfl⟩
    go_wp2
    go_ret2
    exact ⟨rfl, rfl⟩

end Go.Proofs.Ytbgjbppjnmolfaa
