/- Walks of the program's arithmetic of residues. -/
import Derived.Test.YtdhicgdcjfcomaaB0
import Derived.Test.YtdhicgdcjfcomaaPField
namespace Go.Proofs.Ytdhicgdcjfcomaa
open Go.RowKit Plain

theorem tmod_bd (a : Int) : -1000002 ≤ a.tmod 1000003 ∧ a.tmod 1000003 ≤ 1000002 ∧ (a.tmod 1000003 + 1000003) % 1000003 = rs a := by
  have h := Int.tmod_eq_emod (a := a) (b := 1000003)
  unfold rs
  rw [h]
  split
  · have h1 := Int.emod_nonneg a (b := 1000003) (by omega)
    have h2 := Int.emod_lt_of_pos a (b := 1000003) (by omega)
    omega
  · rename_i hn
    have h1 := Int.emod_nonneg a (b := 1000003) (by omega)
    have h2 := Int.emod_lt_of_pos a (b := 1000003) (by omega)
    have h3 : a % 1000003 ≠ 0 := fun e => hn (.inr (Int.dvd_of_emod_eq_zero e))
    have h4 : ((1000003 : Int).natAbs : Int) = 1000003 := rfl
    rw [h4]
    omega

theorem mul_bd {a b : Int} (ha : 0 ≤ a) (ha' : a ≤ 1000002) (hb : 0 ≤ b) (hb' : b ≤ 1000002) : 0 ≤ a * b ∧ a * b ≤ 1000004000004 := by
  have h1 := Int.mul_nonneg ha hb
  have h2 : a * b ≤ 1000002 * 1000002 := Int.mul_le_mul ha' hb' hb (by omega)
  omega

theorem pw_half_odd {o b : Int} {k : Nat} (hk : k % 2 = 1) : tm o (pw b k) = tm (o * b % 1000003) (pw (b * b % 1000003) (k / 2)) := by
  rw [pw_two_even]
  unfold tm pw
  rw [mulr, mull, mulr]
  congr 1
  have e : k = 2 * (k / 2) + 1 := by omega
  rw [Int.mul_assoc, ← Int.pow_succ', ← e]
theorem pw_half_even {o b : Int} {k : Nat} (hk : k % 2 = 0) : tm o (pw b k) = tm o (pw (b * b % 1000003) (k / 2)) := by
  rw [pw_two_even]
  have e : k = 2 * (k / 2) := by omega
  rw [← e]
theorem tm_one {o : Int} (h : 0 ≤ o) (h' : o ≤ 1000002) (b : Int) : tm o (pw b 0) = o := by
  unfold tm pw; simp; omega

end Go.Proofs.Ytdhicgdcjfcomaa
