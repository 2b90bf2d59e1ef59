/- Plain: derivatives, integrals, exponentials and logarithms of series. No program is named here. -/
import Derived.Test.YtbgjbppjnmolfaaPSeriesLaw
namespace Go.Proofs.Ytbgjbppjnmolfaa.Plain

/-- the derivative -/
def dvL (a : List Int) : List Int := mk a.length fun k => if k + 1 < a.length then tm ((k + 1 : Nat) : Int) (cf a (k + 1)) else 0
/-- the integral -/
def itL (a : List Int) : List Int := mk a.length fun k => if k = 0 then 0 else tm (cf a (k - 1)) (iv (k : Int))
/-- the coefficients of the exponential series -/
def expT (a : List Int) : Nat → List Int
  | 0 => []
  | k + 1 => expT a k ++ [if k = 0 then 1 else tm (rs (sumN (fun i => tm ((i + 1 : Nat) : Int) (cf a (i + 1)) * cf (expT a k) (k - (i + 1))) k)) (iv (k : Int))]
/-- the exponential series -/
def expL (a : List Int) : List Int := expT a a.length
/-- the logarithm -/
def logL (a : List Int) : List Int := itL (divL (dvL a) a)

theorem dvL_length (a : List Int) : (dvL a).length = a.length := mk_length _ _
theorem itL_length (a : List Int) : (itL a).length = a.length := mk_length _ _
theorem expT_length (a : List Int) (k : Nat) : (expT a k).length = k := by
  induction k with
  | zero => rfl
  | succ k ih => simp [expT, ih]
theorem expL_length (a : List Int) : (expL a).length = a.length := expT_length _ _
theorem isS_dv (a : List Int) : IsS (dvL a) := IsS.mk_ fun k => by
  split
  · exact tm_bd _ _
  · omega
theorem isS_it (a : List Int) : IsS (itL a) := IsS.mk_ fun k => by
  split
  · omega
  · exact tm_bd _ _
theorem expT_cf (a : List Int) (k j : Nat) (h : j < k) : cf (expT a (k + 1)) j = cf (expT a k) j := by
  have hl := expT_length a k
  simp only [cf, List.getD, expT]
  rw [List.getElem?_append_left (by omega)]
theorem expT_cf' (a : List Int) (k m j : Nat) (h : j < k) (hm : k ≤ m) : cf (expT a m) j = cf (expT a k) j := by
  induction m with
  | zero => omega
  | succ m ih =>
    by_cases e : k = m + 1
    · rw [e]
    · rw [expT_cf a m j (by omega), ih (by omega)]
theorem expT_last (a : List Int) (k : Nat) : cf (expT a (k + 1)) k = if k = 0 then 1 else tm (rs (sumN (fun i => tm ((i + 1 : Nat) : Int) (cf a (i + 1)) * cf (expT a k) (k - (i + 1))) k)) (iv (k : Int)) := by
  have hl := expT_length a k
  simp only [cf, List.getD]
  rw [expT, List.getElem?_append_right (by omega)]
  simp [hl, cf, List.getD]
/-- the terms of a coefficient of the exponential series -/
def expS (a : List Int) (k j : Nat) : Int := sumN (fun i => tm ((i + 1 : Nat) : Int) (cf a (i + 1)) * cf (expL a) (k - (i + 1))) j
theorem expL_cf (a : List Int) {k : Nat} (h : k < a.length) : cf (expL a) k = if k = 0 then 1 else tm (rs (expS a k k)) (iv (k : Int)) := by
  unfold expL
  rw [expT_cf' a (k + 1) a.length k (by omega) (by omega), expT_last]
  split
  · rfl
  · unfold expS
    congr 2
    exact sumN_congr _ fun i hi => by unfold expL; rw [expT_cf' a k a.length (k - (i + 1)) (by omega) (by omega)]
theorem isS_expT (a : List Int) (k : Nat) : IsS (expT a k) := by
  induction k with
  | zero => intro k; rw [cf_big (by simp [expT])]; omega
  | succ k ih =>
    intro j
    rcases Nat.lt_trichotomy j k with h | rfl | h
    · rw [expT_cf a k j h]; exact ih j
    · rw [expT_last]; split
      · omega
      · exact tm_bd _ _
    · rw [cf_big (by rw [expT_length]; omega)]; omega
theorem isS_exp (a : List Int) : IsS (expL a) := isS_expT _ _
theorem logL_length (a : List Int) : (logL a).length = a.length := by unfold logL; rw [itL_length, divL_length, dvL_length]
theorem isS_log (a : List Int) : IsS (logL a) := isS_it _

end Go.Proofs.Ytbgjbppjnmolfaa.Plain
