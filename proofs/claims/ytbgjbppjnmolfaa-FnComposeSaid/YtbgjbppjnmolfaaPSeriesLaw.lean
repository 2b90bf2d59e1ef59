/- Plain: series are a ring in which a quotient times its divisor is the dividend. No program is named here. -/
import Derived.Test.YtbgjbppjnmolfaaPSeries
namespace Go.Proofs.Ytbgjbppjnmolfaa.Plain

theorem sumN_split (f : Nat → Int) (m n : Nat) : sumN f (m + n) = sumN f m + sumN (fun k => f (m + k)) n := by
  induction n with
  | zero => simp [sumN]
  | succ n ih => rw [← Nat.add_assoc]; simp only [sumN]; rw [ih]; omega
theorem sumN_rev (f : Nat → Int) : ∀ n : Nat, sumN (fun i => f (n - 1 - i)) n = sumN f n := by
  intro n
  induction n generalizing f with
  | zero => rfl
  | succ n ih =>
    rw [sumN_head]
    have h := ih f
    show f (n + 1 - 1 - 0) + sumN (fun k => f (n + 1 - 1 - (k + 1))) n = sumN f n + f n
    rw [show n + 1 - 1 - 0 = n by omega]
    have e : sumN (fun k => f (n + 1 - 1 - (k + 1))) n = sumN (fun i => f (n - 1 - i)) n := sumN_congr _ fun k hk => by rw [show n + 1 - 1 - (k + 1) = n - 1 - k by omega]
    rw [e, h]; omega
/-- sums that agree mod the modulus -/
theorem sumN_mod {f g : Nat → Int} (n : Nat) (h : ∀ k, k < n → rs (f k) = rs (g k)) : rs (sumN f n) = rs (sumN g n) := by
  induction n with
  | zero => rfl
  | succ n ih =>
    have h1 := ih fun k hk => h k (by omega)
    have h2 := h n (by omega)
    simp only [sumN]
    unfold rs at *
    omega
theorem rs_mul_right (a b : Int) : rs (a * rs b) = rs (a * b) := mulr a b
theorem rs_mul_left (a b : Int) : rs (rs a * b) = rs (a * b) := mull a b

theorem conv_comm (a b : List Int) (k : Nat) : mulT a b k (k + 1) = mulT b a k (k + 1) := by
  unfold mulT
  rw [← sumN_rev]
  refine sumN_congr _ fun i hi => ?_
  rw [show k + 1 - 1 - i = k - i by omega, show k - (k - i) = i by omega, Int.mul_comm]
theorem mulL_comm {a b : List Int} (h : a.length = b.length) : mulL a b = mulL b a := by
  unfold mulL; rw [h]; exact mk_congr fun k _ => by rw [conv_comm]

theorem ring_dist {a b c : List Int} (hb : b.length = a.length) (hc : c.length = a.length) : mulL a (addL b c) = addL (mulL c a) (mulL a b) := by
  have e : mulL c a = mulL a c := mulL_comm hc
  rw [e]
  unfold mulL
  unfold addL
  rw [mk_length]
  refine mk_congr fun k hk => ?_
  rw [cf_mk hk, cf_mk hk]
  have h1 : rs (mulT a (mk b.length fun k => pl (cf b k) (cf c k)) k (k + 1)) = rs (sumN (fun i => cf a i * cf b (k - i) + cf a i * cf c (k - i)) (k + 1)) := by
    unfold mulT
    refine sumN_mod _ fun i hi => ?_
    rw [cf_mk (by omega), ← Int.mul_add]
    exact rs_mul_right _ _
  rw [h1, sumN_add]
  show rs (mulT a b k (k + 1) + mulT a c k (k + 1)) = _
  unfold pl rs
  omega

theorem div_mul {a b : List Int} (ha : IsS a) (hb : IsS b) (h : b.length = a.length) (h0 : cf b 0 ≠ 0) : mulL (divL a b) b = a := by
  refine list_ext (by rw [mulL_length, divL_length]) fun k hk => ?_
  rw [mulL_length, divL_length] at hk
  unfold mulL
  rw [divL_length, cf_mk hk]
  unfold mulT
  simp only [sumN]
  have hq : cf (divL a b) k = tm (rs (cf a k - sumN (fun i => cf (divL a b) i * cf b (k - i)) k)) (iv (cf b 0)) := by
    unfold divL
    rw [divT_cf' a b (k + 1) a.length k (by omega) (by omega), divT_last]
    congr 3
    exact sumN_congr _ fun i hi => by rw [divT_cf' a b k a.length i hi (by omega)]
  rw [Nat.sub_self, hq]
  generalize sumN (fun i => cf (divL a b) i * cf b (k - i)) k = S
  have hne : rs (cf b 0) ≠ 0 := by rw [hb.rs_ 0]; exact h0
  have hinv := iv_mul hne
  have hr : rs (tm (rs (cf a k - S)) (iv (cf b 0)) * cf b 0) = rs (cf a k - S) := by
    unfold tm
    have e1 : rs (rs (cf a k - S) * iv (cf b 0) % 1000003 * cf b 0) = rs (rs (cf a k - S) * (cf b 0 * iv (cf b 0))) := by
      show (rs (cf a k - S) * iv (cf b 0) % 1000003 * cf b 0) % 1000003 = _
      rw [mull, Int.mul_assoc, Int.mul_comm (iv _) (cf b 0)]; rfl
    rw [e1, ← rs_mul_right]
    have e2 : rs (cf b 0 * iv (cf b 0)) = 1 := hinv
    rw [e2, Int.mul_one]
    unfold rs; omega
  have hak := ha k
  generalize tm (rs (cf a k - S)) (iv (cf b 0)) * cf b 0 = T at *
  unfold rs at *
  omega

end Go.Proofs.Ytbgjbppjnmolfaa.Plain
