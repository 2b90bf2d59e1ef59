/- Plain: convolution of sequences of integers, and what holds of it by residues. No program is named here. -/
import Derived.Test.YtbgjbppjnmolfaaPExp
namespace Go.Proofs.Ytbgjbppjnmolfaa.Plain

/-- convolution -/
def conv (f g : Nat → Int) (k : Nat) : Int := sumN (fun i => f i * g (k - i)) (k + 1)
theorem conv_zero (f g : Nat → Int) : conv f g 0 = f 0 * g 0 := by simp [conv, sumN]
theorem conv_succ (f g : Nat → Int) (k : Nat) : conv f g (k + 1) = f 0 * g (k + 1) + conv (fun i => f (i + 1)) g k := by
  unfold conv
  rw [sumN_head]
  congr 1
  exact sumN_congr _ fun i _ => by rw [show k + 1 - (i + 1) = k - i by omega]
theorem conv_add_left (f f' g : Nat → Int) (k : Nat) : conv (fun i => f i + f' i) g k = conv f g k + conv f' g k := by
  unfold conv
  rw [← sumN_add]
  exact sumN_congr _ fun i _ => by rw [Int.add_mul]
theorem conv_mul_left (c : Int) (f g : Nat → Int) (k : Nat) : conv (fun i => c * f i) g k = c * conv f g k := by
  unfold conv
  rw [← sumN_mul]
  exact sumN_congr _ fun i _ => by rw [Int.mul_assoc]
theorem conv_congr {f f' g g' : Nat → Int} {k : Nat} (hf : ∀ i, i ≤ k → f i = f' i) (hg : ∀ i, i ≤ k → g i = g' i) : conv f g k = conv f' g' k :=
  sumN_congr _ fun i hi => by rw [hf i (by omega), hg (k - i) (by omega)]
theorem conv_comm' (f g : Nat → Int) (k : Nat) : conv f g k = conv g f k := by
  unfold conv
  rw [← sumN_rev]
  refine sumN_congr _ fun i hi => ?_
  rw [show k + 1 - 1 - i = k - i by omega, show k - (k - i) = i by omega, Int.mul_comm]
theorem conv_assoc (f g h : Nat → Int) (k : Nat) : conv (conv f g) h k = conv f (conv g h) k := by
  induction k generalizing f with
  | zero => rw [conv_zero, conv_zero, conv_zero, conv_zero, Int.mul_assoc]
  | succ k ih =>
    rw [conv_succ, conv_succ f (conv g h), conv_zero]
    have e : conv (fun i => conv f g (i + 1)) h k = f 0 * conv (fun i => g (i + 1)) h k + conv (conv (fun i => f (i + 1)) g) h k := by
      rw [← conv_mul_left, ← conv_add_left]
      exact conv_congr (fun i _ => conv_succ f g i) (fun _ _ => rfl)
    rw [e, ih, conv_succ g h, Int.mul_add, Int.mul_assoc]
    omega

theorem rs_rs (a : Int) : rs (rs a) = rs a := by unfold rs; omega
theorem rs_mul {a a' b b' : Int} (ha : rs a = rs a') (hb : rs b = rs b') : rs (a * b) = rs (a' * b') := by
  rw [← rs_mul_left, ← rs_mul_right, ha, hb, rs_mul_right, rs_mul_left]
theorem rs_add {a a' b b' : Int} (ha : rs a = rs a') (hb : rs b = rs b') : rs (a + b) = rs (a' + b') := by unfold rs at *; omega
theorem rs_tm (a b : Int) : rs (tm a b) = rs (a * b) := by unfold rs tm; omega
theorem rs_pl (a b : Int) : rs (pl a b) = rs (a + b) := by unfold rs pl; omega
theorem conv_mod {f f' g g' : Nat → Int} {k : Nat} (hf : ∀ i, i ≤ k → rs (f i) = rs (f' i)) (hg : ∀ i, i ≤ k → rs (g i) = rs (g' i)) : rs (conv f g k) = rs (conv f' g' k) :=
  sumN_mod _ fun i hi => rs_mul (hf i (by omega)) (hg (k - i) (by omega))
theorem mulT_conv (a b : List Int) (k : Nat) : mulT a b k (k + 1) = conv (cf a) (cf b) k := rfl
theorem cf_mul {a b : List Int} {k : Nat} (h : k < a.length) : cf (mulL a b) k = rs (conv (cf a) (cf b) k) := by unfold mulL; rw [cf_mk h, mulT_conv]
theorem cf_add {a b : List Int} {k : Nat} (h : k < a.length) : cf (addL a b) k = pl (cf a k) (cf b k) := by unfold addL; rw [cf_mk h]

/-- k times the k-th -/
def eul (f : Nat → Int) (k : Nat) : Int := (k : Int) * f k
theorem eul_conv (f g : Nat → Int) (k : Nat) : eul (conv f g) k = conv (eul f) g k + conv f (eul g) k := by
  unfold eul
  unfold conv
  rw [← sumN_mul, ← sumN_add]
  refine sumN_congr _ fun i hi => ?_
  have e : (k : Int) = (i : Int) + ((k - i : Nat) : Int) := by omega
  rw [Int.mul_left_comm (f i), Int.mul_assoc (i : Int), ← Int.add_mul, ← e]

theorem small_ne {k : Nat} (h0 : 0 < k) (h : k < 1000003) : rs (k : Int) ≠ 0 := by unfold rs; omega
/-- a small number can be struck out -/
theorem strike {k : Nat} (h0 : 0 < k) (h : k < 1000003) {x y : Int} (he : rs ((k : Int) * x) = rs ((k : Int) * y)) : rs x = rs y := by
  have hi : rs ((k : Int) * iv (k : Int)) = 1 := iv_mul (small_ne h0 h)
  have h1 : ∀ z : Int, rs (iv (k : Int) * ((k : Int) * z)) = rs z := by
    intro z
    rw [← Int.mul_assoc, Int.mul_comm (iv _), ← rs_mul_left, hi, Int.one_mul]
  have h2 : rs (iv (k : Int) * ((k : Int) * x)) = rs (iv (k : Int) * ((k : Int) * y)) := rs_mul rfl he
  rw [h1, h1] at h2; exact h2

/-- a sequence with this logarithmic derivative -/
def Sol (d f : Nat → Int) (n : Nat) : Prop := ∀ k, k < n → rs (eul f k) = rs (conv d f k)
theorem sol_unique {d f g : Nat → Int} {n : Nat} (hn : n ≤ 1000000) (hd : d 0 = 0) (hf : Sol d f n) (hg : Sol d g n) (h0 : rs (f 0) = rs (g 0)) : ∀ m, m ≤ n → ∀ k, k < m → rs (f k) = rs (g k) := by
  intro m
  induction m with
  | zero => intro _ k hk; omega
  | succ m ih =>
    intro hm k hk
    by_cases e : k < m
    · exact ih (by omega) k e
    · obtain rfl : k = m := by omega
      rcases Nat.eq_zero_or_pos k with rfl | hp
      · exact h0
      · have h1 := hf k (by omega)
        have h2 := hg k (by omega)
        have e3 : rs (conv d f k) = rs (conv d g k) := by
          obtain ⟨j, rfl⟩ : ∃ j, k = j + 1 := ⟨k - 1, by omega⟩
          rw [conv_succ, conv_succ, hd, Int.zero_mul, Int.zero_mul, Int.zero_add, Int.zero_add]
          exact conv_mod (fun _ _ => rfl) (fun i hi => ih (by omega) i (by omega))
        exact strike hp (by omega) (h1.trans (e3.trans h2.symm))

theorem exp_zero {a : List Int} (h : 0 < a.length) : cf (expL a) 0 = 1 := by rw [expL_cf a h, if_pos rfl]
theorem exp_sol {a : List Int} (hn : a.length ≤ 1000000) : Sol (eul (cf a)) (cf (expL a)) a.length := by
  intro k hk
  rcases Nat.eq_zero_or_pos k with rfl | hp
  · rw [conv_zero]; unfold eul; simp
  · obtain ⟨j, rfl⟩ : ∃ j, k = j + 1 := ⟨k - 1, by omega⟩
    rw [conv_succ]
    have e0 : eul (cf a) 0 = 0 := by unfold eul; simp
    rw [e0, Int.zero_mul, Int.zero_add]
    unfold eul
    rw [expL_cf a hk, if_neg (by omega)]
    have hi : rs (((j + 1 : Nat) : Int) * iv ((j + 1 : Nat) : Int)) = 1 := iv_mul (small_ne (by omega) (by omega))
    have h1 : rs (((j + 1 : Nat) : Int) * tm (rs (expS a (j + 1) (j + 1))) (iv ((j + 1 : Nat) : Int))) = rs (expS a (j + 1) (j + 1)) := by
      rw [rs_mul rfl (rs_tm _ _), Int.mul_left_comm, ← rs_mul_right, hi, Int.mul_one, rs_rs]
    rw [h1]
    unfold expS conv
    refine sumN_mod _ fun i hi => ?_
    rw [show j + 1 - (i + 1) = j - i by omega]
    exact rs_mul (rs_tm _ _) rfl

theorem exp_sum {a b : List Int} (hl : b.length = a.length) (hn : a.length ≤ 1000000) (h0 : 0 < a.length) (_ha : IsS a) (_hb : IsS b) : mulL (expL a) (expL b) = expL (addL a b) := by
  have hla := expL_length a
  have hlb := expL_length b
  have hs := addL_length a b
  refine list_ext (by rw [mulL_length, hla, expL_length, hs]) fun k hk => ?_
  rw [mulL_length, hla] at hk
  rw [cf_mul (by omega)]
  have hd : eul (cf (addL a b)) 0 = 0 := by unfold eul; simp
  have hg := exp_sol (a := addL a b) (by omega)
  rw [hs] at hg
  have hf : Sol (eul (cf (addL a b))) (conv (cf (expL a)) (cf (expL b))) a.length := by
    intro m hm
    rw [eul_conv]
    have ea := exp_sol (a := a) hn
    have eb := exp_sol (a := b) (by omega)
    have t1 : rs (conv (eul (cf (expL a))) (cf (expL b)) m) = rs (conv (eul (cf a)) (conv (cf (expL a)) (cf (expL b))) m) := by
      rw [← conv_assoc]
      exact conv_mod (fun i hi => ea i (by omega)) (fun _ _ => rfl)
    have t2 : rs (conv (cf (expL a)) (eul (cf (expL b))) m) = rs (conv (eul (cf b)) (conv (cf (expL a)) (cf (expL b))) m) := by
      have e1 : rs (conv (cf (expL a)) (eul (cf (expL b))) m) = rs (conv (cf (expL a)) (conv (eul (cf b)) (cf (expL b))) m) := conv_mod (fun _ _ => rfl) (fun i hi => eb i (by omega))
      rw [e1, ← conv_assoc]
      have e2 : conv (conv (cf (expL a)) (eul (cf b))) (cf (expL b)) m = conv (conv (eul (cf b)) (cf (expL a))) (cf (expL b)) m := conv_congr (fun i _ => conv_comm' _ _ _) (fun _ _ => rfl)
      rw [e2, conv_assoc]
    rw [rs_add t1 t2, ← conv_add_left]
    refine conv_mod (fun i hi => ?_) (fun _ _ => rfl)
    unfold eul
    rw [← Int.mul_add, cf_add (by omega)]
    exact rs_mul rfl (rs_pl _ _).symm
  have h00 : rs (conv (cf (expL a)) (cf (expL b)) 0) = rs (cf (expL (addL a b)) 0) := by
    rw [conv_zero, exp_zero h0, exp_zero (by omega), exp_zero (by omega)]; rfl
  have h := sol_unique hn hd hf hg h00 a.length (Nat.le_refl _) k hk
  rw [h, (isS_exp _).rs_]

/-- a factor that begins with 1 can be struck out -/
theorem strike_conv {f g e : Nat → Int} {n : Nat} (he : e 0 = 1) (h : ∀ k, k < n → rs (conv f e k) = rs (conv g e k)) : ∀ m, m ≤ n → ∀ k, k < m → rs (f k) = rs (g k) := by
  intro m
  induction m with
  | zero => intro _ k hk; omega
  | succ m ih =>
    intro hm k hk
    by_cases e' : k < m
    · exact ih (by omega) k e'
    · obtain rfl : k = m := by omega
      have h1 := h k (by omega)
      unfold conv at h1
      simp only [sumN] at h1
      rw [Nat.sub_self, he, Int.mul_one, Int.mul_one] at h1
      have h2 : rs (sumN (fun i => f i * e (k - i)) k) = rs (sumN (fun i => g i * e (k - i)) k) := sumN_mod _ fun i hi => rs_mul (ih (by omega) i hi) rfl
      unfold rs at *; omega

theorem cf_dv {a : List Int} {k : Nat} (h : k + 1 < a.length) : cf (dvL a) k = tm ((k + 1 : Nat) : Int) (cf a (k + 1)) := by unfold dvL; rw [cf_mk (by omega), if_pos h]
theorem exp_front {a : List Int} (hn : a.length ≤ 1000000) {k : Nat} (hk : k + 1 < a.length) : cf (dvL (expL a)) k = cf (mulL (dvL a) (expL a)) k := by
  have hla := expL_length a
  rw [cf_dv (by omega), cf_mul (by rw [dvL_length]; omega)]
  have h := exp_sol hn (k + 1) (by omega)
  rw [conv_succ] at h
  have e0 : eul (cf a) 0 = 0 := by unfold eul; simp
  rw [e0, Int.zero_mul, Int.zero_add] at h
  have e1 : tm ((k + 1 : Nat) : Int) (cf (expL a) (k + 1)) = rs (eul (cf (expL a)) (k + 1)) := rfl
  rw [e1, h]
  refine conv_mod (fun i hi => ?_) (fun _ _ => rfl)
  rw [cf_dv (by omega), rs_tm]; rfl

theorem cf_it {a : List Int} {k : Nat} (h : k < a.length) : cf (itL a) k = if k = 0 then 0 else tm (cf a (k - 1)) (iv (k : Int)) := by unfold itL; rw [cf_mk h]
theorem int_back {a : List Int} (ha : IsS a) (hn : a.length ≤ 1000000) {k : Nat} (h0 : 0 < k) (hk : k < a.length) {x : Int} (hx : rs x = rs ((k : Int) * cf a k)) : tm x (iv (k : Int)) = cf a k := by
  have hi : rs ((k : Int) * iv (k : Int)) = 1 := iv_mul (small_ne h0 (by omega))
  have e : tm x (iv (k : Int)) = rs (x * iv (k : Int)) := rfl
  rw [e, rs_mul hx rfl, Int.mul_comm (k : Int), Int.mul_assoc, ← rs_mul_right, hi, Int.mul_one, ha.rs_]
theorem int_dv {a : List Int} (ha : IsS a) (hz : cf a 0 = 0) (hn : a.length ≤ 1000000) : itL (dvL a) = a := by
  refine list_ext (by rw [itL_length, dvL_length]) fun k hk => ?_
  rw [itL_length, dvL_length] at hk
  rw [cf_it (by rw [dvL_length]; exact hk)]
  by_cases h : k = 0
  · rw [if_pos h, h, hz]
  · rw [if_neg h]
    refine int_back ha hn (by omega) hk ?_
    rw [cf_dv (by omega), rs_tm, show k - 1 + 1 = k by omega]
theorem log_exp {a : List Int} (ha : IsS a) (hz : cf a 0 = 0) (hn : a.length ≤ 1000000) (h0 : 0 < a.length) : logL (expL a) = a := by
  have hla := expL_length a
  have hld := dvL_length (expL a)
  have hlq := divL_length (dvL (expL a)) (expL a)
  have he0 := exp_zero h0
  refine list_ext (by rw [logL_length, hla]) fun k hk => ?_
  rw [logL_length, hla] at hk
  unfold logL
  rw [cf_it (by omega)]
  by_cases h : k = 0
  · rw [if_pos h, h, hz]
  · rw [if_neg h]
    refine int_back ha hn (by omega) hk ?_
    have hdm := div_mul (a := dvL (expL a)) (b := expL a) (isS_dv _) (isS_exp _) hld.symm (by rw [he0]; omega)
    have hc : ∀ j, j < a.length - 1 → rs (conv (cf (divL (dvL (expL a)) (expL a))) (cf (expL a)) j) = rs (conv (fun i => ((i + 1 : Nat) : Int) * cf a (i + 1)) (cf (expL a)) j) := by
      intro j hj
      have e1 : cf (mulL (divL (dvL (expL a)) (expL a)) (expL a)) j = cf (dvL (expL a)) j := by rw [hdm]
      rw [cf_mul (by omega)] at e1
      rw [e1, cf_dv (by omega)]
      have h2 := exp_sol hn (j + 1) (by omega)
      rw [conv_succ] at h2
      have e0 : eul (cf a) 0 = 0 := by unfold eul; simp
      rw [e0, Int.zero_mul, Int.zero_add] at h2
      have e3 : tm ((j + 1 : Nat) : Int) (cf (expL a) (j + 1)) = rs (eul (cf (expL a)) (j + 1)) := rfl
      rw [e3, h2]; rfl
    have h4 := strike_conv he0 hc (a.length - 1) (Nat.le_refl _) (k - 1) (by omega)
    rw [h4, show k - 1 + 1 = k by omega]

end Go.Proofs.Ytbgjbppjnmolfaa.Plain
