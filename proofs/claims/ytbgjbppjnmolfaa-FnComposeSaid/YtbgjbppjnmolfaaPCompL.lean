/- Plain: composition and reversal of series as lists. No program is named here. -/
import Derived.Test.YtbgjbppjnmolfaaPComp
namespace Go.Proofs.Ytbgjbppjnmolfaa.Plain

theorem cf_set {l : List Int} {x : Int} {k : Nat} (h : 0 < l.length) : cf (l.set 0 x) k = if k = 0 then x else cf l k := by
  unfold cf
  simp only [List.getD]
  by_cases e : k = 0
  · subst e; rw [List.getElem?_set_self h]; simp
  · rw [List.getElem?_set_ne (fun h => e h.symm), if_neg e]

/-- composition, from the last coefficient on -/
def hornT (a b : List Int) : Nat → List Int
  | 0 => mk a.length fun _ => 0
  | j + 1 => (mulL (hornT a b j) b).set 0 ((cf (mulL (hornT a b j) b) 0 + cf a (a.length - 1 - j)) % 1000003)
/-- the composition -/
def compL (a b : List Int) : List Int := hornT a b a.length
theorem hornT_length (a b : List Int) (j : Nat) : (hornT a b j).length = a.length := by
  induction j with
  | zero => exact mk_length _ _
  | succ j ih => simp only [hornT, List.length_set, mulL_length, ih]
theorem compL_length (a b : List Int) : (compL a b).length = a.length := hornT_length _ _ _
theorem isS_horn (a b : List Int) (j : Nat) : IsS (hornT a b j) := by
  cases j with
  | zero => exact IsS.mk_ fun _ => by omega
  | succ j =>
    intro k
    rcases Nat.eq_zero_or_pos a.length with h0 | h0
    · rw [cf_big (by rw [hornT_length]; omega)]; omega
    · simp only [hornT]
      rw [cf_set (by rw [mulL_length, hornT_length]; exact h0)]
      split
      · omega
      · exact isS_mul _ _ k
theorem isS_comp (a b : List Int) : IsS (compL a b) := isS_horn _ _ _

theorem horn_cf {a b : List Int} (h0 : 0 < a.length) : ∀ j, j ≤ a.length → ∀ k, k < a.length → rs (cf (hornT a b j) k) = rs (comp j (fun i => cf a (a.length - j + i)) (cf b) k) := by
  intro j
  induction j with
  | zero => intro _ k hk; unfold hornT; rw [cf_mk hk]; rfl
  | succ j ih =>
    intro hj k hk
    have hl := hornT_length a b j
    simp only [hornT]
    rw [cf_set (by rw [mulL_length, hl]; exact h0), comp_succ]
    have e1 : comp j (fun i => cf a (a.length - (j + 1) + (i + 1))) (cf b) = comp j (fun i => cf a (a.length - j + i)) (cf b) := by
      funext m
      exact comp_congr j _ _ _ m fun i _ => by rw [show a.length - (j + 1) + (i + 1) = a.length - j + i by omega]
    have e2 : ∀ m, m < a.length → rs (conv (cf b) (comp j (fun i => cf a (a.length - j + i)) (cf b)) m) = rs (conv (cf (hornT a b j)) (cf b) m) := by
      intro m hm
      rw [conv_comm']
      exact conv_mod (fun i hi => (ih (by omega) i (by omega)).symm) (fun _ _ => rfl)
    show _ = rs (at0 (cf a (a.length - (j + 1) + 0)) k + conv (cf b) (comp j (fun i => cf a (a.length - (j + 1) + (i + 1))) (cf b)) k)
    rw [e1]
    by_cases e : k = 0
    · subst e
      rw [if_pos rfl, cf_mul (by omega), show a.length - (j + 1) + 0 = a.length - 1 - j by omega]
      have h3 := e2 0 (by omega)
      unfold at0
      simp only [if_true]
      generalize conv (cf b) _ 0 = u at *
      generalize conv (cf (hornT a b j)) (cf b) 0 = v at *
      unfold rs at *
      omega
    · rw [if_neg e, cf_mul (by omega), rs_rs]
      have h3 := e2 k hk
      unfold at0
      rw [if_neg e, Int.zero_add]
      exact h3.symm
theorem comp_cf {a b : List Int} {k : Nat} (hk : k < a.length) : cf (compL a b) k = rs (comp a.length (cf a) (cf b) k) := by
  have h := horn_cf (a := a) (b := b) (by omega) a.length (Nat.le_refl _) k hk
  have e : comp a.length (fun i => cf a (a.length - a.length + i)) (cf b) k = comp a.length (cf a) (cf b) k := comp_congr _ _ _ _ k fun i _ => by rw [Nat.sub_self, Nat.zero_add]
  rw [e] at h
  rw [← h]
  exact ((isS_comp a b).rs_ k).symm
theorem comp_first {a b : List Int} (h0 : 0 < a.length) (ha : cf a 0 = 0) (hb : cf b 0 = 0) : cf (compL a b) 0 = 0 := by
  rw [comp_cf h0]
  obtain ⟨n, hn⟩ : ∃ n, a.length = n + 1 := ⟨a.length - 1, by omega⟩
  rw [hn, comp_succ, conv_zero, hb, ha]; simp [at0, rs]

theorem compL_assoc {a b c : List Int} (h0 : 0 < a.length) (hb : b.length = a.length) (hc : c.length = a.length) (zc : cf c 0 = 0) : compL (compL a b) c = compL a (compL b c) := by
  refine list_ext (by rw [compL_length, compL_length, compL_length]) fun k hk => ?_
  rw [compL_length, compL_length] at hk
  rw [comp_cf (by rw [compL_length]; exact hk), comp_cf hk, compL_length]
  have h1 : rs (comp a.length (cf (compL a b)) (cf c) k) = rs (comp a.length (comp a.length (cf a) (cf b)) (cf c) k) := comp_mod _ _ _ k (fun i hi => by rw [comp_cf hi, rs_rs]) (fun _ _ => rfl)
  rw [h1, comp_assoc zc a.length a.length (cf a) k hk]
  refine comp_mod _ _ _ k (fun _ _ => rfl) fun i hi => ?_
  rw [comp_cf (by omega), rs_rs, hb]

theorem cf_dv_all {a : List Int} {k : Nat} (hk : k < a.length) : rs (cf (dvL a) k) = rs (der (cf a) k) := by
  unfold dvL der
  rw [cf_mk hk]
  split
  · exact rs_tm _ _
  · rw [cf_big (a := a) (k := k + 1) (by omega), Int.mul_zero]
theorem eul_up (f : Nat → Int) : eul f = up (der f) := by
  funext k
  cases k with
  | zero => unfold eul up; simp
  | succ k => rfl
theorem compL_chain {a b : List Int} (hb : b.length = a.length) (zb : cf b 0 = 0) {k : Nat} (hk : k + 1 < a.length) : cf (dvL (compL a b)) k = cf (mulL (compL (dvL a) b) (dvL b)) k := by
  have hla := compL_length a b
  have hld := dvL_length a
  have hli := compL_length (dvL a) b
  rw [cf_dv (by omega), cf_mul (by omega)]
  have e0 : tm ((k + 1 : Nat) : Int) (cf (compL a b) (k + 1)) = rs (eul (comp a.length (cf a) (cf b)) (k + 1)) := by
    show rs (_ * _) = _
    rw [comp_cf hk, rs_mul_right]; rfl
  rw [e0, chain_rule zb (k + 1) (cf a) a.length hk, eul_up, conv_up]
  refine conv_mod (fun i hi => ?_) (fun i hi => (cf_dv_all (by omega)).symm)
  rw [comp_cf (by omega), rs_rs, hld]
  exact comp_mod _ _ _ i (fun j hj => (cf_dv_all hj).symm) (fun _ _ => rfl)

/-- the reversed series, coefficient by coefficient -/
def revF (a : List Int) : Nat → Nat → Int
  | 0 => fun j => if j = 1 then iv (cf a 1) else 0
  | m + 1 => fun j => if j = m + 2 then rs (0 - cf (compL a (mk a.length (revF a m))) (m + 2) * iv (cf a 1)) else revF a m j
theorem revF_zero (a : List Int) (m : Nat) : revF a m 0 = 0 := by
  induction m with
  | zero => rfl
  | succ m ih => simp only [revF]; rw [if_neg (by omega), ih]
theorem revF_one (a : List Int) (m : Nat) : revF a m 1 = iv (cf a 1) := by
  induction m with
  | zero => rfl
  | succ m ih => simp only [revF]; rw [if_neg (by omega), ih]
theorem revF_high (a : List Int) (m : Nat) : ∀ j, m + 1 < j → revF a m j = 0 := by
  induction m with
  | zero => intro j hj; simp only [revF]; rw [if_neg (by omega)]
  | succ m ih => intro j hj; simp only [revF]; rw [if_neg (by omega), ih j (by omega)]
theorem revF_bd (a : List Int) (m : Nat) : ∀ j, 0 ≤ revF a m j ∧ revF a m j ≤ 1000002 := by
  induction m with
  | zero => intro j; simp only [revF]; split; exact iv_bd _; omega
  | succ m ih => intro j; simp only [revF]; split; exact rs_bd _; exact ih j
/-- the reversed series -/
def revL (a : List Int) : List Int := mk a.length (revF a (a.length - 2))
theorem revL_length (a : List Int) : (revL a).length = a.length := mk_length _ _
theorem isS_rev (a : List Int) : IsS (revL a) := IsS.mk_ fun k => revF_bd _ _ k

theorem rev_inv {a : List Int} (h2 : 2 ≤ a.length) (ha : IsS a) (z : cf a 0 = 0) (h1 : cf a 1 ≠ 0) : ∀ m, m + 2 ≤ a.length → ∀ j, j ≤ m + 1 → rs (comp a.length (cf a) (cf (mk a.length (revF a m))) j) = tt j := by
  have hne : rs (cf a 1) ≠ 0 := by rw [ha.rs_]; exact h1
  have hi : rs (cf a 1 * iv (cf a 1)) = 1 := iv_mul hne
  have hz : ∀ m, cf (mk a.length (revF a m)) 0 = 0 := fun m => by rw [cf_mk (by omega), revF_zero]
  intro m
  induction m with
  | zero =>
    intro _ j hj
    obtain ⟨n, hn⟩ : ∃ n, a.length = n + 2 := ⟨a.length - 2, by omega⟩
    rcases (show j = 0 ∨ j = 1 by omega) with rfl | rfl
    · have e : comp a.length (cf a) (cf (mk a.length (revF a 0))) 0 = cf a 0 := by
        rw [show a.length = (n + 1) + 1 by omega, comp_succ, conv_zero, ← show a.length = (n + 1) + 1 by omega, hz]; simp [at0]
      rw [e, z]; rfl
    · have e : comp a.length (cf a) (cf (mk a.length (revF a 0))) 1 = iv (cf a 1) * cf a 1 := by
        have hc1 : cf (mk a.length (revF a 0)) 1 = iv (cf a 1) := by rw [cf_mk (by omega), revF_one]
        have hc0 := hz 0
        generalize cf (mk a.length (revF a 0)) = c at *
        have e0 : comp (n + 1) (fun i => cf a (i + 1)) c 0 = cf a 1 := by rw [comp_succ, conv_zero, hc0]; simp [at0]
        rw [hn, comp_succ, conv_succ, hc0, Int.zero_mul, Int.zero_add, conv_zero, e0]
        show at0 (cf a 0) 1 + c 1 * cf a 1 = _
        rw [hc1]; simp [at0]
      rw [e, Int.mul_comm, hi]; rfl
  | succ m ih =>
    intro hm j hj
    by_cases e : j ≤ m + 1
    · rw [← ih (by omega) j e]
      refine comp_mod _ _ _ j (fun _ _ => rfl) fun i hi' => ?_
      rw [cf_mk (by omega), cf_mk (by omega)]
      simp only [revF]
      rw [if_neg (by omega)]
    · obtain rfl : j = m + 2 := by omega
      have ht := comp_top (hz (m + 1)) (hz m) (cf a) (k := m + 2) (N := a.length) (by omega) h2 fun i hi' => by
        rw [cf_mk (by omega), cf_mk (by omega)]
        simp only [revF]
        rw [if_neg (by omega)]
      have c1 : cf (mk a.length (revF a (m + 1))) (m + 2) = rs (0 - cf (compL a (mk a.length (revF a m))) (m + 2) * iv (cf a 1)) := by
        rw [cf_mk (by omega)]; simp only [revF]; rw [if_pos trivial]
      have c2 : cf (mk a.length (revF a m)) (m + 2) = 0 := by rw [cf_mk (by omega), revF_high a m _ (by omega)]
      rw [c1, c2, comp_cf (by omega), Int.zero_mul, Int.sub_zero] at ht
      generalize comp a.length (cf a) (cf (mk a.length (revF a m))) (m + 2) = X at *
      generalize comp a.length (cf a) (cf (mk a.length (revF a (m + 1)))) (m + 2) = Y at *
      have h3 : rs (rs (0 - rs X * iv (cf a 1)) * cf a 1) = rs (0 - X) := by
        rw [rs_mul_left]
        have e1 : (0 - rs X * iv (cf a 1)) * cf a 1 = (0 - rs X) * (cf a 1 * iv (cf a 1)) := by
          rw [Int.sub_mul, Int.zero_mul, Int.sub_mul, Int.zero_mul, Int.mul_assoc, Int.mul_comm (iv _)]
        rw [e1, ← rs_mul_right, hi, Int.mul_one]
        unfold rs; omega
      have htt : tt (m + 2) = 0 := by unfold tt; rw [if_neg (by omega)]
      rw [htt]
      generalize rs (0 - rs X * iv (cf a 1)) * cf a 1 = Z at *
      unfold rs at *
      omega

theorem rev_right {a : List Int} (h2 : 2 ≤ a.length) (ha : IsS a) (z : cf a 0 = 0) (h1 : cf a 1 ≠ 0) : ∀ j, j < a.length → rs (comp a.length (cf a) (cf (revL a)) j) = tt j :=
  fun j hj => rev_inv h2 ha z h1 (a.length - 2) (by omega) j (by omega)
/-- t as a list -/
def ttL (n : Nat) : List Int := mk n tt
theorem rev_compL {a : List Int} (h2 : 2 ≤ a.length) (ha : IsS a) (z : cf a 0 = 0) (h1 : cf a 1 ≠ 0) : compL a (revL a) = ttL a.length := by
  refine list_ext (by rw [compL_length]; exact (mk_length _ _).symm) fun k hk => ?_
  rw [compL_length] at hk
  rw [comp_cf hk, rev_right h2 ha z h1 k hk]
  exact (cf_mk hk).symm
theorem rev_left {a : List Int} (h2 : 2 ≤ a.length) (ha : IsS a) (z : cf a 0 = 0) (h1 : cf a 1 ≠ 0) : compL (revL a) a = ttL a.length := by
  have hl := revL_length a
  have hr0 : cf (revL a) 0 = 0 := by unfold revL; rw [cf_mk (by omega), revF_zero]
  have hr1 : cf (revL a) 1 ≠ 0 := by
    unfold revL
    rw [cf_mk (by omega), revF_one]
    intro e
    have := iv_mul (a := cf a 1) (by rw [ha.rs_]; exact h1)
    rw [e] at this
    simp [tm] at this
  have hs0 : cf (revL (revL a)) 0 = 0 := by
    have hl2 := revL_length (revL a)
    unfold revL
    rw [cf_mk (by rw [mk_length]; omega), revF_zero]
  have hrs := rev_right (a := revL a) (by omega) (isS_rev a) hr0 hr1
  rw [hl] at hrs
  have har := rev_right h2 ha z h1
  have key : ∀ k, k < a.length → rs (cf a k) = rs (cf (revL (revL a)) k) := by
    intro k hk
    rw [← comp_tt k (cf a) a.length hk]
    have e1 : rs (comp a.length (cf a) tt k) = rs (comp a.length (cf a) (comp a.length (cf (revL a)) (cf (revL (revL a)))) k) :=
      comp_mod _ _ _ k (fun _ _ => rfl) fun i hi => by rw [hrs i (by omega)]; unfold tt rs; split <;> rfl
    rw [e1, ← comp_assoc hs0 a.length a.length (cf a) k hk]
    have e2 : rs (comp a.length (comp a.length (cf a) (cf (revL a))) (cf (revL (revL a))) k) = rs (comp a.length tt (cf (revL (revL a))) k) :=
      comp_mod _ _ _ k (fun i hi => by rw [har i hi]; unfold tt rs; split <;> rfl) (fun _ _ => rfl)
    rw [e2, tt_comp hs0 k a.length hk]
  refine list_ext (by rw [compL_length, hl]; exact (mk_length _ _).symm) fun k hk => ?_
  rw [compL_length, hl] at hk
  rw [comp_cf (by omega), hl]
  have e3 : rs (comp a.length (cf (revL a)) (cf a) k) = rs (comp a.length (cf (revL a)) (cf (revL (revL a))) k) := comp_mod _ _ _ k (fun _ _ => rfl) fun i hi => key i (by omega)
  rw [e3, hrs k hk]
  exact (cf_mk hk).symm

end Go.Proofs.Ytbgjbppjnmolfaa.Plain
