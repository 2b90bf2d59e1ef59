/- Plain: composition of sequences of integers. No program is named here. -/
import Derived.Test.YtbgjbppjnmolfaaPConv
namespace Go.Proofs.Ytbgjbppjnmolfaa.Plain

theorem conv_add_right (f g g' : Nat → Int) (k : Nat) : conv f (fun i => g i + g' i) k = conv f g k + conv f g' k := by
  rw [conv_comm', conv_add_left, conv_comm' g, conv_comm' g']
theorem conv_mul_right (c : Int) (f g : Nat → Int) (k : Nat) : conv f (fun i => c * g i) k = c * conv f g k := by
  rw [conv_comm', conv_mul_left, conv_comm' g]
/-- a factor that begins with 0 looks at lower coefficients alone -/
theorem conv_low {c g g' : Nat → Int} {k : Nat} (hc : c 0 = 0) (h : ∀ i, i < k → g i = g' i) : conv c g k = conv c g' k := by
  cases k with
  | zero => rw [conv_zero, conv_zero, hc, Int.zero_mul, Int.zero_mul]
  | succ k =>
    rw [conv_succ, conv_succ, hc, Int.zero_mul, Int.zero_mul]
    congr 1
    exact conv_congr (fun _ _ => rfl) (fun i hi => h i (by omega))
theorem conv_low_mod {c c' g g' : Nat → Int} {k : Nat} (hc : c 0 = 0) (hc' : c' 0 = 0) (hcc : ∀ i, i ≤ k → rs (c i) = rs (c' i)) (h : ∀ i, i < k → rs (g i) = rs (g' i)) : rs (conv c g k) = rs (conv c' g' k) := by
  cases k with
  | zero => rw [conv_zero, conv_zero, hc, hc', Int.zero_mul, Int.zero_mul]
  | succ k =>
    rw [conv_succ, conv_succ, hc, hc', Int.zero_mul, Int.zero_mul]
    exact rs_add rfl (conv_mod (fun i hi => hcc (i + 1) (by omega)) (fun i hi => h i (by omega)))

/-- a number as a sequence -/
def at0 (x : Int) (k : Nat) : Int := if k = 0 then x else 0
theorem conv_at0 (x : Int) (g : Nat → Int) (k : Nat) : conv (at0 x) g k = x * g k := by
  cases k with
  | zero => rw [conv_zero]; rfl
  | succ k =>
    rw [conv_succ]
    have : conv (fun i => at0 x (i + 1)) g k = 0 := by
      have h0 : conv (fun i => at0 x (i + 1)) g k = conv (fun i => 0 * g i) g k := conv_congr (fun i _ => by simp [at0]) (fun _ _ => rfl)
      rw [h0, conv_mul_left, Int.zero_mul]
    rw [this]; simp [at0]

/-- f of c, by its first N coefficients -/
def comp : Nat → (Nat → Int) → (Nat → Int) → Nat → Int
  | 0, _, _ => fun _ => 0
  | N + 1, f, c => fun k => at0 (f 0) k + conv c (comp N (fun i => f (i + 1)) c) k
theorem comp_succ (N : Nat) (f c : Nat → Int) (k : Nat) : comp (N + 1) f c k = at0 (f 0) k + conv c (comp N (fun i => f (i + 1)) c) k := rfl

theorem comp_zero (N : Nat) (c : Nat → Int) : ∀ k, comp N (fun _ => 0) c k = 0 := by
  induction N with
  | zero => intro k; rfl
  | succ N ih =>
    intro k
    rw [comp_succ]
    have : conv c (comp N (fun _ => 0) c) k = conv c (fun i => 0 * c i) k := conv_congr (fun _ _ => rfl) (fun i _ => by rw [ih i, Int.zero_mul])
    rw [this, conv_mul_right, Int.zero_mul]
    unfold at0; split <;> rfl
theorem comp_add (N : Nat) (c : Nat → Int) : ∀ (f g : Nat → Int) k, comp N (fun i => f i + g i) c k = comp N f c k + comp N g c k := by
  induction N with
  | zero => intro f g k; rfl
  | succ N ih =>
    intro f g k
    rw [comp_succ, comp_succ, comp_succ]
    have : conv c (comp N (fun i => f (i + 1) + g (i + 1)) c) k = conv c (fun i => comp N (fun i => f (i + 1)) c i + comp N (fun i => g (i + 1)) c i) k := conv_congr (fun _ _ => rfl) (fun i _ => ih _ _ i)
    rw [this, conv_add_right]
    unfold at0; split <;> omega
theorem comp_mul (N : Nat) (c : Nat → Int) (x : Int) : ∀ (f : Nat → Int) k, comp N (fun i => x * f i) c k = x * comp N f c k := by
  induction N with
  | zero => intro f k; exact (Int.mul_zero x).symm
  | succ N ih =>
    intro f k
    rw [comp_succ, comp_succ]
    have : conv c (comp N (fun i => x * f (i + 1)) c) k = conv c (fun i => x * comp N (fun i => f (i + 1)) c i) k := conv_congr (fun _ _ => rfl) (fun i _ => ih _ i)
    rw [this, conv_mul_right, Int.mul_add]
    congr 1
    unfold at0; split
    · rfl
    · rw [Int.mul_zero]
theorem comp_congr (N : Nat) (c : Nat → Int) : ∀ (f g : Nat → Int) k, (∀ i, i < N → f i = g i) → comp N f c k = comp N g c k := by
  induction N with
  | zero => intro f g k _; rfl
  | succ N ih =>
    intro f g k h
    rw [comp_succ, comp_succ, h 0 (by omega)]
    congr 1
    exact conv_congr (fun _ _ => rfl) (fun i _ => ih _ _ i fun j hj => h (j + 1) (by omega))
/-- mod the modulus, it depends on the coefficients mod the modulus -/
theorem comp_mod (N : Nat) {c c' : Nat → Int} : ∀ (f g : Nat → Int) k, (∀ i, i < N → rs (f i) = rs (g i)) → (∀ i, i ≤ k → rs (c i) = rs (c' i)) → rs (comp N f c k) = rs (comp N g c' k) := by
  induction N with
  | zero => intro f g k _ _; rfl
  | succ N ih =>
    intro f g k h hc
    rw [comp_succ, comp_succ]
    refine rs_add ?_ (conv_mod hc fun i hi => ih _ _ i (fun j hj => h (j + 1) (by omega)) fun j hj => hc j (by omega))
    unfold at0; split
    · exact h 0 (by omega)
    · rfl
/-- it does not matter how many coefficients are taken, if they are enough -/
theorem comp_stab {c : Nat → Int} (hc : c 0 = 0) : ∀ (k : Nat) (f : Nat → Int) (N M : Nat), k < N → k < M → comp N f c k = comp M f c k := by
  intro k
  induction k using Nat.strongRecOn with
  | _ k ih =>
    intro f N M hN hM
    obtain ⟨N, rfl⟩ : ∃ n, N = n + 1 := ⟨N - 1, by omega⟩
    obtain ⟨M, rfl⟩ : ∃ n, M = n + 1 := ⟨M - 1, by omega⟩
    rw [comp_succ, comp_succ]
    congr 1
    exact conv_low hc fun i hi => ih i hi _ N M (by omega) (by omega)

/-- a shifted sequence -/
def up (g : Nat → Int) : Nat → Int
  | 0 => 0
  | k + 1 => g k
theorem conv_up (f g : Nat → Int) (k : Nat) : conv f (up g) (k + 1) = conv f g k := by
  rw [conv_comm', conv_succ]
  show 0 * f (k + 1) + conv (fun i => g i) f k = _
  rw [Int.zero_mul, Int.zero_add, conv_comm']

theorem comp_conv {c : Nat → Int} (hc : c 0 = 0) (g : Nat → Int) : ∀ (k : Nat) (f : Nat → Int) (N : Nat), k < N → comp N (conv f g) c k = conv (comp N f c) (comp N g c) k := by
  intro k
  induction k using Nat.strongRecOn with
  | _ k ih =>
    intro f N hN
    obtain ⟨N, rfl⟩ : ∃ n, N = n + 1 := ⟨N - 1, by omega⟩
    rw [comp_succ]
    have e1 : comp N (fun i => conv f g (i + 1)) c = fun j => f 0 * comp N (fun i => g (i + 1)) c j + comp N (conv (fun i => f (i + 1)) g) c j := by
      funext j
      rw [← comp_mul, ← comp_add]
      exact comp_congr N c _ _ j fun i _ => conv_succ f g i
    rw [e1, conv_add_right, conv_mul_right]
    have e2 : conv c (comp N (conv (fun i => f (i + 1)) g) c) k = conv (conv c (comp N (fun i => f (i + 1)) c)) (comp (N + 1) g c) k := by
      have h1 : conv c (comp N (conv (fun i => f (i + 1)) g) c) k = conv c (conv (comp N (fun i => f (i + 1)) c) (comp N g c)) k := conv_low hc fun i hi => ih i hi _ N (by omega)
      rw [h1, ← conv_assoc]
      refine conv_low (by rw [conv_zero, hc, Int.zero_mul]) fun i hi => comp_stab hc i g N (N + 1) (by omega) (by omega)
    rw [e2]
    have e3 : conv (comp (N + 1) f c) (comp (N + 1) g c) k = f 0 * comp (N + 1) g c k + conv (conv c (comp N (fun i => f (i + 1)) c)) (comp (N + 1) g c) k := by
      rw [← conv_at0, ← conv_add_left]; rfl
    rw [e3, comp_succ N g, Int.mul_add, conv_zero]
    have e4 : at0 (f 0 * g 0) k = f 0 * at0 (g 0) k := by unfold at0; split; rfl; rw [Int.mul_zero]
    rw [e4]; omega

theorem comp_at0 (N : Nat) (x : Int) (c : Nat → Int) (k : Nat) : comp (N + 1) (at0 x) c k = at0 x k := by
  rw [comp_succ]
  have : conv c (comp N (fun i => at0 x (i + 1)) c) k = 0 := by
    have h : conv c (comp N (fun i => at0 x (i + 1)) c) k = conv c (fun i => 0 * c i) k := conv_congr (fun _ _ => rfl) fun i _ => by
      rw [Int.zero_mul, ← comp_zero N c i]; exact comp_congr N c _ _ i fun j _ => by simp [at0]
    rw [h, conv_mul_right, Int.zero_mul]
  rw [this]; simp [at0]
/-- composition is associative -/
theorem comp_assoc {b c : Nat → Int} (hc : c 0 = 0) (N : Nat) : ∀ (M : Nat) (f : Nat → Int) (k : Nat), k < N → comp N (comp M f b) c k = comp M f (comp N b c) k := by
  intro M
  induction M with
  | zero => intro f k _; exact comp_zero N c k
  | succ M ih =>
    intro f k hk
    obtain ⟨N', rfl⟩ : ∃ n, N = n + 1 := ⟨N - 1, by omega⟩
    have e1 : comp (N' + 1) (comp (M + 1) f b) c k = comp (N' + 1) (at0 (f 0)) c k + comp (N' + 1) (conv b (comp M (fun i => f (i + 1)) b)) c k := by rw [← comp_add]; rfl
    rw [e1, comp_at0, comp_conv hc _ k _ _ hk, comp_succ M f]
    congr 1
    exact conv_congr (fun _ _ => rfl) fun i hi => ih _ i (by omega)

/-- the derivative of a sequence -/
def der (f : Nat → Int) (k : Nat) : Int := ((k + 1 : Nat) : Int) * f (k + 1)
/-- the chain rule -/
theorem chain_rule {c : Nat → Int} (hc : c 0 = 0) : ∀ (k : Nat) (f : Nat → Int) (N : Nat), k < N → eul (comp N f c) k = conv (comp N (der f) c) (eul c) k := by
  intro k
  induction k using Nat.strongRecOn with
  | _ k ih =>
    intro f N hN
    have hec : eul c 0 = 0 := by unfold eul; simp
    obtain ⟨N, rfl⟩ : ∃ n, N = n + 1 := ⟨N - 1, by omega⟩
    have e1 : eul (comp (N + 1) f c) k = eul (conv c (comp N (fun i => f (i + 1)) c)) k := by
      unfold eul
      rw [comp_succ]
      rcases Nat.eq_zero_or_pos k with rfl | hp
      · simp
      · have : at0 (f 0) k = 0 := by unfold at0; rw [if_neg (by omega)]
        rw [this, Int.zero_add]
    rw [e1, eul_conv]
    have e2 : conv c (eul (comp N (fun i => f (i + 1)) c)) k = conv c (conv (comp N (der fun i => f (i + 1)) c) (eul c)) k := conv_low hc fun i hi => ih i hi _ N (by omega)
    rw [e2, ← conv_assoc]
    have e3 : ∀ j, j < k → comp (N + 1) (der f) c j = comp N (fun i => f (i + 1)) c j + conv c (comp N (der fun i => f (i + 1)) c) j := by
      intro j hj
      have h1 : comp (N + 1) (der f) c j = comp (N + 1) (fun i => f (i + 1)) c j + comp (N + 1) (up (der fun i => f (i + 1))) c j := by
        rw [← comp_add]
        refine comp_congr (N + 1) c _ _ j fun i _ => ?_
        cases i with
        | zero => simp [der, up]
        | succ i =>
          show ((i + 1 + 1 : Nat) : Int) * f (i + 1 + 1) = f (i + 1 + 1) + ((i + 1 : Nat) : Int) * f (i + 1 + 1)
          rw [show ((i + 1 + 1 : Nat) : Int) = 1 + ((i + 1 : Nat) : Int) by omega, Int.add_mul, Int.one_mul]
      rw [h1, comp_stab hc j (fun i => f (i + 1)) (N + 1) N (by omega) (by omega)]
      congr 1
      rw [comp_succ]
      show at0 0 j + conv c (comp N (fun i => der (fun i => f (i + 1)) i) c) j = _
      have : at0 0 j = 0 := by unfold at0; split <;> rfl
      rw [this, Int.zero_add]
    rw [conv_comm' (comp (N + 1) (der f) c) (eul c)]
    rw [conv_low hec e3, conv_add_right, conv_comm' (eul c) (conv c _)]

/-- the sequence of t -/
def tt (k : Nat) : Int := if k = 1 then 1 else 0
theorem conv_tt (g : Nat → Int) (k : Nat) : conv tt g (k + 1) = g k := by
  rw [conv_succ]
  have : conv (fun i => tt (i + 1)) g k = conv (at0 1) g k := conv_congr (fun i _ => by unfold tt at0; simp) (fun _ _ => rfl)
  rw [this, conv_at0]; simp [tt]
theorem comp_tt : ∀ (k : Nat) (f : Nat → Int) (N : Nat), k < N → comp N f tt k = f k := by
  intro k
  induction k with
  | zero =>
    intro f N hN
    obtain ⟨N, rfl⟩ : ∃ n, N = n + 1 := ⟨N - 1, by omega⟩
    rw [comp_succ, conv_zero]; simp [at0, tt]
  | succ k ih =>
    intro f N hN
    obtain ⟨N, rfl⟩ : ∃ n, N = n + 1 := ⟨N - 1, by omega⟩
    rw [comp_succ, conv_tt, ih _ N (by omega)]; simp [at0]
theorem tt_comp {c : Nat → Int} (hc : c 0 = 0) (k N : Nat) (hN : k < N) : comp N tt c k = c k := by
  obtain ⟨N, rfl⟩ : ∃ n, N = n + 1 := ⟨N - 1, by omega⟩
  rw [comp_succ]
  have h0 : at0 (tt 0) k = 0 := by unfold at0 tt; split <;> simp
  rw [h0, Int.zero_add]
  rcases Nat.eq_zero_or_pos N with rfl | hp
  · obtain rfl : k = 0 := by omega
    rw [conv_zero, hc, Int.zero_mul]
  · obtain ⟨N, rfl⟩ : ∃ n, N = n + 1 := ⟨N - 1, by omega⟩
    have e : conv c (comp (N + 1) (fun i => tt (i + 1)) c) k = conv c (at0 1) k := conv_congr (fun _ _ => rfl) fun i _ => by
      have e1 : comp (N + 1) (fun i => tt (i + 1)) c i = comp (N + 1) (at0 1) c i := comp_congr (N + 1) c _ _ i fun j _ => by unfold tt at0; simp
      rw [e1, comp_at0]
    rw [e, conv_comm', conv_at0, Int.one_mul]

/-- how a coefficient of the composition depends on the last coefficient of c -/
theorem comp_top {c c' : Nat → Int} (hc : c 0 = 0) (hc' : c' 0 = 0) (f : Nat → Int) {k N : Nat} (hk : 1 ≤ k) (hN : 2 ≤ N) (h : ∀ i, i < k → rs (c i) = rs (c' i)) :
    rs (comp N f c k - c k * f 1) = rs (comp N f c' k - c' k * f 1) := by
  obtain ⟨N, rfl⟩ : ∃ n, N = n + 1 := ⟨N - 1, by omega⟩
  have key : ∀ d : Nat → Int, d 0 = 0 → comp (N + 1) f d k - d k * f 1 = at0 (f 0) k + sumN (fun i => d (i + 1) * comp N (fun i => f (i + 1)) d (k - 1 - i)) (k - 1) := by
    intro d hd
    rw [comp_succ]
    obtain ⟨j, rfl⟩ : ∃ j, k = j + 1 := ⟨k - 1, by omega⟩
    rw [conv_succ, hd, Int.zero_mul, Int.zero_add]
    have e0 : comp N (fun i => f (i + 1)) d 0 = f 1 := by
      obtain ⟨N, rfl⟩ : ∃ n, N = n + 1 := ⟨N - 1, by omega⟩
      rw [comp_succ, conv_zero, hd, Int.zero_mul]; simp [at0]
    unfold conv
    show at0 (f 0) (j + 1) + (sumN (fun i => d (i + 1) * comp N (fun i => f (i + 1)) d (j - i)) j + d (j + 1) * comp N (fun i => f (i + 1)) d (j - j)) - d (j + 1) * f 1 = _
    rw [Nat.sub_self, e0, show j + 1 - 1 = j by omega]
    omega
  rw [key c hc, key c' hc']
  refine rs_add rfl (sumN_mod _ fun i hi => rs_mul (h (i + 1) (by omega)) ?_)
  exact comp_mod N _ _ _ (fun _ _ => rfl) fun j hj => h j (by omega)

end Go.Proofs.Ytbgjbppjnmolfaa.Plain
