/- Plain: residues; every residue but 0 has an inverse, which is a power. No program is named here. -/
namespace Go.Proofs.Ytdhicgdcjfcomaa.Plain

/-- a sum of n terms -/
def sumN (f : Nat → Int) : Nat → Int
  | 0 => 0
  | n + 1 => sumN f n + f n
theorem sumN_congr {f g : Nat → Int} (n : Nat) (h : ∀ k, k < n → f k = g k) : sumN f n = sumN g n := by
  induction n with
  | zero => rfl
  | succ n ih => simp only [sumN]; rw [ih fun k hk => h k (by omega), h n (by omega)]
theorem sumN_head (f : Nat → Int) (n : Nat) : sumN f (n + 1) = f 0 + sumN (fun k => f (k + 1)) n := by
  induction n with
  | zero => simp [sumN]
  | succ n ih => rw [sumN, ih]; simp only [sumN]; omega
theorem sumN_add (f g : Nat → Int) (n : Nat) : sumN (fun k => f k + g k) n = sumN f n + sumN g n := by
  induction n with
  | zero => rfl
  | succ n ih => simp only [sumN]; rw [ih]; omega
theorem sumN_mul (c : Int) (f : Nat → Int) (n : Nat) : sumN (fun k => c * f k) n = c * sumN f n := by
  induction n with
  | zero => simp [sumN]
  | succ n ih => simp only [sumN]; rw [ih, Int.mul_add]
theorem sumN_zero (n : Nat) : sumN (fun _ => 0) n = 0 := by
  induction n with
  | zero => rfl
  | succ n ih => simp only [sumN]; rw [ih]; rfl

/-- the number of ways to choose -/
def chooseN : Nat → Nat → Nat
  | _, 0 => 1
  | 0, _ + 1 => 0
  | n + 1, k + 1 => chooseN n k + chooseN n (k + 1)
theorem chooseN_big : ∀ (n k : Nat), n < k → chooseN n k = 0 := by
  intro n
  induction n with
  | zero => intro k h; cases k with
    | zero => omega
    | succ k => rfl
  | succ n ih => intro k h; cases k with
    | zero => omega
    | succ k => simp only [chooseN]; rw [ih k (by omega), ih (k + 1) (by omega)]
theorem chooseN_self : ∀ (n : Nat), chooseN n n = 1 := by
  intro n
  induction n with
  | zero => rfl
  | succ n ih => simp only [chooseN]; rw [ih, chooseN_big n (n + 1) (by omega)]
theorem chooseN_absorb : ∀ (n k : Nat), (k + 1) * chooseN (n + 1) (k + 1) = (n + 1) * chooseN n k := by
  intro n
  induction n with
  | zero =>
    intro k
    cases k with
    | zero => rfl
    | succ k => simp [chooseN]
  | succ m ih =>
    intro k
    cases k with
    | zero =>
      have h := ih 0
      simp only [chooseN] at h ⊢
      omega
    | succ j =>
      have h1 := ih j
      have h2 := ih (j + 1)
      have e : chooseN (m + 1 + 1) (j + 1 + 1) = chooseN (m + 1) (j + 1) + chooseN (m + 1) (j + 1 + 1) := rfl
      have e2 : chooseN (m + 1) (j + 1) = chooseN m j + chooseN m (j + 1) := rfl
      rw [e, Nat.mul_add, h2]
      have h3 : (j + 1 + 1) * chooseN (m + 1) (j + 1) = (m + 1) * chooseN m j + chooseN (m + 1) (j + 1) := by rw [← h1, Nat.add_mul _ 1, Nat.one_mul]
      rw [h3]
      have h4 : (m + 1 + 1) * chooseN (m + 1) (j + 1) = (m + 1) * (chooseN m j + chooseN m (j + 1)) + chooseN (m + 1) (j + 1) := by rw [Nat.add_mul (m + 1) 1, Nat.one_mul, e2]
      rw [h4, Nat.mul_add]; omega

theorem binom (a : Int) : ∀ n : Nat, (a + 1) ^ n = sumN (fun k => (chooseN n k : Int) * a ^ k) (n + 1) := by
  intro n
  induction n with
  | zero => simp [sumN, chooseN]
  | succ n ih =>
    rw [Int.pow_succ, ih, Int.mul_add, Int.mul_one]
    have e1 : sumN (fun k => (chooseN (n + 1) k : Int) * a ^ k) (n + 1 + 1) = 1 + sumN (fun k => (chooseN n k : Int) * a ^ k * a + (chooseN n (k + 1) : Int) * a ^ (k + 1)) (n + 1) := by
      rw [sumN_head]
      have : (chooseN (n + 1) 0 : Int) * a ^ 0 = 1 := by simp [chooseN]
      rw [this]
      congr 1
      refine sumN_congr _ fun k _ => ?_
      show ((chooseN n k + chooseN n (k + 1) : Nat) : Int) * a ^ (k + 1) = _
      rw [Int.natCast_add, Int.add_mul, Int.pow_succ, Int.mul_assoc]
    have e2 : sumN (fun k => (chooseN n k : Int) * a ^ k) (n + 1 + 1) = sumN (fun k => (chooseN n k : Int) * a ^ k) (n + 1) := by
      show sumN _ (n + 1) + (chooseN n (n + 1) : Int) * a ^ (n + 1) = _
      rw [chooseN_big n (n + 1) (by omega)]; simp
    rw [sumN_head] at e2
    have e3 : (chooseN n 0 : Int) * a ^ 0 = 1 := by cases n <;> simp [chooseN]
    rw [e3] at e2
    rw [e1, sumN_add, ← e2]
    have e4 : sumN (fun k => (chooseN n k : Int) * a ^ k * a) (n + 1) = a * sumN (fun k => (chooseN n k : Int) * a ^ k) (n + 1) := by
      rw [← sumN_mul]
      exact sumN_congr _ fun k _ => by rw [Int.mul_comm]
    rw [e4, ← e2, Int.mul_comm]; omega

/-- p is a prime, as it is used here -/
def Pr (p : Nat) : Prop := 1 < p ∧ ∀ k, 0 < k → k < p → Nat.Coprime k p

theorem choose_dvd {p : Nat} (hp : Pr p) {k : Nat} (h0 : 0 < k) (h1 : k < p) : p ∣ chooseN p k := by
  obtain ⟨k', rfl⟩ : ∃ k', k = k' + 1 := ⟨k - 1, by omega⟩
  obtain ⟨p', rfl⟩ : ∃ p', p = p' + 1 := ⟨p - 1, by omega⟩
  have h := chooseN_absorb p' k'
  have hd : (p' + 1) ∣ (k' + 1) * chooseN (p' + 1) (k' + 1) := by rw [h]; exact Nat.dvd_mul_right _ _
  exact (Nat.Coprime.symm (hp.2 (k' + 1) (by omega) h1)).dvd_of_dvd_mul_left hd

theorem sumN_dvd {p : Nat} (f : Nat → Int) (n : Nat) (h : ∀ k, k < n → (p : Int) ∣ f k) : (p : Int) ∣ sumN f n := by
  induction n with
  | zero => exact Int.dvd_zero _
  | succ n ih => simp only [sumN]; exact Int.dvd_add (ih fun k hk => h k (by omega)) (h n (by omega))

theorem dream {p : Nat} (hp : Pr p) (a : Int) : (p : Int) ∣ (a + 1) ^ p - (a ^ p + 1) := by
  obtain ⟨p', rfl⟩ : ∃ p', p = p' + 1 := ⟨p - 1, by have := hp.1; omega⟩
  rw [binom]
  show _ ∣ sumN _ (p' + 1) + (chooseN (p' + 1) (p' + 1) : Int) * a ^ (p' + 1) - _
  rw [sumN_head, chooseN_self]
  have e : (chooseN (p' + 1) 0 : Int) * a ^ 0 = 1 := by simp [chooseN]
  rw [e]
  have hd : ((p' + 1 : Nat) : Int) ∣ sumN (fun k => (chooseN (p' + 1) (k + 1) : Int) * a ^ (k + 1)) p' := by
    refine sumN_dvd _ _ fun k hk => ?_
    exact Int.dvd_trans (Int.natCast_dvd_natCast.2 (choose_dvd hp (by omega) (by omega))) (Int.dvd_mul_right _ _)
  have e2 : (1 + sumN (fun k => (chooseN (p' + 1) (k + 1) : Int) * a ^ (k + 1)) p' + ((1 : Nat) : Int) * a ^ (p' + 1) - (a ^ (p' + 1) + 1)) = sumN (fun k => (chooseN (p' + 1) (k + 1) : Int) * a ^ (k + 1)) p' := by
    generalize a ^ (p' + 1) = x
    omega
  rw [e2]; exact hd

theorem fermatN {p : Nat} (hp : Pr p) (a : Nat) : (p : Int) ∣ (a : Int) ^ p - (a : Int) := by
  induction a with
  | zero =>
    obtain ⟨p', rfl⟩ : ∃ p', p = p' + 1 := ⟨p - 1, by have := hp.1; omega⟩
    rw [Int.pow_succ]; simp
  | succ a ih =>
    have h := dream hp (a : Int)
    have e : ((a + 1 : Nat) : Int) = (a : Int) + 1 := by omega
    rw [e]
    have := Int.dvd_add h ih
    have e2 : ((a : Int) + 1) ^ p - ((a : Int) ^ p + 1) + ((a : Int) ^ p - (a : Int)) = ((a : Int) + 1) ^ p - ((a : Int) + 1) := by omega
    rwa [e2] at this

theorem fermat1 {p : Nat} (hp : Pr p) (a : Nat) (h0 : 0 < a) (h1 : a < p) : (p : Int) ∣ (a : Int) ^ (p - 1) - 1 := by
  have h := fermatN hp a
  obtain ⟨p', rfl⟩ : ∃ p', p = p' + 1 := ⟨p - 1, by omega⟩
  rw [Int.pow_succ] at h
  have e : (a : Int) ^ p' * (a : Int) - (a : Int) = (a : Int) * ((a : Int) ^ p' - 1) := by rw [Int.mul_sub, Int.mul_one, Int.mul_comm]
  rw [e] at h
  have hc : Nat.Coprime (p' + 1) a := Nat.Coprime.symm (hp.2 a h0 h1)
  have h' : (p' + 1) ∣ ((a : Int) * ((a : Int) ^ p' - 1)).natAbs := Int.ofNat_dvd_left.1 h
  rw [Int.natAbs_mul, Int.natAbs_natCast] at h'
  have h2 := hc.dvd_of_dvd_mul_left h'
  exact Int.ofNat_dvd_left.2 h2

/-- the modulus -/
def PP : Nat := 1000003
theorem PP_eq : PP = 1000003 := rfl
theorem noDiv : ∀ d, d < 1001 → 2 ≤ d → 1000003 % d ≠ 0 := by decide +kernel
theorem PP_pr : Pr PP := by
  refine ⟨by rw [PP_eq]; omega, fun k h0 h1 => ?_⟩
  unfold Nat.Coprime
  have hg1 : Nat.gcd k PP ∣ PP := Nat.gcd_dvd_right _ _
  have hg2 : Nat.gcd k PP ≤ k := Nat.gcd_le_left _ h0
  have hg3 : 0 < Nat.gcd k PP := Nat.gcd_pos_of_pos_left _ h0
  generalize Nat.gcd k PP = g at *
  obtain ⟨q, hq⟩ := hg1
  rw [PP_eq] at hq h1
  rcases Nat.lt_or_ge g 2 with hg | hg
  · omega
  · exfalso
    rcases Nat.lt_or_ge g 1001 with hlt | hge
    · exact noDiv g hlt hg (by rw [hq]; simp)
    · have hq2 : 2 ≤ q := by
        rcases Nat.lt_or_ge q 2 with h | h
        · rcases (show q = 0 ∨ q = 1 by omega) with rfl | rfl <;> omega
        · exact h
      have hq3 : q < 1001 := by
        rcases Nat.lt_or_ge q 1001 with h | h
        · exact h
        · exfalso
          have := Nat.mul_le_mul hge h
          omega
      exact noDiv q hq3 hq2 (by rw [hq]; simp)

/-- residues -/
def rs (n : Int) : Int := n % 1000003
def pl (a b : Int) : Int := (a + b) % 1000003
def tm (a b : Int) : Int := (a * b) % 1000003
/-- powers -/
def pw (a : Int) (n : Nat) : Int := a ^ n % 1000003
/-- the inverse -/
def iv (a : Int) : Int := pw a (PP - 2)

theorem rs_bd (n : Int) : 0 ≤ rs n ∧ rs n ≤ 1000002 := by unfold rs; omega
theorem pl_bd (a b : Int) : 0 ≤ pl a b ∧ pl a b ≤ 1000002 := by unfold pl; omega
theorem tm_bd (a b : Int) : 0 ≤ tm a b ∧ tm a b ≤ 1000002 := by unfold tm; omega
theorem pw_bd (a : Int) (n : Nat) : 0 ≤ pw a n ∧ pw a n ≤ 1000002 := by unfold pw; omega
theorem iv_bd (a : Int) : 0 ≤ iv a ∧ iv a ≤ 1000002 := pw_bd _ _
theorem mulr (a b : Int) : (a * (b % 1000003)) % 1000003 = (a * b) % 1000003 := by rw [Int.mul_emod, Int.emod_emod, ← Int.mul_emod]
theorem mull (a b : Int) : ((a % 1000003) * b) % 1000003 = (a * b) % 1000003 := by rw [Int.mul_emod, Int.emod_emod, ← Int.mul_emod]
theorem pl_rs (a b : Int) : pl (rs a) (rs b) = pl a b := by unfold pl rs; omega
theorem tm_rs (a b : Int) : tm (rs a) (rs b) = tm a b := by unfold tm rs; rw [mulr, mull]
theorem powr (a : Int) (n : Nat) : (a % 1000003) ^ n % 1000003 = a ^ n % 1000003 := by
  induction n with
  | zero => rw [Int.pow_zero, Int.pow_zero]
  | succ n ih => rw [Int.pow_succ, Int.pow_succ, Int.mul_emod, ih, Int.emod_emod, ← Int.mul_emod]
theorem pw_rs (a : Int) (n : Nat) : pw (rs a) n = pw a n := powr a n
theorem pw_tm (a b : Int) (n : Nat) : pw (tm a b) n = tm (pw a n) (pw b n) := by
  unfold pw tm
  rw [powr, mulr, mull]
  congr 1
  induction n with
  | zero => simp
  | succ n ih =>
    simp only [Int.pow_succ]
    rw [ih, Int.mul_assoc, Int.mul_assoc]
    congr 1
    rw [← Int.mul_assoc, ← Int.mul_assoc, Int.mul_comm (b ^ n) a]
theorem pw_two_even (a : Int) (n : Nat) : pw (a * a % 1000003) n = pw a (2 * n) := by
  unfold pw
  rw [powr, Int.pow_mul]
  congr 2
  rw [Int.pow_succ, Int.pow_succ, Int.pow_zero, Int.one_mul]

theorem iv_mul {a : Int} (h : rs a ≠ 0) : tm a (iv a) = 1 := by
  have hb := rs_bd a
  obtain ⟨b, hb'⟩ := Int.eq_ofNat_of_zero_le hb.1
  have hlt : b < PP := by rw [PP_eq]; omega
  have h1 := fermat1 PP_pr b (by omega) hlt
  have e : tm a (iv a) = (b : Int) ^ (PP - 1) % 1000003 := by
    unfold iv
    rw [← tm_rs a, ← pw_rs a, hb']
    unfold tm pw rs
    rw [Int.emod_emod, mulr]
    rw [show PP - 1 = PP - 2 + 1 by rw [PP_eq]]
    rw [Int.pow_succ, Int.mul_comm]
  rw [e]
  have hP : (PP : Int) = 1000003 := rfl
  rw [hP] at h1
  generalize (b : Int) ^ (PP - 1) = x at *
  omega

end Go.Proofs.Ytdhicgdcjfcomaa.Plain
