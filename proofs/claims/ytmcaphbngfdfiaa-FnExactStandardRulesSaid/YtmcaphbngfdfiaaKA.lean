/- Texts put together: PField, PSeries, PChoose, PEs, PEsOk, PEvRel, PSeriesLaw, PExp, PConv, PEvOps. -/

/- Plain: residues; every residue but 0 has an inverse, which is a power. No program is named here. -/
namespace Go.Proofs.Ytmcaphbngfdfiaa.Plain

/-- a sum of n terms -/
def sumN (f : Nat → Int) : Nat → Int
  | 0 => 0
  | n + 1 => sumN f n + f n
theorem sumN_congr {f g : Nat → Int} (n : Nat) (h : ∀ k, k < n → f k = g k) : sumN f n = sumN g n := by
  induction n with
  | zero => rfl
  | succ n ih => simp only [sumN]; rw [ih fun k hk => h k (by omega), h n (by omega)]
theorem sumN_head (f : Nat → Int) (n : Nat) : sumN f (n + 1) = f 0 + sumN (fun k => f (k + 1)) n := by
  induction n with
  | zero => simp [sumN]
  | succ n ih => rw [sumN, ih]; simp only [sumN]; omega
theorem sumN_add (f g : Nat → Int) (n : Nat) : sumN (fun k => f k + g k) n = sumN f n + sumN g n := by
  induction n with
  | zero => rfl
  | succ n ih => simp only [sumN]; rw [ih]; omega
theorem sumN_mul (c : Int) (f : Nat → Int) (n : Nat) : sumN (fun k => c * f k) n = c * sumN f n := by
  induction n with
  | zero => simp [sumN]
  | succ n ih => simp only [sumN]; rw [ih, Int.mul_add]
theorem sumN_zero (n : Nat) : sumN (fun _ => 0) n = 0 := by
  induction n with
  | zero => rfl
  | succ n ih => simp only [sumN]; rw [ih]; rfl

/-- the number of ways to choose -/
def chooseN : Nat → Nat → Nat
  | _, 0 => 1
  | 0, _ + 1 => 0
  | n + 1, k + 1 => chooseN n k + chooseN n (k + 1)
theorem chooseN_big : ∀ (n k : Nat), n < k → chooseN n k = 0 := by
  intro n
  induction n with
  | zero => intro k h; cases k with
    | zero => omega
    | succ k => rfl
  | succ n ih => intro k h; cases k with
    | zero => omega
    | succ k => simp only [chooseN]; rw [ih k (by omega), ih (k + 1) (by omega)]
theorem chooseN_self : ∀ (n : Nat), chooseN n n = 1 := by
  intro n
  induction n with
  | zero => rfl
  | succ n ih => simp only [chooseN]; rw [ih, chooseN_big n (n + 1) (by omega)]
theorem chooseN_absorb : ∀ (n k : Nat), (k + 1) * chooseN (n + 1) (k + 1) = (n + 1) * chooseN n k := by
  intro n
  induction n with
  | zero =>
    intro k
    cases k with
    | zero => rfl
    | succ k => simp [chooseN]
  | succ m ih =>
    intro k
    cases k with
    | zero =>
      have h := ih 0
      simp only [chooseN] at h ⊢
      omega
    | succ j =>
      have h1 := ih j
      have h2 := ih (j + 1)
      have e : chooseN (m + 1 + 1) (j + 1 + 1) = chooseN (m + 1) (j + 1) + chooseN (m + 1) (j + 1 + 1) := rfl
      have e2 : chooseN (m + 1) (j + 1) = chooseN m j + chooseN m (j + 1) := rfl
      rw [e, Nat.mul_add, h2]
      have h3 : (j + 1 + 1) * chooseN (m + 1) (j + 1) = (m + 1) * chooseN m j + chooseN (m + 1) (j + 1) := by rw [← h1, Nat.add_mul _ 1, Nat.one_mul]
      rw [h3]
      have h4 : (m + 1 + 1) * chooseN (m + 1) (j + 1) = (m + 1) * (chooseN m j + chooseN m (j + 1)) + chooseN (m + 1) (j + 1) := by rw [Nat.add_mul (m + 1) 1, Nat.one_mul, e2]
      rw [h4, Nat.mul_add]; omega

theorem binom (a : Int) : ∀ n : Nat, (a + 1) ^ n = sumN (fun k => (chooseN n k : Int) * a ^ k) (n + 1) := by
  intro n
  induction n with
  | zero => simp [sumN, chooseN]
  | succ n ih =>
    rw [Int.pow_succ, ih, Int.mul_add, Int.mul_one]
    have e1 : sumN (fun k => (chooseN (n + 1) k : Int) * a ^ k) (n + 1 + 1) = 1 + sumN (fun k => (chooseN n k : Int) * a ^ k * a + (chooseN n (k + 1) : Int) * a ^ (k + 1)) (n + 1) := by
      rw [sumN_head]
      have : (chooseN (n + 1) 0 : Int) * a ^ 0 = 1 := by simp [chooseN]
      rw [this]
      congr 1
      refine sumN_congr _ fun k _ => ?_
      show ((chooseN n k + chooseN n (k + 1) : Nat) : Int) * a ^ (k + 1) = _
      rw [Int.natCast_add, Int.add_mul, Int.pow_succ, Int.mul_assoc]
    have e2 : sumN (fun k => (chooseN n k : Int) * a ^ k) (n + 1 + 1) = sumN (fun k => (chooseN n k : Int) * a ^ k) (n + 1) := by
      show sumN _ (n + 1) + (chooseN n (n + 1) : Int) * a ^ (n + 1) = _
      rw [chooseN_big n (n + 1) (by omega)]; simp
    rw [sumN_head] at e2
    have e3 : (chooseN n 0 : Int) * a ^ 0 = 1 := by cases n <;> simp [chooseN]
    rw [e3] at e2
    rw [e1, sumN_add, ← e2]
    have e4 : sumN (fun k => (chooseN n k : Int) * a ^ k * a) (n + 1) = a * sumN (fun k => (chooseN n k : Int) * a ^ k) (n + 1) := by
      rw [← sumN_mul]
      exact sumN_congr _ fun k _ => by rw [Int.mul_comm]
    rw [e4, ← e2, Int.mul_comm]; omega

/-- p is a prime, as it is used here -/
def Pr (p : Nat) : Prop := 1 < p ∧ ∀ k, 0 < k → k < p → Nat.Coprime k p

theorem choose_dvd {p : Nat} (hp : Pr p) {k : Nat} (h0 : 0 < k) (h1 : k < p) : p ∣ chooseN p k := by
  obtain ⟨k', rfl⟩ : ∃ k', k = k' + 1 := ⟨k - 1, by omega⟩
  obtain ⟨p', rfl⟩ : ∃ p', p = p' + 1 := ⟨p - 1, by omega⟩
  have h := chooseN_absorb p' k'
  have hd : (p' + 1) ∣ (k' + 1) * chooseN (p' + 1) (k' + 1) := by rw [h]; exact Nat.dvd_mul_right _ _
  exact (Nat.Coprime.symm (hp.2 (k' + 1) (by omega) h1)).dvd_of_dvd_mul_left hd

theorem sumN_dvd {p : Nat} (f : Nat → Int) (n : Nat) (h : ∀ k, k < n → (p : Int) ∣ f k) : (p : Int) ∣ sumN f n := by
  induction n with
  | zero => exact Int.dvd_zero _
  | succ n ih => simp only [sumN]; exact Int.dvd_add (ih fun k hk => h k (by omega)) (h n (by omega))

theorem dream {p : Nat} (hp : Pr p) (a : Int) : (p : Int) ∣ (a + 1) ^ p - (a ^ p + 1) := by
  obtain ⟨p', rfl⟩ : ∃ p', p = p' + 1 := ⟨p - 1, by have := hp.1; omega⟩
  rw [binom]
  show _ ∣ sumN _ (p' + 1) + (chooseN (p' + 1) (p' + 1) : Int) * a ^ (p' + 1) - _
  rw [sumN_head, chooseN_self]
  have e : (chooseN (p' + 1) 0 : Int) * a ^ 0 = 1 := by simp [chooseN]
  rw [e]
  have hd : ((p' + 1 : Nat) : Int) ∣ sumN (fun k => (chooseN (p' + 1) (k + 1) : Int) * a ^ (k + 1)) p' := by
    refine sumN_dvd _ _ fun k hk => ?_
    exact Int.dvd_trans (Int.natCast_dvd_natCast.2 (choose_dvd hp (by omega) (by omega))) (Int.dvd_mul_right _ _)
  have e2 : (1 + sumN (fun k => (chooseN (p' + 1) (k + 1) : Int) * a ^ (k + 1)) p' + ((1 : Nat) : Int) * a ^ (p' + 1) - (a ^ (p' + 1) + 1)) = sumN (fun k => (chooseN (p' + 1) (k + 1) : Int) * a ^ (k + 1)) p' := by
    generalize a ^ (p' + 1) = x
    omega
  rw [e2]; exact hd

theorem fermatN {p : Nat} (hp : Pr p) (a : Nat) : (p : Int) ∣ (a : Int) ^ p - (a : Int) := by
  induction a with
  | zero =>
    obtain ⟨p', rfl⟩ : ∃ p', p = p' + 1 := ⟨p - 1, by have := hp.1; omega⟩
    rw [Int.pow_succ]; simp
  | succ a ih =>
    have h := dream hp (a : Int)
    have e : ((a + 1 : Nat) : Int) = (a : Int) + 1 := by omega
    rw [e]
    have := Int.dvd_add h ih
    have e2 : ((a : Int) + 1) ^ p - ((a : Int) ^ p + 1) + ((a : Int) ^ p - (a : Int)) = ((a : Int) + 1) ^ p - ((a : Int) + 1) := by omega
    rwa [e2] at this

theorem fermat1 {p : Nat} (hp : Pr p) (a : Nat) (h0 : 0 < a) (h1 : a < p) : (p : Int) ∣ (a : Int) ^ (p - 1) - 1 := by
  have h := fermatN hp a
  obtain ⟨p', rfl⟩ : ∃ p', p = p' + 1 := ⟨p - 1, by omega⟩
  rw [Int.pow_succ] at h
  have e : (a : Int) ^ p' * (a : Int) - (a : Int) = (a : Int) * ((a : Int) ^ p' - 1) := by rw [Int.mul_sub, Int.mul_one, Int.mul_comm]
  rw [e] at h
  have hc : Nat.Coprime (p' + 1) a := Nat.Coprime.symm (hp.2 a h0 h1)
  have h' : (p' + 1) ∣ ((a : Int) * ((a : Int) ^ p' - 1)).natAbs := Int.ofNat_dvd_left.1 h
  rw [Int.natAbs_mul, Int.natAbs_natCast] at h'
  have h2 := hc.dvd_of_dvd_mul_left h'
  exact Int.ofNat_dvd_left.2 h2

/-- the modulus -/
def PP : Nat := 1000003
theorem PP_eq : PP = 1000003 := rfl
theorem noDiv : ∀ d, d < 1001 → 2 ≤ d → 1000003 % d ≠ 0 := by decide +kernel
theorem PP_pr : Pr PP := by
  refine ⟨by rw [PP_eq]; omega, fun k h0 h1 => ?_⟩
  unfold Nat.Coprime
  have hg1 : Nat.gcd k PP ∣ PP := Nat.gcd_dvd_right _ _
  have hg2 : Nat.gcd k PP ≤ k := Nat.gcd_le_left _ h0
  have hg3 : 0 < Nat.gcd k PP := Nat.gcd_pos_of_pos_left _ h0
  generalize Nat.gcd k PP = g at *
  obtain ⟨q, hq⟩ := hg1
  rw [PP_eq] at hq h1
  rcases Nat.lt_or_ge g 2 with hg | hg
  · omega
  · exfalso
    rcases Nat.lt_or_ge g 1001 with hlt | hge
    · exact noDiv g hlt hg (by rw [hq]; simp)
    · have hq2 : 2 ≤ q := by
        rcases Nat.lt_or_ge q 2 with h | h
        · rcases (show q = 0 ∨ q = 1 by omega) with rfl | rfl <;> omega
        · exact h
      have hq3 : q < 1001 := by
        rcases Nat.lt_or_ge q 1001 with h | h
        · exact h
        · exfalso
          have := Nat.mul_le_mul hge h
          omega
      exact noDiv q hq3 hq2 (by rw [hq]; simp)

/-- residues -/
def rs (n : Int) : Int := n % 1000003
def pl (a b : Int) : Int := (a + b) % 1000003
def tm (a b : Int) : Int := (a * b) % 1000003
/-- powers -/
def pw (a : Int) (n : Nat) : Int := a ^ n % 1000003
/-- the inverse -/
def iv (a : Int) : Int := pw a (PP - 2)

theorem rs_bd (n : Int) : 0 ≤ rs n ∧ rs n ≤ 1000002 := by unfold rs; omega
theorem pl_bd (a b : Int) : 0 ≤ pl a b ∧ pl a b ≤ 1000002 := by unfold pl; omega
theorem tm_bd (a b : Int) : 0 ≤ tm a b ∧ tm a b ≤ 1000002 := by unfold tm; omega
theorem pw_bd (a : Int) (n : Nat) : 0 ≤ pw a n ∧ pw a n ≤ 1000002 := by unfold pw; omega
theorem iv_bd (a : Int) : 0 ≤ iv a ∧ iv a ≤ 1000002 := pw_bd _ _
theorem mulr (a b : Int) : (a * (b % 1000003)) % 1000003 = (a * b) % 1000003 := by rw [Int.mul_emod, Int.emod_emod, ← Int.mul_emod]
theorem mull (a b : Int) : ((a % 1000003) * b) % 1000003 = (a * b) % 1000003 := by rw [Int.mul_emod, Int.emod_emod, ← Int.mul_emod]
theorem pl_rs (a b : Int) : pl (rs a) (rs b) = pl a b := by unfold pl rs; omega
theorem tm_rs (a b : Int) : tm (rs a) (rs b) = tm a b := by unfold tm rs; rw [mulr, mull]
theorem powr (a : Int) (n : Nat) : (a % 1000003) ^ n % 1000003 = a ^ n % 1000003 := by
  induction n with
  | zero => rw [Int.pow_zero, Int.pow_zero]
  | succ n ih => rw [Int.pow_succ, Int.pow_succ, Int.mul_emod, ih, Int.emod_emod, ← Int.mul_emod]
theorem pw_rs (a : Int) (n : Nat) : pw (rs a) n = pw a n := powr a n
theorem pw_tm (a b : Int) (n : Nat) : pw (tm a b) n = tm (pw a n) (pw b n) := by
  unfold pw tm
  rw [powr, mulr, mull]
  congr 1
  induction n with
  | zero => simp
  | succ n ih =>
    simp only [Int.pow_succ]
    rw [ih, Int.mul_assoc, Int.mul_assoc]
    congr 1
    rw [← Int.mul_assoc, ← Int.mul_assoc, Int.mul_comm (b ^ n) a]
theorem pw_two_even (a : Int) (n : Nat) : pw (a * a % 1000003) n = pw a (2 * n) := by
  unfold pw
  rw [powr, Int.pow_mul]
  congr 2
  rw [Int.pow_succ, Int.pow_succ, Int.pow_zero, Int.one_mul]

theorem iv_mul {a : Int} (h : rs a ≠ 0) : tm a (iv a) = 1 := by
  have hb := rs_bd a
  obtain ⟨b, hb'⟩ := Int.eq_ofNat_of_zero_le hb.1
  have hlt : b < PP := by rw [PP_eq]; omega
  have h1 := fermat1 PP_pr b (by omega) hlt
  have e : tm a (iv a) = (b : Int) ^ (PP - 1) % 1000003 := by
    unfold iv
    rw [← tm_rs a, ← pw_rs a, hb']
    unfold tm pw rs
    rw [Int.emod_emod, mulr]
    rw [show PP - 1 = PP - 2 + 1 by rw [PP_eq]]
    rw [Int.pow_succ, Int.mul_comm]
  rw [e]
  have hP : (PP : Int) = 1000003 := rfl
  rw [hP] at h1
  generalize (b : Int) ^ (PP - 1) = x at *
  omega

end Go.Proofs.Ytmcaphbngfdfiaa.Plain

/- Plain: series of residues as lists. No program is named here. -/
namespace Go.Proofs.Ytmcaphbngfdfiaa.Plain

/-- a coefficient -/
def cf (a : List Int) (k : Nat) : Int := a.getD k 0
theorem cf_get {a : List Int} {k : Nat} {x : Int} (h : a[k]? = some x) : cf a k = x := by simp [cf, List.getD, h]
theorem cf_some {a : List Int} {k : Nat} (h : k < a.length) : a[k]? = some (cf a k) := by simp [cf, List.getD, h]
theorem cf_big {a : List Int} {k : Nat} (h : a.length ≤ k) : cf a k = 0 := by simp [cf, List.getD, h]
/-- a list of so many values -/
def mk (n : Nat) (f : Nat → Int) : List Int := (List.range n).map f
theorem mk_length (n : Nat) (f : Nat → Int) : (mk n f).length = n := by simp [mk]
theorem cf_mk {n : Nat} {f : Nat → Int} {k : Nat} (h : k < n) : cf (mk n f) k = f k := by simp [cf, List.getD, mk, h]
theorem mk_congr {n : Nat} {f g : Nat → Int} (h : ∀ k, k < n → f k = g k) : mk n f = mk n g := by
  unfold mk; exact List.map_congr_left fun k hk => h k (by simpa using hk)
theorem mk_cf (a : List Int) : mk a.length (cf a) = a := by
  apply List.ext_getElem
  · simp [mk]
  · intro i h1 h2
    simp [mk, cf, List.getD, h2]
theorem list_ext {a b : List Int} (hl : a.length = b.length) (h : ∀ k, k < a.length → cf a k = cf b k) : a = b := by
  rw [← mk_cf a, ← mk_cf b, hl]
  exact mk_congr fun k hk => h k (by omega)

/-- all are residues -/
def IsS (a : List Int) : Prop := ∀ k, 0 ≤ cf a k ∧ cf a k ≤ 1000002
theorem IsS.rs_ {a : List Int} (h : IsS a) (k : Nat) : rs (cf a k) = cf a k := by have := h k; unfold rs; omega
theorem IsS.mk_ {n : Nat} {f : Nat → Int} (h : ∀ k, 0 ≤ f k ∧ f k ≤ 1000002) : IsS (mk n f) := fun k => by
  by_cases hk : k < n
  · rw [cf_mk hk]; exact h k
  · rw [cf_big (by rw [mk_length]; omega)]; omega

/-- the sum -/
def addL (a b : List Int) : List Int := mk a.length fun k => pl (cf a k) (cf b k)
/-- the partial sums of a product's coefficient -/
def mulT (a b : List Int) (k i : Nat) : Int := sumN (fun i => cf a i * cf b (k - i)) i
/-- the product -/
def mulL (a b : List Int) : List Int := mk a.length fun k => rs (mulT a b k (k + 1))
/-- the quotient's coefficients -/
def divT (a b : List Int) : Nat → List Int
  | 0 => []
  | k + 1 => divT a b k ++ [tm (rs (cf a k - sumN (fun i => cf (divT a b k) i * cf b (k - i)) k)) (iv (cf b 0))]
/-- the quotient -/
def divL (a b : List Int) : List Int := divT a b a.length

theorem addL_length (a b : List Int) : (addL a b).length = a.length := mk_length _ _
theorem mulL_length (a b : List Int) : (mulL a b).length = a.length := mk_length _ _
theorem divT_length (a b : List Int) (k : Nat) : (divT a b k).length = k := by
  induction k with
  | zero => rfl
  | succ k ih => simp [divT, ih]
theorem divL_length (a b : List Int) : (divL a b).length = a.length := divT_length _ _ _
theorem divT_cf (a b : List Int) (k j : Nat) (h : j < k) : cf (divT a b (k + 1)) j = cf (divT a b k) j := by
  have hl := divT_length a b k
  simp only [cf, List.getD, divT]
  rw [List.getElem?_append_left (by omega)]
theorem divT_cf' (a b : List Int) (k m j : Nat) (h : j < k) (hm : k ≤ m) : cf (divT a b m) j = cf (divT a b k) j := by
  induction m with
  | zero => omega
  | succ m ih =>
    by_cases e : k = m + 1
    · rw [e]
    · rw [divT_cf a b m j (by omega), ih (by omega)]
theorem divT_last (a b : List Int) (k : Nat) : cf (divT a b (k + 1)) k = tm (rs (cf a k - sumN (fun i => cf (divT a b k) i * cf b (k - i)) k)) (iv (cf b 0)) := by
  have hl := divT_length a b k
  simp only [cf, List.getD, divT]
  rw [List.getElem?_append_right (by omega)]
  simp [hl]
theorem isS_add (a b : List Int) : IsS (addL a b) := IsS.mk_ fun _ => pl_bd _ _
theorem isS_mul (a b : List Int) : IsS (mulL a b) := IsS.mk_ fun _ => rs_bd _
theorem isS_divT (a b : List Int) (k : Nat) : IsS (divT a b k) := by
  induction k with
  | zero => intro k; rw [cf_big (by simp [divT])]; omega
  | succ k ih =>
    intro j
    rcases Nat.lt_trichotomy j k with h | rfl | h
    · rw [divT_cf a b k j h]; exact ih j
    · rw [divT_last]; exact tm_bd _ _
    · rw [cf_big (by rw [divT_length]; omega)]; omega
theorem isS_div (a b : List Int) : IsS (divL a b) := isS_divT _ _ _

end Go.Proofs.Ytmcaphbngfdfiaa.Plain

/- Plain facts on binomial loops: the reference's loop and the program's loop compute the same bounded numbers. No program is named here. -/
namespace Go.Proofs.Ytmcaphbngfdfiaa.Plain

/-- the reference's loop behind j rounds -/
def chS (n k : Int) : Nat → Int
  | 0 => 1
  | j + 1 => chS n k j * (n - k + ((j : Int) + 1)) / ((j : Int) + 1)

/-- the program's loop behind j rounds -/
def chI (n : Int) : Nat → Int
  | 0 => 1
  | j + 1 => chI n j * (n - (j : Int)) / ((j : Int) + 1)

/-- ways to choose k of n, as the reference has it -/
def chooseS (n k : Int) : Int := if k < 0 ∨ k > n then 0 else chS n k k.toNat
def chooseI (n k : Int) : Int := if k < 0 ∨ k > n then 0 else chI n k.toNat

theorem chS_all : ((List.range 49).all fun n => (List.range 10).all fun k => (List.range 10).all fun j => !(decide (k ≤ n) && decide (j ≤ k)) || (decide (0 ≤ chS (n : Nat) (k : Nat) j) && decide (chS (n : Nat) (k : Nat) j ≤ 2000000000))) = true := by decide +kernel
theorem chI_all : ((List.range 49).all fun n => (List.range 10).all fun k => (List.range 10).all fun j => !(decide (k ≤ n) && decide (j ≤ k)) || (decide (0 ≤ chI (n : Nat) j) && decide (chI (n : Nat) j ≤ 2000000000))) = true := by decide +kernel
theorem chS_bd_nat (n k j : Nat) (hn : n < 49) (hk : k < 10) (hj : j < 10) (h : k ≤ n) (h' : j ≤ k) : 0 ≤ chS (n : Nat) (k : Nat) j ∧ chS (n : Nat) (k : Nat) j ≤ 2000000000 := by
  have q := chS_all
  simp only [List.all_eq_true, List.mem_range] at q
  simpa [h, h'] using q n hn k hk j hj
theorem chI_bd_nat (n k j : Nat) (hn : n < 49) (hk : k < 10) (hj : j < 10) (h : k ≤ n) (h' : j ≤ k) : 0 ≤ chI (n : Nat) j ∧ chI (n : Nat) j ≤ 2000000000 := by
  have q := chI_all
  simp only [List.all_eq_true, List.mem_range] at q
  simpa [h, h'] using q n hn k hk j hj
theorem choose_eq_nat : ∀ n, n < 49 → ∀ k, k < 10 → chooseS (n : Nat) (k : Nat) = chooseI (n : Nat) (k : Nat) := by decide +kernel

theorem chS_bd (n k : Int) (j : Nat) (hn : 0 ≤ n) (hn' : n ≤ 48) (hk : 0 ≤ k) (hk' : k ≤ 9) (h : k ≤ n) (hj : (j : Int) ≤ k) : 0 ≤ chS n k j ∧ chS n k j ≤ 2000000000 := by
  obtain ⟨n, rfl⟩ := Int.eq_ofNat_of_zero_le hn
  obtain ⟨k, rfl⟩ := Int.eq_ofNat_of_zero_le hk
  exact chS_bd_nat n k j (by omega) (by omega) (by omega) (by omega) (by omega)
theorem chI_bd (n k : Int) (j : Nat) (hn : 0 ≤ n) (hn' : n ≤ 48) (hk : 0 ≤ k) (hk' : k ≤ 9) (h : k ≤ n) (hj : (j : Int) ≤ k) : 0 ≤ chI n j ∧ chI n j ≤ 2000000000 := by
  obtain ⟨n, rfl⟩ := Int.eq_ofNat_of_zero_le hn
  obtain ⟨k, rfl⟩ := Int.eq_ofNat_of_zero_le hk
  exact chI_bd_nat n k j (by omega) (by omega) (by omega) (by omega) (by omega)
theorem choose_eq (n k : Int) (hn : 0 ≤ n) (hn' : n ≤ 48) (hk : 0 ≤ k) (hk' : k ≤ 9) : chooseS n k = chooseI n k := by
  obtain ⟨n, rfl⟩ := Int.eq_ofNat_of_zero_le hn
  obtain ⟨k, rfl⟩ := Int.eq_ofNat_of_zero_le hk
  exact choose_eq_nat n (by omega) k (by omega)

/-- a range test -/
def inR (n lo hi : Int) : Bool := decide (lo ≤ n) && decide (n ≤ hi)
theorem inR_true {n lo hi : Int} : inR n lo hi = true ↔ lo ≤ n ∧ n ≤ hi := by simp [inR]
theorem inR_false {n lo hi : Int} : inR n lo hi = false ↔ ¬ (lo ≤ n ∧ n ≤ hi) := by
  rw [← inR_true]; cases inR n lo hi <;> simp
theorem inR_yes {n lo hi : Int} (h : lo ≤ n) (h' : n ≤ hi) : inR n lo hi = true := inR_true.2 ⟨h, h'⟩

end Go.Proofs.Ytmcaphbngfdfiaa.Plain

/- Expressions, plainly: lists of nodes with their kids, forms, values. No program here. -/
namespace Go.Proofs.Ytmcaphbngfdfiaa
open Plain

/-- a list of expressions: the first one's fields and kids, and the rest -/
inductive Es where
  | nil : Es
  | cons (k n p c : Int) (ks rest : Es) : Es
/-- an expression -/
structure Nd where
  k : Int
  n : Int
  p : Int
  c : Int
  ks : Es

namespace Es
def len : Es → Nat
  | .nil => 0
  | .cons _ _ _ _ _ r => r.len + 1
/-- the number of nodes -/
def size : Es → Nat
  | .nil => 0
  | .cons _ _ _ _ ks r => 1 + ks.size + r.size
/-- the greatest depth -/
def depth : Es → Nat
  | .nil => 0
  | .cons _ _ _ _ ks r => max (ks.depth + 1) r.depth
def get? : Es → Nat → Option Nd
  | .nil, _ => none
  | .cons k n p c ks _, 0 => some ⟨k, n, p, c, ks⟩
  | .cons _ _ _ _ _ r, i + 1 => r.get? i
theorem len_le_size (es : Es) : es.len ≤ es.size := by
  induction es with
  | nil => simp [len, size]
  | cons k n p c ks r _ ih => simp only [len, size]; omega
theorem get?_lt {es : Es} {i : Nat} {x : Nd} (h : es.get? i = some x) : i < es.len := by
  induction es generalizing i with
  | nil => simp [get?] at h
  | cons k n p c ks r _ ih =>
    cases i with
    | zero => simp [len]
    | succ i => simp only [get?] at h; have := ih h; simp only [len]; omega
theorem get?_some {es : Es} {i : Nat} (h : i < es.len) : ∃ x, es.get? i = some x := by
  induction es generalizing i with
  | nil => simp [len] at h
  | cons k n p c ks r _ ih =>
    cases i with
    | zero => exact ⟨_, rfl⟩
    | succ i => simp only [len] at h; exact ih (by omega)
theorem get?_size {es : Es} {i : Nat} {x : Nd} (h : es.get? i = some x) : x.ks.size < es.size := by
  induction es generalizing i with
  | nil => simp [get?] at h
  | cons k n p c ks r _ ih =>
    cases i with
    | zero => simp only [get?, Option.some.injEq] at h; subst h; simp only [size]; omega
    | succ i => simp only [get?] at h; have := ih h; simp only [size]; omega
theorem len0 {es : Es} (h : es.len = 0) : es = .nil := by cases es <;> simp_all [len]
end Es

/-- a function of a program -/
structure Fn where
  name : ByteArray
  params : Int
  outs : Es

/-- are the fields of a node with so many kids right? -/
def nodeOk (P : List Fn) (fn vars k n p c : Int) (len : Nat) : Bool :=
  if k = 10 ∨ k = 11 then
    inR n 0 (fn - 1) && (match P[n.toNat]? with
      | none => false
      | some f => decide ((len : Int) = f.params) && inR p 0 ((f.outs.len : Int) - 1) && (if k = 10 then c == 0 else decide ((f.outs.len : Int) = f.params) && inR c 0 8))
  else p == 0 && c == 0 &&
    (if k = 1 then len == 0 && inR n 0 1000002
     else if k = 2 then len == 0 && inR n 0 (vars - 1)
     else if k = 3 ∨ k = 4 ∨ k = 5 ∨ k = 6 ∨ k = 9 then n == 0 && len == 2
     else if k = 7 then n == 0 && len == 1
     else if k = 8 then n == 0 && len == 3
     else false)
/-- the variables of kid i of a node of kind k -/
def kidVars (k vars : Int) (i : Nat) : Int := if k = 9 ∧ i = 1 then vars + 1 else vars
/-- are the kids from the i-th on of a node of kind k formed? -/
def formedL (P : List Fn) (fn : Int) : Es → Int → Nat → Int → Bool
  | .nil, _, _, _ => true
  | .cons k n p c ks r, k', i, vars => nodeOk P fn (kidVars k' vars i) k n p c ks.len && formedL P fn ks k 0 (kidVars k' vars i) && formedL P fn r k' (i + 1) vars
/-- is an expression formed? -/
def formed (P : List Fn) (fn vars : Int) (x : Nd) : Bool := nodeOk P fn vars x.k x.n x.p x.c x.ks.len && formedL P fn x.ks x.k 0 vars
def Nd.size (x : Nd) : Nat := 1 + x.ks.size
def Nd.depth (x : Nd) : Nat := x.ks.depth + 1
def exprOk (P : List Fn) (x : Nd) (vars funcs : Int) : Bool :=
  inR vars 0 412 && inR funcs 0 P.length && decide (x.size ≤ 400) && decide (x.depth ≤ 60) && formed P funcs vars x

theorem formedL_get {P : List Fn} {fn : Int} {es : Es} {k' vars : Int} {i j : Nat} {x : Nd} (h : formedL P fn es k' i vars = true) (hx : es.get? j = some x) : formed P fn (kidVars k' vars (i + j)) x = true := by
  induction es generalizing i j with
  | nil => simp [Es.get?] at hx
  | cons k n p c ks r _ ih =>
    simp only [formedL, Bool.and_eq_true] at h
    cases j with
    | zero => simp only [Es.get?, Option.some.injEq] at hx; subst hx; simp [formed, h]
    | succ j => simp only [Es.get?] at hx; have := ih h.2 hx; rwa [show i + (j + 1) = i + 1 + j by omega]

/-- an end: an error, or a value and the number of steps -/
inductive Res (α : Type) where
  | err (c : Int) : Res α
  | ok (v : α) (s : Nat) : Res α

/-- the values of the expressions of a list -/
def evAll (ev : Nd → List (List Int) → Nat → Res (List Int)) (env : List (List Int)) : Es → Nat → Res (List (List Int))
  | .nil, s => .ok [] s
  | .cons k n p c ks r, s => match ev ⟨k, n, p, c, ks⟩ env s with
    | .err e => .err e
    | .ok z s1 => match evAll ev env r s1 with
      | .err e => .err e
      | .ok zs s2 => .ok (z :: zs) s2

/-- c rounds of the outputs -/
def evLoop (ev : Nd → List (List Int) → Nat → Res (List Int)) (outs : Es) : Nat → List (List Int) → Nat → Res (List (List Int))
  | 0, zs, s => .ok zs s
  | c + 1, zs, s => match evAll ev zs outs s with
    | .err e => .err e
    | .ok zs' s' => evLoop ev outs c zs' s'

/-- the operations on series -/
structure Ops where
  num : Int → List Int
  add : List Int → List Int → List Int
  sub : List Int → List Int → List Int
  mul : List Int → List Int → List Int
  div : List Int → List Int → List Int
  neg : List Int → List Int

def ops (n : Nat) : Ops where
  num x := mk n fun k => if k = 0 then x else 0
  add := addL
  sub a b := mk a.length fun k => rs (cf a k - cf b k)
  mul := mulL
  div := divL
  neg a := mk a.length fun k => tm (cf a k) 1000002

/-- the value of an expression; f bounds the steps that are left -/
def ev (O : Ops) (P : List Fn) : Nat → Nd → List (List Int) → Nat → Res (List Int)
  | 0, _, _, _ => .err 7
  | f + 1, x, env, s =>
    if 3000 ≤ s then .err 7
    else if x.k = 1 then .ok (O.num x.n) (s + 1)
    else if x.k = 2 then .ok (env.getD x.n.toNat []) (s + 1)
    else if x.k = 8 then match x.ks.get? 0, x.ks.get? 1, x.ks.get? 2 with
      | some a, some b, some c => match ev O P f a env (s + 1) with
        | .err e => .err e
        | .ok z s1 => if cf z 0 = 0 then ev O P f b env s1 else ev O P f c env s1
      | _, _, _ => .err 7
    else if x.k = 9 then match x.ks.get? 0, x.ks.get? 1 with
      | some a, some b => match ev O P f a env (s + 1) with
        | .err e => .err e
        | .ok z s1 => ev O P f b (env ++ [z]) s1
      | _, _ => .err 7
    else match evAll (ev O P f) env x.ks (s + 1) with
      | .err e => .err e
      | .ok zs s1 =>
        if x.k = 10 then match P[x.n.toNat]? with
          | none => .err 7
          | some g => match g.outs.get? x.p.toNat with
            | none => .err 7
            | some y => ev O P f y zs s1
        else if x.k = 11 then match P[x.n.toNat]? with
          | none => .err 7
          | some g => match evLoop (ev O P f) g.outs x.c.toNat zs s1 with
            | .err e => .err e
            | .ok ws s2 => .ok (ws.getD x.p.toNat []) s2
        else if x.k = 3 then .ok (O.add (zs.getD 0 []) (zs.getD 1 [])) s1
        else if x.k = 4 then .ok (O.sub (zs.getD 0 []) (zs.getD 1 [])) s1
        else if x.k = 5 then .ok (O.mul (zs.getD 0 []) (zs.getD 1 [])) s1
        else if x.k = 7 then .ok (O.neg (zs.getD 0 [])) s1
        else if cf (zs.getD 1 []) 0 = 0 then .err 6
        else .ok (O.div (zs.getD 0 []) (zs.getD 1 [])) s1

end Go.Proofs.Ytmcaphbngfdfiaa

/- When a program is right, plainly; the number of nodes that is left. -/
namespace Go.Proofs.Ytmcaphbngfdfiaa
open Plain

/-- what is left of a number when the nodes of a list are counted; stops below 0 -/
def leftL : Es → Int → Int
  | .nil, l => l
  | .cons _ _ _ _ ks r, l => if l < 0 then l else leftL r (leftL ks (l - 1))
theorem leftL_neg (es : Es) (l : Int) (h : l < 0) : leftL es l = l := by
  cases es with
  | nil => rfl
  | cons => simp [leftL, h]
theorem leftL_ge (es : Es) : ∀ l : Int, (es.size : Int) ≤ l → leftL es l = l - es.size := by
  induction es with
  | nil => intro l _; simp [leftL, Es.size]
  | cons k n p c ks r ihk ihr =>
    intro l h
    simp only [Es.size] at h ⊢
    rw [leftL, if_neg (by omega), ihk _ (by omega), ihr _ (by omega)]
    omega
theorem leftL_lt (es : Es) : ∀ l : Int, -1 ≤ l → l < es.size → leftL es l = -1 := by
  induction es with
  | nil => intro l h h'; simp [Es.size] at h'; simp [leftL]; omega
  | cons k n p c ks r ihk ihr =>
    intro l h h'
    simp only [Es.size] at h'
    rw [leftL]
    split
    · omega
    · by_cases hk : l - 1 < ks.size
      · rw [ihk _ (by omega) hk]
        exact leftL_neg _ _ (by omega)
      · rw [leftL_ge ks (l - 1) (by omega)]
        exact ihr _ (by omega) (by omega)
theorem leftL_bd (es : Es) (l : Int) (h : -1 ≤ l) : -1 ≤ leftL es l ∧ leftL es l ≤ l := by
  by_cases h' : l < es.size
  · rw [leftL_lt es l h h']; omega
  · rw [leftL_ge es l (by omega)]; omega
theorem leftL_ok (es : Es) (l : Int) (h : -1 ≤ l) : 0 ≤ leftL es l ↔ (es.size : Int) ≤ l ∧ 0 ≤ l := by
  by_cases h' : l < es.size
  · rw [leftL_lt es l h h']; omega
  · rw [leftL_ge es l (by omega)]; omega

/-- are all the expressions of a list right? -/
def exprsOk (P : List Fn) : Es → Int → Int → Bool
  | .nil, _, _ => true
  | .cons k n p c ks r, vars, funcs => exprOk P ⟨k, n, p, c, ks⟩ vars funcs && exprsOk P r vars funcs

/-- is this a letter? a letter or a digit? -/
def chr1 (c : UInt8) : Bool := decide (97 ≤ c.toNat ∧ c.toNat ≤ 122)
def chr2 (c : UInt8) : Bool := chr1 c || decide (48 ≤ c.toNat ∧ c.toNat ≤ 57)
def nameOk (s : ByteArray) : Bool := decide (1 ≤ s.size ∧ s.size ≤ 12) && (match s.data.toList with | [] => false | c :: r => chr1 c && r.all chr2)

/-- is function i right? -/
def fnOk (P : List Fn) (i : Nat) (f : Fn) : Bool :=
  nameOk f.name && !((P.take i).any fun g => g.name == f.name) && inR f.params 0 12 && inR f.outs.len 1 12 && exprsOk P f.outs f.params i && decide (f.outs.size ≤ 400)
def fnsOk (P : List Fn) : List Fn → Nat → Bool
  | [], _ => true
  | f :: fs, i => fnOk P i f && fnsOk P fs (i + 1)
def progOk (P : List Fn) : Bool := decide (P.length ≤ 16) && fnsOk P P 0

theorem exprsOk_get {P : List Fn} {es : Es} {vars funcs : Int} {i : Nat} {x : Nd} (h : exprsOk P es vars funcs = true) (hx : es.get? i = some x) : exprOk P x vars funcs = true := by
  induction es generalizing i with
  | nil => simp [Es.get?] at hx
  | cons k n p c ks r _ ih =>
    simp only [exprsOk, Bool.and_eq_true] at h
    cases i with
    | zero => simp only [Es.get?, Option.some.injEq] at hx; subst hx; exact h.1
    | succ i => exact ih h.2 hx
theorem fnsOk_get {P : List Fn} : ∀ {fs : List Fn} {j i : Nat} {f : Fn}, fnsOk P fs j = true → fs[i]? = some f → fnOk P (j + i) f = true
  | [], _, _, _, _, h => by simp at h
  | g :: fs, j, 0, f, h, hf => by simp only [fnsOk, Bool.and_eq_true] at h; simp at hf; subst hf; exact h.1
  | g :: fs, j, i + 1, f, h, hf => by
    simp only [fnsOk, Bool.and_eq_true] at h
    simp at hf
    have := fnsOk_get h.2 hf
    rwa [show j + (i + 1) = j + 1 + i by omega]
theorem progOk_get {P : List Fn} {i : Nat} {f : Fn} (h : progOk P = true) (hf : P[i]? = some f) : fnOk P i f = true := by
  simp only [progOk, Bool.and_eq_true] at h
  have := fnsOk_get h.2 hf
  rwa [Nat.zero_add] at this

end Go.Proofs.Ytmcaphbngfdfiaa

/- Values of expressions under two kinds of operations that agree. Plain: no program here. -/
namespace Go.Proofs.Ytmcaphbngfdfiaa
open Plain

/-- two environments are related -/
def EnvR (R : List Int → List Int → Prop) (a b : List (List Int)) : Prop := a.length = b.length ∧ ∀ j : Nat, R (a.getD j []) (b.getD j [])
/-- two ends are related -/
def ResR {α : Type} (R : α → α → Prop) : Res α → Res α → Prop
  | .err c, .err c' => c = c'
  | .ok z s, .ok z' s' => s = s' ∧ R z z'
  | _, _ => False

/-- operations keep a relation -/
structure OpsR (O O' : Ops) (R : List Int → List Int → Prop) : Prop where
  nil : R [] []
  num : ∀ x, R (O.num x) (O'.num x)
  add : ∀ {a a' b b'}, R a a' → R b b' → R (O.add a b) (O'.add a' b')
  sub : ∀ {a a' b b'}, R a a' → R b b' → R (O.sub a b) (O'.sub a' b')
  mul : ∀ {a a' b b'}, R a a' → R b b' → R (O.mul a b) (O'.mul a' b')
  neg : ∀ {a a'}, R a a' → R (O.neg a) (O'.neg a')
  div : ∀ {a a' b b'}, R a a' → R b b' → cf b 0 ≠ 0 → R (O.div a b) (O'.div a' b')
  zero : ∀ {a a'}, R a a' → cf a 0 = cf a' 0

theorem EnvR.snoc {R : List Int → List Int → Prop} {a b : List (List Int)} {z z' : List Int} (h : EnvR R a b) (hz : R z z') (h0 : R [] []) : EnvR R (a ++ [z]) (b ++ [z']) := by
  obtain ⟨hl, hj⟩ := h
  refine ⟨by simp [hl], fun j => ?_⟩
  rcases Nat.lt_trichotomy j a.length with hlt | rfl | hgt
  · have := hj j
    simp only [List.getD, List.getElem?_append_left hlt, List.getElem?_append_left (by omega : j < b.length)] at this ⊢
    exact this
  · simp only [List.getD, List.getElem?_append_right (Nat.le_refl _), List.getElem?_append_right (by omega : b.length ≤ a.length)]
    simp [hl, hz]
  · simp only [List.getD]
    rw [List.getElem?_eq_none (by simp; omega), List.getElem?_eq_none (by simp; omega)]
    exact h0
theorem EnvR.nil {R : List Int → List Int → Prop} (h0 : R [] []) : EnvR R [] [] := ⟨rfl, fun j => by simpa using h0⟩
theorem EnvR.cons {R : List Int → List Int → Prop} {a b : List (List Int)} {z z' : List Int} (h : EnvR R a b) (hz : R z z') : EnvR R (z :: a) (z' :: b) := by
  refine ⟨by simp [h.1], fun j => ?_⟩
  cases j with
  | zero => simpa using hz
  | succ j => simpa using h.2 j

section
variable {R : List Int → List Int → Prop}
theorem evAll_rel {e e' : Nd → List (List Int) → Nat → Res (List Int)} {env env' : List (List Int)} (h0 : R [] []) (he : ∀ x s, ResR R (e x env s) (e' x env' s)) : ∀ (es : Es) (s : Nat), ResR (EnvR R) (evAll e env es s) (evAll e' env' es s) := by
  intro es
  induction es with
  | nil => intro s; exact ⟨rfl, EnvR.nil h0⟩
  | cons k n p c ks r _ ih =>
    intro s
    have h1 := he ⟨k, n, p, c, ks⟩ s
    simp only [evAll]
    revert h1
    cases e ⟨k, n, p, c, ks⟩ env s with
    | err c1 =>
      cases e' ⟨k, n, p, c, ks⟩ env' s with
      | err c2 => intro h; exact h
      | ok _ _ => intro h; exact h.elim
    | ok z s1 =>
      cases e' ⟨k, n, p, c, ks⟩ env' s with
      | err c2 => intro h; exact h.elim
      | ok z' s2 =>
        rintro ⟨rfl, hz⟩
        have h2 := ih s1
        simp only
        revert h2
        cases evAll e env r s1 with
        | err c1 =>
          cases evAll e' env' r s1 with
          | err c2 => intro h; exact h
          | ok _ _ => intro h; exact h.elim
        | ok zs t =>
          cases evAll e' env' r s1 with
          | err c2 => intro h; exact h.elim
          | ok zs' t' =>
            rintro ⟨rfl, hzs⟩
            exact ⟨rfl, hzs.cons hz⟩
theorem evLoop_rel {e e' : Nd → List (List Int) → Nat → Res (List Int)} (h0 : R [] []) (he : ∀ x env env' s, EnvR R env env' → ResR R (e x env s) (e' x env' s)) (outs : Es) : ∀ (c : Nat) (env env' : List (List Int)) (s : Nat), EnvR R env env' → ResR (EnvR R) (evLoop e outs c env s) (evLoop e' outs c env' s) := by
  intro c
  induction c with
  | zero => intro env env' s h; exact ⟨rfl, h⟩
  | succ c ih =>
    intro env env' s h
    have h1 := evAll_rel h0 (fun x s => he x env env' s h) outs s
    simp only [evLoop]
    revert h1
    cases evAll e env outs s with
    | err c1 =>
      cases evAll e' env' outs s with
      | err c2 => intro h; exact h
      | ok _ _ => intro h; exact h.elim
    | ok z s1 =>
      cases evAll e' env' outs s with
      | err c2 => intro h; exact h.elim
      | ok z' s2 =>
        rintro ⟨rfl, hz⟩
        exact ih z z' s1 hz

theorem ev_rel {O O' : Ops} (H : OpsR O O' R) (P : List Fn) : ∀ (f : Nat) (x : Nd) (env env' : List (List Int)) (s : Nat), EnvR R env env' → ResR R (ev O P f x env s) (ev O' P f x env' s) := by
  intro f
  induction f with
  | zero => intro x env env' s _; exact rfl
  | succ f ih =>
    intro x env env' s h
    simp only [ev]
    by_cases hs : 3000 ≤ s
    · simp only [if_pos hs]; exact rfl
    simp only [if_neg hs]
    by_cases h1 : x.k = 1
    · simp only [if_pos h1]; exact ⟨rfl, H.num _⟩
    simp only [if_neg h1]
    by_cases h2 : x.k = 2
    · simp only [if_pos h2]; exact ⟨rfl, h.2 _⟩
    simp only [if_neg h2]
    by_cases h8 : x.k = 8
    · simp only [if_pos h8]
      cases x.ks.get? 0 with
      | none => exact rfl
      | some a =>
      cases x.ks.get? 1 with
      | none => exact rfl
      | some b =>
      cases x.ks.get? 2 with
      | none => exact rfl
      | some c =>
        have g := ih a env env' (s + 1) h
        simp only
        revert g
        cases ev O P f a env (s + 1) with
        | err c1 =>
          cases ev O' P f a env' (s + 1) with
          | err c2 => intro h; exact h
          | ok _ _ => intro h; exact h.elim
        | ok z s1 =>
          cases ev O' P f a env' (s + 1) with
          | err c2 => intro h; exact h.elim
          | ok z' s2 =>
            rintro ⟨rfl, hz⟩
            simp only [H.zero hz]
            split
            · exact ih _ _ _ _ h
            · exact ih _ _ _ _ h
    simp only [if_neg h8]
    by_cases h9 : x.k = 9
    · simp only [if_pos h9]
      cases x.ks.get? 0 with
      | none => exact rfl
      | some a =>
      cases x.ks.get? 1 with
      | none => exact rfl
      | some b =>
        have g := ih a env env' (s + 1) h
        simp only
        revert g
        cases ev O P f a env (s + 1) with
        | err c1 =>
          cases ev O' P f a env' (s + 1) with
          | err c2 => intro h; exact h
          | ok _ _ => intro h; exact h.elim
        | ok z s1 =>
          cases ev O' P f a env' (s + 1) with
          | err c2 => intro h; exact h.elim
          | ok z' s2 =>
            rintro ⟨rfl, hz⟩
            exact ih _ _ _ _ (h.snoc hz H.nil)
    simp only [if_neg h9]
    have g := evAll_rel H.nil (fun y s => ih y env env' s h) x.ks (s + 1)
    revert g
    cases evAll (ev O P f) env x.ks (s + 1) with
    | err c1 =>
      cases evAll (ev O' P f) env' x.ks (s + 1) with
      | err c2 => intro h; exact h
      | ok _ _ => intro h; exact h.elim
    | ok zs s1 =>
    cases evAll (ev O' P f) env' x.ks (s + 1) with
    | err c2 => intro h; exact h.elim
    | ok zs' s2 =>
    rintro ⟨rfl, hz⟩
    simp only
    by_cases h10 : x.k = 10
    · simp only [if_pos h10]
      cases P[x.n.toNat]? with
      | none => exact rfl
      | some g =>
        simp only
        cases g.outs.get? x.p.toNat with
        | none => exact rfl
        | some y => exact ih _ _ _ _ hz
    simp only [if_neg h10]
    by_cases h11 : x.k = 11
    · simp only [if_pos h11]
      cases P[x.n.toNat]? with
      | none => exact rfl
      | some g =>
        simp only
        have g2 := evLoop_rel H.nil (fun y e e' s h => ih y e e' s h) g.outs x.c.toNat zs zs' s1 hz
        revert g2
        cases evLoop (ev O P f) g.outs x.c.toNat zs s1 with
        | err c1 =>
          cases evLoop (ev O' P f) g.outs x.c.toNat zs' s1 with
          | err c2 => intro h; exact h
          | ok _ _ => intro h; exact h.elim
        | ok ws t =>
        cases evLoop (ev O' P f) g.outs x.c.toNat zs' s1 with
        | err c2 => intro h; exact h.elim
        | ok ws' t' =>
          rintro ⟨rfl, hw⟩
          exact ⟨rfl, hw.2 _⟩
    simp only [if_neg h11]
    by_cases h3 : x.k = 3
    · simp only [if_pos h3]; exact ⟨rfl, H.add (hz.2 0) (hz.2 1)⟩
    simp only [if_neg h3]
    by_cases h4 : x.k = 4
    · simp only [if_pos h4]; exact ⟨rfl, H.sub (hz.2 0) (hz.2 1)⟩
    simp only [if_neg h4]
    by_cases h5 : x.k = 5
    · simp only [if_pos h5]; exact ⟨rfl, H.mul (hz.2 0) (hz.2 1)⟩
    simp only [if_neg h5]
    by_cases h7 : x.k = 7
    · simp only [if_pos h7]; exact ⟨rfl, H.neg (hz.2 0)⟩
    simp only [if_neg h7]
    rw [← H.zero (hz.2 1)]
    by_cases h6 : cf (zs.getD 1 []) 0 = 0
    · rw [if_pos h6, if_pos h6]; exact rfl
    · rw [if_neg h6, if_neg h6]; exact ⟨rfl, H.div (hz.2 0) (hz.2 1) h6⟩
end

end Go.Proofs.Ytmcaphbngfdfiaa

/- Plain: series are a ring in which a quotient times its divisor is the dividend. No program is named here. -/
namespace Go.Proofs.Ytmcaphbngfdfiaa.Plain

theorem sumN_split (f : Nat → Int) (m n : Nat) : sumN f (m + n) = sumN f m + sumN (fun k => f (m + k)) n := by
  induction n with
  | zero => simp [sumN]
  | succ n ih => rw [← Nat.add_assoc]; simp only [sumN]; rw [ih]; omega
theorem sumN_rev (f : Nat → Int) : ∀ n : Nat, sumN (fun i => f (n - 1 - i)) n = sumN f n := by
  intro n
  induction n generalizing f with
  | zero => rfl
  | succ n ih =>
    rw [sumN_head]
    have h := ih f
    show f (n + 1 - 1 - 0) + sumN (fun k => f (n + 1 - 1 - (k + 1))) n = sumN f n + f n
    rw [show n + 1 - 1 - 0 = n by omega]
    have e : sumN (fun k => f (n + 1 - 1 - (k + 1))) n = sumN (fun i => f (n - 1 - i)) n := sumN_congr _ fun k hk => by rw [show n + 1 - 1 - (k + 1) = n - 1 - k by omega]
    rw [e, h]; omega
/-- sums that agree mod the modulus -/
theorem sumN_mod {f g : Nat → Int} (n : Nat) (h : ∀ k, k < n → rs (f k) = rs (g k)) : rs (sumN f n) = rs (sumN g n) := by
  induction n with
  | zero => rfl
  | succ n ih =>
    have h1 := ih fun k hk => h k (by omega)
    have h2 := h n (by omega)
    simp only [sumN]
    unfold rs at *
    omega
theorem rs_mul_right (a b : Int) : rs (a * rs b) = rs (a * b) := mulr a b
theorem rs_mul_left (a b : Int) : rs (rs a * b) = rs (a * b) := mull a b

theorem conv_comm (a b : List Int) (k : Nat) : mulT a b k (k + 1) = mulT b a k (k + 1) := by
  unfold mulT
  rw [← sumN_rev]
  refine sumN_congr _ fun i hi => ?_
  rw [show k + 1 - 1 - i = k - i by omega, show k - (k - i) = i by omega, Int.mul_comm]
theorem mulL_comm {a b : List Int} (h : a.length = b.length) : mulL a b = mulL b a := by
  unfold mulL; rw [h]; exact mk_congr fun k _ => by rw [conv_comm]

theorem ring_dist {a b c : List Int} (hb : b.length = a.length) (hc : c.length = a.length) : mulL a (addL b c) = addL (mulL c a) (mulL a b) := by
  have e : mulL c a = mulL a c := mulL_comm hc
  rw [e]
  unfold mulL
  unfold addL
  rw [mk_length]
  refine mk_congr fun k hk => ?_
  rw [cf_mk hk, cf_mk hk]
  have h1 : rs (mulT a (mk b.length fun k => pl (cf b k) (cf c k)) k (k + 1)) = rs (sumN (fun i => cf a i * cf b (k - i) + cf a i * cf c (k - i)) (k + 1)) := by
    unfold mulT
    refine sumN_mod _ fun i hi => ?_
    rw [cf_mk (by omega), ← Int.mul_add]
    exact rs_mul_right _ _
  rw [h1, sumN_add]
  show rs (mulT a b k (k + 1) + mulT a c k (k + 1)) = _
  unfold pl rs
  omega

theorem div_mul {a b : List Int} (ha : IsS a) (hb : IsS b) (_h : b.length = a.length) (h0 : cf b 0 ≠ 0) : mulL (divL a b) b = a := by
  refine list_ext (by rw [mulL_length, divL_length]) fun k hk => ?_
  rw [mulL_length, divL_length] at hk
  unfold mulL
  rw [divL_length, cf_mk hk]
  unfold mulT
  simp only [sumN]
  have hq : cf (divL a b) k = tm (rs (cf a k - sumN (fun i => cf (divL a b) i * cf b (k - i)) k)) (iv (cf b 0)) := by
    unfold divL
    rw [divT_cf' a b (k + 1) a.length k (by omega) (by omega), divT_last]
    congr 3
    exact sumN_congr _ fun i hi => by rw [divT_cf' a b k a.length i hi (by omega)]
  rw [Nat.sub_self, hq]
  generalize sumN (fun i => cf (divL a b) i * cf b (k - i)) k = S
  have hne : rs (cf b 0) ≠ 0 := by rw [hb.rs_ 0]; exact h0
  have hinv := iv_mul hne
  have hr : rs (tm (rs (cf a k - S)) (iv (cf b 0)) * cf b 0) = rs (cf a k - S) := by
    unfold tm
    have e1 : rs (rs (cf a k - S) * iv (cf b 0) % 1000003 * cf b 0) = rs (rs (cf a k - S) * (cf b 0 * iv (cf b 0))) := by
      show (rs (cf a k - S) * iv (cf b 0) % 1000003 * cf b 0) % 1000003 = _
      rw [mull, Int.mul_assoc, Int.mul_comm (iv _) (cf b 0)]; rfl
    rw [e1, ← rs_mul_right]
    have e2 : rs (cf b 0 * iv (cf b 0)) = 1 := hinv
    rw [e2, Int.mul_one]
    unfold rs; omega
  have hak := ha k
  generalize tm (rs (cf a k - S)) (iv (cf b 0)) * cf b 0 = T at *
  unfold rs at *
  omega

end Go.Proofs.Ytmcaphbngfdfiaa.Plain

/- Plain: derivatives, integrals, exponentials and logarithms of series. No program is named here. -/
namespace Go.Proofs.Ytmcaphbngfdfiaa.Plain

/-- the derivative -/
def dvL (a : List Int) : List Int := mk a.length fun k => if k + 1 < a.length then tm ((k + 1 : Nat) : Int) (cf a (k + 1)) else 0
/-- the integral -/
def itL (a : List Int) : List Int := mk a.length fun k => if k = 0 then 0 else tm (cf a (k - 1)) (iv (k : Int))
/-- the coefficients of the exponential series -/
def expT (a : List Int) : Nat → List Int
  | 0 => []
  | k + 1 => expT a k ++ [if k = 0 then 1 else tm (rs (sumN (fun i => tm ((i + 1 : Nat) : Int) (cf a (i + 1)) * cf (expT a k) (k - (i + 1))) k)) (iv (k : Int))]
/-- the exponential series -/
def expL (a : List Int) : List Int := expT a a.length
/-- the logarithm -/
def logL (a : List Int) : List Int := itL (divL (dvL a) a)

theorem dvL_length (a : List Int) : (dvL a).length = a.length := mk_length _ _
theorem itL_length (a : List Int) : (itL a).length = a.length := mk_length _ _
theorem expT_length (a : List Int) (k : Nat) : (expT a k).length = k := by
  induction k with
  | zero => rfl
  | succ k ih => simp [expT, ih]
theorem expL_length (a : List Int) : (expL a).length = a.length := expT_length _ _
theorem isS_dv (a : List Int) : IsS (dvL a) := IsS.mk_ fun k => by
  split
  · exact tm_bd _ _
  · omega
theorem isS_it (a : List Int) : IsS (itL a) := IsS.mk_ fun k => by
  split
  · omega
  · exact tm_bd _ _
theorem expT_cf (a : List Int) (k j : Nat) (h : j < k) : cf (expT a (k + 1)) j = cf (expT a k) j := by
  have hl := expT_length a k
  simp only [cf, List.getD, expT]
  rw [List.getElem?_append_left (by omega)]
theorem expT_cf' (a : List Int) (k m j : Nat) (h : j < k) (hm : k ≤ m) : cf (expT a m) j = cf (expT a k) j := by
  induction m with
  | zero => omega
  | succ m ih =>
    by_cases e : k = m + 1
    · rw [e]
    · rw [expT_cf a m j (by omega), ih (by omega)]
theorem expT_last (a : List Int) (k : Nat) : cf (expT a (k + 1)) k = if k = 0 then 1 else tm (rs (sumN (fun i => tm ((i + 1 : Nat) : Int) (cf a (i + 1)) * cf (expT a k) (k - (i + 1))) k)) (iv (k : Int)) := by
  have hl := expT_length a k
  simp only [cf, List.getD]
  rw [expT, List.getElem?_append_right (by omega)]
  simp [hl, cf, List.getD]
/-- the terms of a coefficient of the exponential series -/
def expS (a : List Int) (k j : Nat) : Int := sumN (fun i => tm ((i + 1 : Nat) : Int) (cf a (i + 1)) * cf (expL a) (k - (i + 1))) j
theorem expL_cf (a : List Int) {k : Nat} (h : k < a.length) : cf (expL a) k = if k = 0 then 1 else tm (rs (expS a k k)) (iv (k : Int)) := by
  unfold expL
  rw [expT_cf' a (k + 1) a.length k (by omega) (by omega), expT_last]
  split
  · rfl
  · unfold expS
    congr 2
    exact sumN_congr _ fun i hi => by unfold expL; rw [expT_cf' a k a.length (k - (i + 1)) (by omega) (by omega)]
theorem isS_expT (a : List Int) (k : Nat) : IsS (expT a k) := by
  induction k with
  | zero => intro k; rw [cf_big (by simp [expT])]; omega
  | succ k ih =>
    intro j
    rcases Nat.lt_trichotomy j k with h | rfl | h
    · rw [expT_cf a k j h]; exact ih j
    · rw [expT_last]; split
      · omega
      · exact tm_bd _ _
    · rw [cf_big (by rw [expT_length]; omega)]; omega
theorem isS_exp (a : List Int) : IsS (expL a) := isS_expT _ _
theorem logL_length (a : List Int) : (logL a).length = a.length := by unfold logL; rw [itL_length, divL_length, dvL_length]
theorem isS_log (a : List Int) : IsS (logL a) := isS_it _

end Go.Proofs.Ytmcaphbngfdfiaa.Plain

/- Plain: convolution of sequences of integers, and what holds of it by residues. No program is named here. -/
namespace Go.Proofs.Ytmcaphbngfdfiaa.Plain

/-- convolution -/
def conv (f g : Nat → Int) (k : Nat) : Int := sumN (fun i => f i * g (k - i)) (k + 1)
theorem conv_zero (f g : Nat → Int) : conv f g 0 = f 0 * g 0 := by simp [conv, sumN]
theorem conv_succ (f g : Nat → Int) (k : Nat) : conv f g (k + 1) = f 0 * g (k + 1) + conv (fun i => f (i + 1)) g k := by
  unfold conv
  rw [sumN_head]
  congr 1
  exact sumN_congr _ fun i _ => by rw [show k + 1 - (i + 1) = k - i by omega]
theorem conv_add_left (f f' g : Nat → Int) (k : Nat) : conv (fun i => f i + f' i) g k = conv f g k + conv f' g k := by
  unfold conv
  rw [← sumN_add]
  exact sumN_congr _ fun i _ => by rw [Int.add_mul]
theorem conv_mul_left (c : Int) (f g : Nat → Int) (k : Nat) : conv (fun i => c * f i) g k = c * conv f g k := by
  unfold conv
  rw [← sumN_mul]
  exact sumN_congr _ fun i _ => by rw [Int.mul_assoc]
theorem conv_congr {f f' g g' : Nat → Int} {k : Nat} (hf : ∀ i, i ≤ k → f i = f' i) (hg : ∀ i, i ≤ k → g i = g' i) : conv f g k = conv f' g' k :=
  sumN_congr _ fun i hi => by rw [hf i (by omega), hg (k - i) (by omega)]
theorem conv_comm' (f g : Nat → Int) (k : Nat) : conv f g k = conv g f k := by
  unfold conv
  rw [← sumN_rev]
  refine sumN_congr _ fun i hi => ?_
  rw [show k + 1 - 1 - i = k - i by omega, show k - (k - i) = i by omega, Int.mul_comm]
theorem conv_assoc (f g h : Nat → Int) (k : Nat) : conv (conv f g) h k = conv f (conv g h) k := by
  induction k generalizing f with
  | zero => rw [conv_zero, conv_zero, conv_zero, conv_zero, Int.mul_assoc]
  | succ k ih =>
    rw [conv_succ, conv_succ f (conv g h), conv_zero]
    have e : conv (fun i => conv f g (i + 1)) h k = f 0 * conv (fun i => g (i + 1)) h k + conv (conv (fun i => f (i + 1)) g) h k := by
      rw [← conv_mul_left, ← conv_add_left]
      exact conv_congr (fun i _ => conv_succ f g i) (fun _ _ => rfl)
    rw [e, ih, conv_succ g h, Int.mul_add, Int.mul_assoc]
    omega

theorem rs_rs (a : Int) : rs (rs a) = rs a := by unfold rs; omega
theorem rs_mul {a a' b b' : Int} (ha : rs a = rs a') (hb : rs b = rs b') : rs (a * b) = rs (a' * b') := by
  rw [← rs_mul_left, ← rs_mul_right, ha, hb, rs_mul_right, rs_mul_left]
theorem rs_add {a a' b b' : Int} (ha : rs a = rs a') (hb : rs b = rs b') : rs (a + b) = rs (a' + b') := by unfold rs at *; omega
theorem rs_tm (a b : Int) : rs (tm a b) = rs (a * b) := by unfold rs tm; omega
theorem rs_pl (a b : Int) : rs (pl a b) = rs (a + b) := by unfold rs pl; omega
theorem conv_mod {f f' g g' : Nat → Int} {k : Nat} (hf : ∀ i, i ≤ k → rs (f i) = rs (f' i)) (hg : ∀ i, i ≤ k → rs (g i) = rs (g' i)) : rs (conv f g k) = rs (conv f' g' k) :=
  sumN_mod _ fun i hi => rs_mul (hf i (by omega)) (hg (k - i) (by omega))
theorem mulT_conv (a b : List Int) (k : Nat) : mulT a b k (k + 1) = conv (cf a) (cf b) k := rfl
theorem cf_mul {a b : List Int} {k : Nat} (h : k < a.length) : cf (mulL a b) k = rs (conv (cf a) (cf b) k) := by unfold mulL; rw [cf_mk h, mulT_conv]
theorem cf_add {a b : List Int} {k : Nat} (h : k < a.length) : cf (addL a b) k = pl (cf a k) (cf b k) := by unfold addL; rw [cf_mk h]

/-- k times the k-th -/
def eul (f : Nat → Int) (k : Nat) : Int := (k : Int) * f k
theorem eul_conv (f g : Nat → Int) (k : Nat) : eul (conv f g) k = conv (eul f) g k + conv f (eul g) k := by
  unfold eul
  unfold conv
  rw [← sumN_mul, ← sumN_add]
  refine sumN_congr _ fun i hi => ?_
  have e : (k : Int) = (i : Int) + ((k - i : Nat) : Int) := by omega
  rw [Int.mul_left_comm (f i), Int.mul_assoc (i : Int), ← Int.add_mul, ← e]

theorem small_ne {k : Nat} (h0 : 0 < k) (h : k < 1000003) : rs (k : Int) ≠ 0 := by unfold rs; omega
/-- a small number can be struck out -/
theorem strike {k : Nat} (h0 : 0 < k) (h : k < 1000003) {x y : Int} (he : rs ((k : Int) * x) = rs ((k : Int) * y)) : rs x = rs y := by
  have hi : rs ((k : Int) * iv (k : Int)) = 1 := iv_mul (small_ne h0 h)
  have h1 : ∀ z : Int, rs (iv (k : Int) * ((k : Int) * z)) = rs z := by
    intro z
    rw [← Int.mul_assoc, Int.mul_comm (iv _), ← rs_mul_left, hi, Int.one_mul]
  have h2 : rs (iv (k : Int) * ((k : Int) * x)) = rs (iv (k : Int) * ((k : Int) * y)) := rs_mul rfl he
  rw [h1, h1] at h2; exact h2

/-- a sequence with this logarithmic derivative -/
def Sol (d f : Nat → Int) (n : Nat) : Prop := ∀ k, k < n → rs (eul f k) = rs (conv d f k)
theorem sol_unique {d f g : Nat → Int} {n : Nat} (hn : n ≤ 1000000) (hd : d 0 = 0) (hf : Sol d f n) (hg : Sol d g n) (h0 : rs (f 0) = rs (g 0)) : ∀ m, m ≤ n → ∀ k, k < m → rs (f k) = rs (g k) := by
  intro m
  induction m with
  | zero => intro _ k hk; omega
  | succ m ih =>
    intro hm k hk
    by_cases e : k < m
    · exact ih (by omega) k e
    · obtain rfl : k = m := by omega
      rcases Nat.eq_zero_or_pos k with rfl | hp
      · exact h0
      · have h1 := hf k (by omega)
        have h2 := hg k (by omega)
        have e3 : rs (conv d f k) = rs (conv d g k) := by
          obtain ⟨j, rfl⟩ : ∃ j, k = j + 1 := ⟨k - 1, by omega⟩
          rw [conv_succ, conv_succ, hd, Int.zero_mul, Int.zero_mul, Int.zero_add, Int.zero_add]
          exact conv_mod (fun _ _ => rfl) (fun i hi => ih (by omega) i (by omega))
        exact strike hp (by omega) (h1.trans (e3.trans h2.symm))

theorem exp_zero {a : List Int} (h : 0 < a.length) : cf (expL a) 0 = 1 := by rw [expL_cf a h, if_pos rfl]
theorem exp_sol {a : List Int} (hn : a.length ≤ 1000000) : Sol (eul (cf a)) (cf (expL a)) a.length := by
  intro k hk
  rcases Nat.eq_zero_or_pos k with rfl | hp
  · rw [conv_zero]; unfold eul; simp
  · obtain ⟨j, rfl⟩ : ∃ j, k = j + 1 := ⟨k - 1, by omega⟩
    rw [conv_succ]
    have e0 : eul (cf a) 0 = 0 := by unfold eul; simp
    rw [e0, Int.zero_mul, Int.zero_add]
    unfold eul
    rw [expL_cf a hk, if_neg (by omega)]
    have hi : rs (((j + 1 : Nat) : Int) * iv ((j + 1 : Nat) : Int)) = 1 := iv_mul (small_ne (by omega) (by omega))
    have h1 : rs (((j + 1 : Nat) : Int) * tm (rs (expS a (j + 1) (j + 1))) (iv ((j + 1 : Nat) : Int))) = rs (expS a (j + 1) (j + 1)) := by
      rw [rs_mul rfl (rs_tm _ _), Int.mul_left_comm, ← rs_mul_right, hi, Int.mul_one, rs_rs]
    rw [h1]
    unfold expS conv
    refine sumN_mod _ fun i hi => ?_
    rw [show j + 1 - (i + 1) = j - i by omega]
    exact rs_mul (rs_tm _ _) rfl

theorem exp_sum {a b : List Int} (hl : b.length = a.length) (hn : a.length ≤ 1000000) (h0 : 0 < a.length) (_ha : IsS a) (_hb : IsS b) : mulL (expL a) (expL b) = expL (addL a b) := by
  have hla := expL_length a
  have hlb := expL_length b
  have hs := addL_length a b
  refine list_ext (by rw [mulL_length, hla, expL_length, hs]) fun k hk => ?_
  rw [mulL_length, hla] at hk
  rw [cf_mul (by omega)]
  have hd : eul (cf (addL a b)) 0 = 0 := by unfold eul; simp
  have hg := exp_sol (a := addL a b) (by omega)
  rw [hs] at hg
  have hf : Sol (eul (cf (addL a b))) (conv (cf (expL a)) (cf (expL b))) a.length := by
    intro m hm
    rw [eul_conv]
    have ea := exp_sol (a := a) hn
    have eb := exp_sol (a := b) (by omega)
    have t1 : rs (conv (eul (cf (expL a))) (cf (expL b)) m) = rs (conv (eul (cf a)) (conv (cf (expL a)) (cf (expL b))) m) := by
      rw [← conv_assoc]
      exact conv_mod (fun i hi => ea i (by omega)) (fun _ _ => rfl)
    have t2 : rs (conv (cf (expL a)) (eul (cf (expL b))) m) = rs (conv (eul (cf b)) (conv (cf (expL a)) (cf (expL b))) m) := by
      have e1 : rs (conv (cf (expL a)) (eul (cf (expL b))) m) = rs (conv (cf (expL a)) (conv (eul (cf b)) (cf (expL b))) m) := conv_mod (fun _ _ => rfl) (fun i hi => eb i (by omega))
      rw [e1, ← conv_assoc]
      have e2 : conv (conv (cf (expL a)) (eul (cf b))) (cf (expL b)) m = conv (conv (eul (cf b)) (cf (expL a))) (cf (expL b)) m := conv_congr (fun i _ => conv_comm' _ _ _) (fun _ _ => rfl)
      rw [e2, conv_assoc]
    rw [rs_add t1 t2, ← conv_add_left]
    refine conv_mod (fun i hi => ?_) (fun _ _ => rfl)
    unfold eul
    rw [← Int.mul_add, cf_add (by omega)]
    exact rs_mul rfl (rs_pl _ _).symm
  have h00 : rs (conv (cf (expL a)) (cf (expL b)) 0) = rs (cf (expL (addL a b)) 0) := by
    rw [conv_zero, exp_zero h0, exp_zero (by omega), exp_zero (by omega)]; rfl
  have h := sol_unique hn hd hf hg h00 a.length (Nat.le_refl _) k hk
  rw [h, (isS_exp _).rs_]

/-- a factor that begins with 1 can be struck out -/
theorem strike_conv {f g e : Nat → Int} {n : Nat} (he : e 0 = 1) (h : ∀ k, k < n → rs (conv f e k) = rs (conv g e k)) : ∀ m, m ≤ n → ∀ k, k < m → rs (f k) = rs (g k) := by
  intro m
  induction m with
  | zero => intro _ k hk; omega
  | succ m ih =>
    intro hm k hk
    by_cases e' : k < m
    · exact ih (by omega) k e'
    · obtain rfl : k = m := by omega
      have h1 := h k (by omega)
      unfold conv at h1
      simp only [sumN] at h1
      rw [Nat.sub_self, he, Int.mul_one, Int.mul_one] at h1
      have h2 : rs (sumN (fun i => f i * e (k - i)) k) = rs (sumN (fun i => g i * e (k - i)) k) := sumN_mod _ fun i hi => rs_mul (ih (by omega) i hi) rfl
      unfold rs at *; omega

theorem cf_dv {a : List Int} {k : Nat} (h : k + 1 < a.length) : cf (dvL a) k = tm ((k + 1 : Nat) : Int) (cf a (k + 1)) := by unfold dvL; rw [cf_mk (by omega), if_pos h]
theorem exp_front {a : List Int} (hn : a.length ≤ 1000000) {k : Nat} (hk : k + 1 < a.length) : cf (dvL (expL a)) k = cf (mulL (dvL a) (expL a)) k := by
  have hla := expL_length a
  rw [cf_dv (by omega), cf_mul (by rw [dvL_length]; omega)]
  have h := exp_sol hn (k + 1) (by omega)
  rw [conv_succ] at h
  have e0 : eul (cf a) 0 = 0 := by unfold eul; simp
  rw [e0, Int.zero_mul, Int.zero_add] at h
  have e1 : tm ((k + 1 : Nat) : Int) (cf (expL a) (k + 1)) = rs (eul (cf (expL a)) (k + 1)) := rfl
  rw [e1, h]
  refine conv_mod (fun i hi => ?_) (fun _ _ => rfl)
  rw [cf_dv (by omega), rs_tm]; rfl

theorem cf_it {a : List Int} {k : Nat} (h : k < a.length) : cf (itL a) k = if k = 0 then 0 else tm (cf a (k - 1)) (iv (k : Int)) := by unfold itL; rw [cf_mk h]
theorem int_back {a : List Int} (ha : IsS a) (hn : a.length ≤ 1000000) {k : Nat} (h0 : 0 < k) (hk : k < a.length) {x : Int} (hx : rs x = rs ((k : Int) * cf a k)) : tm x (iv (k : Int)) = cf a k := by
  have hi : rs ((k : Int) * iv (k : Int)) = 1 := iv_mul (small_ne h0 (by omega))
  have e : tm x (iv (k : Int)) = rs (x * iv (k : Int)) := rfl
  rw [e, rs_mul hx rfl, Int.mul_comm (k : Int), Int.mul_assoc, ← rs_mul_right, hi, Int.mul_one, ha.rs_]
theorem int_dv {a : List Int} (ha : IsS a) (hz : cf a 0 = 0) (hn : a.length ≤ 1000000) : itL (dvL a) = a := by
  refine list_ext (by rw [itL_length, dvL_length]) fun k hk => ?_
  rw [itL_length, dvL_length] at hk
  rw [cf_it (by rw [dvL_length]; exact hk)]
  by_cases h : k = 0
  · rw [if_pos h, h, hz]
  · rw [if_neg h]
    refine int_back ha hn (by omega) hk ?_
    rw [cf_dv (by omega), rs_tm, show k - 1 + 1 = k by omega]
theorem log_exp {a : List Int} (ha : IsS a) (hz : cf a 0 = 0) (hn : a.length ≤ 1000000) (h0 : 0 < a.length) : logL (expL a) = a := by
  have hla := expL_length a
  have hld := dvL_length (expL a)
  have hlq := divL_length (dvL (expL a)) (expL a)
  have he0 := exp_zero h0
  refine list_ext (by rw [logL_length, hla]) fun k hk => ?_
  rw [logL_length, hla] at hk
  unfold logL
  rw [cf_it (by omega)]
  by_cases h : k = 0
  · rw [if_pos h, h, hz]
  · rw [if_neg h]
    refine int_back ha hn (by omega) hk ?_
    have hdm := div_mul (a := dvL (expL a)) (b := expL a) (isS_dv _) (isS_exp _) hld.symm (by rw [he0]; omega)
    have hc : ∀ j, j < a.length - 1 → rs (conv (cf (divL (dvL (expL a)) (expL a))) (cf (expL a)) j) = rs (conv (fun i => ((i + 1 : Nat) : Int) * cf a (i + 1)) (cf (expL a)) j) := by
      intro j hj
      have e1 : cf (mulL (divL (dvL (expL a)) (expL a)) (expL a)) j = cf (dvL (expL a)) j := by rw [hdm]
      rw [cf_mul (by omega)] at e1
      rw [e1, cf_dv (by omega)]
      have h2 := exp_sol hn (j + 1) (by omega)
      rw [conv_succ] at h2
      have e0 : eul (cf a) 0 = 0 := by unfold eul; simp
      rw [e0, Int.zero_mul, Int.zero_add] at h2
      have e3 : tm ((j + 1 : Nat) : Int) (cf (expL a) (j + 1)) = rs (eul (cf (expL a)) (j + 1)) := rfl
      rw [e3, h2]; rfl
    have h4 := strike_conv he0 hc (a.length - 1) (Nat.le_refl _) (k - 1) (by omega)
    rw [h4, show k - 1 + 1 = k by omega]

end Go.Proofs.Ytmcaphbngfdfiaa.Plain

/- Relations that the operations on series keep: the first coefficient; constants; t -> l t. Plain. -/
namespace Go.Proofs.Ytmcaphbngfdfiaa
open Plain

theorem mk_take1 (n : Nat) (f : Nat → Int) : (mk n f).take 1 = mk (min 1 n) f := by
  unfold mk; rw [← List.map_take, List.take_range]
theorem cf_take1 (a : List Int) : cf (a.take 1) 0 = cf a 0 := by cases a <;> simp [cf]
theorem take1_mk {n : Nat} {f g : Nat → Int} (h : f 0 = g 0) : mk (min 1 n) f = (mk n g).take 1 := by
  rw [mk_take1]; exact mk_congr fun k hk => by obtain rfl : k = 0 := by omega
                                               exact h
/-- the first coefficients alone -/
theorem ops_first {n : Nat} (hn : 1 ≤ n) : OpsR (ops n) (ops 1) (fun a b => b = a.take 1) where
  nil := rfl
  num x := by
    have h := take1_mk (n := n) (f := fun k : Nat => if k = 0 then x else 0) (g := fun k : Nat => if k = 0 then x else 0) rfl
    rw [Nat.min_eq_left hn] at h
    exact h.symm ▸ rfl
  add := by
    rintro a _ b _ rfl rfl
    show mk _ _ = (mk _ _).take 1
    rw [List.length_take]; exact take1_mk (by simp only [cf_take1])
  sub := by
    rintro a _ b _ rfl rfl
    show mk _ _ = (mk _ _).take 1
    rw [List.length_take]; exact take1_mk (by simp only [cf_take1])
  mul := by
    rintro a _ b _ rfl rfl
    show mk _ _ = (mk _ _).take 1
    rw [List.length_take]; exact take1_mk (by simp only [mulT, sumN, Nat.sub_zero, cf_take1])
  neg := by
    rintro a _ rfl
    show mk _ _ = (mk _ _).take 1
    rw [List.length_take]; exact take1_mk (by simp only [cf_take1])
  div := by
    rintro a _ b _ rfl rfl _
    cases a with
    | nil => rfl
    | cons x r =>
      have h := take1_mk (n := (x :: r).length) (f := fun _ => tm (rs (cf (x :: r) 0)) (iv (cf b 0))) (g := cf (divL (x :: r) b)) (by
        show _ = cf (divT (x :: r) b (x :: r).length) 0
        rw [divT_cf' (x :: r) b 1 (x :: r).length 0 (by omega) (by simp), divT_last]
        simp [sumN])
      have h2 := mk_cf (divL (x :: r) b)
      rw [divL_length] at h2
      rw [h2] at h
      show _ = (divL (x :: r) b).take 1
      rw [← h]
      have : min 1 (x :: r).length = 1 := by simp
      rw [this]
      show [] ++ [tm (rs (cf (List.take 1 (x :: r)) 0 - 0)) (iv (cf (List.take 1 b) 0))] = _
      rw [cf_take1, cf_take1]
      simp [mk]
  zero := by rintro a _ rfl; exact (cf_take1 a).symm

/-- constants -/
def Const (a : List Int) : Prop := ∀ k, 0 < k → cf a k = 0
theorem const_mk {n : Nat} {f : Nat → Int} (h : ∀ k, 0 < k → k < n → f k = 0) : Const (mk n f) := fun k hk => by
  by_cases hn : k < n
  · rw [cf_mk hn, h k hk hn]
  · rw [cf_big (by rw [mk_length]; omega)]
theorem sumN_none {f : Nat → Int} (n : Nat) (h : ∀ k, k < n → f k = 0) : sumN f n = 0 := by
  rw [sumN_congr n h, sumN_zero]
theorem ops_const (n : Nat) : OpsR (ops n) (ops n) (fun a b => a = b ∧ Const a) where
  nil := ⟨rfl, fun k _ => rfl⟩
  num x := ⟨rfl, const_mk fun k hk _ => if_neg (by omega)⟩
  add := by
    rintro a _ b _ ⟨rfl, ha⟩ ⟨rfl, hb⟩
    exact ⟨rfl, const_mk fun k hk _ => by rw [ha k hk, hb k hk]; rfl⟩
  sub := by
    rintro a _ b _ ⟨rfl, ha⟩ ⟨rfl, hb⟩
    exact ⟨rfl, const_mk fun k hk _ => by rw [ha k hk, hb k hk]; rfl⟩
  mul := by
    rintro a _ b _ ⟨rfl, ha⟩ ⟨rfl, hb⟩
    refine ⟨rfl, const_mk fun k hk _ => ?_⟩
    unfold mulT
    rw [sumN_none (k + 1) fun i hi => ?_]
    · rfl
    · rcases Nat.eq_zero_or_pos i with rfl | h0
      · rw [Nat.sub_zero, hb k hk, Int.mul_zero]
      · rw [ha i h0, Int.zero_mul]
  neg := by
    rintro a _ ⟨rfl, ha⟩
    exact ⟨rfl, const_mk fun k hk _ => by rw [ha k hk]; rfl⟩
  div := by
    rintro a _ b _ ⟨rfl, ha⟩ ⟨rfl, hb⟩ _
    refine ⟨rfl, fun k => ?_⟩
    show 0 < k → cf (divT a b a.length) k = 0
    induction k using Nat.strongRecOn with
    | _ k ih =>
    intro hk
    by_cases hl : k < a.length
    · rw [divT_cf' a b (k + 1) a.length k (by omega) (by omega), divT_last, ha k hk, sumN_none k fun i hi => ?_]
      · show tm (rs 0) _ = 0
        show (0 % 1000003 * _) % 1000003 = 0
        simp
      · rw [hb (k - i) (by omega), Int.mul_zero]
    · rw [cf_big (by rw [divT_length]; omega)]
  zero := by rintro a _ ⟨rfl, _⟩; rfl

/-- b is a with t times l -/
def Stretch (l : Int) (a b : List Int) : Prop := b.length = a.length ∧ cf b 0 = cf a 0 ∧ ∀ k, rs (cf b k) = rs (l ^ k * cf a k)
theorem stretch_mk {l : Int} {n : Nat} {f g : Nat → Int} (h0 : g 0 = f 0) (h : ∀ k, k < n → rs (g k) = rs (l ^ k * f k)) : Stretch l (mk n f) (mk n g) := by
  refine ⟨by rw [mk_length, mk_length], ?_, fun k => ?_⟩
  · by_cases hn : 0 < n
    · rw [cf_mk hn, cf_mk hn, h0]
    · rw [cf_big (by rw [mk_length]; omega), cf_big (by rw [mk_length]; omega)]
  · by_cases hk : k < n
    · rw [cf_mk hk, cf_mk hk]; exact h k hk
    · rw [cf_big (by rw [mk_length]; omega), cf_big (by rw [mk_length]; omega), Int.mul_zero]
theorem pow_split {l : Int} {k i : Nat} (h : i ≤ k) : l ^ i * l ^ (k - i) = l ^ k := by
  rw [← Int.pow_add, show i + (k - i) = k by omega]
theorem rs_sub {a a' b b' : Int} (ha : rs a = rs a') (hb : rs b = rs b') : rs (a - b) = rs (a' - b') := by unfold rs at *; omega
theorem stretch_term {l : Int} {a a' b b' : Nat → Int} {k i : Nat} (h : i ≤ k) (ha : rs (a' i) = rs (l ^ i * a i)) (hb : rs (b' (k - i)) = rs (l ^ (k - i) * b (k - i))) : rs (a' i * b' (k - i)) = rs (l ^ k * (a i * b (k - i))) := by
  rw [rs_mul ha hb, ← pow_split h]
  congr 1
  simp only [Int.mul_assoc, Int.mul_left_comm]
theorem ops_stretch (l : Int) (n : Nat) : OpsR (ops n) (ops n) (Stretch l) where
  nil := ⟨rfl, rfl, fun k => by show rs 0 = rs (l ^ k * 0); rw [Int.mul_zero]⟩
  num x := stretch_mk rfl fun k _ => by
    by_cases hk : k = 0
    · subst hk; simp
    · simp [hk]
  add := by
    rintro a a' b b' ⟨la, za, ha⟩ ⟨lb, zb, hb⟩
    show Stretch l (mk _ _) (mk _ _)
    rw [la]
    refine stretch_mk (by rw [za, zb]) fun k _ => ?_
    rw [rs_pl, rs_add (ha k) (hb k), ← Int.mul_add]
    exact (rs_mul rfl (rs_pl _ _)).symm
  sub := by
    rintro a a' b b' ⟨la, za, ha⟩ ⟨lb, zb, hb⟩
    show Stretch l (mk _ _) (mk _ _)
    rw [la]
    refine stretch_mk (by rw [za, zb]) fun k _ => ?_
    rw [rs_rs, rs_sub (ha k) (hb k), ← Int.mul_sub]
    exact (rs_mul rfl (rs_rs _)).symm
  mul := by
    rintro a a' b b' ⟨la, za, ha⟩ ⟨lb, zb, hb⟩
    show Stretch l (mk _ _) (mk _ _)
    rw [la]
    refine stretch_mk (by simp only [mulT, sumN, Nat.sub_zero, za, zb]) fun k _ => ?_
    rw [rs_rs]
    unfold mulT
    rw [sumN_mod (k + 1) (g := fun i => l ^ k * (cf a i * cf b (k - i))) fun i hi => stretch_term (by omega) (ha i) (hb (k - i)), sumN_mul]
    exact (rs_mul rfl (rs_rs _)).symm
  neg := by
    rintro a a' ⟨la, za, ha⟩
    show Stretch l (mk _ _) (mk _ _)
    rw [la]
    refine stretch_mk (by rw [za]) fun k _ => ?_
    rw [rs_tm, rs_mul (ha k) rfl, Int.mul_assoc]
    exact (rs_mul rfl (rs_tm _ _)).symm
  div := by
    rintro a a' b b' ⟨la, za, ha⟩ ⟨lb, zb, hb⟩ _
    show Stretch l (divL a b) (divL a' b')
    have main : ∀ k, k < a.length → rs (cf (divL a' b') k) = rs (l ^ k * cf (divL a b) k) := by
      intro k
      induction k using Nat.strongRecOn with
      | _ k ih =>
      intro hk
      have e1 : cf (divL a b) k = tm (rs (cf a k - sumN (fun i => cf (divL a b) i * cf b (k - i)) k)) (iv (cf b 0)) := by
        unfold divL
        rw [divT_cf' a b (k + 1) a.length k (by omega) (by omega), divT_last]
        congr 3
        exact sumN_congr _ fun i hi => by rw [divT_cf' a b k a.length i hi (by omega)]
      have e2 : cf (divL a' b') k = tm (rs (cf a' k - sumN (fun i => cf (divL a' b') i * cf b' (k - i)) k)) (iv (cf b' 0)) := by
        unfold divL
        rw [divT_cf' a' b' (k + 1) a'.length k (by omega) (by omega), divT_last]
        congr 3
        exact sumN_congr _ fun i hi => by rw [divT_cf' a' b' k a'.length i hi (by omega)]
      have hs : rs (sumN (fun i => cf (divL a' b') i * cf b' (k - i)) k) = rs (l ^ k * sumN (fun i => cf (divL a b) i * cf b (k - i)) k) := by
        rw [← sumN_mul]
        exact sumN_mod k fun i hi => stretch_term (by omega) (ih i hi (by omega)) (hb (k - i))
      rw [e1, e2, zb, rs_tm, rs_mul (rs_rs _) rfl, rs_mul (rs_sub (ha k) hs) rfl, ← Int.mul_sub, Int.mul_assoc]
      refine rs_mul rfl ?_
      rw [rs_tm]
      exact (rs_mul (rs_rs _) rfl).symm
    refine ⟨by rw [divL_length, divL_length, la], ?_, fun k => ?_⟩
    · by_cases h0 : 0 < a.length
      · show cf (divT a' b' a'.length) 0 = cf (divT a b a.length) 0
        rw [divT_cf' a b 1 a.length 0 (by omega) (by omega), divT_cf' a' b' 1 a'.length 0 (by omega) (by omega), divT_last, divT_last, za, zb]
        rfl
      · rw [cf_big (by rw [divL_length]; omega), cf_big (by rw [divL_length]; omega)]
    · by_cases hk : k < a.length
      · exact main k hk
      · rw [cf_big (by rw [divL_length]; omega), cf_big (by rw [divL_length]; omega), Int.mul_zero]
  zero := by rintro a _ ⟨_, h, _⟩; exact h.symm

end Go.Proofs.Ytmcaphbngfdfiaa
