/- Plain facts on binomial loops: the reference's loop and the program's loop compute the same bounded numbers. No program is named here. -/
namespace Go.Proofs.Ytdhicgdcjfcomaa.Plain

/-- the reference's loop behind j rounds -/
def chS (n k : Int) : Nat → Int
  | 0 => 1
  | j + 1 => chS n k j * (n - k + ((j : Int) + 1)) / ((j : Int) + 1)

/-- the program's loop behind j rounds -/
def chI (n : Int) : Nat → Int
  | 0 => 1
  | j + 1 => chI n j * (n - (j : Int)) / ((j : Int) + 1)

/-- ways to choose k of n, as the reference has it -/
def chooseS (n k : Int) : Int := if k < 0 ∨ k > n then 0 else chS n k k.toNat
def chooseI (n k : Int) : Int := if k < 0 ∨ k > n then 0 else chI n k.toNat

theorem chS_all : ((List.range 49).all fun n => (List.range 10).all fun k => (List.range 10).all fun j => !(decide (k ≤ n) && decide (j ≤ k)) || (decide (0 ≤ chS (n : Nat) (k : Nat) j) && decide (chS (n : Nat) (k : Nat) j ≤ 2000000000))) = true := by decide +kernel
theorem chI_all : ((List.range 49).all fun n => (List.range 10).all fun k => (List.range 10).all fun j => !(decide (k ≤ n) && decide (j ≤ k)) || (decide (0 ≤ chI (n : Nat) j) && decide (chI (n : Nat) j ≤ 2000000000))) = true := by decide +kernel
theorem chS_bd_nat (n k j : Nat) (hn : n < 49) (hk : k < 10) (hj : j < 10) (h : k ≤ n) (h' : j ≤ k) : 0 ≤ chS (n : Nat) (k : Nat) j ∧ chS (n : Nat) (k : Nat) j ≤ 2000000000 := by
  have q := chS_all
  simp only [List.all_eq_true, List.mem_range] at q
  simpa [h, h'] using q n hn k hk j hj
theorem chI_bd_nat (n k j : Nat) (hn : n < 49) (hk : k < 10) (hj : j < 10) (h : k ≤ n) (h' : j ≤ k) : 0 ≤ chI (n : Nat) j ∧ chI (n : Nat) j ≤ 2000000000 := by
  have q := chI_all
  simp only [List.all_eq_true, List.mem_range] at q
  simpa [h, h'] using q n hn k hk j hj
theorem choose_eq_nat : ∀ n, n < 49 → ∀ k, k < 10 → chooseS (n : Nat) (k : Nat) = chooseI (n : Nat) (k : Nat) := by decide +kernel

theorem chS_bd (n k : Int) (j : Nat) (hn : 0 ≤ n) (hn' : n ≤ 48) (hk : 0 ≤ k) (hk' : k ≤ 9) (h : k ≤ n) (hj : (j : Int) ≤ k) : 0 ≤ chS n k j ∧ chS n k j ≤ 2000000000 := by
  obtain ⟨n, rfl⟩ := Int.eq_ofNat_of_zero_le hn
  obtain ⟨k, rfl⟩ := Int.eq_ofNat_of_zero_le hk
  exact chS_bd_nat n k j (by omega) (by omega) (by omega) (by omega) (by omega)
theorem chI_bd (n k : Int) (j : Nat) (hn : 0 ≤ n) (hn' : n ≤ 48) (hk : 0 ≤ k) (hk' : k ≤ 9) (h : k ≤ n) (hj : (j : Int) ≤ k) : 0 ≤ chI n j ∧ chI n j ≤ 2000000000 := by
  obtain ⟨n, rfl⟩ := Int.eq_ofNat_of_zero_le hn
  obtain ⟨k, rfl⟩ := Int.eq_ofNat_of_zero_le hk
  exact chI_bd_nat n k j (by omega) (by omega) (by omega) (by omega) (by omega)
theorem choose_eq (n k : Int) (hn : 0 ≤ n) (hn' : n ≤ 48) (hk : 0 ≤ k) (hk' : k ≤ 9) : chooseS n k = chooseI n k := by
  obtain ⟨n, rfl⟩ := Int.eq_ofNat_of_zero_le hn
  obtain ⟨k, rfl⟩ := Int.eq_ofNat_of_zero_le hk
  exact choose_eq_nat n (by omega) k (by omega)

/-- a range test -/
def inR (n lo hi : Int) : Bool := decide (lo ≤ n) && decide (n ≤ hi)
theorem inR_true {n lo hi : Int} : inR n lo hi = true ↔ lo ≤ n ∧ n ≤ hi := by simp [inR]
theorem inR_false {n lo hi : Int} : inR n lo hi = false ↔ ¬ (lo ≤ n ∧ n ≤ hi) := by
  rw [← inR_true]; cases inR n lo hi <;> simp
theorem inR_yes {n lo hi : Int} (h : lo ≤ n) (h' : n ≤ hi) : inR n lo hi = true := inR_true.2 ⟨h, h'⟩

end Go.Proofs.Ytdhicgdcjfcomaa.Plain
