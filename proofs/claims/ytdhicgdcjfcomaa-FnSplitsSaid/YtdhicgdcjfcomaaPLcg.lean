/- The simple sequence behind the end of a source of choices: it does not stay among the multiples of 5. No program here. -/
import Derived.Test.YtdhicgdcjfcomaaB0
namespace Go.Proofs.Ytdhicgdcjfcomaa

/-- the next seed behind the end -/
def nxS (s : Int) : Int := (s * 6364136223846793005 + 1442695040888963407) % 18446744073709551616
/-- the byte that a seed gives -/
def outS (s : Int) : Int := s / 1099511627776 % 256
def nxN : Nat → Int → Int
  | 0, s => s
  | k + 1, s => nxN k (nxS s)
theorem nxN_add (a b : Nat) (s : Int) : nxN (a + b) s = nxN b (nxN a s) := by
  induction a generalizing s with
  | zero => simp [nxN]
  | succ a ih => rw [Nat.succ_add]; exact ih (nxS s)
/-- how 2^j steps act, modulo 2^48 -/
def affS : Nat → Nat × Nat
  | 0 => (6364136223846793005 % 281474976710656, 1442695040888963407 % 281474976710656)
  | j + 1 => ((affS j).1 * (affS j).1 % 281474976710656, ((affS j).1 * (affS j).2 + (affS j).2) % 281474976710656)
theorem aff_mod (a c x m : Int) : (a * (x % m) + c) % m = (a * x + c) % m := by
  rw [Int.add_emod, Int.mul_emod, Int.emod_emod_of_dvd _ (Int.dvd_refl m), ← Int.mul_emod, ← Int.add_emod]
theorem nxN_aff (j : Nat) : ∀ s : Int, nxN (2 ^ j) s % 281474976710656 = (((affS j).1 : Int) * s + (affS j).2) % 281474976710656 := by
  induction j with
  | zero =>
    intro s
    show nxS s % 281474976710656 = ((6364136223846793005 % 281474976710656 : Nat) * s + (1442695040888963407 % 281474976710656 : Nat)) % 281474976710656
    unfold nxS
    omega
  | succ j ih =>
    intro s
    have e : 2 ^ (j + 1) = 2 ^ j + 2 ^ j := by rw [Nat.pow_succ]; omega
    rw [e, nxN_add, ih, ← aff_mod, ih, aff_mod]
    obtain ⟨A, hA⟩ : ∃ A : Nat, A = (affS j).1 := ⟨_, rfl⟩
    obtain ⟨C, hC⟩ : ∃ C : Nat, C = (affS j).2 := ⟨_, rfl⟩
    have h1 : (affS (j + 1)).1 = A * A % 281474976710656 := by rw [hA]; rfl
    have h2 : (affS (j + 1)).2 = (A * C + C) % 281474976710656 := by rw [hA, hC]; rfl
    rw [h1, h2, ← hA, ← hC]
    rw [Int.natCast_emod, Int.natCast_emod]
    have e1 : ((A : Int) * ((A : Int) * s + C) + C) = ((A * A : Nat) : Int) * s + ((A * C + C : Nat) : Int) := by
      rw [Int.mul_add, ← Int.mul_assoc, Int.add_assoc]
      simp
    rw [e1]
    generalize ((A * A : Nat) : Int) = P
    generalize ((A * C + C : Nat) : Int) = Q
    show _ = (P % 281474976710656 * s + Q % 281474976710656) % 281474976710656
    rw [Int.add_emod (P % 281474976710656 * s), Int.mul_emod (P % 281474976710656), Int.emod_emod_of_dvd _ (Int.dvd_refl _), Int.emod_emod_of_dvd _ (Int.dvd_refl _), ← Int.mul_emod, ← Int.add_emod]
theorem aff47 : affS 47 = (1, 140737488355328) := by rfl
theorem half (s : Int) : nxN (2 ^ 47) s % 281474976710656 = (s + 140737488355328) % 281474976710656 := by
  have := nxN_aff 47 s
  rw [aff47] at this
  rw [this]
  show ((1 : Int) * s + 140737488355328) % _ = _
  rw [Int.one_mul]
theorem half3 (s : Int) : nxN (3 * 2 ^ 47) s % 281474976710656 = (s + 140737488355328) % 281474976710656 := by
  rw [show 3 * 2 ^ 47 = 2 ^ 47 + (2 ^ 47 + 2 ^ 47) from rfl, nxN_add, nxN_add]
  have h1 := half s
  have h2 := half (nxN (2 ^ 47) s)
  have h3 := half (nxN (2 ^ 47) (nxN (2 ^ 47) s))
  generalize nxN (2 ^ 47) (nxN (2 ^ 47) (nxN (2 ^ 47) s)) = z at *
  generalize nxN (2 ^ 47) (nxN (2 ^ 47) s) = y at *
  generalize nxN (2 ^ 47) s = x at *
  omega
theorem flip {s t : Int} (h : t % 281474976710656 = (s + 140737488355328) % 281474976710656) (h1 : outS s % 5 = 0) (h2 : outS t % 5 = 0) : False := by
  unfold outS at h1 h2
  have e1 : s / 1099511627776 % 256 = (s % 281474976710656) / 1099511627776 := by omega
  have e2 : t / 1099511627776 % 256 = (t % 281474976710656) / 1099511627776 := by omega
  rw [e1] at h1
  rw [e2, h] at h2
  have e3 : (s + 140737488355328) % 281474976710656 = (s % 281474976710656 + 140737488355328) % 281474976710656 := by omega
  rw [e3] at h2
  have a := Int.emod_nonneg s (b := 281474976710656) (by omega)
  have b := Int.emod_lt_of_pos s (b := 281474976710656) (by omega)
  generalize s % 281474976710656 = x at *
  omega
/-- behind k more rounds of d draws the byte is no multiple of 5 -/
def WaitS (d : Nat) (s : Int) (k : Nat) : Prop := outS (nxN (d * (k + 1)) s) % 5 ≠ 0
theorem wait_ex3 (s : Int) : ∃ k, k ≤ 2 ^ 47 ∧ WaitS 3 s k := by
  by_cases h : outS (nxN 3 s) % 5 = 0
  · refine ⟨2 ^ 47, Nat.le_refl _, fun h2 => ?_⟩
    rw [show 3 * (2 ^ 47 + 1) = 3 + 3 * 2 ^ 47 from rfl, nxN_add] at h2
    exact flip (half3 _) h h2
  · exact ⟨0, Nat.zero_le _, h⟩
theorem wait_ex2 (s : Int) : ∃ k, k ≤ 2 ^ 47 ∧ WaitS 2 s k := by
  by_cases h : outS (nxN 2 s) % 5 = 0
  · refine ⟨2 ^ 46, by decide, fun h2 => ?_⟩
    rw [show 2 * (2 ^ 46 + 1) = 2 + 2 ^ 47 from rfl, nxN_add] at h2
    exact flip (half _) h h2
  · exact ⟨0, Nat.zero_le _, h⟩
/-- what the rounds that add nothing may still cost: N bytes, at of them read -/
def Slack (d N at_ : Nat) (s : Int) (m : Nat) : Prop := (at_ < N ∧ N - at_ + 2 ^ 48 ≤ m) ∨ (N ≤ at_ ∧ ∃ k, k ≤ m ∧ k ≤ 2 ^ 47 ∧ WaitS d s k)
theorem Slack.fresh {d : Nat} (hd : d = 2 ∨ d = 3) (N at_ : Nat) (s : Int) : Slack d N at_ s (N + 2 ^ 48) := by
  by_cases h : at_ < N
  · exact .inl ⟨h, by omega⟩
  · have : ∃ k, k ≤ 2 ^ 47 ∧ WaitS d s k := by
      rcases hd with rfl | rfl
      · exact wait_ex2 s
      · exact wait_ex3 s
    obtain ⟨k, hk, hw⟩ := this
    exact .inr ⟨by omega, k, by have : (2 : Nat) ^ 47 ≤ 2 ^ 48 := by decide
                                omega, hk, hw⟩
theorem Slack.mono {d N at_ : Nat} {s : Int} {m m' : Nat} (h : Slack d N at_ s m) (hm : m ≤ m') : Slack d N at_ s m' := by
  rcases h with ⟨h1, h2⟩ | ⟨h1, k, h2, h3, h4⟩
  · exact .inl ⟨h1, by omega⟩
  · exact .inr ⟨h1, k, by omega, h3, h4⟩
theorem Slack.stuck {d N at_ : Nat} {s s' : Int} {m : Nat} (hd : d = 2 ∨ d = 3) (h : Slack d N at_ s m) (hs : N ≤ at_ → s' = nxN d s ∧ outS s' % 5 = 0) : 0 < m ∧ Slack d N (at_ + d) s' (m - 1) := by
  rcases h with ⟨h1, h2⟩ | ⟨h1, k, h2, h3, h4⟩
  · have hp : 0 < (2 : Nat) ^ 48 := by decide
    refine ⟨by omega, ?_⟩
    by_cases h : at_ + d < N
    · exact .inl ⟨h, by omega⟩
    · have : ∃ k, k ≤ 2 ^ 47 ∧ WaitS d s' k := by
        rcases hd with rfl | rfl
        · exact wait_ex2 s'
        · exact wait_ex3 s'
      obtain ⟨k, hk, hw⟩ := this
      refine .inr ⟨by omega, k, ?_, hk, hw⟩
      have : (2 : Nat) ^ 47 < 2 ^ 48 := by decide
      omega
  · obtain ⟨rfl, h0⟩ := hs h1
    cases k with
    | zero => exact absurd h0 (by have := h4; unfold WaitS at this; simpa using this)
    | succ k =>
      refine ⟨by omega, .inr ⟨by omega, k, by omega, by omega, ?_⟩⟩
      unfold WaitS at h4 ⊢
      rw [← nxN_add]
      rw [show d + d * (k + 1) = d * (k + 1 + 1) by rw [Nat.mul_add d (k + 1) 1]; omega]
      exact h4
end Go.Proofs.Ytdhicgdcjfcomaa
