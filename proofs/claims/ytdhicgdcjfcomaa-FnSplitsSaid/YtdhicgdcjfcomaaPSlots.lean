/- Plain: what FnSlots and FnSplits ask of the least costs. No program here. -/
import Derived.Test.YtdhicgdcjfcomaaPMin
import Derived.Test.YtdhicgdcjfcomaaWCost2
namespace Go.Proofs.Ytdhicgdcjfcomaa
open Plain

theorem wts_take {ws : List Int} (h : wts ws = true) (k : Nat) : wts (ws.take k) = true := by
  unfold wts at h ⊢
  simp only [Bool.and_eq_true, decide_eq_true_eq, List.all_eq_true] at h ⊢
  exact ⟨by simp; omega, fun x hx => h.2 x (List.mem_of_mem_take hx)⟩
theorem wts_drop {ws : List Int} (h : wts ws = true) (k : Nat) : wts (ws.drop k) = true := by
  unfold wts at h ⊢
  simp only [Bool.and_eq_true, decide_eq_true_eq, List.all_eq_true] at h ⊢
  exact ⟨by simp; omega, fun x hx => h.2 x (List.mem_of_mem_drop hx)⟩
/-- the cost is found -/
theorem lc_yes {ws : List Int} {s : Nat} (h1 : wts ws = true) (hs : s ≤ 8) (h : 0 ≤ lcost ws 0 ws.length s) : lcV ws s = lcost ws 0 ws.length s ∧ lcC ws s = 0 := by
  rcases lc_of_in h1 hs with ⟨h2, _⟩ | ⟨_, h2⟩
  · omega
  · exact h2
theorem lc_no {ws : List Int} {s : Nat} (h1 : wts ws = true) (hs : s ≤ 8) (h : lcost ws 0 ws.length s < 0) : lcV ws s = 0 ∧ lcC ws s = 4 := by
  rcases lc_of_in h1 hs with ⟨_, h2⟩ | ⟨h2, _⟩
  · exact h2
  · omega
/-- no cost: no slots, and two steps or more -/
theorem none_slots {ws : List Int} {s : Nat} (h1 : wts ws = true) (h : lcost ws 0 ws.length s < 0) : s = 0 ∧ 1 < ws.length := by
  obtain ⟨hw, _⟩ := isW_of h1
  constructor
  · rcases Nat.eq_zero_or_pos s with h0 | h0
    · exact h0
    · have := lcost_pos hw ws.length 0 ws.length s (by omega) h0; omega
  · rcases Nat.lt_or_ge 1 ws.length with h0 | h0
    · exact h0
    · rw [lcost_short (by omega)] at h; omega
theorem more_slots {ws : List Int} {s : Nat} (h1 : wts ws = true) (hs : s + 1 ≤ 8) (h : 0 ≤ lcost ws 0 ws.length s) :
    ∃ c, lcV ws (s + 1 : Nat) = c ∧ lcC ws (s + 1 : Nat) = 0 ∧ c ≤ lcost ws 0 ws.length s := by
  obtain ⟨hw, _⟩ := isW_of h1
  obtain ⟨a, b⟩ := lcost_more hw ws.length 0 ws.length s (s + 1) (by omega) (by omega) h
  obtain ⟨e1, e2⟩ := lc_yes h1 hs a
  exact ⟨_, e1, e2, b⟩
theorem head_cost {ws : List Int} {s : Nat} (h1 : wts ws = true) (hs : s ≤ 8) (h : 0 ≤ lcost ws 0 ws.length s) :
    ∃ c, lcV (ws.take (ws.length - 1)) s = c ∧ lcC (ws.take (ws.length - 1)) s = 0 ∧ c ≤ lcost ws 0 ws.length s := by
  obtain ⟨hw, _⟩ := isW_of h1
  obtain ⟨a, b⟩ := lcost_head hw ws.length 0 ws.length s (by omega) h
  have e : lcost (ws.take (ws.length - 1)) 0 (ws.take (ws.length - 1)).length s = lcost ws 0 (ws.length - 1) s := by
    rw [List.length_take, Nat.min_eq_left (by omega), lcost_take]
  obtain ⟨e1, e2⟩ := lc_yes (wts_take h1 (ws.length - 1)) hs (by rw [e]; exact a)
  exact ⟨_, e1, e2, by rw [e]; exact b⟩
theorem tail_cost {ws : List Int} {s : Nat} (h1 : wts ws = true) (hs : s ≤ 8) (h0 : 0 < ws.length) (h : 0 ≤ lcost ws 0 ws.length s) :
    ∃ c, lcV (ws.drop 1) s = c ∧ lcC (ws.drop 1) s = 0 ∧ c ≤ lcost ws 0 ws.length s := by
  obtain ⟨hw, _⟩ := isW_of h1
  obtain ⟨a, b⟩ := lcost_tail hw ws.length 0 ws.length s (by omega) h
  have e : lcost (ws.drop 1) 0 (ws.drop 1).length s = lcost ws (0 + 1) ws.length s := by
    rw [List.length_drop, lcost_drop ws 1 (ws.length - 1) s (by omega)]
  obtain ⟨e1, e2⟩ := lc_yes (wts_drop h1 1) hs (by rw [e]; exact a)
  exact ⟨_, e1, e2, by rw [e]; exact b⟩
theorem lsF_find {ws : List Int} {cost : Int} {s : Nat} (hs : s ≤ 8) (h : 0 ≤ lcost ws 0 ws.length s) (h' : lcost ws 0 ws.length s ≤ cost) : ∀ d k, s - k = d → k ≤ s → (∀ i, i < k → ¬ (0 ≤ lcost ws 0 ws.length i ∧ lcost ws 0 ws.length i ≤ cost)) →
    ∃ m : Nat, lsF ws cost (9 - k) k = m ∧ m ≤ s ∧ 0 ≤ lcost ws 0 ws.length m ∧ lcost ws 0 ws.length m ≤ cost ∧ ∀ i, i < m → ¬ (0 ≤ lcost ws 0 ws.length i ∧ lcost ws 0 ws.length i ≤ cost) := by
  intro d
  induction d with
  | zero =>
    intro k hd hk hn
    obtain rfl : k = s := by omega
    exact ⟨k, lsF_yes hs h h', Nat.le_refl _, h, h', hn⟩
  | succ d ih =>
    intro k hd hk hn
    by_cases hp : 0 ≤ lcost ws 0 ws.length k ∧ lcost ws 0 ws.length k ≤ cost
    · exact ⟨k, lsF_yes (by omega) hp.1 hp.2, hk, hp.1, hp.2, hn⟩
    · obtain ⟨m, e, r⟩ := ih (k + 1) (by omega) (by omega) (fun i hi => by
        rcases Nat.lt_or_ge i k with h | h
        · exact hn i h
        · obtain rfl : i = k := by omega
          exact hp)
      exact ⟨m, by rw [lsF_no (by omega) hp]; exact e, r⟩
/-- the least number of slots for a cost that s slots reach -/
theorem least_slots {ws : List Int} {s : Nat} (h1 : wts ws = true) (hs : s ≤ 8) (h : 0 ≤ lcost ws 0 ws.length s) :
    ∃ m : Nat, lsV ws (lcost ws 0 ws.length s) = m ∧ lsC ws (lcost ws 0 ws.length s) = 0 ∧ m ≤ s ∧
      (∃ c, lcV ws m = c ∧ lcC ws m = 0 ∧ c ≤ lcost ws 0 ws.length s) ∧
      (0 < m → ∃ c d, lcV ws ((m : Int) - 1) = c ∧ lcC ws ((m : Int) - 1) = d ∧ (d = 4 ∨ (d = 0 ∧ lcost ws 0 ws.length s < c))) := by
  obtain ⟨m, e, hm, m0, m1, hn⟩ := lsF_find hs h (Int.le_refl _) s 0 (by omega) (by omega) (fun i hi => by omega)
  have e' : lsF ws (lcost ws 0 ws.length s) 9 0 = m := e
  refine ⟨m, ?_, ?_, hm, ?_, ?_⟩
  · unfold lsV; rw [if_pos h1, e', if_neg (by omega)]
  · unfold lsC; rw [if_pos h1, e', if_neg (by omega)]
  · obtain ⟨e1, e2⟩ := lc_yes h1 (by omega : m ≤ 8) m0
    exact ⟨_, e1, e2, m1⟩
  · intro hp
    have hq := hn (m - 1) (by omega)
    have ec : (m : Int) - 1 = ((m - 1 : Nat) : Int) := by omega
    rw [ec]
    by_cases hk : lcost ws 0 ws.length (m - 1) < 0
    · obtain ⟨e1, e2⟩ := lc_no h1 (by omega : m - 1 ≤ 8) hk
      exact ⟨_, _, e1, e2, .inl rfl⟩
    · obtain ⟨e1, e2⟩ := lc_yes h1 (by omega : m - 1 ≤ 8) (by omega)
      exact ⟨_, _, e1, e2, .inr ⟨rfl, by omega⟩⟩

end Go.Proofs.Ytdhicgdcjfcomaa
