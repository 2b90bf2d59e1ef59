/- Plain: for weights of 1 the least cost is the formula's; how long the parts of the split are. No program is named here. -/
import Derived.Test.YtnbpcdcdfkfmiaaPMin
import Derived.Test.YtnbpcdcdfkfmiaaPRepeats
namespace Go.Proofs.Ytnbpcdcdfkfmiaa.Plain

/-- ways to choose, of small numbers -/
def ch (n k : Nat) : Int := chooseS (n : Int) (k : Int)
theorem pascal_all : ∀ n, n < 48 → ∀ k, k < 9 → ch (n + 1) (k + 1) = ch n k + ch n (k + 1) := by decide +kernel
theorem ch_low_all : ∀ c : Nat, c < 9 → ∀ r : Nat, r < 41 → (r : Int) ≤ ch (c + r) (c + 1) := by decide +kernel
theorem ch_pos_all : ∀ c : Nat, c < 9 → ∀ r : Nat, r < 41 → 1 ≤ ch (c + r) c ∧ (0 < c → (r : Int) + 1 ≤ ch (c + r) c) := by decide +kernel
theorem ch_zero_all : ∀ c, c < 9 → ch c (c + 1) = 0 ∧ ch c c = 1 := by decide +kernel
theorem ch_nil_all : ∀ r : Nat, r < 41 → ch r 0 = 1 ∧ ch r 1 = r := by decide +kernel
theorem ch_mono_all : ∀ c : Nat, c < 9 → ∀ r : Nat, r < 40 → ch (c + r) c ≤ ch (c + r + 1) c := by decide +kernel
theorem pascal {n k : Nat} (hn : n < 48) (hk : k < 9) : ch (n + 1) (k + 1) = ch n k + ch n (k + 1) := pascal_all n hn k hk

/-- weights of 1 -/
def ones (n : Nat) : List Int := List.replicate n 1
theorem ones_get {n i : Nat} (h : i < n) : (ones n).getD i 0 = 1 := by simp [ones, List.getD, h]
theorem ones_isW (n : Nat) : IsW (ones n) := fun i => by
  simp only [ones, List.getD, List.getElem?_replicate]; split <;> simp
/-- the least cost of so many steps of weight 1 -/
def gc (n c : Nat) : Int := lcost (ones n) 0 n c
theorem gc_eq {N a b c : Nat} (hb : b ≤ N) (hab : a ≤ b) : lcost (ones N) a b c = gc (b - a) c := by
  have e := lf_congr (ws := ones (b - a)) (ws' := ones N) (k := a) (b - a) 0 (b - a) c (fun i _ hi => by rw [ones_get hi, ones_get (by omega)])
  unfold gc lcost
  rw [show b - a - 0 = b - a by omega, e, Nat.zero_add, show b - a + a = b by omega]
theorem way_ones {N a j : Nat} (h : a + j ≤ N) : way (ones N) a j = j := by
  induction j with
  | zero => rfl
  | succ j ih => simp only [way]; rw [ih (by omega), ones_get (by omega)]; omega

/-- the split of so many steps -/
theorem gc_split {N a b c : Nat} (hb : b ≤ N) (hab : a + 1 < b) (h : 0 ≤ lcost (ones N) a b c) :
    0 < c ∧ ∃ m : Nat, lsplit (ones N) a b c = (m : Int) ∧ a < m ∧ m < b ∧ 0 ≤ gc (b - m) (c - 1) ∧ 0 ≤ gc (m - a) c ∧ gc (b - a) c = ((m - a : Nat) : Int) + gc (b - m) (c - 1) + gc (m - a) c := by
  obtain ⟨hc, m, e1, m1, m2, m3, m4, _⟩ := least_is (ones_isW N) hab h
  refine ⟨hc, m, e1, m1, m2, ?_, ?_, ?_⟩
  · have := m3.1; rwa [gc_eq hb (by omega)] at this
  · have := m3.2; rwa [gc_eq (by omega) (by omega)] at this
  · rw [gc_eq hb (by omega)] at m4
    rw [m4]; unfold cand
    rw [way_ones (by omega), gc_eq hb (by omega), gc_eq (by omega) (by omega)]
theorem gc_le {n c m : Nat} (hc : 0 < c) (h1 : 0 < m) (h2 : m < n) (hr : 0 ≤ gc (n - m) (c - 1)) (hl : 0 ≤ gc m c) : 0 ≤ gc n c ∧ gc n c ≤ (m : Int) + gc (n - m) (c - 1) + gc m c := by
  have e1 : lcost (ones n) m n (c - 1) = gc (n - m) (c - 1) := gc_eq (Nat.le_refl _) (by omega)
  have e2 : lcost (ones n) 0 m c = gc m c := by rw [gc_eq (by omega) (by omega)]; rfl
  have h := least_le (ones_isW n) (a := 0) (b := n) (m := m) hc h1 h2 ⟨by rw [e1]; exact hr, by rw [e2]; exact hl⟩
  unfold cand at h
  rw [e1, e2, way_ones (by omega)] at h
  exact h
theorem gc_short {n c : Nat} (h : n ≤ 1) : gc n c = 0 := lcost_short (by omega)

/-- no cost is less than the formula, for any number of repeats -/
theorem gc_low : ∀ (k n c r : Nat), n ≤ k → c < 9 → r < 41 → 0 ≤ gc n c → (r : Int) * (n : Int) - ch (c + r) (c + 1) ≤ gc n c := by
  intro k
  induction k with
  | zero =>
    intro n c r hn hc hr _
    obtain rfl : n = 0 := by omega
    have := ch_low_all c hc r hr
    rw [gc_short (by omega)]; omega
  | succ k ih =>
    intro n c r hn hc hr h0
    by_cases h1 : n ≤ 1
    · have := ch_low_all c hc r hr
      rw [gc_short h1]
      rcases (show n = 0 ∨ n = 1 by omega) with rfl | rfl <;> omega
    · obtain ⟨hc0, m, _, m1, m2, m3, m4, m5⟩ := gc_split (N := n) (a := 0) (b := n) (c := c) (Nat.le_refl _) (by omega) h0
      rw [Nat.sub_zero, Nat.sub_zero] at m5
      rw [Nat.sub_zero] at m4
      rcases Nat.eq_zero_or_pos r with rfl | hr0
      · have := (ch_zero_all c hc).1
        rw [Nat.add_zero, this]; omega
      · obtain ⟨r, rfl⟩ : ∃ q, r = q + 1 := ⟨r - 1, by omega⟩
        obtain ⟨c, rfl⟩ : ∃ q, c = q + 1 := ⟨c - 1, by omega⟩
        have a1 := ih (n - m) c (r + 1) (by omega) (by omega) hr (by simpa using m3)
        have a2 := ih m (c + 1) r (by omega) hc (by omega) m4
        have p := pascal (n := c + 1 + r) (k := c + 1) (by omega) (by omega)
        rw [show c + 1 + (r + 1) = c + 1 + r + 1 by omega, p, m5, show c + 1 - 1 = c by omega]
        rw [show c + (r + 1) = c + 1 + r by omega] at a1
        have e : ((n - m : Nat) : Int) = (n : Int) - (m : Int) := by omega
        rw [e] at a1
        have e2 : ((r + 1 : Nat) : Int) = (r : Int) + 1 := by omega
        rw [e2] at a1 ⊢
        have e3 : ((r : Int) + 1) * ((n : Int) - (m : Int)) = ((r : Int) + 1) * (n : Int) - (r : Int) * (m : Int) - (m : Int) := by rw [Int.mul_sub, Int.add_mul _ _ (m : Int), Int.one_mul]; omega
        rw [e3] at a1
        omega

/-- and it is reached -/
theorem gc_up : ∀ (k n c r : Nat), n + c ≤ k → n ≤ 40 → c < 9 → r < 41 → (n ≤ 1 ∨ 0 < c) → 0 < n → (n : Int) ≤ ch (c + r) c → (r = 0 ∨ ch (c + r - 1) c ≤ n) → 0 ≤ gc n c ∧ gc n c ≤ (r : Int) * (n : Int) - ch (c + r) (c + 1) := by
  intro k
  induction k with
  | zero => intro n c r h1 _ _ _ _ h0; omega
  | succ k ih =>
    intro n c r hk hn hc hr hnc h0 hu hl
    by_cases h1 : n = 1
    · subst h1
      rw [gc_short (by omega)]
      refine ⟨by omega, ?_⟩
      rcases Nat.eq_zero_or_pos r with rfl | hr0
      · have := (ch_zero_all c hc).1; rw [Nat.add_zero, this]; omega
      · rcases hl with rfl | hl
        · omega
        · obtain ⟨r, rfl⟩ : ∃ q, r = q + 1 := ⟨r - 1, by omega⟩
          rcases Nat.eq_zero_or_pos c with rfl | hc0
          · have := (ch_nil_all (r + 1) (by omega)).2
            rw [Nat.zero_add, this]; omega
          · have h2 := (ch_pos_all c hc r (by omega)).2 hc0
            rw [show c + (r + 1) - 1 = c + r by omega] at hl
            obtain rfl : r = 0 := by omega
            have p := pascal (n := c) (k := c) (by omega) (by omega)
            have z := ch_zero_all c hc
            rw [show c + (0 + 1) = c + 1 by omega, p, z.1, z.2]; omega
    · have hc0 : 0 < c := by omega
      obtain ⟨c, rfl⟩ : ∃ q, c = q + 1 := ⟨c - 1, by omega⟩
      rcases Nat.eq_zero_or_pos r with rfl | hr0
      · have := (ch_zero_all (c + 1) hc).2
        rw [Nat.add_zero, this] at hu; omega
      · obtain ⟨r, rfl⟩ : ∃ q, r = q + 1 := ⟨r - 1, by omega⟩
        have hl' : ch (c + 1 + r) (c + 1) ≤ n := by
          rcases hl with h | h
          · omega
          · rwa [show c + 1 + (r + 1) - 1 = c + 1 + r by omega] at h
        have p1 := pascal (n := c + 1 + r) (k := c) (by omega) (by omega)
        have pp := ch_pos_all (c + 1) hc r (by omega)
        have pq := ch_pos_all c (by omega) (r + 1) hr
        rw [show c + (r + 1) = c + 1 + r by omega] at pq
        rw [show c + 1 + (r + 1) = c + 1 + r + 1 by omega, p1] at hu
        -- the split
        have key : ∃ m : Nat, 0 < m ∧ m < n ∧ ((n - m : Nat) : Int) ≤ ch (c + 1 + r) c ∧ (c = 0 ∨ ch (c + r) c ≤ ((n - m : Nat) : Int)) ∧ (m : Int) ≤ ch (c + 1 + r) (c + 1) ∧ (r = 0 ∨ ch (c + r) (c + 1) ≤ m) ∧ (n - m ≤ 1 ∨ 0 < c) := by
          rcases Nat.eq_zero_or_pos r with rfl | hr1
          · -- r = 0: m = 1
            have z := ch_zero_all (c + 1) hc
            have z2 := ch_zero_all c (by omega)
            have hn1 : (n : Int) ≤ ch (c + 1 + 0) c + 1 := by
              rw [Nat.add_zero] at hu ⊢; rw [z.2] at hu; exact hu
            refine ⟨1, by omega, by omega, by omega, ?_, by rw [Nat.add_zero, z.2]; omega, .inl rfl, ?_⟩
            · right; rw [Nat.add_zero, z2.2]; omega
            · rcases Nat.eq_zero_or_pos c with rfl | h
              · left
                have := (ch_nil_all 1 (by omega)).1
                rw [show 0 + 1 + 0 = 1 by omega, this] at hn1; omega
              · right; exact h
          · obtain ⟨r, rfl⟩ : ∃ q, r = q + 1 := ⟨r - 1, by omega⟩
            have p2 := pascal (n := c + r + 1) (k := c) (by omega) (by omega)
            rw [show c + r + 1 + 1 = c + 1 + (r + 1) by omega] at p2
            have ps2 := ch_pos_all (c + 1) hc r (by omega)
            have ps3 := ch_pos_all c (by omega) (r + 1) (by omega)
            rw [show c + 1 + r = c + r + 1 by omega] at ps2
            rw [show c + (r + 1) = c + r + 1 by omega] at ps3
            rcases Nat.eq_zero_or_pos c with rfl | hcp
            · -- one slot: the right part is one step
              have q1 := ch_nil_all (0 + 1 + (r + 1)) (by omega)
              have q2 := ch_nil_all (0 + r + 1) (by omega)
              refine ⟨n - 1, by omega, by omega, by rw [q1.1]; omega, .inl rfl, by omega, .inr ?_, .inl (by omega)⟩
              rw [q2.1] at p2
              rw [show 0 + (r + 1) = 0 + r + 1 by omega]; omega
            · -- the longest right part that leaves enough to the left
              have e4 : c + (r + 1) = c + r + 1 := by omega
              rw [e4]
              obtain ⟨u, hu'⟩ := Int.eq_ofNat_of_zero_le (a := ch (c + r + 1) (c + 1)) (by omega)
              obtain ⟨v, hv'⟩ := Int.eq_ofNat_of_zero_le (a := ch (c + 1 + (r + 1)) c) (by omega)
              obtain ⟨x, hx'⟩ := Int.eq_ofNat_of_zero_le (a := ch (c + r + 1) c) (by omega)
              rw [hu', hx'] at p2
              rw [p2, hv'] at hu
              rw [p2] at hl'
              have hm := ch_mono_all c (by omega) (r + 1) (by omega)
              rw [show c + (r + 1) + 1 = c + 1 + (r + 1) by omega, show c + (r + 1) = c + r + 1 by omega, hv', hx'] at hm
              rw [hu', hv', hx', p2]
              rw [hu'] at ps2
              rw [hx'] at ps3
              by_cases hh : n ≤ u + v
              · exact ⟨u, by omega, by omega, by omega, .inr (by omega), by omega, .inr (by omega), .inr hcp⟩
              · exact ⟨n - v, by omega, by omega, by omega, .inr (by omega), by omega, .inr (by omega), .inr hcp⟩
        obtain ⟨m, k1, k2, k3, k4, k5, k6, k7⟩ := key
        have a1 := ih (n - m) c (r + 1) (by omega) (by omega) (by omega) hr k7 (by omega) (by rw [show c + (r + 1) = c + 1 + r by omega]; exact k3) (by
          right
          rw [show c + (r + 1) - 1 = c + r by omega]
          rcases k4 with rfl | h
          · have := (ch_nil_all (0 + r) (by omega)).1; rw [this]; omega
          · exact h)
        have a2 := ih m (c + 1) r (by omega) (by omega) hc (by omega) (.inr (by omega)) k1 k5 (by
          rcases k6 with h | h
          · exact .inl h
          · right; rw [show c + 1 + r - 1 = c + r by omega]; exact h)
        have g := gc_le (n := n) (c := c + 1) (m := m) (by omega) k1 k2 a1.1 a2.1
        refine ⟨g.1, Int.le_trans g.2 ?_⟩
        rw [show c + 1 - 1 = c by omega]
        have p := pascal (n := c + 1 + r) (k := c + 1) (by omega) (by omega)
        rw [show c + 1 + (r + 1) = c + 1 + r + 1 by omega, p]
        have a1' := a1.2
        rw [show c + (r + 1) = c + 1 + r by omega] at a1'
        have e : ((n - m : Nat) : Int) = (n : Int) - (m : Int) := by omega
        rw [e] at a1'
        have e2 : ((r + 1 : Nat) : Int) = (r : Int) + 1 := by omega
        rw [e2] at a1' ⊢
        have e3 : ((r : Int) + 1) * ((n : Int) - (m : Int)) = ((r : Int) + 1) * (n : Int) - (r : Int) * (m : Int) - (m : Int) := by rw [Int.mul_sub, Int.add_mul _ _ (m : Int), Int.one_mul]; omega
        rw [e3] at a1'
        have a2' := a2.2
        omega

end Go.Proofs.Ytnbpcdcdfkfmiaa.Plain
