/- Plain: the planned schedule for weights of 1 runs, and advances over no step more often than the repeats that are needed. -/
import Derived.Test.YtnbpcdcdfkfmiaaPChain
import Derived.Test.YtnbpcdcdfkfmiaaPPlan
import Derived.Test.YtnbpcdcdfkfmiaaPBin
namespace Go.Proofs.Ytnbpcdcdfkfmiaa
open Go.RowKit Plain

/-- the chain behind a list of actions, if all of them are possible -/
def runs : List (Int × Int) → Ch → Option Ch
  | [], c => some c
  | x :: l, c => if poss c x.1 x.2 then runs l (stepC c x.1 x.2) else none
theorem runs_append (l k : List (Int × Int)) (c : Ch) : runs (l ++ k) c = (runs l c).bind (runs k) := by
  induction l generalizing c with
  | nil => rfl
  | cons x l ih =>
    simp only [List.cons_append, runs]
    split
    · exact ih _
    · rfl
theorem badC_runs {l : List (Int × Int)} {c c' : Ch} (h : runs l c = some c') (i : Int) : badC l c i = (c', if 0 < c'.left then i + l.length else -1) := by
  induction l generalizing c i with
  | nil =>
    simp only [runs, Option.some.injEq] at h
    subst h
    simp [badC]
  | cons x l ih =>
    simp only [runs] at h
    split at h
    · rename_i hp
      simp only [badC, hp, if_true]
      rw [ih h]
      congr 1
      split
      · simp; omega
      · rfl
    · cases h

theorem advN_over (c : Ch) (a : Nat) (hs : c.state = a) : ∀ (j : Nat), c.over.length = c.over.length → ∀ i, (advN c j).over.getD i 0 ≤ c.over.getD i 0 + (if a ≤ i ∧ i < a + j then 1 else 0) := by
  intro j _
  induction j with
  | zero => intro i; show c.over.getD i 0 ≤ _; split <;> omega
  | succ j ih =>
    intro i
    obtain ⟨_, e2, _⟩ := advN_facts c c.over.length (by omega) rfl j
    have h1 : (advN c (j + 1)).over = (advN c j).over.set (a + j) ((advN c j).over.getD (a + j) 0 + 1) := by
      simp only [advN, adv1]
      rw [e2, hs, show ((a : Int) + (j : Int)).toNat = a + j by omega]
    rw [h1]
    have h2 := ih i
    simp only [List.getD, List.getElem?_set]
    by_cases e : a + j = i
    · subst e
      have h3 : ¬ (a ≤ a + j ∧ a + j < a + j) := by omega
      rw [if_neg h3] at h2
      rw [if_pos rfl, if_pos (show a ≤ a + j ∧ a + j < a + (j + 1) by omega)]
      simp only [List.getD] at h2
      split
      · simp; omega
      · rename_i hl
        have : (advN c j).over[a + j]? = none := List.getElem?_eq_none (by omega)
        have hcl : c.over[a + j]? = none := by
          obtain ⟨_, _, _, e4, _⟩ := advN_facts c c.over.length (by omega) rfl j
          exact List.getElem?_eq_none (by omega)
        rw [hcl]; simp
    · rw [if_neg e]
      simp only [List.getD] at h2
      by_cases h4 : a ≤ i ∧ i < a + j
      · rw [if_pos h4] at h2
        rw [if_pos (by omega)]; exact h2
      · rw [if_neg h4] at h2
        rw [if_neg (by omega)]; exact h2

theorem min_rep {c n : Nat} : ∀ r : Nat, (n : Int) ≤ ch (c + r) c → ∃ r', r' ≤ r ∧ (n : Int) ≤ ch (c + r') c ∧ (r' = 0 ∨ ch (c + r' - 1) c < n) := by
  intro r
  induction r with
  | zero => intro h; exact ⟨0, Nat.le_refl _, h, .inl rfl⟩
  | succ r ih =>
    intro h
    by_cases h1 : (n : Int) ≤ ch (c + r) c
    · obtain ⟨r', h2, h3⟩ := ih h1
      exact ⟨r', by omega, h3⟩
    · exact ⟨r + 1, Nat.le_refl _, h, .inr (by rw [show c + (r + 1) - 1 = c + r by omega]; omega)⟩

/-- the parts of a split of least cost are within the reach of the repeats that are left -/
theorem parts {N a b c m r : Nat} (hN : N ≤ 40) (hb : b ≤ N) (hab : a + 1 < b) (hc : 0 < c) (hc9 : c < 9) (hr : r < 41) (m1 : a < m) (m2 : m < b)
    (h1 : 0 ≤ gc (b - m) (c - 1)) (h2 : 0 ≤ gc (m - a) c) (h3 : gc (b - a) c = ((m - a : Nat) : Int) + gc (b - m) (c - 1) + gc (m - a) c)
    (hu : ((b - a : Nat) : Int) ≤ ch (c + r) c) (hl : r = 0 ∨ ch (c + r - 1) c < ((b - a : Nat) : Int)) :
    0 < r ∧ ((m - a : Nat) : Int) ≤ ch (c + (r - 1)) c ∧ ((b - m : Nat) : Int) ≤ ch (c - 1 + r) (c - 1) := by
  rcases Nat.eq_zero_or_pos r with rfl | hr0
  · have := (ch_zero_all c hc9).2
    rw [Nat.add_zero, this] at hu; omega
  · obtain ⟨r, rfl⟩ : ∃ q, r = q + 1 := ⟨r - 1, by omega⟩
    obtain ⟨c, rfl⟩ : ∃ q, c = q + 1 := ⟨c - 1, by omega⟩
    have hl' : ch (c + 1 + r) (c + 1) < ((b - a : Nat) : Int) := by
      rcases hl with h | h
      · omega
      · rwa [show c + 1 + (r + 1) - 1 = c + 1 + r by omega] at h
    have hr39 : r + 1 ≤ 39 := by
      have := (ch_pos_all (c + 1) hc9 r (by omega)).2 (by omega)
      omega
    refine ⟨by omega, ?_⟩
    rw [show r + 1 - 1 = r by omega, show c + 1 - 1 = c by omega] at *
    have up := (gc_up (b - a + (c + 1)) (b - a) (c + 1) (r + 1) (Nat.le_refl _) (by omega) hc9 hr (.inr (by omega)) (by omega) hu (.inr (by rw [show c + 1 + (r + 1) - 1 = c + 1 + r by omega]; omega))).2
    have lowL := gc_low (m - a) (m - a) (c + 1) r (Nat.le_refl _) hc9 (by omega) h2
    have lowR := gc_low (b - m) (b - m) c (r + 1) (Nat.le_refl _) (by omega) (by omega) h1
    have lowL2 := gc_low (m - a) (m - a) (c + 1) (r + 1) (Nat.le_refl _) hc9 (by omega) h2
    have lowR2 := gc_low (b - m) (b - m) c (r + 2) (Nat.le_refl _) (by omega) (by omega) h1
    have p := pascal (n := c + 1 + r) (k := c + 1) (by omega) (by omega)
    have p2 := pascal (n := c + 1 + r) (k := c) (by omega) (by omega)
    have p3 := pascal (n := c + 1 + r + 1) (k := c + 1) (by omega) (by omega)
    rw [show c + 1 + (r + 1) = c + 1 + r + 1 by omega] at up lowL2
    rw [show c + (r + 1) = c + 1 + r by omega] at lowR
    rw [show c + (r + 2) = c + 1 + r + 1 by omega] at lowR2
    rw [show c + (r + 1) = c + 1 + r by omega]
    rw [p] at up lowL2
    rw [p2] at lowR2
    have e : ((b - a : Nat) : Int) = ((b - m : Nat) : Int) + ((m - a : Nat) : Int) := by omega
    rw [h3, e] at up
    generalize gc (b - m) c = G1 at *
    generalize gc (m - a) (c + 1) = G2 at *
    generalize ((b - m : Nat) : Int) = R at *
    generalize ((m - a : Nat) : Int) = L at *
    have e1 : ((r + 1 : Nat) : Int) = (r : Int) + 1 := by omega
    have e2 : ((r + 2 : Nat) : Int) = (r : Int) + 2 := by omega
    rw [e1] at up lowR lowL2
    rw [e2] at lowR2
    rw [Int.mul_add, Int.add_mul, Int.add_mul] at up
    rw [Int.add_mul] at lowR lowR2 lowL2
    omega

set_option maxHeartbeats 1000000 in
theorem plan_runs (N S : Nat) (hN : N ≤ 40) (hS : S ≤ 8) : ∀ (f a b c r : Nat) (held : Bool) (X : Ch), b - a ≤ f → a < b → b ≤ N → c ≤ S → 0 ≤ lcost (ones N) a b c → r < 41 → ((b - a : Nat) : Int) ≤ ch (c + r) c → (r = 0 ∨ ch (c + r - 1) c < ((b - a : Nat) : Int)) →
    X.left = b → X.state = a → X.slots.length = S → (held = true → X.slots[S - c]? = some (a : Int)) →
    ∃ X', runs (planL (ones N) S f a b c held) X = some X' ∧ X'.left = a ∧ X'.slots.length = S ∧ X'.over.length = X.over.length ∧ (∀ i, i < S - c → X'.slots[i]? = X.slots[i]?) ∧
      (∀ i, X'.over.getD i 0 ≤ X.over.getD i 0 + (if a ≤ i ∧ i < b then (r : Int) else 0)) := by
  intro f
  induction f with
  | zero => intro a b c r held X h1 h2; omega
  | succ f ih =>
    intro a b c r held X hf hab hb hcS h0 hr hu hl xl xs xn xh
    by_cases h1 : b = a + 1
    · subst h1
      have e : planL (ones N) S (f + 1) a (a + 1) c held = [(4, 0)] := by simp only [planL]; rw [if_neg (by omega), if_pos trivial]
      rw [e]
      have hp : poss X 4 0 = true := by simp [poss, xl, xs]
      refine ⟨stepC X 4 0, by simp [runs, hp], ?_, by simpa [stepC] using xn, by simp [stepC], fun i _ => by simp [stepC], fun i => ?_⟩
      · simp [stepC, xl]
      · have : (stepC X 4 0).over = X.over := by simp [stepC]
        rw [this]; split <;> omega
    · obtain ⟨hc0, m, hm, m1, m2, g1, g2, g3⟩ := gc_split hb (by omega) h0
      obtain ⟨hr0, pL, pR⟩ := parts hN hb (by omega) hc0 (by omega) hr m1 m2 g1 g2 g3 hu hl
      obtain ⟨rL, rL1, rL2, rL3⟩ := min_rep (c := c) (n := m - a) (r - 1) pL
      obtain ⟨rR, rR1, rR2, rR3⟩ := min_rep (c := c - 1) (n := b - m) r pR
      have e : planL (ones N) S (f + 1) a b c held = (if held then [] else [(2, (S : Int) - (c : Int))]) ++ ([(1, (m : Int) - (a : Int))] ++ (planL (ones N) S f m b (c - 1) false ++ ([(3, (S : Int) - (c : Int))] ++ planL (ones N) S f a m c true))) := by
        simp only [planL]; rw [if_neg (by omega), if_neg (by omega), hm, Int.toNat_natCast]
      rw [e]
      -- the store
      obtain ⟨X1, r1, l1, s1, n1, o1, k1, d1⟩ : ∃ X1, runs (if held then [] else [(2, (S : Int) - (c : Int))]) X = some X1 ∧ X1.left = b ∧ X1.state = a ∧ X1.slots.length = S ∧ X1.over = X.over ∧ (∀ i, i < S - c → X1.slots[i]? = X.slots[i]?) ∧ X1.slots[S - c]? = some (a : Int) := by
        cases held
        · have hd : ((S : Int) - (c : Int)).toNat = S - c := by omega
          have hp : poss X 2 ((S : Int) - (c : Int)) = true := by simp [poss, xn]; omega
          refine ⟨stepC X 2 ((S : Int) - (c : Int)), by simp [runs, hp], by simpa [stepC] using xl, by simpa [stepC] using xs, by simpa [stepC] using xn, by simp [stepC], fun i hi => ?_, ?_⟩
          · simp only [stepC]; simp only [show ¬ ((2 : Int) = 1) by omega, if_false, if_true, hd]
            exact List.getElem?_set_ne (by omega)
          · simp only [stepC]; simp only [show ¬ ((2 : Int) = 1) by omega, if_false, if_true, hd]
            rw [List.getElem?_set_self (by omega), xs]
        · exact ⟨X, rfl, xl, xs, xn, rfl, fun _ _ => rfl, xh rfl⟩
      -- the advance
      have ht : ((m : Int) - (a : Int)).toNat = m - a := by omega
      obtain ⟨f1, f2, f3, f4, _⟩ := advN_facts X1 X1.over.length (by omega) rfl (m - a)
      have f9 := advN_over X1 a s1 (m - a) rfl
      have hp1 : poss X1 1 ((m : Int) - (a : Int)) = true := by simp [poss, s1, l1]; omega
      have r2 : runs [(1, (m : Int) - (a : Int))] X1 = some (advN X1 (m - a)) := by simp [runs, hp1, stepC, ht]
      generalize advN X1 (m - a) = X2 at *
      -- the right part
      have hcr : lcost (ones N) m b (c - 1) = gc (b - m) (c - 1) := gc_eq hb (by omega)
      obtain ⟨X3, r3, l3, n3, o3, k3, v3⟩ := ih m b (c - 1) rR false X2 (by omega) m2 hb (by omega) (by rw [hcr]; exact g1) (by omega) rR2 rR3 (by rw [f1, l1]) (by rw [f2, s1]; omega) (by rw [f3, n1]) (fun h => by cases h)
      -- the load
      have hd : ((S : Int) - (c : Int)).toNat = S - c := by omega
      have d3 : X3.slots[S - c]? = some (a : Int) := by rw [k3 (S - c) (by omega), f3, d1]
      have d3' : X3.slots.getD (S - c) 0 = a := by simp [List.getD, d3]
      have hp3 : poss X3 3 ((S : Int) - (c : Int)) = true := by
        simp only [poss]
        simp only [show ¬ ((3 : Int) = 1) by omega, show ¬ ((3 : Int) = 2) by omega, if_false, if_true, hd, d3', n3]
        simp; omega
      obtain ⟨X4, r4, l4, s4, n4, o4, k4⟩ : ∃ X4, runs [(3, (S : Int) - (c : Int))] X3 = some X4 ∧ X4.left = m ∧ X4.state = a ∧ X4.slots = X3.slots ∧ X4.over = X3.over ∧ True := by
        refine ⟨stepC X3 3 ((S : Int) - (c : Int)), by simp [runs, hp3], by simpa [stepC] using l3, ?_, by simp [stepC], by simp [stepC], trivial⟩
        simp only [stepC]; simp only [show ¬ ((3 : Int) = 1) by omega, show ¬ ((3 : Int) = 2) by omega, if_false, if_true, hd, d3']
      -- the left part
      have hcl : lcost (ones N) a m c = gc (m - a) c := gc_eq (by omega) (by omega)
      obtain ⟨X5, r5, l5, n5, o5, k5, v5⟩ := ih a m c rL true X4 (by omega) m1 (by omega) hcS (by rw [hcl]; exact g2) (by omega) rL2 rL3 l4 s4 (by rw [n4, n3]) (fun _ => by rw [n4]; exact d3)
      refine ⟨X5, ?_, l5, n5, by rw [o5, o4, o3, f4, o1], ?_, ?_⟩
      · rw [runs_append, r1, Option.bind_some, runs_append, r2, Option.bind_some, runs_append, r3, Option.bind_some, runs_append, r4, Option.bind_some, r5]
      · intro i hi
        rw [k5 i hi, n4, k3 i (by omega), f3, k1 i hi]
      · intro i
        have w5 := v5 i
        have w3 := v3 i
        have w2 := f9 i
        rw [o4] at w5
        rw [o1] at w2
        by_cases q1 : a ≤ i ∧ i < m
        · rw [if_pos q1] at w5
          rw [if_neg (by omega)] at w3
          rw [if_pos (by omega)] at w2
          rw [if_pos (by omega)]; omega
        · rw [if_neg q1] at w5
          rw [if_neg (by omega)] at w2
          by_cases q2 : m ≤ i ∧ i < b
          · rw [if_pos q2] at w3
            rw [if_pos (by omega)]; omega
          · rw [if_neg q2] at w3
            rw [if_neg (by omega)]; omega

theorem rep_spec {n s : Nat} : ∀ (f j : Nat), (∀ i, i < j → chooseS ((s : Int) + (i : Int)) s < n) → (0 ≤ rep n s f j → ∃ r : Nat, rep n s f j = r ∧ j ≤ r ∧ r < j + f ∧ (n : Int) ≤ ch (s + r) s ∧ (r = 0 ∨ ch (s + r - 1) s < n)) ∧ (rep n s f j < 0 → ∀ i, i < j + f → chooseS ((s : Int) + (i : Int)) s < n) := by
  intro f
  induction f with
  | zero => intro j h; refine ⟨fun h0 => ?_, fun _ => by simpa using h⟩; simp [rep] at h0
  | succ f ih =>
    intro j h
    unfold rep
    by_cases hc : chooseS ((s : Int) + (j : Int)) s ≥ n
    · rw [if_pos hc]
      refine ⟨fun _ => ⟨j, rfl, Nat.le_refl _, by omega, ?_, ?_⟩, fun h => by omega⟩
      · unfold ch; rw [show ((s + j : Nat) : Int) = (s : Int) + (j : Int) by omega]; exact hc
      · rcases Nat.eq_zero_or_pos j with h0 | h0
        · exact .inl h0
        · right
          have := h (j - 1) (by omega)
          unfold ch; rw [show ((s + j - 1 : Nat) : Int) = (s : Int) + ((j - 1 : Nat) : Int) by omega]; exact this
    · rw [if_neg hc]
      have h' := ih (j + 1) fun i hi => by
        by_cases e : i = j
        · subst e; omega
        · exact h i (by omega)
      refine ⟨fun h0 => ?_, fun h0 i hi => h'.2 h0 i (by omega)⟩
      obtain ⟨r, e1, e2, e3, e4⟩ := h'.1 h0
      exact ⟨r, e1, by omega, by omega, e4⟩

/-- what the repeats that are needed tell -/
theorem repV_ok {n s : Nat} (hn : n ≤ 40) (hs : s ≤ 8) (h : 0 ≤ repV n s) : ∃ r : Nat, repV n s = r ∧ r < 41 ∧ (n : Int) ≤ ch (s + r) s ∧ (r = 0 ∨ ch (s + r - 1) s < n) ∧ (n ≤ 1 ∨ 0 < s) := by
  obtain ⟨r, e1, _, e3, e4, e5⟩ := (rep_spec (n := n) (s := s) 41 0 (fun i hi => by omega)).1 h
  refine ⟨r, e1, by omega, e4, e5, ?_⟩
  rcases Nat.eq_zero_or_pos s with rfl | h0
  · left
    have := (ch_nil_all (0 + r) (by omega)).1
    rw [this] at e4; omega
  · exact .inr h0
theorem repV_no {n s : Nat} (hs : s ≤ 8) (hn : n ≤ 40) (h : repV n s < 0) : s = 0 ∧ 2 ≤ n := by
  have h' := (rep_spec (n := n) (s := s) 41 0 (fun i hi => by omega)).2 h
  rcases Nat.eq_zero_or_pos s with rfl | h0
  · have := h' 0 (by omega)
    have e : chooseS (((0 : Nat) : Int) + ((0 : Nat) : Int)) (0 : Nat) = 1 := by decide
    rw [e] at this
    exact ⟨rfl, by omega⟩
  · have := h' 40 (by omega)
    have e := (ch_pos_all s (by omega) 40 (by omega)).2 h0
    unfold ch at e
    rw [show ((s + 40 : Nat) : Int) = (s : Int) + ((40 : Nat) : Int) by omega] at e
    omega

theorem gc_formula {n s r : Nat} (hn : n ≤ 40) (hs : s < 9) (hr : r < 41) (hns : n ≤ 1 ∨ 0 < s) (hu : (n : Int) ≤ ch (s + r) s) (hl : r = 0 ∨ ch (s + r - 1) s < n) : 0 ≤ gc n s ∧ gc n s = (r : Int) * (n : Int) - ch (s + r) (s + 1) := by
  rcases Nat.eq_zero_or_pos n with rfl | h0
  · have hr0 : r = 0 := by
      rcases hl with h | h
      · exact h
      · rcases Nat.eq_zero_or_pos r with h1 | h1
        · exact h1
        · have := (ch_pos_all s hs (r - 1) (by omega)).1
          rw [show s + (r - 1) = s + r - 1 by omega] at this; omega
    subst hr0
    have := (ch_zero_all s hs).1
    rw [gc_short (by omega), Nat.add_zero, this]; omega
  · have h := gc_up (n + s) n s r (Nat.le_refl _) hn hs hr hns h0 hu (by rcases hl with h | h; exact .inl h; exact .inr (by omega))
    have l := gc_low n n s r (Nat.le_refl _) hs hr h.1
    omega

theorem plan_isSched {N S : Nat} (hN : N ≤ 40) (hS : S ≤ 8) : ∀ (f a b c : Nat) (held : Bool), b ≤ N → a ≤ b → c ≤ S → 0 ≤ lcost (ones N) a b c → b - a ≤ f → ∀ x ∈ planL (ones N) S f a b c held, isAct x.1 x.2 = true := by
  intro f
  induction f with
  | zero => intro a b c held _ _ _ _ _ x hx; simp [planL] at hx
  | succ f ih =>
    intro a b c held hb hab hc h0 hf x hx
    simp only [planL] at hx
    split at hx
    · cases hx
    · split at hx
      · simp at hx; subst hx; rfl
      · rename_i h1 h2
        obtain ⟨hc0, m, hm, m1, m2, g1, g2, g3⟩ := gc_split hb (by omega) h0
        rw [hm, Int.toNat_natCast] at hx
        have hcr : lcost (ones N) m b (c - 1) = gc (b - m) (c - 1) := gc_eq hb (by omega)
        have hcl : lcost (ones N) a m c = gc (m - a) c := gc_eq (by omega) (by omega)
        have hd : isAct 2 ((S : Int) - (c : Int)) = true ∧ isAct 3 ((S : Int) - (c : Int)) = true := by
          unfold isAct; simp; exact inR_yes (by omega) (by omega)
        have ha : isAct 1 ((m : Int) - (a : Int)) = true := by unfold isAct; simp; exact inR_yes (by omega) (by omega)
        rcases List.mem_append.1 hx with hx | hx
        · cases held
          · simp at hx; subst hx; exact hd.1
          · simp at hx
        · rcases List.mem_append.1 hx with hx | hx
          · simp at hx; subst hx; exact ha
          · rcases List.mem_append.1 hx with hx | hx
            · exact ih m b (c - 1) false hb (by omega) (by omega) (by rw [hcr]; exact g1) (by omega) x hx
            · rcases List.mem_append.1 hx with hx | hx
              · simp at hx; subst hx; exact hd.2
              · exact ih a m c true (by omega) (by omega) hc (by rw [hcl]; exact g2) (by omega) x hx

end Go.Proofs.Ytnbpcdcdfkfmiaa
