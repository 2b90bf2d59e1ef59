/- Plain: the least cost is a least one: more slots and shorter chains never cost more; its split is the first. No program is named here. -/
import Derived.Test.YtdhicgdcjfcomaaPLeast
namespace Go.Proofs.Ytdhicgdcjfcomaa.Plain

/-- the way over j steps from a -/
def way (ws : List Int) (a : Nat) : Nat → Int
  | 0 => 0
  | j + 1 => way ws a j + ws.getD (a + j) 0
theorem way_nonneg {ws : List Int} (hw : IsW ws) (a j : Nat) : 0 ≤ way ws a j := by
  induction j with
  | zero => exact Int.le_refl _
  | succ j ih => have := hw (a + j); simp only [way]; omega
theorem way_le {ws : List Int} (hw : IsW ws) (a j k : Nat) (h : j ≤ k) : way ws a j ≤ way ws a k := by
  induction k with
  | zero => obtain rfl : j = 0 := by omega
            exact Int.le_refl _
  | succ k ih =>
    by_cases e : j = k + 1
    · rw [e]; exact Int.le_refl _
    · have := hw (a + k); have := ih (by omega); simp only [way]; omega
theorem way_head {ws : List Int} (a j : Nat) : way ws a (j + 1) = ws.getD a 0 + way ws (a + 1) j := by
  induction j with
  | zero => simp [way]
  | succ j ih =>
    rw [way, ih, way, show a + (j + 1) = a + 1 + j by omega]; omega

theorem lstate_step (ws : List Int) (a b c j : Nat) : lstate ws a b c (j + 1) = if 0 ≤ lcost ws (a + j + 1) b (c - 1) ∧ 0 ≤ lcost ws a (a + j + 1) c ∧ ((lstate ws a b c j).2.1 < 0 ∨ (lstate ws a b c j).1 + ws.getD (a + j) 0 + lcost ws (a + j + 1) b (c - 1) + lcost ws a (a + j + 1) c < (lstate ws a b c j).2.1) then
      ((lstate ws a b c j).1 + ws.getD (a + j) 0, (lstate ws a b c j).1 + ws.getD (a + j) 0 + lcost ws (a + j + 1) b (c - 1) + lcost ws a (a + j + 1) c, ((a + j + 1 : Nat) : Int))
      else ((lstate ws a b c j).1 + ws.getD (a + j) 0, (lstate ws a b c j).2.1, (lstate ws a b c j).2.2) := rfl
theorem lstate_way (ws : List Int) (a b c j : Nat) : (lstate ws a b c j).1 = way ws a j := by
  induction j with
  | zero => rfl
  | succ j ih => rw [lstate_step]; split <;> simp only [way, ih]

/-- the cost with the split at m -/
def cand (ws : List Int) (a b c m : Nat) : Int := way ws a (m - a) + lcost ws m b (c - 1) + lcost ws a m c
/-- can the split be at m? -/
def can (ws : List Int) (a b c m : Nat) : Prop := 0 ≤ lcost ws m b (c - 1) ∧ 0 ≤ lcost ws a m c
theorem cand_nonneg {ws : List Int} (hw : IsW ws) {a b c m : Nat} (h : can ws a b c m) : 0 ≤ cand ws a b c m := by
  have := way_nonneg hw a (m - a)
  unfold cand; have := h.1; have := h.2; omega

theorem lstate_inv {ws : List Int} (hw : IsW ws) (a b c : Nat) : ∀ j,
    (∀ m, a < m → m ≤ a + j → can ws a b c m → 0 ≤ (lstate ws a b c j).2.1 ∧ (lstate ws a b c j).2.1 ≤ cand ws a b c m) ∧
    (0 ≤ (lstate ws a b c j).2.1 → ∃ m : Nat, (lstate ws a b c j).2.2 = (m : Int) ∧ a < m ∧ m ≤ a + j ∧ can ws a b c m ∧ (lstate ws a b c j).2.1 = cand ws a b c m ∧ ∀ m', a < m' → m' < m → can ws a b c m' → (lstate ws a b c j).2.1 < cand ws a b c m') := by
  intro j
  induction j with
  | zero =>
    refine ⟨fun m h1 h2 => by omega, fun h => ?_⟩
    simp [lstate, bsTo] at h
  | succ j ih =>
    obtain ⟨i1, i2⟩ := ih
    have hc : cand ws a b c (a + j + 1) = (lstate ws a b c j).1 + ws.getD (a + j) 0 + lcost ws (a + j + 1) b (c - 1) + lcost ws a (a + j + 1) c := by
      unfold cand
      rw [show a + j + 1 - a = j + 1 by omega, lstate_way, way]
    rw [lstate_step]
    by_cases hb : 0 ≤ lcost ws (a + j + 1) b (c - 1) ∧ 0 ≤ lcost ws a (a + j + 1) c ∧ ((lstate ws a b c j).2.1 < 0 ∨ (lstate ws a b c j).1 + ws.getD (a + j) 0 + lcost ws (a + j + 1) b (c - 1) + lcost ws a (a + j + 1) c < (lstate ws a b c j).2.1)
    · rw [if_pos hb]
      have hcan : can ws a b c (a + j + 1) := ⟨hb.1, hb.2.1⟩
      have hn := cand_nonneg hw hcan
      have hbb := hb.2.2
      rw [← hc] at hbb
      simp only []
      rw [← hc]
      constructor
      · intro m h1 h2 h3
        refine ⟨hn, ?_⟩
        by_cases e : m = a + j + 1
        · subst e; exact Int.le_refl _
        · have := i1 m h1 (by omega) h3; omega
      · intro _
        refine ⟨a + j + 1, rfl, by omega, by omega, hcan, rfl, fun m' h1 h2 h3 => ?_⟩
        have := i1 m' h1 (by omega) h3; omega
    · rw [if_neg hb]
      simp only []
      constructor
      · intro m h1 h2 h3
        by_cases e : m = a + j + 1
        · subst e
          rw [hc]
          have h4 := h3.1
          have h5 := h3.2
          omega
        · exact i1 m h1 (by omega) h3
      · intro h
        obtain ⟨m, e1, e2, e3, e4⟩ := i2 h
        exact ⟨m, e1, e2, by omega, e4⟩

theorem least_le {ws : List Int} (hw : IsW ws) {a b c m : Nat} (hc : 0 < c) (h1 : a < m) (h2 : m < b) (h : can ws a b c m) : 0 ≤ lcost ws a b c ∧ lcost ws a b c ≤ cand ws a b c m := by
  rw [lcost_eq (by omega) hc]
  exact (lstate_inv hw a b c (b - a - 1)).1 m h1 (by omega) h
theorem least_is {ws : List Int} (hw : IsW ws) {a b c : Nat} (hab : a + 1 < b) (h : 0 ≤ lcost ws a b c) :
    0 < c ∧ ∃ m : Nat, lsplit ws a b c = (m : Int) ∧ a < m ∧ m < b ∧ can ws a b c m ∧ lcost ws a b c = cand ws a b c m ∧ ∀ m', a < m' → m' < m → can ws a b c m' → lcost ws a b c < cand ws a b c m' := by
  have hc : 0 < c := by
    rcases Nat.eq_zero_or_pos c with rfl | hc
    · rw [lcost_none hab] at h; omega
    · exact hc
  refine ⟨hc, ?_⟩
  rw [lcost_eq hab hc] at h ⊢
  rw [lsplit_eq hab hc]
  obtain ⟨m, e1, e2, e3, e4⟩ := (lstate_inv hw a b c (b - a - 1)).2 h
  exact ⟨m, e1, e2, by omega, e4⟩

theorem lcost_pos {ws : List Int} (hw : IsW ws) : ∀ (n a b c : Nat), b - a ≤ n → 0 < c → 0 ≤ lcost ws a b c := by
  intro n
  induction n with
  | zero => intro a b c h hc; rw [lcost_short (by omega)]; exact Int.le_refl _
  | succ n ih =>
    intro a b c h hc
    by_cases hb : b ≤ a + 1
    · rw [lcost_short hb]; exact Int.le_refl _
    · have : can ws a b c (b - 1) := ⟨by rw [lcost_short (by omega)]; exact Int.le_refl _, ih a (b - 1) c (by omega) hc⟩
      exact (least_le hw hc (by omega) (by omega) this).1

theorem lcost_more {ws : List Int} (hw : IsW ws) : ∀ (n a b c c' : Nat), b - a ≤ n → c ≤ c' → 0 ≤ lcost ws a b c → 0 ≤ lcost ws a b c' ∧ lcost ws a b c' ≤ lcost ws a b c := by
  intro n
  induction n with
  | zero => intro a b c c' h hc h0; rw [lcost_short (by omega), lcost_short (by omega)]; omega
  | succ n ih =>
    intro a b c c' h hc h0
    by_cases hb : b ≤ a + 1
    · rw [lcost_short hb, lcost_short hb]; omega
    · obtain ⟨hc0, m, _, m1, m2, m3, m4, _⟩ := least_is hw (by omega) h0
      have r := ih m b (c - 1) (c' - 1) (by omega) (by omega) m3.1
      have l := ih a m c c' (by omega) hc m3.2
      have k := least_le hw (c := c') (by omega) m1 m2 ⟨r.1, l.1⟩
      refine ⟨k.1, Int.le_trans k.2 ?_⟩
      rw [m4]; unfold cand; omega

theorem lcost_head {ws : List Int} (hw : IsW ws) : ∀ (n a b c : Nat), b - a ≤ n → 0 ≤ lcost ws a b c → 0 ≤ lcost ws a (b - 1) c ∧ lcost ws a (b - 1) c ≤ lcost ws a b c := by
  intro n
  induction n with
  | zero => intro a b c h h0; rw [lcost_short (by omega), lcost_short (by omega)]; omega
  | succ n ih =>
    intro a b c h h0
    by_cases hb : b - 1 ≤ a + 1
    · rw [lcost_short hb]; omega
    · obtain ⟨hc0, m, _, m1, m2, m3, m4, _⟩ := least_is hw (by omega) h0
      have hwn := way_nonneg hw a (m - a)
      rw [m4]; unfold cand
      by_cases e : m = b - 1
      · rw [← e]; have := m3.1; have := m3.2; omega
      · have r := ih m b (c - 1) (by omega) m3.1
        have k := least_le hw (b := b - 1) hc0 m1 (by omega) ⟨r.1, m3.2⟩
        refine ⟨k.1, Int.le_trans k.2 ?_⟩
        unfold cand; omega

theorem lcost_tail {ws : List Int} (hw : IsW ws) : ∀ (n a b c : Nat), b - a ≤ n → 0 ≤ lcost ws a b c → 0 ≤ lcost ws (a + 1) b c ∧ lcost ws (a + 1) b c ≤ lcost ws a b c := by
  intro n
  induction n with
  | zero => intro a b c h h0; rw [lcost_short (by omega), lcost_short (by omega)]; omega
  | succ n ih =>
    intro a b c h h0
    by_cases hb : b ≤ a + 1 + 1
    · rw [lcost_short hb]; omega
    · obtain ⟨hc0, m, _, m1, m2, m3, m4, _⟩ := least_is hw (by omega) h0
      have hwn := way_nonneg hw a (m - a)
      rw [m4]
      by_cases e : m = a + 1
      · subst e
        have := lcost_more hw (b - (a + 1)) (a + 1) b (c - 1) c (Nat.le_refl _) (by omega) m3.1
        unfold cand; have := m3.2; omega
      · have l := ih a m c (by omega) m3.2
        have k := least_le hw (a := a + 1) hc0 (by omega) m2 ⟨m3.1, l.1⟩
        refine ⟨k.1, Int.le_trans k.2 ?_⟩
        have hh := way_head (ws := ws) a (m - (a + 1))
        rw [show m - (a + 1) + 1 = m - a by omega] at hh
        have := hw a
        unfold cand; omega

theorem bs_congr {ws ws' : List Int} {R L R' L' : Nat → Int} {a k : Nat} (n : Nat) (h : ∀ m, a < m → m ≤ a + n → R m = R' (m + k) ∧ L m = L' (m + k)) (hg : ∀ j, j < n → ws.getD (a + j) 0 = ws'.getD (a + j + k) 0) :
    (bsTo ws R L a n).1 = (bsTo ws' R' L' (a + k) n).1 ∧ (bsTo ws R L a n).2.1 = (bsTo ws' R' L' (a + k) n).2.1 := by
  induction n with
  | zero => exact ⟨rfl, rfl⟩
  | succ n ih =>
    obtain ⟨e1, e2⟩ := ih (fun m h1 h2 => h m h1 (by omega)) (fun j hj => hg j (by omega))
    obtain ⟨f1, f2⟩ := h (a + n + 1) (by omega) (by omega)
    have g := hg n (by omega)
    rw [show a + n + 1 + k = a + k + n + 1 by omega] at f1 f2
    rw [show a + n + k = a + k + n by omega] at g
    simp only [bsTo, e1, e2, f1, f2, g]
    split <;> exact ⟨rfl, rfl⟩

theorem lf_congr {ws ws' : List Int} {k : Nat} : ∀ (f a b c : Nat), (∀ i, a ≤ i → i < b → ws.getD i 0 = ws'.getD (i + k) 0) → (lf ws f a b c).1 = (lf ws' f (a + k) (b + k) c).1 := by
  intro f
  induction f with
  | zero => intro a b c _; rfl
  | succ f ih =>
    intro a b c hg
    simp only [lf]
    by_cases hb : b ≤ a + 1
    · have hb' : b + k ≤ a + k + 1 := by omega
      rw [if_pos hb, if_pos hb']
    · have hb' : ¬ b + k ≤ a + k + 1 := by omega
      rw [if_neg hb, if_neg hb']
      by_cases hc : c = 0
      · rw [if_pos hc, if_pos hc]
      · rw [if_neg hc, if_neg hc]
        rw [show b + k - (a + k) - 1 = b - a - 1 by omega]
        exact (bs_congr (ws := ws) (ws' := ws') (R := fun m => (lf ws f m b (c - 1)).1) (L := fun m => (lf ws f a m c).1) (R' := fun m => (lf ws' f m (b + k) (c - 1)).1) (L' := fun m => (lf ws' f (a + k) m c).1) (a := a) (k := k) (b - a - 1)
          (fun m h1 h2 => ⟨ih m b (c - 1) fun i h3 h4 => hg i (by omega) h4, ih a m c fun i h3 h4 => hg i h3 (by omega)⟩) (fun j hj => hg (a + j) (by omega) (by omega))).2

theorem lcost_drop (ws : List Int) (k n c : Nat) (h : k + n = ws.length) : lcost (ws.drop k) 0 n c = lcost ws k ws.length c := by
  have e := lf_congr (ws := ws.drop k) (ws' := ws) (k := k) (n - 0) 0 n c (fun i _ _ => by simp [List.getD, Nat.add_comm])
  unfold lcost
  rw [e]
  have : n + k = ws.length := by omega
  rw [this, Nat.zero_add, show ws.length - k = n - 0 by omega]
theorem lcost_take (ws : List Int) (k c : Nat) : lcost (ws.take k) 0 k c = lcost ws 0 k c := by
  have e := lf_congr (ws := ws.take k) (ws' := ws) (k := 0) (k - 0) 0 k c (fun i _ h => by simp [List.getD, List.getElem?_take, h])
  unfold lcost
  rw [e]; rfl

theorem IsW.drop {ws : List Int} (h : IsW ws) (k : Nat) : IsW (ws.drop k) := fun i => by
  have := h (k + i); simpa [List.getD] using this
theorem IsW.take {ws : List Int} (h : IsW ws) (k : Nat) : IsW (ws.take k) := fun i => by
  have := h i
  simp only [List.getD, List.getElem?_take]
  split
  · exact this
  · simp

end Go.Proofs.Ytdhicgdcjfcomaa.Plain
