/- Plain: the least cost of a chain, its split, and their bounds. No program is named here. -/
namespace Go.Proofs.Ytdhicgdcjfcomaa.Plain

/-- the state of the search for a split behind j rounds: the way to m, the best cost (-1: none), the split -/
def bsTo (ws : List Int) (R L : Nat → Int) (a : Nat) : Nat → Int × Int × Int
  | 0 => (0, -1, 0)
  | j + 1 =>
    if 0 ≤ R (a + j + 1) ∧ 0 ≤ L (a + j + 1) ∧ ((bsTo ws R L a j).2.1 < 0 ∨ (bsTo ws R L a j).1 + ws.getD (a + j) 0 + R (a + j + 1) + L (a + j + 1) < (bsTo ws R L a j).2.1) then
      ((bsTo ws R L a j).1 + ws.getD (a + j) 0, (bsTo ws R L a j).1 + ws.getD (a + j) 0 + R (a + j + 1) + L (a + j + 1), ((a + j + 1 : Nat) : Int))
    else ((bsTo ws R L a j).1 + ws.getD (a + j) 0, (bsTo ws R L a j).2.1, (bsTo ws R L a j).2.2)

theorem bsTo_congr {ws : List Int} {R L R' L' : Nat → Int} {a : Nat} (n : Nat) (h : ∀ m, a < m → m ≤ a + n → R m = R' m ∧ L m = L' m) : bsTo ws R L a n = bsTo ws R' L' a n := by
  induction n with
  | zero => rfl
  | succ n ih =>
    have e := ih fun m h1 h2 => h m h1 (by omega)
    obtain ⟨e1, e2⟩ := h (a + n + 1) (by omega) (by omega)
    simp only [bsTo, e, e1, e2]

/-- cost and split with fuel -/
def lf (ws : List Int) : Nat → Nat → Nat → Nat → Int × Int
  | 0, _, _, _ => (0, 0)
  | f + 1, a, b, c =>
    if b ≤ a + 1 then (0, 0) else if c = 0 then (-1, 0)
    else ((bsTo ws (fun m => (lf ws f m b (c - 1)).1) (fun m => (lf ws f a m c).1) a (b - a - 1)).2.1, (bsTo ws (fun m => (lf ws f m b (c - 1)).1) (fun m => (lf ws f a m c).1) a (b - a - 1)).2.2)

theorem lf_fuel (ws : List Int) (f : Nat) : ∀ g a b c, b - a ≤ f → b - a ≤ g → lf ws f a b c = lf ws g a b c := by
  induction f with
  | zero =>
    intro g a b c hf hg
    cases g with
    | zero => rfl
    | succ g => simp only [lf]; rw [if_pos (by omega)]
  | succ f ih =>
    intro g a b c hf hg
    cases g with
    | zero => simp only [lf]; rw [if_pos (by omega)]
    | succ g =>
      simp only [lf]
      by_cases hb : b ≤ a + 1
      · rw [if_pos hb, if_pos hb]
      · rw [if_neg hb, if_neg hb]
        by_cases hc : c = 0
        · rw [if_pos hc, if_pos hc]
        · rw [if_neg hc, if_neg hc]
          rw [bsTo_congr (b - a - 1) (R' := fun m => (lf ws g m b (c - 1)).1) (L' := fun m => (lf ws g a m c).1)
            (fun m h1 h2 => ⟨by rw [ih g m b (c - 1) (by omega) (by omega)], by rw [ih g a m c (by omega) (by omega)]⟩)]

/-- the least cost of the steps a to b - 1 with c slots, -1 if there is none -/
def lcost (ws : List Int) (a b c : Nat) : Int := (lf ws (b - a) a b c).1
/-- its split -/
def lsplit (ws : List Int) (a b c : Nat) : Int := (lf ws (b - a) a b c).2
/-- the search of both -/
def lstate (ws : List Int) (a b c j : Nat) : Int × Int × Int := bsTo ws (fun m => lcost ws m b (c - 1)) (fun m => lcost ws a m c) a j

theorem lcost_short {ws : List Int} {a b c : Nat} (h : b ≤ a + 1) : lcost ws a b c = 0 := by
  unfold lcost
  cases e : b - a with
  | zero => rfl
  | succ f => simp only [lf]; rw [if_pos h]
theorem lcost_none {ws : List Int} {a b : Nat} (h : a + 1 < b) : lcost ws a b 0 = -1 := by
  unfold lcost
  cases e : b - a with
  | zero => omega
  | succ f => simp only [lf]; rw [if_neg (by omega)]; rfl
theorem lsplit_none {ws : List Int} {a b : Nat} (h : a + 1 < b) : lsplit ws a b 0 = 0 := by
  unfold lsplit
  cases e : b - a with
  | zero => omega
  | succ f => simp only [lf]; rw [if_neg (by omega)]; rfl
theorem lstate_eq {ws : List Int} {a b c f : Nat} (hf : b - a = f + 1) :
    bsTo ws (fun m => (lf ws f m b (c - 1)).1) (fun m => (lf ws f a m c).1) a (b - a - 1) = lstate ws a b c (b - a - 1) :=
  bsTo_congr _ fun m h1 h2 => ⟨by simp only [lcost]; rw [lf_fuel ws f (b - m) m b (c - 1) (by omega) (by omega)], by simp only [lcost]; rw [lf_fuel ws f (m - a) a m c (by omega) (by omega)]⟩
theorem lcost_eq {ws : List Int} {a b c : Nat} (h : a + 1 < b) (hc : 0 < c) : lcost ws a b c = (lstate ws a b c (b - a - 1)).2.1 := by
  cases e : b - a with
  | zero => omega
  | succ f =>
    have := lstate_eq (ws := ws) (c := c) e
    unfold lcost
    rw [e]; simp only [lf]; rw [if_neg (by omega), if_neg (by omega)]
    rw [this, e]
theorem lsplit_eq {ws : List Int} {a b c : Nat} (h : a + 1 < b) (hc : 0 < c) : lsplit ws a b c = (lstate ws a b c (b - a - 1)).2.2 := by
  cases e : b - a with
  | zero => omega
  | succ f =>
    have := lstate_eq (ws := ws) (c := c) e
    unfold lsplit
    rw [e]; simp only [lf]; rw [if_neg (by omega), if_neg (by omega)]
    rw [this, e]

/-- weights -/
def IsW (ws : List Int) : Prop := ∀ i, 0 ≤ ws.getD i 0 ∧ ws.getD i 0 ≤ 1000

theorem sq_le {x y : Int} (hx : 1 ≤ x) (hy : 1 ≤ y) : x + y * y + x * x ≤ (x + y) * (x + y) := by
  have h : (x + y) * (x + y) = x * x + y * y + 2 * (x * y) := by rw [Int.add_mul, Int.mul_add, Int.mul_add, Int.mul_comm y x]; omega
  have h2 : x * 1 ≤ x * y := Int.mul_le_mul_of_nonneg_left hy (by omega)
  rw [h]; omega

theorem lcost_bd (ws : List Int) (hw : IsW ws) : ∀ (n a b c : Nat), b - a ≤ n →
    (-1 ≤ lcost ws a b c ∧ lcost ws a b c ≤ 1000 * (((b - a : Nat) : Int) * ((b - a : Nat) : Int))) ∧
    ∀ j, j + 1 ≤ b - a → 0 ≤ (lstate ws a b c j).1 ∧ (lstate ws a b c j).1 ≤ 1000 * (j : Int) ∧ -1 ≤ (lstate ws a b c j).2.1 ∧ (lstate ws a b c j).2.1 ≤ 1000 * (((b - a : Nat) : Int) * ((b - a : Nat) : Int)) ∧
      0 ≤ (lstate ws a b c j).2.2 ∧ (lstate ws a b c j).2.2 ≤ ((a + j : Nat) : Int) := by
  intro n
  induction n with
  | zero =>
    intro a b c h
    have e : b - a = 0 := by omega
    exact ⟨by rw [lcost_short (by omega)]; simp [e], fun j hj => by omega⟩
  | succ n ih =>
    intro a b c h
    have H : ∀ j, j + 1 ≤ b - a → 0 ≤ (lstate ws a b c j).1 ∧ (lstate ws a b c j).1 ≤ 1000 * (j : Int) ∧ -1 ≤ (lstate ws a b c j).2.1 ∧ (lstate ws a b c j).2.1 ≤ 1000 * (((b - a : Nat) : Int) * ((b - a : Nat) : Int)) ∧
        0 ≤ (lstate ws a b c j).2.2 ∧ (lstate ws a b c j).2.2 ≤ ((a + j : Nat) : Int) := by
      intro j
      have h0 : (0 : Int) ≤ ((b - a : Nat) : Int) * ((b - a : Nat) : Int) := Int.mul_nonneg (by omega) (by omega)
      induction j with
      | zero => intro _; simp [lstate, bsTo]; omega
      | succ j ihj =>
        intro hj
        obtain ⟨h1, h2, h3, h4, h5, h6⟩ := ihj (by omega)
        obtain ⟨w1, w2⟩ := hw (a + j)
        obtain ⟨r1, r2⟩ := (ih (a + j + 1) b (c - 1) (by omega)).1
        obtain ⟨l1, l2⟩ := (ih a (a + j + 1) c (by omega)).1
        have hs : lstate ws a b c (j + 1) = if 0 ≤ lcost ws (a + j + 1) b (c - 1) ∧ 0 ≤ lcost ws a (a + j + 1) c ∧ ((lstate ws a b c j).2.1 < 0 ∨ (lstate ws a b c j).1 + ws.getD (a + j) 0 + lcost ws (a + j + 1) b (c - 1) + lcost ws a (a + j + 1) c < (lstate ws a b c j).2.1) then
          ((lstate ws a b c j).1 + ws.getD (a + j) 0, (lstate ws a b c j).1 + ws.getD (a + j) 0 + lcost ws (a + j + 1) b (c - 1) + lcost ws a (a + j + 1) c, ((a + j + 1 : Nat) : Int))
          else ((lstate ws a b c j).1 + ws.getD (a + j) 0, (lstate ws a b c j).2.1, (lstate ws a b c j).2.2) := rfl
        have key : 1000 * ((j : Int) + 1) + 1000 * (((b - (a + j + 1) : Nat) : Int) * ((b - (a + j + 1) : Nat) : Int)) + 1000 * (((a + j + 1 - a : Nat) : Int) * ((a + j + 1 - a : Nat) : Int)) ≤ 1000 * (((b - a : Nat) : Int) * ((b - a : Nat) : Int)) := by
          have q := sq_le (x := ((a + j + 1 - a : Nat) : Int)) (y := ((b - (a + j + 1) : Nat) : Int)) (by omega) (by omega)
          have e : ((a + j + 1 - a : Nat) : Int) + ((b - (a + j + 1) : Nat) : Int) = ((b - a : Nat) : Int) := by omega
          rw [e] at q
          have e2 : ((a + j + 1 - a : Nat) : Int) = (j : Int) + 1 := by omega
          omega
        rw [hs]
        split
        · simp only []
          refine ⟨by omega, by omega, by omega, by omega, by omega, by omega⟩
        · simp only []
          refine ⟨by omega, by omega, by omega, by omega, by omega, by omega⟩
    refine ⟨?_, H⟩
    by_cases hb : b ≤ a + 1
    · rw [lcost_short hb]
      have h0 : (0 : Int) ≤ ((b - a : Nat) : Int) * ((b - a : Nat) : Int) := Int.mul_nonneg (by omega) (by omega)
      omega
    · by_cases hc : 0 < c
      · rw [lcost_eq (by omega) hc]
        have := H (b - a - 1) (by omega)
        omega
      · obtain rfl : c = 0 := by omega
        rw [lcost_none (by omega)]
        have h0 : (0 : Int) ≤ ((b - a : Nat) : Int) * ((b - a : Nat) : Int) := Int.mul_nonneg (by omega) (by omega)
        omega

theorem sq40 {x : Nat} (h : x ≤ 40) : (x : Int) * (x : Int) ≤ 1600 := by
  have : (x : Int) * (x : Int) ≤ 40 * 40 := Int.mul_le_mul (by omega) (by omega) (by omega) (by omega)
  omega
theorem lcost_bd40 {ws : List Int} (hw : IsW ws) (a b c : Nat) (hb : b ≤ 40) : -1 ≤ lcost ws a b c ∧ lcost ws a b c ≤ 1600000 := by
  have h := (lcost_bd ws hw (b - a) a b c (Nat.le_refl _)).1
  have := sq40 (x := b - a) (by omega)
  omega
theorem lstate_bd40 {ws : List Int} (hw : IsW ws) (a b c j : Nat) (hb : b ≤ 40) (hj : j + 1 ≤ b - a) :
    0 ≤ (lstate ws a b c j).1 ∧ (lstate ws a b c j).1 ≤ 40000 ∧ -1 ≤ (lstate ws a b c j).2.1 ∧ (lstate ws a b c j).2.1 ≤ 1600000 ∧ 0 ≤ (lstate ws a b c j).2.2 ∧ (lstate ws a b c j).2.2 ≤ 40 := by
  have h := (lcost_bd ws hw (b - a) a b c (Nat.le_refl _)).2 j hj
  have := sq40 (x := b - a) (by omega)
  omega

/-- does the split at this place better the best? -/
def better (right left way best : Int) : Prop := 0 ≤ right ∧ 0 ≤ left ∧ (best < 0 ∨ way + right + left < best)

theorem lstate_yes {ws : List Int} {a b c k : Nat} {way best sp x : Int} (hk : a ≤ k) (h : lstate ws a b c (k - a) = (way, best, sp)) (hx : ws[k]? = some x)
    (hc : better (lcost ws (k + 1) b (c - 1)) (lcost ws a (k + 1) c) (way + x) best) :
    lstate ws a b c (k + 1 - a) = (way + x, way + x + lcost ws (k + 1) b (c - 1) + lcost ws a (k + 1) c, ((k + 1 : Nat) : Int)) := by
  obtain ⟨j, rfl⟩ : ∃ j, k = a + j := ⟨k - a, by omega⟩
  have e1 : a + j - a = j := by omega
  have e2 : a + j + 1 - a = j + 1 := by omega
  rw [e1] at h
  rw [e2]
  have hg : ws.getD (a + j) 0 = x := by simp [List.getD, hx]
  show bsTo _ _ _ _ (j + 1) = _
  have h' : bsTo ws (fun m => lcost ws m b (c - 1)) (fun m => lcost ws a m c) a j = (way, best, sp) := h
  simp only [bsTo, h', hg]
  unfold better at hc; rw [if_pos hc]
theorem lstate_no {ws : List Int} {a b c k : Nat} {way best sp x : Int} (hk : a ≤ k) (h : lstate ws a b c (k - a) = (way, best, sp)) (hx : ws[k]? = some x)
    (hc : ¬ better (lcost ws (k + 1) b (c - 1)) (lcost ws a (k + 1) c) (way + x) best) :
    lstate ws a b c (k + 1 - a) = (way + x, best, sp) := by
  obtain ⟨j, rfl⟩ : ∃ j, k = a + j := ⟨k - a, by omega⟩
  have e1 : a + j - a = j := by omega
  have e2 : a + j + 1 - a = j + 1 := by omega
  rw [e1] at h
  rw [e2]
  have hg : ws.getD (a + j) 0 = x := by simp [List.getD, hx]
  show bsTo _ _ _ _ (j + 1) = _
  have h' : bsTo ws (fun m => lcost ws m b (c - 1)) (fun m => lcost ws a m c) a j = (way, best, sp) := h
  simp only [bsTo, h', hg]
  unfold better at hc; rw [if_neg hc]
theorem lstate_zero (ws : List Int) (a b c : Nat) : lstate ws a b c (a - a) = (0, -1, 0) := by
  rw [Nat.sub_self]; rfl
theorem IsW.at_ {ws : List Int} (h : IsW ws) {k : Nat} {x : Int} (hx : ws[k]? = some x) : 0 ≤ x ∧ x ≤ 1000 := by
  have := h k
  simpa [List.getD, hx] using this

end Go.Proofs.Ytdhicgdcjfcomaa.Plain
