/- Plain: what the actions of a schedule do to a chain. -/
import Derived.Test.YtdhicgdcjfcomaaB2
import Derived.Test.YtdhicgdcjfcomaaWSched
namespace Go.Proofs.Ytdhicgdcjfcomaa
open Go.RowKit Plain

/-- a chain that is being reversed -/
structure Ch where
  left : Int
  state : Int
  slots : List Int
  over : List Int
  adv : Int
  stores : Int
  loads : Int
  used : List (Int × Value)

/-- one step is advanced over -/
def adv1 (c : Ch) : Ch := { c with over := c.over.set c.state.toNat (c.over.getD c.state.toNat 0 + 1), adv := c.adv + 1, state := c.state + 1 }
def advN (c : Ch) : Nat → Ch
  | 0 => c
  | j + 1 => adv1 (advN c j)

/-- is an action possible? -/
def poss (c : Ch) (k a : Int) : Bool :=
  if k = 1 then decide (c.state + a < c.left) else if k = 2 then decide (a < (c.slots.length : Int))
  else if k = 3 then decide (a < (c.slots.length : Int)) && decide (0 ≤ c.slots.getD a.toNat 0) else c.state == c.left - 1
/-- what it does -/
def stepC (c : Ch) (k a : Int) : Ch :=
  if k = 1 then advN c a.toNat
  else if k = 2 then { c with slots := c.slots.set a.toNat c.state, used := putE a (.bool true) c.used, stores := c.stores + 1 }
  else if k = 3 then { c with state := c.slots.getD a.toNat 0, loads := c.loads + 1 }
  else { c with left := c.left - 1 }

/-- the chain behind a schedule, and the first action that is not possible; -1 if the schedule reverses it -/
def badC : List (Int × Int) → Ch → Int → Ch × Int
  | [], c, i => (c, if 0 < c.left then i else -1)
  | x :: l, c, i => if poss c x.1 x.2 then badC l (stepC c x.1 x.2) (i + 1) else (c, i)

/-- a new chain -/
def newC (n ns : Nat) : Ch := { left := n, state := 0, slots := List.replicate ns (-1), over := List.replicate n 0, adv := 0, stores := 0, loads := 0, used := [] }

/-- what holds of a chain of n steps with ns slots behind j actions -/
structure InvC (n ns j : Nat) (c : Ch) : Prop where
  n40 : n ≤ 40
  ns8 : ns ≤ 8
  l0 : 0 ≤ c.left
  ln : c.left ≤ n
  s0 : 0 ≤ c.state
  sn : c.state ≤ n
  sl : c.slots.length = ns
  sb : ∀ (i : Nat) (x : Int), c.slots[i]? = some x → -1 ≤ x ∧ x ≤ n
  ol : c.over.length = n
  ob : ∀ (i : Nat) (x : Int), c.over[i]? = some x → 0 ≤ x ∧ x ≤ j
  a0 : 0 ≤ c.adv
  aj : c.adv ≤ 40 * j
  t0 : 0 ≤ c.stores
  tj : c.stores ≤ j
  d0 : 0 ≤ c.loads
  dj : c.loads ≤ j

theorem InvC.new {n ns : Nat} (hn : n ≤ 40) (hs : ns ≤ 8) : InvC n ns 0 (newC n ns) where
  n40 := hn
  ns8 := hs
  l0 := by simp [newC]
  ln := by simp [newC]
  s0 := by simp [newC]
  sn := by simp [newC]
  sl := by simp [newC]
  sb i x h := by
    simp only [newC, List.getElem?_replicate] at h
    split at h
    · obtain rfl : -1 = x := by simpa using h
      omega
    · simp at h
  ol := by simp [newC]
  ob i x h := by
    simp only [newC, List.getElem?_replicate] at h
    split at h
    · obtain rfl : 0 = x := by simpa using h
      omega
    · simp at h
  a0 := by simp [newC]
  aj := by simp [newC]
  t0 := by simp [newC]
  tj := by simp [newC]
  d0 := by simp [newC]
  dj := by simp [newC]

/-- what j steps of an advance leave -/
theorem advN_facts (c : Ch) (n : Nat) (hs : 0 ≤ c.state) (hol : c.over.length = n) : ∀ j : Nat,
    (advN c j).left = c.left ∧ (advN c j).state = c.state + j ∧ (advN c j).slots = c.slots ∧ (advN c j).over.length = n ∧ (advN c j).adv = c.adv + j ∧
    (advN c j).stores = c.stores ∧ (advN c j).loads = c.loads ∧ (advN c j).used = c.used ∧
    ∀ i : Nat, (i : Int) < c.state ∨ c.state + j ≤ (i : Int) → (advN c j).over[i]? = c.over[i]? := by
  intro j
  induction j with
  | zero => simp [advN, hol]
  | succ j ih =>
    obtain ⟨h1, h2, h3, h4, h5, h6, h7, h8, h9⟩ := ih
    refine ⟨h1, ?_, h3, ?_, ?_, h6, h7, h8, ?_⟩
    · simp only [advN, adv1, h2]; omega
    · simp only [advN, adv1, List.length_set, h4]
    · simp only [advN, adv1, h5]; omega
    · intro i hi
      simp only [advN, adv1]
      rw [h2, List.getElem?_set_ne (by omega)]
      exact h9 i (by omega)

theorem advN_over_bd (c : Ch) (n m : Nat) (hs : 0 ≤ c.state) (hol : c.over.length = n) (hb : ∀ (i : Nat) (x : Int), c.over[i]? = some x → 0 ≤ x ∧ x ≤ m) (j : Nat) :
    ∀ (i : Nat) (x : Int), (advN c j).over[i]? = some x → 0 ≤ x ∧ x ≤ m + 1 := by
  induction j with
  | zero => intro i x h; have := hb i x h; omega
  | succ j ih =>
    obtain ⟨h1, h2, h3, h4, h5, h6, h7, h8, h9⟩ := advN_facts c n hs hol j
    intro i x h
    simp only [advN, adv1] at h
    by_cases e : (advN c j).state.toNat = i
    · subst e
      have hlt : (advN c j).state.toNat < (advN c j).over.length := by
        have := (List.getElem?_eq_some_iff.1 h).1
        simpa using this
      rw [List.getElem?_set_self hlt] at h
      have hx : (advN c j).over[(advN c j).state.toNat]? = c.over[(advN c j).state.toNat]? := h9 _ (by omega)
      have hq := List.getElem?_eq_getElem hlt
      have := hb _ _ (hx ▸ hq)
      simp only [List.getD, hq, Option.getD_some, Option.some.injEq] at h
      omega
    · rw [List.getElem?_set_ne e] at h
      exact ih i x h

theorem isAct_cases {k a : Int} (h : isAct k a = true) : (k = 1 ∧ 1 ≤ a ∧ a ≤ 40) ∨ (k = 2 ∧ 0 ≤ a ∧ a ≤ 7) ∨ (k = 3 ∧ 0 ≤ a ∧ a ≤ 7) ∨ (k = 4 ∧ a = 0) := by
  unfold isAct at h
  split at h
  · have := inR_true.1 h; omega
  · split at h
    · have := inR_true.1 h; omega
    · split at h
      · simp at h; omega
      · simp at h

theorem InvC.step {n ns j : Nat} {c : Ch} (h : InvC n ns j c) {k a : Int} (ha : isAct k a = true) (hp : poss c k a = true) : InvC n ns (j + 1) (stepC c k a) := by
  have hn := h.n40
  have hns := h.ns8
  have := h.l0
  have := h.ln
  have := h.s0
  have := h.sn
  have := h.sl
  have := h.a0
  have := h.aj
  have := h.t0
  have := h.tj
  have := h.d0
  have := h.dj
  rcases isAct_cases ha with ⟨rfl, h1, h2⟩ | ⟨rfl, h1, h2⟩ | ⟨rfl, h1, h2⟩ | ⟨rfl, rfl⟩
  · have hlt : c.state + a < c.left := by simpa [poss] using hp
    obtain ⟨e1, e2, e3, e4, e5, e6, e7, e8, e9⟩ := advN_facts c n h.s0 h.ol a.toNat
    have hb := advN_over_bd c n j h.s0 h.ol h.ob a.toNat
    have e : stepC c 1 a = advN c a.toNat := by simp [stepC]
    rw [e]
    exact ⟨hn, hns, by omega, by omega, by omega, by omega, by rw [e3]; exact h.sl, by rw [e3]; exact h.sb, e4, fun i x hx => by have := hb i x hx; omega, by omega, by omega, by omega, by omega, by omega, by omega⟩
  · have e : stepC c 2 a = { c with slots := c.slots.set a.toNat c.state, used := putE a (.bool true) c.used, stores := c.stores + 1 } := by simp [stepC]
    rw [e]
    refine ⟨hn, hns, h.l0, h.ln, h.s0, h.sn, by simpa using h.sl, ?_, h.ol, fun i x hx => by have := h.ob i x hx; omega, h.a0, by show c.adv ≤ _; omega, by show 0 ≤ c.stores + 1; omega, by show c.stores + 1 ≤ _; omega, h.d0, by show c.loads ≤ _; omega⟩
    intro i x hx
    simp only [List.getElem?_set] at hx
    split at hx
    · split at hx
      · obtain rfl : c.state = x := by simpa using hx
        omega
      · simp at hx
    · exact h.sb i x hx
  · have hq : a < (c.slots.length : Int) ∧ 0 ≤ c.slots.getD a.toNat 0 := by simpa [poss] using hp
    have e : stepC c 3 a = { c with state := c.slots.getD a.toNat 0, loads := c.loads + 1 } := by simp [stepC]
    rw [e]
    have hlt : a.toNat < c.slots.length := by omega
    have hb := h.sb a.toNat _ (List.getElem?_eq_getElem hlt)
    have hg : c.slots.getD a.toNat 0 = c.slots[a.toNat] := by simp [List.getD, hlt]
    refine ⟨hn, hns, h.l0, h.ln, hq.2, by show c.slots.getD a.toNat 0 ≤ _; omega, h.sl, h.sb, h.ol, fun i x hx => by have := h.ob i x hx; omega, h.a0, by show c.adv ≤ _; omega, h.t0, by show c.stores ≤ _; omega, by show 0 ≤ c.loads + 1; omega, by show c.loads + 1 ≤ _; omega⟩
  · have hq : c.state = c.left - 1 := by simpa [poss] using hp
    have e : stepC c 4 0 = { c with left := c.left - 1 } := by simp [stepC]
    rw [e]
    refine ⟨hn, hns, by show 0 ≤ c.left - 1; omega, by show c.left - 1 ≤ _; omega, h.s0, h.sn, h.sl, h.sb, h.ol, fun i x hx => by have := h.ob i x hx; omega, h.a0, by show c.adv ≤ _; omega, h.t0, by show c.stores ≤ _; omega, h.d0, by show c.loads ≤ _; omega⟩

/-- the code of a schedule for a chain and slots -/
def planC (l : List (Int × Int)) (n slots : Int) : Int := if isSched l then (if inR n 0 40 && inR slots 0 8 then 0 else 2) else 1
theorem planC_cases (l : List (Int × Int)) (n slots : Int) :
    (isSched l = false ∧ planC l n slots = 1) ∨ (isSched l = true ∧ inR n 0 40 = false ∧ planC l n slots = 2) ∨ (isSched l = true ∧ inR n 0 40 = true ∧ inR slots 0 8 = false ∧ planC l n slots = 2) ∨
    (isSched l = true ∧ inR n 0 40 = true ∧ inR slots 0 8 = true ∧ planC l n slots = 0) := by
  unfold planC
  cases h1 : isSched l <;> cases h2 : inR n 0 40 <;> cases h3 : inR slots 0 8 <;> simp
theorem isSched_act {l : List (Int × Int)} (h : isSched l = true) : l.length ≤ 400 ∧ ∀ x ∈ l, isAct x.1 x.2 = true := by
  unfold isSched at h
  simpa [List.all_eq_true] using h

theorem badC_yes {l : List (Int × Int)} {k : Nat} {x y : Int} {c : Ch} (h : l[k]? = some (x, y)) (hp : poss c x y = true) : badC (l.drop k) c k = badC (l.drop (k + 1)) (stepC c x y) ((k + 1 : Nat) : Int) := by
  have hk : k < l.length := (List.getElem?_eq_some_iff.1 h).1
  rw [List.drop_eq_getElem_cons hk]
  have e : l[k] = (x, y) := by rw [List.getElem?_eq_getElem hk] at h; simpa using h
  rw [e]
  simp only [badC, hp, if_true]
  rfl
theorem badC_no {l : List (Int × Int)} {k : Nat} {x y : Int} {c : Ch} (h : l[k]? = some (x, y)) (hp : poss c x y = false) : badC (l.drop k) c k = (c, (k : Int)) := by
  have hk : k < l.length := (List.getElem?_eq_some_iff.1 h).1
  rw [List.drop_eq_getElem_cons hk]
  have e : l[k] = (x, y) := by rw [List.getElem?_eq_getElem hk] at h; simpa using h
  rw [e]
  simp [badC, hp]
theorem badC_end {l : List (Int × Int)} {c : Ch} : badC (l.drop l.length) c l.length = (c, if 0 < c.left then (l.length : Int) else -1) := by
  simp [badC]

/-- the first action that is not possible, or -1 -/
def badV (l : List (Int × Int)) (n ns : Nat) : Int := (badC l (newC n ns) 0).2

end Go.Proofs.Ytdhicgdcjfcomaa
