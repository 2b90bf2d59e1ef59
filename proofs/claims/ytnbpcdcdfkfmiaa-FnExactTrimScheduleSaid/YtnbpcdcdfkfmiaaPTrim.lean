/- Plain: idle actions, and a trimmed schedule. No program is named here. -/
import Derived.Test.YtnbpcdcdfkfmiaaPPlan
namespace Go.Proofs.Ytnbpcdcdfkfmiaa.Plain

/-- is a store idle, by what follows it? -/
def idleS (x : Int) : List (Int × Int) → Bool
  | [] => true
  | (k, y) :: l => if y = x ∧ k = 3 then false else if y = x ∧ k = 2 then true else idleS x l
/-- is the next action a load, or none? -/
def nextL : List (Int × Int) → Bool
  | [] => true
  | (k, _) :: _ => k == 3
/-- is an action idle? -/
def idleA (k x : Int) (rest : List (Int × Int)) : Bool := if k = 2 then idleS x rest else if k = 1 ∨ k = 3 then nextL rest else false
def idle (l : List (Int × Int)) (i : Nat) : Bool := match l[i]? with
  | some (k, x) => idleA k x (l.drop (i + 1))
  | none => false
theorem idle_eq {l : List (Int × Int)} {i : Nat} {k x : Int} (h : l[i]? = some (k, x)) : idle l i = idleA k x (l.drop (i + 1)) := by unfold idle; rw [h]

theorem idleS_step {x : Int} {l : List (Int × Int)} {j : Nat} {k y : Int} (h : l[j]? = some (k, y)) :
    idleS x (l.drop j) = if y = x ∧ k = 3 then false else if y = x ∧ k = 2 then true else idleS x (l.drop (j + 1)) := by
  obtain ⟨hj, e⟩ := List.getElem?_eq_some_iff.1 h
  rw [List.drop_eq_getElem_cons hj, e]; rfl
theorem idleS_end (x : Int) (l : List (Int × Int)) (j : Nat) (h : l.length ≤ j) : idleS x (l.drop j) = true := by rw [List.drop_of_length_le h]; rfl

/-- trimming, with fuel: from this place on -/
def trimF : Nat → List (Int × Int) → Nat → List (Int × Int)
  | 0, l, _ => l
  | f + 1, l, i => if i < l.length then (if idle l i then trimF f (l.eraseIdx i) 0 else trimF f l (i + 1)) else l
/-- the rounds that trimming takes at most -/
def mT (l : List (Int × Int)) (i : Nat) : Nat := l.length * 402 + (l.length - i)
/-- the trimmed schedule -/
def trim (l : List (Int × Int)) : List (Int × Int) := trimF (mT l 0) l 0

theorem trimF_end (f : Nat) {l : List (Int × Int)} {i : Nat} (h : l.length ≤ i) : trimF f l i = l := by
  cases f with
  | zero => rfl
  | succ f => simp only [trimF]; rw [if_neg (by omega)]
theorem mT_del {l : List (Int × Int)} {i : Nat} (h : i < l.length) (hl : l.length ≤ 400) : mT (l.eraseIdx i) 0 + 1 ≤ mT l i := by
  unfold mT; rw [List.length_eraseIdx_of_lt h]; omega
theorem mT_next {l : List (Int × Int)} {i : Nat} (h : i < l.length) : mT l (i + 1) + 1 ≤ mT l i := by
  unfold mT; omega
theorem mT_pos {l : List (Int × Int)} {i : Nat} (h : i < l.length) : 0 < mT l i := by unfold mT; omega
theorem trim_len : ∀ (f : Nat) (l : List (Int × Int)) (i : Nat), (trimF f l i).length ≤ l.length := by
  intro f
  induction f with
  | zero => intro l i; exact Nat.le_refl _
  | succ f ih =>
    intro l i
    simp only [trimF]
    split
    · split
      · refine Nat.le_trans (ih _ _) ?_
        rw [List.length_eraseIdx]; split <;> omega
      · exact ih _ _
    · exact Nat.le_refl _

end Go.Proofs.Ytnbpcdcdfkfmiaa.Plain
