/- Plain: the search for the number of repeats. -/
import Derived.Test.YtnbpcdcdfkfmiaaPChoose
namespace Go.Proofs.Ytnbpcdcdfkfmiaa.Plain

/-- the first r from j on, of at most f tries, with chooseS (s + r) s at least n; -1 if there is none -/
def rep (n s : Int) : Nat → Nat → Int
  | 0, _ => -1
  | f + 1, j => if chooseS (s + j) s ≥ n then (j : Int) else rep n s f (j + 1)
def repV (n s : Int) : Int := rep n s 41 0

theorem rep_bd (n s : Int) (f j : Nat) : -1 ≤ rep n s f j ∧ (rep n s f j < (j : Int) + f) := by
  induction f generalizing j with
  | zero => simp [rep]; omega
  | succ f ih =>
    unfold rep
    split
    · omega
    · have := ih (j + 1); omega

end Go.Proofs.Ytnbpcdcdfkfmiaa.Plain
