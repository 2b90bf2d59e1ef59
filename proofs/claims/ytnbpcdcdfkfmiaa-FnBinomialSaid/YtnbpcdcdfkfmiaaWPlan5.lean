/- Walk of the reference's plan. -/
import Derived.Test.YtnbpcdcdfkfmiaaWPlan4
namespace Go.Proofs.Ytnbpcdcdfkfmiaa
open Go.RowKit Plain

section
variable (A : Option Addr) (cap : Nat) (ws : List Int) (S g C cap2 : Nat) (lb lc : Nat → Nat) (rb : Nat → Nat → Nat)

end

end Go.Proofs.Ytnbpcdcdfkfmiaa
