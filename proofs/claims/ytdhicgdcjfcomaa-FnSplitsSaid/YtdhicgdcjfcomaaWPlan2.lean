/- Walk of the program's plan: the short ones. -/
import Derived.Test.YtdhicgdcjfcomaaWPlan1
namespace Go.Proofs.Ytdhicgdcjfcomaa
open Go.RowKit Plain

section
variable (p : Nat) (A : Option Addr) (cap : Nat) (ws : List Int) (S : Nat) (rc rs base : Nat)

end

end Go.Proofs.Ytdhicgdcjfcomaa
