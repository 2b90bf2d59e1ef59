/- Walk of the program's plan. -/
import Derived.Test.YtdhicgdcjfcomaaWPlan2
namespace Go.Proofs.Ytdhicgdcjfcomaa
open Go.RowKit Plain

section
variable (p : Nat) (A : Option Addr) (cap : Nat) (ws : List Int) (S : Nat) (rc rs base : Nat)

theorem ActRow.two {w w' : World} {base rc rs : Nat} {v : Value} {l : List (Int × Int)} (h : ActRow w base v l) (ho : Only (Two rc rs) w w') (hc : rc < base) (hs : rs < base) : ActRow w' base v l :=
  h.keep fun g hg => ho.block g (h.lt hg).2 (by have := (h.lt hg).1; rintro (e | e) <;> omega)

end

end Go.Proofs.Ytdhicgdcjfcomaa
