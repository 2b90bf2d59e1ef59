/- Walks of ChainReach, RepeatsNeeded and FormulaCost, of the program and of the reference. -/
import Derived.Test.YtdhicgdcjfcomaaWChoose
namespace Go.Proofs.Ytdhicgdcjfcomaa
open Go.RowKit Plain

theorem in_b (b : Bool) (n lo hi : Int) (h : inR n lo hi = b) (w : World) :
    Calls Try.prog 32 #[.int .i64 n, .int .i64 lo, .int .i64 hi] w fun e w' => e = .returned (.bool b) ∧ w = w' := h ▸ in_any n lo hi w
theorem within_b (b : Bool) (n lo hi : Int) (h : inR n lo hi = b) (w : World) :
    Calls Try.prog 35 #[.int .i64 n, .int .i64 lo, .int .i64 hi] w fun e w' => e = .returned (.bool b) ∧ w = w' := h ▸ within_any n lo hi w
theorem areSlots_b (b : Bool) (n : Int) (h : inR n 0 8 = b) (w : World) :
    Calls Try.prog 30 #[.int .i64 n] w fun e w' => e = .returned (.bool b) ∧ w = w' := h ▸ areSlots_any n w
/-- what ChainReach returns -/
def reachV (s r : Int) : Int := if inR s 0 8 && inR r 0 40 then chooseS (s + r) s else 0
def reachC (s r : Int) : Int := if inR s 0 8 && inR r 0 40 then 0 else 2

end Go.Proofs.Ytdhicgdcjfcomaa
