/- Walks of within, l00In, ways, l06Choose: what these small functions return. -/
import Derived.Test.YtbgjbppjnmolfaaB0
import Derived.Test.YtbgjbppjnmolfaaPChoose
namespace Go.Proofs.Ytbgjbppjnmolfaa
open Go.RowKit Plain

theorem within_any (n lo hi : Int) (w : World) :
    Calls Try.prog 47 #[.int .i64 n, .int .i64 lo, .int .i64 hi] w fun e w' => e = .returned (.bool (inR n lo hi)) ∧ w = w' := by
  by_cases h1 : lo ≤ n
  · go_enter Try.func47, Try.ntmps47
    go_wp2
    all_goals (go_ret; exact ⟨by simp [inR, *], rfl⟩)
  · go_enter Try.func47, Try.ntmps47
    go_wp2
    all_goals (go_ret; exact ⟨by rw [show inR n lo hi = false from inR_false.2 (by omega)]; rfl, rfl⟩)

end Go.Proofs.Ytbgjbppjnmolfaa
