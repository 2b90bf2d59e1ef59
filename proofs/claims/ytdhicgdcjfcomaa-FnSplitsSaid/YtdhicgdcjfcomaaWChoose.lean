/- Walks of within, l00In, ways, l06Choose: what these small functions return. -/
import Derived.Test.YtdhicgdcjfcomaaB0
import Derived.Test.YtdhicgdcjfcomaaPChoose
namespace Go.Proofs.Ytdhicgdcjfcomaa
open Go.RowKit Plain

theorem in_any (n lo hi : Int) (w : World) :
    Calls Try.prog 32 #[.int .i64 n, .int .i64 lo, .int .i64 hi] w fun e w' => e = .returned (.bool (inR n lo hi)) ∧ w = w' := by
  by_cases h1 : lo ≤ n
  · go_enter Try.func32, Try.ntmps32
    go_wp2
    all_goals (go_ret; exact ⟨by simp [inR, *], rfl⟩)
  · go_enter Try.func32, Try.ntmps32
    go_wp2
    all_goals (go_ret; exact ⟨by rw [show inR n lo hi = false from inR_false.2 (by omega)]; rfl, rfl⟩)

theorem within_any (n lo hi : Int) (w : World) :
    Calls Try.prog 35 #[.int .i64 n, .int .i64 lo, .int .i64 hi] w fun e w' => e = .returned (.bool (inR n lo hi)) ∧ w = w' := by
  by_cases h1 : lo ≤ n
  · go_enter Try.func35, Try.ntmps35
    go_wp2
    all_goals (go_ret; exact ⟨by simp [inR, *], rfl⟩)
  · go_enter Try.func35, Try.ntmps35
    go_wp2
    all_goals (go_ret; exact ⟨by rw [show inR n lo hi = false from inR_false.2 (by omega)]; rfl, rfl⟩)

theorem areSlots_any (n : Int) (w : World) :
    Calls Try.prog 30 #[.int .i64 n] w fun e w' => e = .returned (.bool (inR n 0 8)) ∧ w = w' := by
  go_enter Try.func30, Try.ntmps30
  go_wp2_with (go_at_call 35; refine (within_any _ _ _ _).mono ?_; rintro e w' ⟨rfl, rfl⟩)
  go_ret
  exact ⟨rfl, rfl⟩

end Go.Proofs.Ytdhicgdcjfcomaa
