/- Walks of ChainReach, RepeatsNeeded and FormulaCost, of the program and of the reference. -/
import Derived.Test.YtnbpcdcdfkfmiaaWChoose
namespace Go.Proofs.Ytnbpcdcdfkfmiaa
open Go.RowKit Plain

theorem in_b (b : Bool) (n lo hi : Int) (h : inR n lo hi = b) (w : World) :
    Calls Try.prog 35 #[.int .i64 n, .int .i64 lo, .int .i64 hi] w fun e w' => e = .returned (.bool b) ∧ w = w' := h ▸ in_any n lo hi w
theorem within_b (b : Bool) (n lo hi : Int) (h : inR n lo hi = b) (w : World) :
    Calls Try.prog 60 #[.int .i64 n, .int .i64 lo, .int .i64 hi] w fun e w' => e = .returned (.bool b) ∧ w = w' := h ▸ within_any n lo hi w
theorem areSlots_b (b : Bool) (n : Int) (h : inR n 0 8 = b) (w : World) :
    Calls Try.prog 32 #[.int .i64 n] w fun e w' => e = .returned (.bool b) ∧ w = w' := h ▸ areSlots_any n w
theorem areSteps_b (b : Bool) (n : Int) (h : inR n 0 40 = b) (w : World) :
    Calls Try.prog 33 #[.int .i64 n] w fun e w' => e = .returned (.bool b) ∧ w = w' := h ▸ areSteps_any n w

/-- what ChainReach returns -/
def reachV (s r : Int) : Int := if inR s 0 8 && inR r 0 40 then chooseS (s + r) s else 0
def reachC (s r : Int) : Int := if inR s 0 8 && inR r 0 40 then 0 else 2

set_option maxHeartbeats 400000 in
theorem chainI_any (s r : Int) (w : World) :
    Calls Try.prog 15 #[.int .i64 s, .int .i64 r] w fun e w' => e = .returned (.tuple #[.int .i64 (reachV s r), .int .i64 (reachC s r)]) ∧ w = w' := by
  cases hs : inR s 0 8
  · have HV : Hid (reachV s r = 0 ∧ reachC s r = 2) := by show _ ∧ _; simp [reachV, reachC, hs]
    have H := Lib.hid hs; clear hs
    go_enter Try.func15, Try.ntmps15
    go_wp2_with (go_at_call 32; refine (areSlots_b false _ H.out _).mono ?_; rintro e w' ⟨rfl, rfl⟩)
    go_ret2
    exact ⟨by rw [HV.out.1, HV.out.2]; rfl, rfl⟩
  · cases hr : inR r 0 40
    · have HV : Hid (reachV s r = 0 ∧ reachC s r = 2) := by show _ ∧ _; simp [reachV, reachC, hs, hr]
      have H := Lib.hid hs; clear hs
      have H2 := Lib.hid hr; clear hr
      go_enter Try.func15, Try.ntmps15
      go_wp2_with fail
      refine (areSlots_b true _ H.out _).mono ?_; rintro e w' ⟨rfl, rfl⟩
      go_wp2_with fail
      refine (areSteps_b false _ H2.out _).mono ?_; rintro e w' ⟨rfl, rfl⟩
      go_wp2
      go_ret2
      exact ⟨by rw [HV.out.1, HV.out.2]; rfl, rfl⟩
    · have HV : Hid (reachV s r = chooseS (s + r) s ∧ reachC s r = 0) := by show _ ∧ _; simp [reachV, reachC, hs, hr]
      have b1 := inR_true.1 hs
      have b2 := inR_true.1 hr
      have H := Lib.hid hs; clear hs
      have H2 := Lib.hid hr; clear hr
      go_enter Try.func15, Try.ntmps15
      go_wp2_with fail
      refine (areSlots_b true _ H.out _).mono ?_; rintro e w' ⟨rfl, rfl⟩
      go_wp2_with fail
      refine (areSteps_b true _ H2.out _).mono ?_; rintro e w' ⟨rfl, rfl⟩
      go_wp2_with fail
      refine (ways_any _ _ _ (by omega) (by omega) (by omega) (by omega)).mono ?_; rintro e w' ⟨rfl, rfl⟩
      go_wp2
      go_ret2
      exact ⟨by rw [HV.out.1, HV.out.2]; rfl, rfl⟩

end Go.Proofs.Ytnbpcdcdfkfmiaa
