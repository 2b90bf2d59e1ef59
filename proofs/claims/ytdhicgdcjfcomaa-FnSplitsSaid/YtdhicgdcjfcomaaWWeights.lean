/- Walks of ValidWeights, of the program and of the reference, and of its law. -/
import Derived.Test.YtdhicgdcjfcomaaWInts
import Derived.Test.YtdhicgdcjfcomaaWReach
namespace Go.Proofs.Ytdhicgdcjfcomaa
open Go.RowKit Plain

/-- are these weights? -/
def wts (zs : List Int) : Bool := decide (zs.length ≤ 40) && zs.all (fun x => inR x 0 1000)

theorem wts_false_of {zs : List Int} {k : Nat} {x : Int} (h : zs[k]? = some x) (hx : inR x 0 1000 = false) : wts zs = false := by
  unfold wts
  rw [Bool.and_eq_false_iff]
  right
  rw [List.all_eq_false]
  exact ⟨x, List.mem_of_getElem? h, by simp [hx]⟩

theorem all_take_snoc {zs : List Int} {k : Nat} {x : Int} {p : Int → Bool} (h : zs[k]? = some x) (ht : (zs.take k).all p = true) (hx : p x = true) : (zs.take (k + 1)).all p = true := by
  rw [take_snoc' zs k x h, List.all_append, ht]; simp [hx]

set_option maxHeartbeats 400000 in
theorem l06Weights_any (A : Option Addr) (cap : Nat) (zs : List Int) (w : World) (hA : Ints w A zs) (hn : zs.length ≤ 4611686018427387904) :
    Calls Try.prog 31 #[.slice A zs.length cap] w fun e w' => e = .returned (.bool (wts zs)) ∧ w = w' := by
  go_enter Try.func31, Try.ntmps31
  go_wp2
  go_loop [3] (fun i => ∃ k : Nat, k ≤ zs.length ∧ i = .int .i64 (k : Int) ∧ Hid ((zs.take k).all (fun x => inR x 0 1000) = true)) (fun i => zs.length - (intOf i).toNat)
  case atStart => exact ⟨0, by omega, by go_num, by show _ = _; simp⟩
  case round =>
    obtain ⟨k, hk, rfl, HR⟩ := hrel
    by_cases hlt : k < zs.length
    · obtain ⟨b, o, x, rfl, hx, hc⟩ := hA.at_ hlt
      have HX := Lib.hid hx; clear hx
      cases hq : inR x 0 1000
      · have H := Lib.hid hq; clear hq
        go_wp2_with fail
        refine (in_b false _ _ _ H.out _).mono ?_; rintro e w' ⟨rfl, rfl⟩
        go_wp2
        go_ret
        exact ⟨ret_bool (wts_false_of HX.out H.out).symm, rfl⟩
      · have H := Lib.hid hq; clear hq
        go_wp2_with fail
        refine (in_b true _ _ _ H.out _).mono ?_; rintro e w' ⟨rfl, rfl⟩
        go_wp2
        go_round
        case rel => exact ⟨k + 1, by omega, by go_num, all_take_snoc HX.out HR.out H.out⟩
        case measure => simp [intOf]; omega
    · obtain rfl : k = zs.length := by omega
      go_wp2
      go_ret
      exact ⟨ret_bool (by have h := HR.out; rw [List.take_length] at h; simp [wts, h]; try omega), rfl⟩

theorem notWeight (x : Int) (w : World) :
    Calls Try.prog 34 #[.int .i64 x] w fun e w' => e = .returned (.bool (!inR x 0 1000)) ∧ w = w' := by
  go_enter Try.func34, Try.ntmps34
  go_wp2_with fail
  refine (within_any _ _ _ _).mono ?_; rintro e w' ⟨rfl, rfl⟩
  go_wp2
  all_goals (go_ret; exact ⟨by simp [*], rfl⟩)

theorem any_not {zs : List Int} : zs.any (fun x => !inR x 0 1000) = !zs.all (fun x => inR x 0 1000) := by
  induction zs with
  | nil => rfl
  | cons x l ih => simp only [List.any_cons, List.all_cons, ih, Bool.not_and]

theorem validWeightsI (A : Option Addr) (cap : Nat) (zs : List Int) (w : World) (hA : Ints w A zs) (hn : zs.length ≤ 4611686018427387904) :
    Calls Try.prog 23 #[.slice A zs.length cap] w fun e w' => e = .returned (.bool (wts zs)) ∧ w = w' := by
  have hp : Hid (∀ x, Calls Try.prog 34 (#[.int .i64 x] ++ #[]) w fun e w' => e = .returned (.bool ((fun x => !inR x 0 1000) x)) ∧ w = w') := fun x => notWeight x w
  have hf : Enters 34 := enters Try.func34 (by kernel_rfl) rfl
  by_cases h : zs.length ≤ 40
  · have HE : Hid (wts zs = !zs.any (fun x => !inR x 0 1000)) := by show _ = _; rw [any_not]; simp [wts, h]
    go_enter Try.func23, Try.ntmps23
    go_wp2_with fail
    refine (containsFuncI A cap zs w hA hn _ hf _ _ hp).mono ?_; rintro e w' ⟨rfl, rfl⟩
    generalize zs.any (fun x => !inR x 0 1000) = q at *
    cases q
    all_goals
      go_wp2
      go_ret
      exact ⟨ret_bool (by rw [HE.out]; rfl), rfl⟩
  · have HE : Hid (wts zs = false) := by show _ = _; simp [wts]; intro; omega
    go_enter Try.func23, Try.ntmps23
    go_wp2_with fail
    go_ret
    exact ⟨ret_bool (by rw [HE.out]), rfl⟩

end Go.Proofs.Ytdhicgdcjfcomaa
