/- Texts put together: WEval5, WEval6, WEval7. -/
import Derived.Test.YtnomnaojondffaaKN

/- Walks: the arguments of an evaluation, in the spec. -/
namespace Go.Proofs.Ytnomnaojondffaa
open Go.RowKit Plain

set_option maxHeartbeats 1000000 in
theorem numbersS_any (A : Option Addr) (cap : Nat) (zs : List Int) (w : World) (hA : Ints w A zs) (hl : zs.length ≤ 2000000) :
    Calls Try.prog 42 #[.slice A zs.length cap] w fun e w' => e = .returned (.bool (nums' zs)) ∧ w = w' := by
  have HA := Lib.hid hA; clear hA
  go_enter Try.func42, Try.ntmps42
  go_wp2
  go_loopw [3] (fun i wr => ∃ k : Nat, k ≤ zs.length ∧ i = .int .i64 (k : Int) ∧ w = wr ∧ Hid (nums' (zs.take k) = true)) (fun i _ => zs.length - (intOf i).toNat)
  case atStart => exact ⟨0, by omega, by go_num, rfl, by show _ = _; simp [nums']⟩
  case round =>
    obtain ⟨k, hk, rfl, rfl, HT⟩ := hrel
    by_cases hlt : k < zs.length
    · obtain ⟨b, o, x, rfl, hx, hc⟩ := HA.out.at_ hlt
      have hkl : (k : Int) < (zs.length : Int) := by omega
      have HX := Lib.hid hx
      clear hx
      obtain ⟨q, hq⟩ : ∃ q, q = inR x 0 1000002 := ⟨_, rfl⟩
      have hcl := isNumberS_any x w
      rw [← hq] at hcl
      have HQ := Lib.hid hq
      have HC := Lib.hid hcl
      clear hq hcl
      cases q
      · go_wp2_with (go_at_call 92; refine HC.out.mono ?_; rintro e w' ⟨rfl, rfl⟩)
        go_ret
        refine ⟨ret_bool ?_, rfl⟩
        have hm : x ∈ zs := List.mem_of_getElem? HX.out
        have : nums' zs = false := by
          unfold nums'
          rw [List.all_eq_false]
          exact ⟨x, hm, by rw [← HQ.out]; simp⟩
        exact this.symm
      · go_wp2_with (go_at_call 92; refine HC.out.mono ?_; rintro e w' ⟨rfl, rfl⟩)
        go_roundw
        case rel =>
          refine ⟨k + 1, by omega, by go_num, trivial, ?_⟩
          show nums' _ = true
          have hx := HX.out
          have ht := HT.out
          unfold nums' at *
          rw [List.take_add_one, hx, List.all_append, ht]
          simp [← HQ.out]
        case measure => simp [intOf]; omega
    · obtain rfl : k = zs.length := by omega
      go_wp2
      go_ret
      refine ⟨ret_bool ?_, rfl⟩
      have ht := HT.out
      rw [List.take_length] at ht
      exact ht.symm

/-- the code behind a function and its arguments -/
def argV (P : List Fn) (f : Int) (zs : List Int) : Int := if askV P f = 0 then (if (zs.length : Int) = ((P[f.toNat]?).map Fn.params).getD 0 ∧ nums' zs = true then 0 else 2) else askV P f

end Go.Proofs.Ytnomnaojondffaa

/- Walks: the arguments of an evaluation, in the spec. -/
namespace Go.Proofs.Ytnomnaojondffaa
open Go.RowKit Plain

theorem askV_zero {P : List Fn} {f : Int} (h : askV P f = 0) : progOk P = true ∧ ∃ (m : Nat) (g : Fn), f = (m : Int) ∧ P[m]? = some g := by
  unfold askV at h
  cases hp : progOk P with
  | false => rw [hp] at h; simp at h
  | true =>
    rw [hp] at h
    refine ⟨rfl, ?_⟩
    cases hi : inR f 0 ((P.length : Int) - 1) with
    | false => rw [hi] at h; simp at h
    | true =>
      have := inR_true.1 hi
      obtain ⟨m, rfl⟩ := Int.eq_ofNat_of_zero_le this.1
      have hm : m < P.length := by omega
      exact ⟨m, P[m], rfl, List.getElem?_eq_getElem hm⟩
theorem argV_some {P : List Fn} {m : Nat} {g : Fn} {zs : List Int} (h : askV P m = 0) (hg : P[m]? = some g) : argV P m zs = if (zs.length : Int) = g.params ∧ nums' zs = true then 0 else 2 := by
  unfold argV
  rw [if_pos h]
  simp [hg]

end Go.Proofs.Ytnomnaojondffaa

/- Walks: an evaluation, in the spec. -/
namespace Go.Proofs.Ytnomnaojondffaa
open Go.RowKit Plain

/-- what an evaluation at numbers answers -/
def EvalSPost (R : Res (List (List Int))) (w : World) (e : Ending) (w' : World) : Prop :=
  Below w.heap.size w w' ∧ ∃ (zs : List Int) (A : Option Addr) (cp : Nat) (s c : Int), e = .returned (.tuple #[.slice A zs.length cp, .int .i64 s, .int .i64 c]) ∧ IntsT w' w.heap.size A zs ∧ match R with
    | .err x => zs = [] ∧ s = 0 ∧ c = x
    | .ok zss t => zs = heads zss ∧ s = (t : Int) ∧ c = 0

end Go.Proofs.Ytnomnaojondffaa
