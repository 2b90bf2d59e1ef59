/- Texts put together: WEval5, WEval6, WEval7. -/
import Derived.Test.YtgfkglhelfkpoaaGreatRN

/- Walks: the arguments of an evaluation, in the spec. -/
namespace Go.Proofs.YtgfkglhelfkpoaaGreat
open Go.RowKit Plain

end Go.Proofs.YtgfkglhelfkpoaaGreat

/- Walks: the arguments of an evaluation, in the spec. -/
namespace Go.Proofs.YtgfkglhelfkpoaaGreat
open Go.RowKit Plain

theorem askV_zero {P : List Fn} {f : Int} (h : askV P f = 0) : progOk P = true ∧ ∃ (m : Nat) (g : Fn), f = (m : Int) ∧ P[m]? = some g := by
  unfold askV at h
  cases hp : progOk P with
  | false => rw [hp] at h; simp at h
  | true =>
    rw [hp] at h
    refine ⟨rfl, ?_⟩
    cases hi : inR f 0 ((P.length : Int) - 1) with
    | false => rw [hi] at h; simp at h
    | true =>
      have := inR_true.1 hi
      obtain ⟨m, rfl⟩ := Int.eq_ofNat_of_zero_le this.1
      have hm : m < P.length := by omega
      exact ⟨m, P[m], rfl, List.getElem?_eq_getElem hm⟩
end Go.Proofs.YtgfkglhelfkpoaaGreat

/- Walks: an evaluation, in the spec. -/
namespace Go.Proofs.YtgfkglhelfkpoaaGreat
open Go.RowKit Plain

end Go.Proofs.YtgfkglhelfkpoaaGreat
