/- Texts put together: WEval5, WEval6, WEval7. -/
import Derived.Test.YtmcaphbngfdfiaaKN

/- Walks: the arguments of an evaluation, in the spec. -/
namespace Go.Proofs.Ytmcaphbngfdfiaa
open Go.RowKit Plain

/-- the code behind a function and its arguments -/
def argV (P : List Fn) (f : Int) (zs : List Int) : Int := if askV P f = 0 then (if (zs.length : Int) = ((P[f.toNat]?).map Fn.params).getD 0 ∧ nums' zs = true then 0 else 2) else askV P f

end Go.Proofs.Ytmcaphbngfdfiaa

/- Walks: the arguments of an evaluation, in the spec. -/
namespace Go.Proofs.Ytmcaphbngfdfiaa
open Go.RowKit Plain

theorem askV_zero {P : List Fn} {f : Int} (h : askV P f = 0) : progOk P = true ∧ ∃ (m : Nat) (g : Fn), f = (m : Int) ∧ P[m]? = some g := by
  unfold askV at h
  cases hp : progOk P with
  | false => rw [hp] at h; simp at h
  | true =>
    rw [hp] at h
    refine ⟨rfl, ?_⟩
    cases hi : inR f 0 ((P.length : Int) - 1) with
    | false => rw [hi] at h; simp at h
    | true =>
      have := inR_true.1 hi
      obtain ⟨m, rfl⟩ := Int.eq_ofNat_of_zero_le this.1
      have hm : m < P.length := by omega
      exact ⟨m, P[m], rfl, List.getElem?_eq_getElem hm⟩
theorem argV_some {P : List Fn} {m : Nat} {g : Fn} {zs : List Int} (h : askV P m = 0) (hg : P[m]? = some g) : argV P m zs = if (zs.length : Int) = g.params ∧ nums' zs = true then 0 else 2 := by
  unfold argV
  rw [if_pos h]
  simp [hg]

end Go.Proofs.Ytmcaphbngfdfiaa

/- Walks: an evaluation, in the spec. -/
namespace Go.Proofs.Ytmcaphbngfdfiaa
open Go.RowKit Plain

/-- what an evaluation at numbers answers -/
def EvalSPost (R : Res (List (List Int))) (w : World) (e : Ending) (w' : World) : Prop :=
  Below w.heap.size w w' ∧ ∃ (zs : List Int) (A : Option Addr) (cp : Nat) (s c : Int), e = .returned (.tuple #[.slice A zs.length cp, .int .i64 s, .int .i64 c]) ∧ IntsT w' w.heap.size A zs ∧ match R with
    | .err x => zs = [] ∧ s = 0 ∧ c = x
    | .ok zss t => zs = heads zss ∧ s = (t : Int) ∧ c = 0

end Go.Proofs.Ytmcaphbngfdfiaa
