/- Texts put together: WEval1, WEval2, WEval3, WEval4. -/
import Derived.Test.YtgfkglhelfkpoaaGreatRM
import Derived.WalkSpells

/- Walks: singles and firsts of the program. -/
namespace Go.Proofs.YtgfkglhelfkpoaaGreat
open Go.RowKit Plain

/-- numbers as series of one number -/
def ones (zs : List Int) : List (List Int) := zs.map fun x => [x]
end Go.Proofs.YtgfkglhelfkpoaaGreat

/- Walks: slices.Clone of a series; evaluated. -/
namespace Go.Proofs.YtgfkglhelfkpoaaGreat
open Go.RowKit Plain

end Go.Proofs.YtgfkglhelfkpoaaGreat

/- Walks: evaluated of the program. -/
namespace Go.Proofs.YtgfkglhelfkpoaaGreat
open Go.RowKit Plain

end Go.Proofs.YtgfkglhelfkpoaaGreat

/- Walks: evaluated of the program. -/
namespace Go.Proofs.YtgfkglhelfkpoaaGreat
open Go.RowKit Plain

/-- a function that may be evaluated -/
structure FnIn (P : List Fn) (m : Nat) (g : Fn) : Prop where
  fn : P[m]? = some g
  p0 : 0 ≤ g.params
  p12 : g.params ≤ 12
  o12 : g.outs.len ≤ 12
  size : g.outs.size ≤ 400
  each : ∀ j z, g.outs.get? j = some z → formed P m g.params z = true ∧ z.ks.size ≤ 399 ∧ z.ks.depth ≤ 59
  dep : g.outs.depth ≤ 60
theorem fnIn {P : List Fn} {m : Nat} {g : Fn} (hok : progOk P = true) (hf : P[m]? = some g) : FnIn P m g := by
  have hfo := progOk_get hok hf
  unfold fnOk at hfo
  simp only [Bool.and_eq_true, decide_eq_true_eq] at hfo
  obtain ⟨⟨⟨⟨⟨_, _⟩, h12⟩, ho⟩, hex⟩, hsz⟩ := hfo
  have q1 := inR_true.1 h12
  have q2 := inR_true.1 ho
  have heach : ∀ j z, g.outs.get? j = some z → formed P m g.params z = true ∧ z.ks.size ≤ 399 ∧ z.ks.depth ≤ 59 := fun j z hz => by
    have := exprsOk_get hex hz
    unfold exprOk at this
    simp only [Bool.and_eq_true, decide_eq_true_eq] at this
    have a := this.1.1.2
    have b := this.1.2
    unfold Nd.size at a
    unfold Nd.depth at b
    exact ⟨this.2, by omega, by omega⟩
  exact ⟨hf, q1.1, q1.2, by omega, hsz, heach, depth_of fun j z hz => by have := (heach j z hz).2.2; omega⟩
end Go.Proofs.YtgfkglhelfkpoaaGreat
