/- Ground of plan: rows of actions of a call's own. -/
import Derived.Test.YtdhicgdcjfcomaaPPlan
import Derived.Test.YtdhicgdcjfcomaaWCost
import Derived.Test.YtdhicgdcjfcomaaWMark
namespace Go.Proofs.Ytdhicgdcjfcomaa
open Go.RowKit Plain

/-- the cells of actions -/
def flatA : List (Int × Int) → List Value
  | [] => []
  | x :: l => .int .i64 x.1 :: .int .i64 x.2 :: flatA l
theorem flatA_append (l k : List (Int × Int)) : flatA (l ++ k) = flatA l ++ flatA k := by
  induction l with
  | nil => rfl
  | cons x l ih => simp [flatA, ih]
theorem flatA_length (l : List (Int × Int)) : (flatA l).length = l.length * 2 := by
  induction l with
  | nil => rfl
  | cons x l ih => simp [flatA, ih]; omega
theorem flatA_get {l : List (Int × Int)} {j : Nat} {x : Int × Int} (h : l[j]? = some x) : (flatA l)[j * 2]? = some (.int .i64 x.1) ∧ (flatA l)[j * 2 + 1]? = some (.int .i64 x.2) := by
  induction l generalizing j with
  | nil => simp at h
  | cons y l ih =>
    cases j with
    | zero =>
      obtain rfl : y = x := by simpa using h
      exact ⟨rfl, rfl⟩
    | succ j =>
      have h' := ih (j := j) (by simpa using h)
      have e1 : (j + 1) * 2 = j * 2 + 1 + 1 := by omega
      rw [e1]
      simpa [flatA] using h'

/-- the slice value v reads as actions, in memory of the call's own from base on -/
def ActRow (w : World) (base : Nat) (v : Value) (l : List (Int × Int)) : Prop := w.ownsRow base 61 2 v l.length (flatA l)
theorem ActRow.own {w : World} {base : Nat} {v : Value} {l : List (Int × Int)} (h : ActRow w base v l) : w.ownsRow base 61 2 v l.length (flatA l) := h
theorem ActRow.lt {w : World} {base : Nat} {v : Value} {l : List (Int × Int)} (h : ActRow w base v l) {q : Nat} (hq : v.ownBlock = some q) : base ≤ q ∧ q < w.heap.size := World.ownsRow.lt h q hq
theorem ActRow.keep {w w' : World} {base : Nat} {v : Value} {l : List (Int × Int)} (h : ActRow w base v l) (hb : ∀ g, v.ownBlock = some g → w'.heap[g]? = w.heap[g]?) : ActRow w' base v l := by
  refine ⟨h.1, ?_⟩
  rcases h.2 with hn | ⟨g, cap, cur, rfl, hb', hgg, rest⟩
  · exact .inl hn
  · exact .inr ⟨g, cap, cur, rfl, hb', by rw [hb g rfl]; exact hgg, rest⟩
theorem ActRow.next {w w' : World} {base : Nat} {v : Value} {l : List (Int × Int)} (h : ActRow w base v l) (hb : Below w.heap.size w w') : ActRow w' base v l :=
  h.keep fun g hg => hb.block g (h.lt hg).2
theorem ActRow.mono {w : World} {base base' : Nat} {v : Value} {l : List (Int × Int)} (h : ActRow w base v l) (hb : base' ≤ base) : ActRow w base' v l := by
  refine ⟨h.1, ?_⟩
  rcases h.2 with hn | ⟨g, cap, cur, hv, hb', rest⟩
  · exact .inl hn
  · exact .inr ⟨g, cap, cur, hv, by omega, rest⟩
theorem ActRow.form {w : World} {base : Nat} {v : Value} {l : List (Int × Int)} (h : ActRow w base v l) : ∃ A cap, v = .slice A l.length cap := by
  rcases h.2 with ⟨hv, h0⟩ | ⟨g, cap, _, hv, _⟩
  · exact ⟨none, 0, by rw [hv, h0]⟩
  · exact ⟨_, _, hv⟩
theorem ActRow.actsM {w : World} {base cap : Nat} {A : Option Addr} {l : List (Int × Int)} (h : ActRow w base (.slice A l.length cap) l) : ActsM w base A l := fun hn => by
  obtain ⟨g, cap', hv, hb, hlt⟩ := World.ownsRow.form h (by omega)
  have hA : A = some ⟨g, 0, none⟩ := by injection hv
  have hc : cap = cap' := by injection hv
  subst hA
  subst hc
  refine ⟨g, 0, rfl, hb, hlt, fun j x hx => ?_⟩
  have hj : j < l.length := (List.getElem?_eq_some_iff.1 hx).1
  obtain ⟨g1, g2⟩ := flatA_get hx
  refine ⟨⟨?_, ?_⟩, World.ownsRow.frozenAt h _, World.ownsRow.frozenAt h _⟩
  · rw [Nat.zero_add, World.ownsRow.cellAt h (j * 2) (by omega)]; exact g1
  · rw [Nat.zero_add, World.ownsRow.cellAt h (j * 2 + 1) (by omega)]; exact g2

end Go.Proofs.Ytdhicgdcjfcomaa
