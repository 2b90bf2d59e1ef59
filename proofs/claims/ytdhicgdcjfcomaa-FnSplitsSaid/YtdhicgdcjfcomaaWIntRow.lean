/- Ground: own rows of integers. -/
import Derived.Test.YtdhicgdcjfcomaaWMark
namespace Go.Proofs.Ytdhicgdcjfcomaa
open Go.RowKit

/-- an own row of integers -/
def IntRow (w : World) (base : Nat) (v : Value) (l : List Int) : Prop := w.ownsRow base 2 1 v l.length (l.map (Value.int .i64))
theorem IntRow.keep {w w' : World} {base : Nat} {v : Value} {l : List Int} (h : IntRow w base v l) (hb : ∀ g, v.ownBlock = some g → w'.heap[g]? = w.heap[g]?) : IntRow w' base v l := by
  refine ⟨h.1, ?_⟩
  rcases h.2 with hn | ⟨g, cap, cur, rfl, hb', hgg, rest⟩
  · exact .inl hn
  · exact .inr ⟨g, cap, cur, rfl, hb', by rw [hb g rfl]; exact hgg, rest⟩
theorem IntRow.lt {w : World} {base : Nat} {v : Value} {l : List Int} (h : IntRow w base v l) {q : Nat} (hq : v.ownBlock = some q) : base ≤ q ∧ q < w.heap.size := World.ownsRow.lt h q hq
theorem IntRow.form {w : World} {base : Nat} {v : Value} {l : List Int} (h : IntRow w base v l) : ∃ A cap, v = .slice A l.length cap := by
  rcases h.2 with ⟨hv, h0⟩ | ⟨g, cap, _, hv, _⟩
  · exact ⟨none, 0, by rw [hv, h0]⟩
  · exact ⟨_, _, hv⟩
theorem IntRow.intsM {w : World} {base cap : Nat} {A : Option Addr} {l : List Int} (h : IntRow w base (.slice A l.length cap) l) : IntsM w base A l := fun hn => by
  obtain ⟨g, cap', hv, hb, hlt⟩ := World.ownsRow.form h (by omega)
  have hA : A = some ⟨g, 0, none⟩ := by injection hv
  have hc : cap = cap' := by injection hv
  subst hA
  subst hc
  refine ⟨g, 0, rfl, hb, hlt, fun j x hx => ?_⟩
  have hj : j < l.length := (List.getElem?_eq_some_iff.1 hx).1
  refine ⟨?_, World.ownsRow.frozenAt h _⟩
  rw [Nat.zero_add, World.ownsRow.cellAt h j (by omega)]
  simp [hx]
theorem IntRow.push {w2 : World} {base : Nat} {v2 : Value} {l : List Int} {x : Int} {n : Nat} (hn : n = l.length) (hown : w2.ownsRow base 2 1 v2 (n + 1) (l.map (Value.int .i64) ++ [.int .i64 x])) : IntRow w2 base v2 (l ++ [x]) := by
  unfold IntRow
  rw [List.map_append, List.length_append, ← hn]
  exact hown
theorem IntRow.ownN {w : World} {base : Nat} {v : Value} {l : List Int} (h : IntRow w base v l) {n : Nat} (hn : n = l.length) : w.ownsRow base 2 1 v n (l.map (Value.int .i64)) := by rw [hn]; exact h

end Go.Proofs.Ytdhicgdcjfcomaa
