/- Copies of lists, and their comparison, as the laws with marks want them. -/
import Derived.Test.YtnbpcdcdfkfmiaaWMark
namespace Go.Proofs.Ytnbpcdcdfkfmiaa
open Go.RowKit

theorem IntsM.new (w : World) (t : TypeId) (zs : List Int) : IntsM (w.alloc (intsObj t zs)) w.heap.size (some ⟨w.heap.size, 0, none⟩) zs := by
  intro _
  have hb : (w.alloc (intsObj t zs)).heap[w.heap.size]? = some (intsObj t zs) := heap_alloc_new w _
  refine ⟨_, _, rfl, Nat.le_refl _, by simp, fun j x hx => ⟨?_, ?_⟩⟩
  · rw [cell_of_row _ _ _ _ _ _ hb]
    simp [hx]
  · have hc : Cells (w.alloc (intsObj t zs)) w.heap.size t (zs.map (Value.int .i64)) := Cells.new w t _
    exact hc.frozen _
theorem toActsM (A : Option Addr) (cap : Nat) (l : List (Int × Int)) (w : World) (hA : Acts w A l) (hn : l.length ≤ 1048576) :
    Calls Try.prog 20 #[.slice A l.length cap] w fun e w' =>
      e = .returned (.slice (some ⟨w.heap.size, 0, none⟩) l.length l.length) ∧ ActsM w' w.heap.size (some ⟨w.heap.size, 0, none⟩) l ∧ Below w.heap.size w w' ∧ w.heap.size < w'.heap.size :=
  (toActs A cap l w hA hn).mono fun _ _ ⟨he, _, hb, _, hF, hC⟩ => ⟨he, hF.actsM hC, hb, hC.lt⟩
end Go.Proofs.Ytnbpcdcdfkfmiaa
