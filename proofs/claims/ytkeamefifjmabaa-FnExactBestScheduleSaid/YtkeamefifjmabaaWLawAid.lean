/- Copies of lists, and their comparison, as the laws with marks want them. -/
import Derived.Test.YtkeamefifjmabaaWMark
namespace Go.Proofs.Ytkeamefifjmabaa
open Go.RowKit

theorem IntsM.new (w : World) (t : TypeId) (zs : List Int) : IntsM (w.alloc (intsObj t zs)) w.heap.size (some ⟨w.heap.size, 0, none⟩) zs := by
  intro _
  have hb : (w.alloc (intsObj t zs)).heap[w.heap.size]? = some (intsObj t zs) := heap_alloc_new w _
  refine ⟨_, _, rfl, Nat.le_refl _, by simp, fun j x hx => ⟨?_, ?_⟩⟩
  · rw [cell_of_row _ _ _ _ _ _ hb]
    simp [hx]
  · have hc : Cells (w.alloc (intsObj t zs)) w.heap.size t (zs.map (Value.int .i64)) := Cells.new w t _
    exact hc.frozen _
theorem toIntsM (A : Option Addr) (cap : Nat) (zs : List Int) (w : World) (hA : Ints w A zs) (hn : zs.length ≤ 1048576) :
    Calls Try.prog 18 #[.slice A zs.length cap] w fun e w' =>
      e = .returned (.slice (some ⟨w.heap.size, 0, none⟩) zs.length zs.length) ∧ IntsM w' w.heap.size (some ⟨w.heap.size, 0, none⟩) zs ∧ Below w.heap.size w w' ∧ w.heap.size < w'.heap.size :=
  (toInts A cap zs w hA hn).mono fun _ _ ⟨he, hw⟩ => ⟨he, hw ▸ IntsM.new _ _ _, hw ▸ (Below.refl _ _).alloc (Nat.le_refl _) _, hw ▸ by simp⟩
theorem toActsM (A : Option Addr) (cap : Nat) (l : List (Int × Int)) (w : World) (hA : Acts w A l) (hn : l.length ≤ 1048576) :
    Calls Try.prog 27 #[.slice A l.length cap] w fun e w' =>
      e = .returned (.slice (some ⟨w.heap.size, 0, none⟩) l.length l.length) ∧ ActsM w' w.heap.size (some ⟨w.heap.size, 0, none⟩) l ∧ Below w.heap.size w w' ∧ w.heap.size < w'.heap.size :=
  (toActs A cap l w hA hn).mono fun _ _ ⟨he, _, hb, _, hF, hC⟩ => ⟨he, hF.actsM hC, hb, hC.lt⟩
theorem eqIntsB (A B : Option Addr) (cap cap' : Nat) (zs : List Int) (w : World) (hA : Ints w A zs) (hB : Ints w B zs) (hn : zs.length ≤ 4611686018427387904) :
    Calls Try.prog 20 #[.slice A zs.length cap, .slice B zs.length cap'] w fun e w' => e = .returned (.bool true) ∧ Below w.heap.size w w' :=
  (eqInts A B cap cap' zs w hA hB hn).mono fun _ _ ⟨he, hd⟩ => ⟨he, hd.below _⟩

end Go.Proofs.Ytkeamefifjmabaa
