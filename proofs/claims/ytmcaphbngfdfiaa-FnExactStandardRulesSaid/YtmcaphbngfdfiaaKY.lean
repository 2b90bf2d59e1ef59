/- Texts put together: WPoly5, WPoly6, WPoly7, WPoly8, WPoly9. -/
import Derived.Test.YtmcaphbngfdfiaaKX
import Derived.Test.YtmcaphbngfdfiaaKH
import Derived.Test.YtmcaphbngfdfiaaKO
import Derived.Test.YtmcaphbngfdfiaaKD

/- Walks: the values of polynomials, both sides; PolyValue of the spec. -/
namespace Go.Proofs.Ytmcaphbngfdfiaa
open Go.RowKit Plain

/-- the value and the code -/
def polyV (v : Int) (ts : List Term') (zs : List Int) : Int × Int :=
  if polyOk v ts = true then (if (zs.length : Int) = v ∧ nums' zs = true then (pvL ts zs ts.length, 0) else (0, 2)) else (0, 1)

end Go.Proofs.Ytmcaphbngfdfiaa

/- Walks: the order of exponents and the validity of polynomials, in the program. -/
namespace Go.Proofs.Ytmcaphbngfdfiaa
open Go.RowKit Plain

def cmpI (x y : Int) : Int := if x < y then -1 else if y < x then 1 else 0
theorem cmpL_stepI {a b : List Int} {k : Nat} (hk : k < a.length) (hb : k < b.length) : cmpL (a.drop k) (b.drop k) = if cmpI (cf a k) (cf b k) = 0 then cmpL (a.drop (k + 1)) (b.drop (k + 1)) else cmpI (cf a k) (cf b k) := by
  rw [cmpL_step hk hb]
  unfold cmpI
  split
  · rfl
  · split
    · rfl
    · rfl

theorem any_notE {zs : List Int} : zs.any (fun x => !inR x 0 12) = !expsOk zs := by
  unfold expsOk
  induction zs with
  | nil => rfl
  | cons x l ih => simp only [List.any_cons, List.all_cons, ih, Bool.not_and]
theorem termOk_full {v : Int} {t : Term'} (h : (t.1.length : Int) = v) (h2 : inR t.2 1 1000002 = true) : termOk v t = (expsOk t.1 && decide (degL t.1 t.1.length ≤ 12)) := by unfold termOk; simp [h, h2]

end Go.Proofs.Ytmcaphbngfdfiaa

/- Walks: the validity of polynomials, in the program. -/
namespace Go.Proofs.Ytmcaphbngfdfiaa
open Go.RowKit Plain

theorem cells2 {w w' : World} {t : TypeId} {C : List Value} (h : Cells w w.heap.size t C) (_ : w = w') : Cells w w.heap.size t C := h

end Go.Proofs.Ytmcaphbngfdfiaa

/- Walks: PolyValue of both sides. -/
namespace Go.Proofs.Ytmcaphbngfdfiaa
open Go.RowKit Plain

theorem polyV_bad {v : Int} {ts : List Term'} {zs : List Int} (h : polyOk v ts = false) : polyV v ts zs = (0, 1) := by unfold polyV; rw [if_neg (by rw [h]; simp)]
theorem polyV_len {v : Int} {ts : List Term'} {zs : List Int} (h : polyOk v ts = true) (h2 : ¬ (zs.length : Int) = v) : polyV v ts zs = (0, 2) := by unfold polyV; rw [if_pos h, if_neg (fun h => h2 h.1)]
theorem polyV_num {v : Int} {ts : List Term'} {zs : List Int} (h : polyOk v ts = true) (h2 : nums' zs = false) : polyV v ts zs = (0, 2) := by unfold polyV; rw [if_pos h, if_neg (fun h => by rw [h2] at h; simp at h)]
theorem polyV_ok {v : Int} {ts : List Term'} {zs : List Int} (h : polyOk v ts = true) (h1 : (zs.length : Int) = v) (h2 : nums' zs = true) : polyV v ts zs = (pvL ts zs ts.length, 0) := by unfold polyV; rw [if_pos h, if_pos ⟨h1, h2⟩]

/-- the box of a polynomial behind a call -/
theorem poBox {w w1 : World} {t : TypeId} {u v : Value} (hb : Below (w.alloc (.cells #[u, v] t)).heap.size (w.alloc (.cells #[u, v] t)) w1) : w1.cell? ⟨w.heap.size, 0, none⟩ = some u ∧ w1.cell? ⟨w.heap.size, 1, none⟩ = some v ∧ Below w.heap.size w w1 := by
  have h := (Cells.new w t [u, v]).below hb (by simp)
  exact ⟨by rw [h.cell]; rfl, by rw [h.cell]; rfl, (show Below w.heap.size w (w.alloc (.cells #[u, v] t)) by go_grown).trans (hb.mono (by simp))⟩

end Go.Proofs.Ytmcaphbngfdfiaa

/- Walks: values of polynomials in the program; PolyValue of the program. -/
namespace Go.Proofs.Ytmcaphbngfdfiaa
open Go.RowKit Plain

end Go.Proofs.Ytmcaphbngfdfiaa
