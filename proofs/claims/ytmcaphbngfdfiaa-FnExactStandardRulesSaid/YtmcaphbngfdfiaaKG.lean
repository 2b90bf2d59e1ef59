/- Texts put together: WOk11, WOk11b, WOk12, WOk13, WOk14. -/
import Derived.Test.YtmcaphbngfdfiaaKF

/- Walks of the program's isFormed, whole. -/
namespace Go.Proofs.Ytmcaphbngfdfiaa
open Go.RowKit Plain

theorem two_boxes (w : World) (t1 t2 : TypeId) (C1 C2 : List Value) : Cells ((w.alloc (.cells C1.toArray t1)).alloc (.cells C2.toArray t2)) w.heap.size t1 C1 ∧ Cells ((w.alloc (.cells C1.toArray t1)).alloc (.cells C2.toArray t2)) (w.heap.size + 1) t2 C2 ∧
    Below w.heap.size w ((w.alloc (.cells C1.toArray t1)).alloc (.cells C2.toArray t2)) := by
  refine ⟨(Cells.new w t1 C1).next (by go_grown), ?_, by go_grown⟩
  have := Cells.new (w.alloc (.cells C1.toArray t1)) t2 C2
  rwa [show (w.alloc (.cells C1.toArray t1)).heap.size = w.heap.size + 1 by simp] at this
theorem kidVars_ne {k vars : Int} {j : Nat} (h : k ≠ 9) : kidVars k vars j = vars := by unfold kidVars; rw [if_neg (by omega)]
theorem kidVars_no {k vars : Int} {j : Nat} (h : j ≠ 1) : kidVars k vars j = vars := by unfold kidVars; rw [if_neg (by omega)]
theorem kidVars_yes {vars : Int} : kidVars 9 vars 1 = vars + 1 := rfl

end Go.Proofs.Ytmcaphbngfdfiaa

/- The program's isFormed, whole. -/
namespace Go.Proofs.Ytmcaphbngfdfiaa
open Go.RowKit Plain

end Go.Proofs.Ytmcaphbngfdfiaa

/- Walks of the program's looks at programs: ValidExpr. -/
namespace Go.Proofs.Ytmcaphbngfdfiaa
open Go.RowKit Plain

theorem exBoxes {w w1 : World} {t1 t2 : TypeId} {C1 C2 : List Value} (hb : Below ((w.alloc (.cells C1.toArray t1)).alloc (.cells C2.toArray t2)).heap.size ((w.alloc (.cells C1.toArray t1)).alloc (.cells C2.toArray t2)) w1) :
    Cells w1 w.heap.size t1 C1 ∧ Cells w1 (w.heap.size + 1) t2 C2 ∧ Below w.heap.size w w1 := by
  obtain ⟨q1, q2, q3⟩ := two_boxes w t1 t2 C1 C2
  exact ⟨q1.next hb, q2.next hb, bnext q3 hb⟩

end Go.Proofs.Ytmcaphbngfdfiaa

/- Walks of the program's looks at programs: ValidProgram, isFunc. -/
namespace Go.Proofs.Ytmcaphbngfdfiaa
open Go.RowKit Plain

theorem FnsAt.take {w : World} {B : Nat} : ∀ {fs : List Fn} {b o : Nat} (i : Nat), FnsAt w B fs b o → FnsAt w B (fs.take i) b o
  | [], _, _, _, _ => by simp; trivial
  | _ :: _, _, _, 0, _ => trivial
  | _ :: _, _, _, i + 1, h => ⟨h.1, FnsAt.take i h.2⟩
theorem FnSl.take {w : World} {B : Nat} {fs : List Fn} {A : Option Addr} (i : Nat) (h : FnSl w B fs A) : FnSl w B (fs.take i) A := by
  obtain ⟨b, o, hA, h⟩ := h
  exact ⟨b, o, fun hl => hA (by simp at hl; omega), h.take i⟩

/-- are these expressions right, with y nodes ahead of them? -/
def okQ (P : List Fn) (es : Es) (vars funcs : Int) (y : Nat) : Bool := exprsOk P es vars funcs && decide (y + es.size ≤ 400)
theorem okQ_cons {P : List Fn} {k n p c : Int} {ks r : Es} {vars funcs : Int} {y : Nat} : okQ P (.cons k n p c ks r) vars funcs y = (exprOk P ⟨k, n, p, c, ks⟩ vars funcs && okQ P r vars funcs (y + (ks.size + 1))) := by
  have e : decide (y + (Es.cons k n p c ks r).size ≤ 400) = decide (y + (ks.size + 1) + r.size ≤ 400) :=
    decide_eq_decide.2 (by simp only [Es.size]; omega)
  unfold okQ
  rw [e]
  simp only [exprsOk, Bool.and_assoc]

end Go.Proofs.Ytmcaphbngfdfiaa

/- Walks of the program's isFunc. -/
namespace Go.Proofs.Ytmcaphbngfdfiaa
open Go.RowKit Plain

theorem prBox {w w1 : World} {t : TypeId} {C : List Value} (hb : Below (w.alloc (.cells C.toArray t)).heap.size (w.alloc (.cells C.toArray t)) w1) : Cells w1 w.heap.size t C ∧ Below w.heap.size w w1 :=
  ⟨(Cells.new w t C).next hb, Below.trans (by go_grown) (hb.mono (by simp))⟩

end Go.Proofs.Ytmcaphbngfdfiaa
