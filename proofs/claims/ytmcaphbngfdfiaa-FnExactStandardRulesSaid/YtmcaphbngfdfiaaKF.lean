/- Texts put together: WOk7, WOk8, WOk9, WOk10. -/
import Derived.Test.YtmcaphbngfdfiaaKE

/- Walks of the program's looks at expressions: ExprSize, ExprDepth. -/
namespace Go.Proofs.Ytmcaphbngfdfiaa
open Go.RowKit Plain

end Go.Proofs.Ytmcaphbngfdfiaa

/- Walks of the program's isFormed: nodes that are not right, leaves. -/
namespace Go.Proofs.Ytmcaphbngfdfiaa
open Go.RowKit Plain

abbrev chV (A : Option Addr) (len cap : Nat) (funcs : Int) : Value := .agg #[.slice A len cap, .int .i64 funcs]
def FPost (r : Bool) (w : World) (e : Ending) (w' : World) : Prop := e = .returned (.bool r) ∧ Below w.heap.size w w'

theorem nodeOk_leaf1 {P : List Fn} {fn vars n p c : Int} {len : Nat} : nodeOk P fn vars 1 n p c len = (p == 0 && c == 0 && (len == 0 && inR n 0 1000002)) := by unfold nodeOk; simp
theorem nodeOk_leaf2 {P : List Fn} {fn vars n p c : Int} {len : Nat} : nodeOk P fn vars 2 n p c len = (p == 0 && c == 0 && (len == 0 && inR n 0 (vars - 1))) := by unfold nodeOk; simp
theorem nodeOk_op {P : List Fn} {fn vars n p c k : Int} {len N : Nat} (h : (k = 3 ∨ k = 4 ∨ k = 5 ∨ k = 6 ∨ k = 9) ∧ N = 2 ∨ k = 7 ∧ N = 1 ∨ k = 8 ∧ N = 3) : nodeOk P fn vars k n p c len = (p == 0 && c == 0 && (n == 0 && len == N)) := by
  unfold nodeOk
  rcases h with ⟨h | h | h | h | h, rfl⟩ | ⟨h, rfl⟩ | ⟨h, rfl⟩ <;> subst h <;> simp
theorem nodeOk_none {P : List Fn} {fn vars n p c k : Int} {len : Nat} (h : k < 1 ∨ 11 < k) : nodeOk P fn vars k n p c len = false := by
  unfold nodeOk
  rw [if_neg (by omega), if_neg (by omega), if_neg (by omega), if_neg (by omega), if_neg (by omega), if_neg (by omega)]
  simp

end Go.Proofs.Ytmcaphbngfdfiaa

/- Walks of the program's isFormed: operations and other kinds that are not right. -/
namespace Go.Proofs.Ytmcaphbngfdfiaa
open Go.RowKit Plain

def opN (k : Int) (N : Nat) : Prop := (k = 3 ∨ k = 4 ∨ k = 5 ∨ k = 6 ∨ k = 9) ∧ N = 2 ∨ k = 7 ∧ N = 1 ∨ k = 8 ∧ N = 3

end Go.Proofs.Ytmcaphbngfdfiaa

/- Walks of the program's isFormed: calls and loops that are not right. -/
namespace Go.Proofs.Ytmcaphbngfdfiaa
open Go.RowKit Plain

end Go.Proofs.Ytmcaphbngfdfiaa
