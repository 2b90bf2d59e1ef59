/-
  NARROWER THAN 'FOR EVERY INPUT', by the rows' own cells (each row's printed sentence says how): FnExactJacobianOf: loops · FnExactGradientOf: loops · FnExactHessianOf: loops · FnExactHessianTimes: loops · FnExactRecord: loops.
  DERIVED. THE GIVEN ROWS OF THIS SEAT. 5 by the template 'for every input the law returns true; each argument reads behind the call as it read before'; 0 by the template 'total and deterministic' (their statements: YtlnikpjcggfdmaaGreatTotals.lean).
  GIVEN WITH THE SEED: the statements are not yours to turn. If you find one false, say at which input.
  Laid BY PROGRAM, IN A SANDBOX (cutbox-rows.mjs): the forced cells as the released guide's own fill.sh prints them over the translation 9b997c338b806f9b… (all of the seat's roots in one cut). By AI agents, Wed Nov 11 2026. No macro, syntax, notation, axiom, sorry.
-/
import Derived.Test.YtlnikpjcggfdmaaGreatChecked
import GoSem.Claim
import GoSem.ClaimJoined
import GoSem.ClaimMapViews
import Derived.JoinedTies
import Derived.KernelRfl
namespace Go.Proofs.YtlnikpjcggfdmaaGreat
/- THE CELL 'sum', in the pinned program and in every row, IS THE sha256 OF THE DUMP (.gsa) THAT YtlnikpjcggfdmaaGreatProg.lean LOADS. Nothing in Lean hashes anything: it is a label: what it is worth is what the hold of that sum in a sandbox is worth. -/
noncomputable def Tryz.pinned : Pinned := { name := "ytlnikpjcggfdmaagreat", sum := "9b997c338b806f9b15913e6e4e87e2aa4bb13ff8583787050c8b653e0c6605ac", checked := Tryz.checked }
namespace Rows
def none {H : Type} : Left H := { results := [], args := [] }

/-- 'laws.FnExactJacobianOf': WHATEVER THE INPUT: true; the input reads as it did. -/
def fnExactJacobianOfSpec : ChangeSpec := { name := "fnExactJacobianOf", fn := fun _ => fun
  | [d1, d2, d3] => { results := [.lit (.bool true)], args := [d1, d2, d3] }
  | _ => none }
def fnExactJacobianOfRow : OpenClaim := { program := "ytlnikpjcggfdmaagreat", sum := "9b997c338b806f9b15913e6e4e87e2aa4bb13ff8583787050c8b653e0c6605ac", func := "loop.example/g01091/laws.FnExactJacobianOf", spec := "fnExactJacobianOf", unfollowed := true, recurses := true, loops := true, apart := false }
def FnExactJacobianOfSaid : Prop := fnExactJacobianOfRow.holds Tryz.pinned (OpenSpec.ofChange fnExactJacobianOfSpec)

/-- ITS FALSE NEIGHBOUR: 'it returns false'. Refute it at one input. -/
def fnExactJacobianOfWrong : ChangeSpec := { name := "fnExactJacobianOf", fn := fun _ => fun
  | [d1, d2, d3] => { results := [.lit (.bool false)], args := [d1, d2, d3] }
  | _ => none }
def FnExactJacobianOfWrongFalsely : Prop := fnExactJacobianOfRow.holds Tryz.pinned (OpenSpec.ofChange fnExactJacobianOfWrong)

/-- 'laws.FnExactGradientOf': WHATEVER THE INPUT: true; the input reads as it did. -/
def fnExactGradientOfSpec : ChangeSpec := { name := "fnExactGradientOf", fn := fun _ => fun
  | [d1, d2, d3, d4] => { results := [.lit (.bool true)], args := [d1, d2, d3, d4] }
  | _ => none }
def fnExactGradientOfRow : OpenClaim := { program := "ytlnikpjcggfdmaagreat", sum := "9b997c338b806f9b15913e6e4e87e2aa4bb13ff8583787050c8b653e0c6605ac", func := "loop.example/g01091/laws.FnExactGradientOf", spec := "fnExactGradientOf", unfollowed := true, recurses := true, loops := true, apart := false }
def FnExactGradientOfSaid : Prop := fnExactGradientOfRow.holds Tryz.pinned (OpenSpec.ofChange fnExactGradientOfSpec)

/-- ITS FALSE NEIGHBOUR: 'it returns false'. Refute it at one input. -/
def fnExactGradientOfWrong : ChangeSpec := { name := "fnExactGradientOf", fn := fun _ => fun
  | [d1, d2, d3, d4] => { results := [.lit (.bool false)], args := [d1, d2, d3, d4] }
  | _ => none }
def FnExactGradientOfWrongFalsely : Prop := fnExactGradientOfRow.holds Tryz.pinned (OpenSpec.ofChange fnExactGradientOfWrong)

/-- 'laws.FnExactHessianOf': WHATEVER THE INPUT: true; the input reads as it did. -/
def fnExactHessianOfSpec : ChangeSpec := { name := "fnExactHessianOf", fn := fun _ => fun
  | [d1, d2, d3, d4] => { results := [.lit (.bool true)], args := [d1, d2, d3, d4] }
  | _ => none }
def fnExactHessianOfRow : OpenClaim := { program := "ytlnikpjcggfdmaagreat", sum := "9b997c338b806f9b15913e6e4e87e2aa4bb13ff8583787050c8b653e0c6605ac", func := "loop.example/g01091/laws.FnExactHessianOf", spec := "fnExactHessianOf", unfollowed := true, recurses := true, loops := true, apart := false }
def FnExactHessianOfSaid : Prop := fnExactHessianOfRow.holds Tryz.pinned (OpenSpec.ofChange fnExactHessianOfSpec)

/-- ITS FALSE NEIGHBOUR: 'it returns false'. Refute it at one input. -/
def fnExactHessianOfWrong : ChangeSpec := { name := "fnExactHessianOf", fn := fun _ => fun
  | [d1, d2, d3, d4] => { results := [.lit (.bool false)], args := [d1, d2, d3, d4] }
  | _ => none }
def FnExactHessianOfWrongFalsely : Prop := fnExactHessianOfRow.holds Tryz.pinned (OpenSpec.ofChange fnExactHessianOfWrong)

/-- 'laws.FnExactHessianTimes': WHATEVER THE INPUT: true; the input reads as it did. -/
def fnExactHessianTimesSpec : ChangeSpec := { name := "fnExactHessianTimes", fn := fun _ => fun
  | [d1, d2, d3, d4, d5] => { results := [.lit (.bool true)], args := [d1, d2, d3, d4, d5] }
  | _ => none }
def fnExactHessianTimesRow : OpenClaim := { program := "ytlnikpjcggfdmaagreat", sum := "9b997c338b806f9b15913e6e4e87e2aa4bb13ff8583787050c8b653e0c6605ac", func := "loop.example/g01091/laws.FnExactHessianTimes", spec := "fnExactHessianTimes", unfollowed := true, recurses := true, loops := true, apart := false }
def FnExactHessianTimesSaid : Prop := fnExactHessianTimesRow.holds Tryz.pinned (OpenSpec.ofChange fnExactHessianTimesSpec)

/-- ITS FALSE NEIGHBOUR: 'it returns false'. Refute it at one input. -/
def fnExactHessianTimesWrong : ChangeSpec := { name := "fnExactHessianTimes", fn := fun _ => fun
  | [d1, d2, d3, d4, d5] => { results := [.lit (.bool false)], args := [d1, d2, d3, d4, d5] }
  | _ => none }
def FnExactHessianTimesWrongFalsely : Prop := fnExactHessianTimesRow.holds Tryz.pinned (OpenSpec.ofChange fnExactHessianTimesWrong)

/-- 'laws.FnExactRecord': WHATEVER THE INPUT: true; the input reads as it did. -/
def fnExactRecordSpec : ChangeSpec := { name := "fnExactRecord", fn := fun _ => fun
  | [d1, d2, d3] => { results := [.lit (.bool true)], args := [d1, d2, d3] }
  | _ => none }
def fnExactRecordRow : OpenClaim := { program := "ytlnikpjcggfdmaagreat", sum := "9b997c338b806f9b15913e6e4e87e2aa4bb13ff8583787050c8b653e0c6605ac", func := "loop.example/g01091/laws.FnExactRecord", spec := "fnExactRecord", unfollowed := true, recurses := true, loops := true, apart := false }
def FnExactRecordSaid : Prop := fnExactRecordRow.holds Tryz.pinned (OpenSpec.ofChange fnExactRecordSpec)

/-- ITS FALSE NEIGHBOUR: 'it returns false'. Refute it at one input. -/
def fnExactRecordWrong : ChangeSpec := { name := "fnExactRecord", fn := fun _ => fun
  | [d1, d2, d3] => { results := [.lit (.bool false)], args := [d1, d2, d3] }
  | _ => none }
def FnExactRecordWrongFalsely : Prop := fnExactRecordRow.holds Tryz.pinned (OpenSpec.ofChange fnExactRecordWrong)

/- THE SECOND FORM. 'bulk': how many values and letters a reading holds, each counted each time it is reached (what is shared counts as often as it is met; a slice's spare places count too). A statement '..UptoSaid' is the law's where the arguments, and the package variables that the reading takes, are together of bulk at most 1048576: NARROWER than '..Said'. Prove '..Said' where nothing that the law and all that it calls make is longer than what came in: it says more and counts as full. Else prove '..UptoSaid'. A law counts once. -/
mutual
def uptoBulk {H : Type} : DataW H → Nat
  | .lit (.string bytes) => bytes.length + 1
  | .lit _ => 1
  | .nil => 1
  | .ptr d => uptoBulk d + 1
  | .slice elems spare => uptoBulkAll elems + uptoBulkAll spare + 1
  | .agg parts => uptoBulkAll parts + 1
  | .iface _ d => uptoBulk d + 1
  | .map entries => uptoBulkEntries entries + 1
  | .held _ => 1
def uptoBulkAll {H : Type} : List (DataW H) → Nat
  | [] => 0
  | d :: r => uptoBulk d + uptoBulkAll r
def uptoBulkEntries {H : Type} : List (Lit × DataW H) → Nat
  | [] => 0
  | x :: r => uptoBulkEntry x + uptoBulkEntries r
def uptoBulkEntry {H : Type} : Lit × DataW H → Nat
  | (.string bytes, d) => bytes.length + uptoBulk d + 1
  | (_, d) => uptoBulk d + 1
 end
def uptoSmall : (H : Type) → List (DataW H) → Bool := fun _ ds => decide (uptoBulkAll ds ≤ 1048576)
def OpenSpec.upto (s : _root_.Go.ChangeSpec) : _root_.Go.OpenSpec := { _root_.Go.OpenSpec.ofChange s with cond := some uptoSmall }

/-- 'laws.FnExactJacobianOf', WHERE WHAT IT READS IS OF BULK AT MOST 1048576: true; the input reads as it did. -/
def fnExactJacobianOfUptoRow : OpenClaim := { program := "ytlnikpjcggfdmaagreat", sum := "9b997c338b806f9b15913e6e4e87e2aa4bb13ff8583787050c8b653e0c6605ac", func := "loop.example/g01091/laws.FnExactJacobianOf", spec := "fnExactJacobianOf", unfollowed := true, recurses := true, loops := true, apart := false, narrowed := true }
def FnExactJacobianOfUptoSaid : Prop := fnExactJacobianOfUptoRow.holds Tryz.pinned (OpenSpec.upto fnExactJacobianOfSpec)

/-- 'laws.FnExactGradientOf', WHERE WHAT IT READS IS OF BULK AT MOST 1048576: true; the input reads as it did. -/
def fnExactGradientOfUptoRow : OpenClaim := { program := "ytlnikpjcggfdmaagreat", sum := "9b997c338b806f9b15913e6e4e87e2aa4bb13ff8583787050c8b653e0c6605ac", func := "loop.example/g01091/laws.FnExactGradientOf", spec := "fnExactGradientOf", unfollowed := true, recurses := true, loops := true, apart := false, narrowed := true }
def FnExactGradientOfUptoSaid : Prop := fnExactGradientOfUptoRow.holds Tryz.pinned (OpenSpec.upto fnExactGradientOfSpec)

/-- 'laws.FnExactHessianOf', WHERE WHAT IT READS IS OF BULK AT MOST 1048576: true; the input reads as it did. -/
def fnExactHessianOfUptoRow : OpenClaim := { program := "ytlnikpjcggfdmaagreat", sum := "9b997c338b806f9b15913e6e4e87e2aa4bb13ff8583787050c8b653e0c6605ac", func := "loop.example/g01091/laws.FnExactHessianOf", spec := "fnExactHessianOf", unfollowed := true, recurses := true, loops := true, apart := false, narrowed := true }
def FnExactHessianOfUptoSaid : Prop := fnExactHessianOfUptoRow.holds Tryz.pinned (OpenSpec.upto fnExactHessianOfSpec)

/-- 'laws.FnExactHessianTimes', WHERE WHAT IT READS IS OF BULK AT MOST 1048576: true; the input reads as it did. -/
def fnExactHessianTimesUptoRow : OpenClaim := { program := "ytlnikpjcggfdmaagreat", sum := "9b997c338b806f9b15913e6e4e87e2aa4bb13ff8583787050c8b653e0c6605ac", func := "loop.example/g01091/laws.FnExactHessianTimes", spec := "fnExactHessianTimes", unfollowed := true, recurses := true, loops := true, apart := false, narrowed := true }
def FnExactHessianTimesUptoSaid : Prop := fnExactHessianTimesUptoRow.holds Tryz.pinned (OpenSpec.upto fnExactHessianTimesSpec)

/-- 'laws.FnExactRecord', WHERE WHAT IT READS IS OF BULK AT MOST 1048576: true; the input reads as it did. -/
def fnExactRecordUptoRow : OpenClaim := { program := "ytlnikpjcggfdmaagreat", sum := "9b997c338b806f9b15913e6e4e87e2aa4bb13ff8583787050c8b653e0c6605ac", func := "loop.example/g01091/laws.FnExactRecord", spec := "fnExactRecord", unfollowed := true, recurses := true, loops := true, apart := false, narrowed := true }
def FnExactRecordUptoSaid : Prop := fnExactRecordUptoRow.holds Tryz.pinned (OpenSpec.upto fnExactRecordSpec)

end Rows
end Go.Proofs.YtlnikpjcggfdmaaGreat
