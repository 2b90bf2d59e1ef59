/-
  NARROWER THAN 'FOR EVERY INPUT', by the rows' own cells (each row's printed sentence says how): FnExactCheckRule: loops · FnExactRewriteAt: loops · FnExactCheckSteps: loops · FnExactRecord: loops · FnExactPolyOf: loops · FnExactSimplifyProgram: loops · FnExactSimplifyExpr: loops.
  DERIVED. THE GIVEN ROWS OF THIS SEAT. 7 by the template 'for every input the law returns true; each argument reads behind the call as it read before'; 0 by the template 'total and deterministic' (their statements: YtgfkglhelfkpoaaGreatTotals.lean).
  GIVEN WITH THE SEED: the statements are not yours to turn. If you find one false, say at which input.
  Laid BY PROGRAM, IN A SANDBOX (cutbox-rows.mjs): the forced cells as the released guide's own fill.sh prints them over the translation 101e2a1abd03b240… (all of the seat's roots in one cut). By AI agents, Wed Nov 11 2026. No macro, syntax, notation, axiom, sorry.
-/
import Derived.Test.YtgfkglhelfkpoaaGreatChecked
import GoSem.Claim
import GoSem.ClaimJoined
import GoSem.ClaimMapViews
import Derived.JoinedTies
import Derived.KernelRfl
namespace Go.Proofs.YtgfkglhelfkpoaaGreat
/- THE CELL 'sum', in the pinned program and in every row, IS THE sha256 OF THE DUMP (.gsa) THAT YtgfkglhelfkpoaaGreatProg.lean LOADS. Nothing in Lean hashes anything: it is a label: what it is worth is what the hold of that sum in a sandbox is worth. -/
noncomputable def Tryz.pinned : Pinned := { name := "ytgfkglhelfkpoaagreat", sum := "101e2a1abd03b24076e2f0cb6a25d302856989a43be6f10304cdc53af91ce5bd", checked := Tryz.checked }
namespace Rows
def none {H : Type} : Left H := { results := [], args := [] }

/-- 'laws.FnExactCheckRule': WHATEVER THE INPUT: true; the input reads as it did. -/
def fnExactCheckRuleSpec : ChangeSpec := { name := "fnExactCheckRule", fn := fun _ => fun
  | [d] => { results := [.lit (.bool true)], args := [d] }
  | _ => none }
def fnExactCheckRuleRow : OpenClaim := { program := "ytgfkglhelfkpoaagreat", sum := "101e2a1abd03b24076e2f0cb6a25d302856989a43be6f10304cdc53af91ce5bd", func := "loop.example/g01091/laws.FnExactCheckRule", spec := "fnExactCheckRule", unfollowed := true, recurses := true, loops := true, apart := false }
def FnExactCheckRuleSaid : Prop := fnExactCheckRuleRow.holds Tryz.pinned (OpenSpec.ofChange fnExactCheckRuleSpec)

/-- ITS FALSE NEIGHBOUR: 'it returns false'. Refute it at one input. -/
def fnExactCheckRuleWrong : ChangeSpec := { name := "fnExactCheckRule", fn := fun _ => fun
  | [d] => { results := [.lit (.bool false)], args := [d] }
  | _ => none }
def FnExactCheckRuleWrongFalsely : Prop := fnExactCheckRuleRow.holds Tryz.pinned (OpenSpec.ofChange fnExactCheckRuleWrong)

/-- 'laws.FnExactRewriteAt': WHATEVER THE INPUT: true; the input reads as it did. -/
def fnExactRewriteAtSpec : ChangeSpec := { name := "fnExactRewriteAt", fn := fun _ => fun
  | [d1, d2, d3, d4, d5, d6] => { results := [.lit (.bool true)], args := [d1, d2, d3, d4, d5, d6] }
  | _ => none }
def fnExactRewriteAtRow : OpenClaim := { program := "ytgfkglhelfkpoaagreat", sum := "101e2a1abd03b24076e2f0cb6a25d302856989a43be6f10304cdc53af91ce5bd", func := "loop.example/g01091/laws.FnExactRewriteAt", spec := "fnExactRewriteAt", unfollowed := true, recurses := true, loops := true, apart := false }
def FnExactRewriteAtSaid : Prop := fnExactRewriteAtRow.holds Tryz.pinned (OpenSpec.ofChange fnExactRewriteAtSpec)

/-- ITS FALSE NEIGHBOUR: 'it returns false'. Refute it at one input. -/
def fnExactRewriteAtWrong : ChangeSpec := { name := "fnExactRewriteAt", fn := fun _ => fun
  | [d1, d2, d3, d4, d5, d6] => { results := [.lit (.bool false)], args := [d1, d2, d3, d4, d5, d6] }
  | _ => none }
def FnExactRewriteAtWrongFalsely : Prop := fnExactRewriteAtRow.holds Tryz.pinned (OpenSpec.ofChange fnExactRewriteAtWrong)

/-- 'laws.FnExactCheckSteps': WHATEVER THE INPUT: true; the input reads as it did. -/
def fnExactCheckStepsSpec : ChangeSpec := { name := "fnExactCheckSteps", fn := fun _ => fun
  | [d1, d2, d3, d4, d5, d6] => { results := [.lit (.bool true)], args := [d1, d2, d3, d4, d5, d6] }
  | _ => none }
def fnExactCheckStepsRow : OpenClaim := { program := "ytgfkglhelfkpoaagreat", sum := "101e2a1abd03b24076e2f0cb6a25d302856989a43be6f10304cdc53af91ce5bd", func := "loop.example/g01091/laws.FnExactCheckSteps", spec := "fnExactCheckSteps", unfollowed := true, recurses := true, loops := true, apart := false }
def FnExactCheckStepsSaid : Prop := fnExactCheckStepsRow.holds Tryz.pinned (OpenSpec.ofChange fnExactCheckStepsSpec)

/-- ITS FALSE NEIGHBOUR: 'it returns false'. Refute it at one input. -/
def fnExactCheckStepsWrong : ChangeSpec := { name := "fnExactCheckSteps", fn := fun _ => fun
  | [d1, d2, d3, d4, d5, d6] => { results := [.lit (.bool false)], args := [d1, d2, d3, d4, d5, d6] }
  | _ => none }
def FnExactCheckStepsWrongFalsely : Prop := fnExactCheckStepsRow.holds Tryz.pinned (OpenSpec.ofChange fnExactCheckStepsWrong)

/-- 'laws.FnExactRecord': WHATEVER THE INPUT: true; the input reads as it did. -/
def fnExactRecordSpec : ChangeSpec := { name := "fnExactRecord", fn := fun _ => fun
  | [d1, d2, d3] => { results := [.lit (.bool true)], args := [d1, d2, d3] }
  | _ => none }
def fnExactRecordRow : OpenClaim := { program := "ytgfkglhelfkpoaagreat", sum := "101e2a1abd03b24076e2f0cb6a25d302856989a43be6f10304cdc53af91ce5bd", func := "loop.example/g01091/laws.FnExactRecord", spec := "fnExactRecord", unfollowed := true, recurses := true, loops := true, apart := false }
def FnExactRecordSaid : Prop := fnExactRecordRow.holds Tryz.pinned (OpenSpec.ofChange fnExactRecordSpec)

/-- ITS FALSE NEIGHBOUR: 'it returns false'. Refute it at one input. -/
def fnExactRecordWrong : ChangeSpec := { name := "fnExactRecord", fn := fun _ => fun
  | [d1, d2, d3] => { results := [.lit (.bool false)], args := [d1, d2, d3] }
  | _ => none }
def FnExactRecordWrongFalsely : Prop := fnExactRecordRow.holds Tryz.pinned (OpenSpec.ofChange fnExactRecordWrong)

/-- 'laws.FnExactPolyOf': WHATEVER THE INPUT: true; the input reads as it did. -/
def fnExactPolyOfSpec : ChangeSpec := { name := "fnExactPolyOf", fn := fun _ => fun
  | [d1, d2, d3] => { results := [.lit (.bool true)], args := [d1, d2, d3] }
  | _ => none }
def fnExactPolyOfRow : OpenClaim := { program := "ytgfkglhelfkpoaagreat", sum := "101e2a1abd03b24076e2f0cb6a25d302856989a43be6f10304cdc53af91ce5bd", func := "loop.example/g01091/laws.FnExactPolyOf", spec := "fnExactPolyOf", unfollowed := true, recurses := true, loops := true, apart := false }
def FnExactPolyOfSaid : Prop := fnExactPolyOfRow.holds Tryz.pinned (OpenSpec.ofChange fnExactPolyOfSpec)

/-- ITS FALSE NEIGHBOUR: 'it returns false'. Refute it at one input. -/
def fnExactPolyOfWrong : ChangeSpec := { name := "fnExactPolyOf", fn := fun _ => fun
  | [d1, d2, d3] => { results := [.lit (.bool false)], args := [d1, d2, d3] }
  | _ => none }
def FnExactPolyOfWrongFalsely : Prop := fnExactPolyOfRow.holds Tryz.pinned (OpenSpec.ofChange fnExactPolyOfWrong)

/-- 'laws.FnExactSimplifyProgram': WHATEVER THE INPUT: true; the input reads as it did. -/
def fnExactSimplifyProgramSpec : ChangeSpec := { name := "fnExactSimplifyProgram", fn := fun _ => fun
  | [d] => { results := [.lit (.bool true)], args := [d] }
  | _ => none }
def fnExactSimplifyProgramRow : OpenClaim := { program := "ytgfkglhelfkpoaagreat", sum := "101e2a1abd03b24076e2f0cb6a25d302856989a43be6f10304cdc53af91ce5bd", func := "loop.example/g01091/laws.FnExactSimplifyProgram", spec := "fnExactSimplifyProgram", unfollowed := true, recurses := true, loops := true, apart := false }
def FnExactSimplifyProgramSaid : Prop := fnExactSimplifyProgramRow.holds Tryz.pinned (OpenSpec.ofChange fnExactSimplifyProgramSpec)

/-- ITS FALSE NEIGHBOUR: 'it returns false'. Refute it at one input. -/
def fnExactSimplifyProgramWrong : ChangeSpec := { name := "fnExactSimplifyProgram", fn := fun _ => fun
  | [d] => { results := [.lit (.bool false)], args := [d] }
  | _ => none }
def FnExactSimplifyProgramWrongFalsely : Prop := fnExactSimplifyProgramRow.holds Tryz.pinned (OpenSpec.ofChange fnExactSimplifyProgramWrong)

/-- 'laws.FnExactSimplifyExpr': WHATEVER THE INPUT: true; the input reads as it did. -/
def fnExactSimplifyExprSpec : ChangeSpec := { name := "fnExactSimplifyExpr", fn := fun _ => fun
  | [d1, d2, d3, d4] => { results := [.lit (.bool true)], args := [d1, d2, d3, d4] }
  | _ => none }
def fnExactSimplifyExprRow : OpenClaim := { program := "ytgfkglhelfkpoaagreat", sum := "101e2a1abd03b24076e2f0cb6a25d302856989a43be6f10304cdc53af91ce5bd", func := "loop.example/g01091/laws.FnExactSimplifyExpr", spec := "fnExactSimplifyExpr", unfollowed := true, recurses := true, loops := true, apart := false }
def FnExactSimplifyExprSaid : Prop := fnExactSimplifyExprRow.holds Tryz.pinned (OpenSpec.ofChange fnExactSimplifyExprSpec)

/-- ITS FALSE NEIGHBOUR: 'it returns false'. Refute it at one input. -/
def fnExactSimplifyExprWrong : ChangeSpec := { name := "fnExactSimplifyExpr", fn := fun _ => fun
  | [d1, d2, d3, d4] => { results := [.lit (.bool false)], args := [d1, d2, d3, d4] }
  | _ => none }
def FnExactSimplifyExprWrongFalsely : Prop := fnExactSimplifyExprRow.holds Tryz.pinned (OpenSpec.ofChange fnExactSimplifyExprWrong)

/- THE SECOND FORM. 'bulk': how many values and letters a reading holds, each counted each time it is reached (what is shared counts as often as it is met; a slice's spare places count too). A statement '..UptoSaid' is the law's where the arguments, and the package variables that the reading takes, are together of bulk at most 1048576: NARROWER than '..Said'. Prove '..Said' where nothing that the law and all that it calls make is longer than what came in: it says more and counts as full. Else prove '..UptoSaid'. A law counts once. -/
mutual
def uptoBulk {H : Type} : DataW H → Nat
  | .lit (.string bytes) => bytes.length + 1
  | .lit _ => 1
  | .nil => 1
  | .ptr d => uptoBulk d + 1
  | .slice elems spare => uptoBulkAll elems + uptoBulkAll spare + 1
  | .agg parts => uptoBulkAll parts + 1
  | .iface _ d => uptoBulk d + 1
  | .map entries => uptoBulkEntries entries + 1
  | .held _ => 1
def uptoBulkAll {H : Type} : List (DataW H) → Nat
  | [] => 0
  | d :: r => uptoBulk d + uptoBulkAll r
def uptoBulkEntries {H : Type} : List (Lit × DataW H) → Nat
  | [] => 0
  | x :: r => uptoBulkEntry x + uptoBulkEntries r
def uptoBulkEntry {H : Type} : Lit × DataW H → Nat
  | (.string bytes, d) => bytes.length + uptoBulk d + 1
  | (_, d) => uptoBulk d + 1
 end
def uptoSmall : (H : Type) → List (DataW H) → Bool := fun _ ds => decide (uptoBulkAll ds ≤ 1048576)
def OpenSpec.upto (s : _root_.Go.ChangeSpec) : _root_.Go.OpenSpec := { _root_.Go.OpenSpec.ofChange s with cond := some uptoSmall }

/-- 'laws.FnExactCheckRule', WHERE WHAT IT READS IS OF BULK AT MOST 1048576: true; the input reads as it did. -/
def fnExactCheckRuleUptoRow : OpenClaim := { program := "ytgfkglhelfkpoaagreat", sum := "101e2a1abd03b24076e2f0cb6a25d302856989a43be6f10304cdc53af91ce5bd", func := "loop.example/g01091/laws.FnExactCheckRule", spec := "fnExactCheckRule", unfollowed := true, recurses := true, loops := true, apart := false, narrowed := true }
def FnExactCheckRuleUptoSaid : Prop := fnExactCheckRuleUptoRow.holds Tryz.pinned (OpenSpec.upto fnExactCheckRuleSpec)

/-- 'laws.FnExactRewriteAt', WHERE WHAT IT READS IS OF BULK AT MOST 1048576: true; the input reads as it did. -/
def fnExactRewriteAtUptoRow : OpenClaim := { program := "ytgfkglhelfkpoaagreat", sum := "101e2a1abd03b24076e2f0cb6a25d302856989a43be6f10304cdc53af91ce5bd", func := "loop.example/g01091/laws.FnExactRewriteAt", spec := "fnExactRewriteAt", unfollowed := true, recurses := true, loops := true, apart := false, narrowed := true }
def FnExactRewriteAtUptoSaid : Prop := fnExactRewriteAtUptoRow.holds Tryz.pinned (OpenSpec.upto fnExactRewriteAtSpec)

/-- 'laws.FnExactCheckSteps', WHERE WHAT IT READS IS OF BULK AT MOST 1048576: true; the input reads as it did. -/
def fnExactCheckStepsUptoRow : OpenClaim := { program := "ytgfkglhelfkpoaagreat", sum := "101e2a1abd03b24076e2f0cb6a25d302856989a43be6f10304cdc53af91ce5bd", func := "loop.example/g01091/laws.FnExactCheckSteps", spec := "fnExactCheckSteps", unfollowed := true, recurses := true, loops := true, apart := false, narrowed := true }
def FnExactCheckStepsUptoSaid : Prop := fnExactCheckStepsUptoRow.holds Tryz.pinned (OpenSpec.upto fnExactCheckStepsSpec)

/-- 'laws.FnExactRecord', WHERE WHAT IT READS IS OF BULK AT MOST 1048576: true; the input reads as it did. -/
def fnExactRecordUptoRow : OpenClaim := { program := "ytgfkglhelfkpoaagreat", sum := "101e2a1abd03b24076e2f0cb6a25d302856989a43be6f10304cdc53af91ce5bd", func := "loop.example/g01091/laws.FnExactRecord", spec := "fnExactRecord", unfollowed := true, recurses := true, loops := true, apart := false, narrowed := true }
def FnExactRecordUptoSaid : Prop := fnExactRecordUptoRow.holds Tryz.pinned (OpenSpec.upto fnExactRecordSpec)

/-- 'laws.FnExactPolyOf', WHERE WHAT IT READS IS OF BULK AT MOST 1048576: true; the input reads as it did. -/
def fnExactPolyOfUptoRow : OpenClaim := { program := "ytgfkglhelfkpoaagreat", sum := "101e2a1abd03b24076e2f0cb6a25d302856989a43be6f10304cdc53af91ce5bd", func := "loop.example/g01091/laws.FnExactPolyOf", spec := "fnExactPolyOf", unfollowed := true, recurses := true, loops := true, apart := false, narrowed := true }
def FnExactPolyOfUptoSaid : Prop := fnExactPolyOfUptoRow.holds Tryz.pinned (OpenSpec.upto fnExactPolyOfSpec)

/-- 'laws.FnExactSimplifyProgram', WHERE WHAT IT READS IS OF BULK AT MOST 1048576: true; the input reads as it did. -/
def fnExactSimplifyProgramUptoRow : OpenClaim := { program := "ytgfkglhelfkpoaagreat", sum := "101e2a1abd03b24076e2f0cb6a25d302856989a43be6f10304cdc53af91ce5bd", func := "loop.example/g01091/laws.FnExactSimplifyProgram", spec := "fnExactSimplifyProgram", unfollowed := true, recurses := true, loops := true, apart := false, narrowed := true }
def FnExactSimplifyProgramUptoSaid : Prop := fnExactSimplifyProgramUptoRow.holds Tryz.pinned (OpenSpec.upto fnExactSimplifyProgramSpec)

/-- 'laws.FnExactSimplifyExpr', WHERE WHAT IT READS IS OF BULK AT MOST 1048576: true; the input reads as it did. -/
def fnExactSimplifyExprUptoRow : OpenClaim := { program := "ytgfkglhelfkpoaagreat", sum := "101e2a1abd03b24076e2f0cb6a25d302856989a43be6f10304cdc53af91ce5bd", func := "loop.example/g01091/laws.FnExactSimplifyExpr", spec := "fnExactSimplifyExpr", unfollowed := true, recurses := true, loops := true, apart := false, narrowed := true }
def FnExactSimplifyExprUptoSaid : Prop := fnExactSimplifyExprUptoRow.holds Tryz.pinned (OpenSpec.upto fnExactSimplifyExprSpec)

end Rows
end Go.Proofs.YtgfkglhelfkpoaaGreat
