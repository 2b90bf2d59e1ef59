/-
  NARROWER THAN 'FOR EVERY INPUT', by the rows' own cells (each row's printed sentence says how): FnExactDirectional: loops · FnExactTaylorOf: loops · FnExactPartial: loops · FnExactEvaluateSeries: loops · FnExactSlopeAlong: loops · FnExactPathDerivative: loops · FnExactJacobianOf: loops · FnExactGradientOf: loops.
  DERIVED. THE GIVEN ROWS OF THIS SEAT. 8 by the template 'for every input the law returns true; each argument reads behind the call as it read before'; 0 by the template 'total and deterministic' (their statements: YtjohkheclglpjaaGreatTotals.lean).
  GIVEN WITH THE SEED: the statements are not yours to turn. If you find one false, say at which input.
  Laid BY PROGRAM, IN A SANDBOX (cutbox-rows.mjs): the forced cells as the released guide's own fill.sh prints them over the translation 33b32dfeee76e577… (all of the seat's roots in one cut). By AI agents, Wed Nov 11 2026. No macro, syntax, notation, axiom, sorry.
-/
import Derived.Test.YtjohkheclglpjaaGreatChecked
import GoSem.Claim
import GoSem.ClaimJoined
import GoSem.ClaimMapViews
import Derived.JoinedTies
import Derived.KernelRfl
namespace Go.Proofs.YtjohkheclglpjaaGreat
/- THE CELL 'sum', in the pinned program and in every row, IS THE sha256 OF THE DUMP (.gsa) THAT YtjohkheclglpjaaGreatProg.lean LOADS. Nothing in Lean hashes anything: it is a label: what it is worth is what the hold of that sum in a sandbox is worth. -/
noncomputable def Tryz.pinned : Pinned := { name := "ytjohkheclglpjaagreat", sum := "33b32dfeee76e577035f5c7f2e80d23e49b4ac6cdf6703182c824c738d6d38e4", checked := Tryz.checked }
namespace Rows
def none {H : Type} : Left H := { results := [], args := [] }

/-- 'laws.FnExactDirectional': WHATEVER THE INPUT: true; the input reads as it did. -/
def fnExactDirectionalSpec : ChangeSpec := { name := "fnExactDirectional", fn := fun _ => fun
  | [d1, d2, d3, d4] => { results := [.lit (.bool true)], args := [d1, d2, d3, d4] }
  | _ => none }
def fnExactDirectionalRow : OpenClaim := { program := "ytjohkheclglpjaagreat", sum := "33b32dfeee76e577035f5c7f2e80d23e49b4ac6cdf6703182c824c738d6d38e4", func := "loop.example/g01091/laws.FnExactDirectional", spec := "fnExactDirectional", unfollowed := true, recurses := true, loops := true, apart := false }
def FnExactDirectionalSaid : Prop := fnExactDirectionalRow.holds Tryz.pinned (OpenSpec.ofChange fnExactDirectionalSpec)

/-- ITS FALSE NEIGHBOUR: 'it returns false'. Refute it at one input. -/
def fnExactDirectionalWrong : ChangeSpec := { name := "fnExactDirectional", fn := fun _ => fun
  | [d1, d2, d3, d4] => { results := [.lit (.bool false)], args := [d1, d2, d3, d4] }
  | _ => none }
def FnExactDirectionalWrongFalsely : Prop := fnExactDirectionalRow.holds Tryz.pinned (OpenSpec.ofChange fnExactDirectionalWrong)

/-- 'laws.FnExactTaylorOf': WHATEVER THE INPUT: true; the input reads as it did. -/
def fnExactTaylorOfSpec : ChangeSpec := { name := "fnExactTaylorOf", fn := fun _ => fun
  | [d1, d2, d3, d4, d5] => { results := [.lit (.bool true)], args := [d1, d2, d3, d4, d5] }
  | _ => none }
def fnExactTaylorOfRow : OpenClaim := { program := "ytjohkheclglpjaagreat", sum := "33b32dfeee76e577035f5c7f2e80d23e49b4ac6cdf6703182c824c738d6d38e4", func := "loop.example/g01091/laws.FnExactTaylorOf", spec := "fnExactTaylorOf", unfollowed := true, recurses := true, loops := true, apart := false }
def FnExactTaylorOfSaid : Prop := fnExactTaylorOfRow.holds Tryz.pinned (OpenSpec.ofChange fnExactTaylorOfSpec)

/-- ITS FALSE NEIGHBOUR: 'it returns false'. Refute it at one input. -/
def fnExactTaylorOfWrong : ChangeSpec := { name := "fnExactTaylorOf", fn := fun _ => fun
  | [d1, d2, d3, d4, d5] => { results := [.lit (.bool false)], args := [d1, d2, d3, d4, d5] }
  | _ => none }
def FnExactTaylorOfWrongFalsely : Prop := fnExactTaylorOfRow.holds Tryz.pinned (OpenSpec.ofChange fnExactTaylorOfWrong)

/-- 'laws.FnExactPartial': WHATEVER THE INPUT: true; the input reads as it did. -/
def fnExactPartialSpec : ChangeSpec := { name := "fnExactPartial", fn := fun _ => fun
  | [d1, d2, d3, d4] => { results := [.lit (.bool true)], args := [d1, d2, d3, d4] }
  | _ => none }
def fnExactPartialRow : OpenClaim := { program := "ytjohkheclglpjaagreat", sum := "33b32dfeee76e577035f5c7f2e80d23e49b4ac6cdf6703182c824c738d6d38e4", func := "loop.example/g01091/laws.FnExactPartial", spec := "fnExactPartial", unfollowed := true, recurses := true, loops := true, apart := false }
def FnExactPartialSaid : Prop := fnExactPartialRow.holds Tryz.pinned (OpenSpec.ofChange fnExactPartialSpec)

/-- ITS FALSE NEIGHBOUR: 'it returns false'. Refute it at one input. -/
def fnExactPartialWrong : ChangeSpec := { name := "fnExactPartial", fn := fun _ => fun
  | [d1, d2, d3, d4] => { results := [.lit (.bool false)], args := [d1, d2, d3, d4] }
  | _ => none }
def FnExactPartialWrongFalsely : Prop := fnExactPartialRow.holds Tryz.pinned (OpenSpec.ofChange fnExactPartialWrong)

/-- 'laws.FnExactEvaluateSeries': WHATEVER THE INPUT: true; the input reads as it did. -/
def fnExactEvaluateSeriesSpec : ChangeSpec := { name := "fnExactEvaluateSeries", fn := fun _ => fun
  | [d1, d2, d3] => { results := [.lit (.bool true)], args := [d1, d2, d3] }
  | _ => none }
def fnExactEvaluateSeriesRow : OpenClaim := { program := "ytjohkheclglpjaagreat", sum := "33b32dfeee76e577035f5c7f2e80d23e49b4ac6cdf6703182c824c738d6d38e4", func := "loop.example/g01091/laws.FnExactEvaluateSeries", spec := "fnExactEvaluateSeries", unfollowed := true, recurses := true, loops := true, apart := false }
def FnExactEvaluateSeriesSaid : Prop := fnExactEvaluateSeriesRow.holds Tryz.pinned (OpenSpec.ofChange fnExactEvaluateSeriesSpec)

/-- ITS FALSE NEIGHBOUR: 'it returns false'. Refute it at one input. -/
def fnExactEvaluateSeriesWrong : ChangeSpec := { name := "fnExactEvaluateSeries", fn := fun _ => fun
  | [d1, d2, d3] => { results := [.lit (.bool false)], args := [d1, d2, d3] }
  | _ => none }
def FnExactEvaluateSeriesWrongFalsely : Prop := fnExactEvaluateSeriesRow.holds Tryz.pinned (OpenSpec.ofChange fnExactEvaluateSeriesWrong)

/-- 'laws.FnExactSlopeAlong': WHATEVER THE INPUT: true; the input reads as it did. -/
def fnExactSlopeAlongSpec : ChangeSpec := { name := "fnExactSlopeAlong", fn := fun _ => fun
  | [d1, d2, d3, d4, d5, d6] => { results := [.lit (.bool true)], args := [d1, d2, d3, d4, d5, d6] }
  | _ => none }
def fnExactSlopeAlongRow : OpenClaim := { program := "ytjohkheclglpjaagreat", sum := "33b32dfeee76e577035f5c7f2e80d23e49b4ac6cdf6703182c824c738d6d38e4", func := "loop.example/g01091/laws.FnExactSlopeAlong", spec := "fnExactSlopeAlong", unfollowed := true, recurses := true, loops := true, apart := false }
def FnExactSlopeAlongSaid : Prop := fnExactSlopeAlongRow.holds Tryz.pinned (OpenSpec.ofChange fnExactSlopeAlongSpec)

/-- ITS FALSE NEIGHBOUR: 'it returns false'. Refute it at one input. -/
def fnExactSlopeAlongWrong : ChangeSpec := { name := "fnExactSlopeAlong", fn := fun _ => fun
  | [d1, d2, d3, d4, d5, d6] => { results := [.lit (.bool false)], args := [d1, d2, d3, d4, d5, d6] }
  | _ => none }
def FnExactSlopeAlongWrongFalsely : Prop := fnExactSlopeAlongRow.holds Tryz.pinned (OpenSpec.ofChange fnExactSlopeAlongWrong)

/-- 'laws.FnExactPathDerivative': WHATEVER THE INPUT: true; the input reads as it did. -/
def fnExactPathDerivativeSpec : ChangeSpec := { name := "fnExactPathDerivative", fn := fun _ => fun
  | [d1, d2, d3, d4] => { results := [.lit (.bool true)], args := [d1, d2, d3, d4] }
  | _ => none }
def fnExactPathDerivativeRow : OpenClaim := { program := "ytjohkheclglpjaagreat", sum := "33b32dfeee76e577035f5c7f2e80d23e49b4ac6cdf6703182c824c738d6d38e4", func := "loop.example/g01091/laws.FnExactPathDerivative", spec := "fnExactPathDerivative", unfollowed := true, recurses := true, loops := true, apart := false }
def FnExactPathDerivativeSaid : Prop := fnExactPathDerivativeRow.holds Tryz.pinned (OpenSpec.ofChange fnExactPathDerivativeSpec)

/-- ITS FALSE NEIGHBOUR: 'it returns false'. Refute it at one input. -/
def fnExactPathDerivativeWrong : ChangeSpec := { name := "fnExactPathDerivative", fn := fun _ => fun
  | [d1, d2, d3, d4] => { results := [.lit (.bool false)], args := [d1, d2, d3, d4] }
  | _ => none }
def FnExactPathDerivativeWrongFalsely : Prop := fnExactPathDerivativeRow.holds Tryz.pinned (OpenSpec.ofChange fnExactPathDerivativeWrong)

/-- 'laws.FnExactJacobianOf': WHATEVER THE INPUT: true; the input reads as it did. -/
def fnExactJacobianOfSpec : ChangeSpec := { name := "fnExactJacobianOf", fn := fun _ => fun
  | [d1, d2, d3] => { results := [.lit (.bool true)], args := [d1, d2, d3] }
  | _ => none }
def fnExactJacobianOfRow : OpenClaim := { program := "ytjohkheclglpjaagreat", sum := "33b32dfeee76e577035f5c7f2e80d23e49b4ac6cdf6703182c824c738d6d38e4", func := "loop.example/g01091/laws.FnExactJacobianOf", spec := "fnExactJacobianOf", unfollowed := true, recurses := true, loops := true, apart := false }
def FnExactJacobianOfSaid : Prop := fnExactJacobianOfRow.holds Tryz.pinned (OpenSpec.ofChange fnExactJacobianOfSpec)

/-- ITS FALSE NEIGHBOUR: 'it returns false'. Refute it at one input. -/
def fnExactJacobianOfWrong : ChangeSpec := { name := "fnExactJacobianOf", fn := fun _ => fun
  | [d1, d2, d3] => { results := [.lit (.bool false)], args := [d1, d2, d3] }
  | _ => none }
def FnExactJacobianOfWrongFalsely : Prop := fnExactJacobianOfRow.holds Tryz.pinned (OpenSpec.ofChange fnExactJacobianOfWrong)

/-- 'laws.FnExactGradientOf': WHATEVER THE INPUT: true; the input reads as it did. -/
def fnExactGradientOfSpec : ChangeSpec := { name := "fnExactGradientOf", fn := fun _ => fun
  | [d1, d2, d3, d4] => { results := [.lit (.bool true)], args := [d1, d2, d3, d4] }
  | _ => none }
def fnExactGradientOfRow : OpenClaim := { program := "ytjohkheclglpjaagreat", sum := "33b32dfeee76e577035f5c7f2e80d23e49b4ac6cdf6703182c824c738d6d38e4", func := "loop.example/g01091/laws.FnExactGradientOf", spec := "fnExactGradientOf", unfollowed := true, recurses := true, loops := true, apart := false }
def FnExactGradientOfSaid : Prop := fnExactGradientOfRow.holds Tryz.pinned (OpenSpec.ofChange fnExactGradientOfSpec)

/-- ITS FALSE NEIGHBOUR: 'it returns false'. Refute it at one input. -/
def fnExactGradientOfWrong : ChangeSpec := { name := "fnExactGradientOf", fn := fun _ => fun
  | [d1, d2, d3, d4] => { results := [.lit (.bool false)], args := [d1, d2, d3, d4] }
  | _ => none }
def FnExactGradientOfWrongFalsely : Prop := fnExactGradientOfRow.holds Tryz.pinned (OpenSpec.ofChange fnExactGradientOfWrong)

/- THE SECOND FORM. 'bulk': how many values and letters a reading holds, each counted each time it is reached (what is shared counts as often as it is met; a slice's spare places count too). A statement '..UptoSaid' is the law's where the arguments, and the package variables that the reading takes, are together of bulk at most 1048576: NARROWER than '..Said'. Prove '..Said' where nothing that the law and all that it calls make is longer than what came in: it says more and counts as full. Else prove '..UptoSaid'. A law counts once. -/
mutual
def uptoBulk {H : Type} : DataW H → Nat
  | .lit (.string bytes) => bytes.length + 1
  | .lit _ => 1
  | .nil => 1
  | .ptr d => uptoBulk d + 1
  | .slice elems spare => uptoBulkAll elems + uptoBulkAll spare + 1
  | .agg parts => uptoBulkAll parts + 1
  | .iface _ d => uptoBulk d + 1
  | .map entries => uptoBulkEntries entries + 1
  | .held _ => 1
def uptoBulkAll {H : Type} : List (DataW H) → Nat
  | [] => 0
  | d :: r => uptoBulk d + uptoBulkAll r
def uptoBulkEntries {H : Type} : List (Lit × DataW H) → Nat
  | [] => 0
  | x :: r => uptoBulkEntry x + uptoBulkEntries r
def uptoBulkEntry {H : Type} : Lit × DataW H → Nat
  | (.string bytes, d) => bytes.length + uptoBulk d + 1
  | (_, d) => uptoBulk d + 1
 end
def uptoSmall : (H : Type) → List (DataW H) → Bool := fun _ ds => decide (uptoBulkAll ds ≤ 1048576)
def OpenSpec.upto (s : _root_.Go.ChangeSpec) : _root_.Go.OpenSpec := { _root_.Go.OpenSpec.ofChange s with cond := some uptoSmall }

/-- 'laws.FnExactDirectional', WHERE WHAT IT READS IS OF BULK AT MOST 1048576: true; the input reads as it did. -/
def fnExactDirectionalUptoRow : OpenClaim := { program := "ytjohkheclglpjaagreat", sum := "33b32dfeee76e577035f5c7f2e80d23e49b4ac6cdf6703182c824c738d6d38e4", func := "loop.example/g01091/laws.FnExactDirectional", spec := "fnExactDirectional", unfollowed := true, recurses := true, loops := true, apart := false, narrowed := true }
def FnExactDirectionalUptoSaid : Prop := fnExactDirectionalUptoRow.holds Tryz.pinned (OpenSpec.upto fnExactDirectionalSpec)

/-- 'laws.FnExactTaylorOf', WHERE WHAT IT READS IS OF BULK AT MOST 1048576: true; the input reads as it did. -/
def fnExactTaylorOfUptoRow : OpenClaim := { program := "ytjohkheclglpjaagreat", sum := "33b32dfeee76e577035f5c7f2e80d23e49b4ac6cdf6703182c824c738d6d38e4", func := "loop.example/g01091/laws.FnExactTaylorOf", spec := "fnExactTaylorOf", unfollowed := true, recurses := true, loops := true, apart := false, narrowed := true }
def FnExactTaylorOfUptoSaid : Prop := fnExactTaylorOfUptoRow.holds Tryz.pinned (OpenSpec.upto fnExactTaylorOfSpec)

/-- 'laws.FnExactPartial', WHERE WHAT IT READS IS OF BULK AT MOST 1048576: true; the input reads as it did. -/
def fnExactPartialUptoRow : OpenClaim := { program := "ytjohkheclglpjaagreat", sum := "33b32dfeee76e577035f5c7f2e80d23e49b4ac6cdf6703182c824c738d6d38e4", func := "loop.example/g01091/laws.FnExactPartial", spec := "fnExactPartial", unfollowed := true, recurses := true, loops := true, apart := false, narrowed := true }
def FnExactPartialUptoSaid : Prop := fnExactPartialUptoRow.holds Tryz.pinned (OpenSpec.upto fnExactPartialSpec)

/-- 'laws.FnExactEvaluateSeries', WHERE WHAT IT READS IS OF BULK AT MOST 1048576: true; the input reads as it did. -/
def fnExactEvaluateSeriesUptoRow : OpenClaim := { program := "ytjohkheclglpjaagreat", sum := "33b32dfeee76e577035f5c7f2e80d23e49b4ac6cdf6703182c824c738d6d38e4", func := "loop.example/g01091/laws.FnExactEvaluateSeries", spec := "fnExactEvaluateSeries", unfollowed := true, recurses := true, loops := true, apart := false, narrowed := true }
def FnExactEvaluateSeriesUptoSaid : Prop := fnExactEvaluateSeriesUptoRow.holds Tryz.pinned (OpenSpec.upto fnExactEvaluateSeriesSpec)

/-- 'laws.FnExactSlopeAlong', WHERE WHAT IT READS IS OF BULK AT MOST 1048576: true; the input reads as it did. -/
def fnExactSlopeAlongUptoRow : OpenClaim := { program := "ytjohkheclglpjaagreat", sum := "33b32dfeee76e577035f5c7f2e80d23e49b4ac6cdf6703182c824c738d6d38e4", func := "loop.example/g01091/laws.FnExactSlopeAlong", spec := "fnExactSlopeAlong", unfollowed := true, recurses := true, loops := true, apart := false, narrowed := true }
def FnExactSlopeAlongUptoSaid : Prop := fnExactSlopeAlongUptoRow.holds Tryz.pinned (OpenSpec.upto fnExactSlopeAlongSpec)

/-- 'laws.FnExactPathDerivative', WHERE WHAT IT READS IS OF BULK AT MOST 1048576: true; the input reads as it did. -/
def fnExactPathDerivativeUptoRow : OpenClaim := { program := "ytjohkheclglpjaagreat", sum := "33b32dfeee76e577035f5c7f2e80d23e49b4ac6cdf6703182c824c738d6d38e4", func := "loop.example/g01091/laws.FnExactPathDerivative", spec := "fnExactPathDerivative", unfollowed := true, recurses := true, loops := true, apart := false, narrowed := true }
def FnExactPathDerivativeUptoSaid : Prop := fnExactPathDerivativeUptoRow.holds Tryz.pinned (OpenSpec.upto fnExactPathDerivativeSpec)

/-- 'laws.FnExactJacobianOf', WHERE WHAT IT READS IS OF BULK AT MOST 1048576: true; the input reads as it did. -/
def fnExactJacobianOfUptoRow : OpenClaim := { program := "ytjohkheclglpjaagreat", sum := "33b32dfeee76e577035f5c7f2e80d23e49b4ac6cdf6703182c824c738d6d38e4", func := "loop.example/g01091/laws.FnExactJacobianOf", spec := "fnExactJacobianOf", unfollowed := true, recurses := true, loops := true, apart := false, narrowed := true }
def FnExactJacobianOfUptoSaid : Prop := fnExactJacobianOfUptoRow.holds Tryz.pinned (OpenSpec.upto fnExactJacobianOfSpec)

/-- 'laws.FnExactGradientOf', WHERE WHAT IT READS IS OF BULK AT MOST 1048576: true; the input reads as it did. -/
def fnExactGradientOfUptoRow : OpenClaim := { program := "ytjohkheclglpjaagreat", sum := "33b32dfeee76e577035f5c7f2e80d23e49b4ac6cdf6703182c824c738d6d38e4", func := "loop.example/g01091/laws.FnExactGradientOf", spec := "fnExactGradientOf", unfollowed := true, recurses := true, loops := true, apart := false, narrowed := true }
def FnExactGradientOfUptoSaid : Prop := fnExactGradientOfUptoRow.holds Tryz.pinned (OpenSpec.upto fnExactGradientOfSpec)

end Rows
end Go.Proofs.YtjohkheclglpjaaGreat
