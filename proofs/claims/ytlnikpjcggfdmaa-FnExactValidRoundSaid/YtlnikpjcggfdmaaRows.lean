/-
  NARROWER THAN 'FOR EVERY INPUT', by the rows' own cells (each row's printed sentence says how): FnExactEvaluate: loops · FnExactHigherDerivative: loops · FnExactMixedDerivative: loops · FnExactValidRound: loops.
  DERIVED. THE GIVEN ROWS OF THIS SEAT. 5 by the template 'for every input the law returns true; each argument reads behind the call as it read before'; 0 by the template 'total and deterministic' (their statements: YtlnikpjcggfdmaaTotals.lean).
  GIVEN WITH THE SEED: the statements are not yours to turn. If you find one false, say at which input.
  Laid BY PROGRAM, IN A SANDBOX (cutbox-rows.mjs): the forced cells as the released guide's own fill.sh prints them over the translation 035dcdaca2d0df3c… (all of the seat's roots in one cut). By AI agents, Wed Nov 11 2026. No macro, syntax, notation, axiom, sorry.
-/
import Derived.Test.YtlnikpjcggfdmaaChecked
import GoSem.Claim
import GoSem.ClaimJoined
import GoSem.ClaimMapViews
import Derived.JoinedTies
import Derived.KernelRfl
namespace Go.Proofs.Ytlnikpjcggfdmaa
/- THE CELL 'sum', in the pinned program and in every row, IS THE sha256 OF THE DUMP (.gsa) THAT YtlnikpjcggfdmaaProg.lean LOADS. Nothing in Lean hashes anything: it is a label: what it is worth is what the hold of that sum in a sandbox is worth. -/
noncomputable def Try.pinned : Pinned := { name := "ytlnikpjcggfdmaa", sum := "035dcdaca2d0df3c138ff9db37ee0f0c1943045c74eab01db0ad278f7e69a940", checked := Try.checked }
namespace Rows
def none {H : Type} : Left H := { results := [], args := [] }

/-- 'laws.FnExactEvaluate': WHATEVER THE INPUT: true; the input reads as it did. -/
def fnExactEvaluateSpec : ChangeSpec := { name := "fnExactEvaluate", fn := fun _ => fun
  | [d1, d2, d3] => { results := [.lit (.bool true)], args := [d1, d2, d3] }
  | _ => none }
def fnExactEvaluateRow : OpenClaim := { program := "ytlnikpjcggfdmaa", sum := "035dcdaca2d0df3c138ff9db37ee0f0c1943045c74eab01db0ad278f7e69a940", func := "loop.example/g01091/laws.FnExactEvaluate", spec := "fnExactEvaluate", unfollowed := true, recurses := true, loops := true, apart := false }
def FnExactEvaluateSaid : Prop := fnExactEvaluateRow.holds Try.pinned (OpenSpec.ofChange fnExactEvaluateSpec)

/-- ITS FALSE NEIGHBOUR: 'it returns false'. Refute it at one input. -/
def fnExactEvaluateWrong : ChangeSpec := { name := "fnExactEvaluate", fn := fun _ => fun
  | [d1, d2, d3] => { results := [.lit (.bool false)], args := [d1, d2, d3] }
  | _ => none }
def FnExactEvaluateWrongFalsely : Prop := fnExactEvaluateRow.holds Try.pinned (OpenSpec.ofChange fnExactEvaluateWrong)

/-- 'laws.FnExactHigherDerivative': WHATEVER THE INPUT: true; the input reads as it did. -/
def fnExactHigherDerivativeSpec : ChangeSpec := { name := "fnExactHigherDerivative", fn := fun _ => fun
  | [d1, d2, d3, d4, d5, d6] => { results := [.lit (.bool true)], args := [d1, d2, d3, d4, d5, d6] }
  | _ => none }
def fnExactHigherDerivativeRow : OpenClaim := { program := "ytlnikpjcggfdmaa", sum := "035dcdaca2d0df3c138ff9db37ee0f0c1943045c74eab01db0ad278f7e69a940", func := "loop.example/g01091/laws.FnExactHigherDerivative", spec := "fnExactHigherDerivative", unfollowed := true, recurses := true, loops := true, apart := false }
def FnExactHigherDerivativeSaid : Prop := fnExactHigherDerivativeRow.holds Try.pinned (OpenSpec.ofChange fnExactHigherDerivativeSpec)

/-- ITS FALSE NEIGHBOUR: 'it returns false'. Refute it at one input. -/
def fnExactHigherDerivativeWrong : ChangeSpec := { name := "fnExactHigherDerivative", fn := fun _ => fun
  | [d1, d2, d3, d4, d5, d6] => { results := [.lit (.bool false)], args := [d1, d2, d3, d4, d5, d6] }
  | _ => none }
def FnExactHigherDerivativeWrongFalsely : Prop := fnExactHigherDerivativeRow.holds Try.pinned (OpenSpec.ofChange fnExactHigherDerivativeWrong)

/-- 'laws.FnExactMixedDerivative': WHATEVER THE INPUT: true; the input reads as it did. -/
def fnExactMixedDerivativeSpec : ChangeSpec := { name := "fnExactMixedDerivative", fn := fun _ => fun
  | [d1, d2, d3, d4, d5] => { results := [.lit (.bool true)], args := [d1, d2, d3, d4, d5] }
  | _ => none }
def fnExactMixedDerivativeRow : OpenClaim := { program := "ytlnikpjcggfdmaa", sum := "035dcdaca2d0df3c138ff9db37ee0f0c1943045c74eab01db0ad278f7e69a940", func := "loop.example/g01091/laws.FnExactMixedDerivative", spec := "fnExactMixedDerivative", unfollowed := true, recurses := true, loops := true, apart := false }
def FnExactMixedDerivativeSaid : Prop := fnExactMixedDerivativeRow.holds Try.pinned (OpenSpec.ofChange fnExactMixedDerivativeSpec)

/-- ITS FALSE NEIGHBOUR: 'it returns false'. Refute it at one input. -/
def fnExactMixedDerivativeWrong : ChangeSpec := { name := "fnExactMixedDerivative", fn := fun _ => fun
  | [d1, d2, d3, d4, d5] => { results := [.lit (.bool false)], args := [d1, d2, d3, d4, d5] }
  | _ => none }
def FnExactMixedDerivativeWrongFalsely : Prop := fnExactMixedDerivativeRow.holds Try.pinned (OpenSpec.ofChange fnExactMixedDerivativeWrong)

/-- 'laws.FnExactValidRound': WHATEVER THE INPUT: true; the input reads as it did. -/
def fnExactValidRoundSpec : ChangeSpec := { name := "fnExactValidRound", fn := fun _ => fun
  | [d1, d2] => { results := [.lit (.bool true)], args := [d1, d2] }
  | _ => none }
def fnExactValidRoundRow : OpenClaim := { program := "ytlnikpjcggfdmaa", sum := "035dcdaca2d0df3c138ff9db37ee0f0c1943045c74eab01db0ad278f7e69a940", func := "loop.example/g01091/laws.FnExactValidRound", spec := "fnExactValidRound", unfollowed := true, recurses := true, loops := true, apart := false }
def FnExactValidRoundSaid : Prop := fnExactValidRoundRow.holds Try.pinned (OpenSpec.ofChange fnExactValidRoundSpec)

/-- ITS FALSE NEIGHBOUR: 'it returns false'. Refute it at one input. -/
def fnExactValidRoundWrong : ChangeSpec := { name := "fnExactValidRound", fn := fun _ => fun
  | [d1, d2] => { results := [.lit (.bool false)], args := [d1, d2] }
  | _ => none }
def FnExactValidRoundWrongFalsely : Prop := fnExactValidRoundRow.holds Try.pinned (OpenSpec.ofChange fnExactValidRoundWrong)

/-- 'laws.FnExactStandardRules': WHATEVER THE INPUT: true; the input reads as it did. -/
def fnExactStandardRulesSpec : ChangeSpec := { name := "fnExactStandardRules", fn := fun _ => fun
  | [] => { results := [.lit (.bool true)], args := [] }
  | _ => none }
def fnExactStandardRulesRow : OpenClaim := { program := "ytlnikpjcggfdmaa", sum := "035dcdaca2d0df3c138ff9db37ee0f0c1943045c74eab01db0ad278f7e69a940", func := "loop.example/g01091/laws.FnExactStandardRules", spec := "fnExactStandardRules", unfollowed := true, recurses := true, apart := false }
def FnExactStandardRulesSaid : Prop := fnExactStandardRulesRow.holds Try.pinned (OpenSpec.ofChange fnExactStandardRulesSpec)

/-- ITS FALSE NEIGHBOUR: 'it returns false'. Refute it at one input. -/
def fnExactStandardRulesWrong : ChangeSpec := { name := "fnExactStandardRules", fn := fun _ => fun
  | [] => { results := [.lit (.bool false)], args := [] }
  | _ => none }
def FnExactStandardRulesWrongFalsely : Prop := fnExactStandardRulesRow.holds Try.pinned (OpenSpec.ofChange fnExactStandardRulesWrong)

/- THE SECOND FORM. 'bulk': how many values and letters a reading holds, each counted each time it is reached (what is shared counts as often as it is met; a slice's spare places count too). A statement '..UptoSaid' is the law's where the arguments, and the package variables that the reading takes, are together of bulk at most 1048576: NARROWER than '..Said'. Prove '..Said' where nothing that the law and all that it calls make is longer than what came in: it says more and counts as full. Else prove '..UptoSaid'. A law counts once. -/
mutual
def uptoBulk {H : Type} : DataW H → Nat
  | .lit (.string bytes) => bytes.length + 1
  | .lit _ => 1
  | .nil => 1
  | .ptr d => uptoBulk d + 1
  | .slice elems spare => uptoBulkAll elems + uptoBulkAll spare + 1
  | .agg parts => uptoBulkAll parts + 1
  | .iface _ d => uptoBulk d + 1
  | .map entries => uptoBulkEntries entries + 1
  | .held _ => 1
def uptoBulkAll {H : Type} : List (DataW H) → Nat
  | [] => 0
  | d :: r => uptoBulk d + uptoBulkAll r
def uptoBulkEntries {H : Type} : List (Lit × DataW H) → Nat
  | [] => 0
  | x :: r => uptoBulkEntry x + uptoBulkEntries r
def uptoBulkEntry {H : Type} : Lit × DataW H → Nat
  | (.string bytes, d) => bytes.length + uptoBulk d + 1
  | (_, d) => uptoBulk d + 1
 end
def uptoSmall : (H : Type) → List (DataW H) → Bool := fun _ ds => decide (uptoBulkAll ds ≤ 1048576)
def OpenSpec.upto (s : _root_.Go.ChangeSpec) : _root_.Go.OpenSpec := { _root_.Go.OpenSpec.ofChange s with cond := some uptoSmall }

/-- 'laws.FnExactEvaluate', WHERE WHAT IT READS IS OF BULK AT MOST 1048576: true; the input reads as it did. -/
def fnExactEvaluateUptoRow : OpenClaim := { program := "ytlnikpjcggfdmaa", sum := "035dcdaca2d0df3c138ff9db37ee0f0c1943045c74eab01db0ad278f7e69a940", func := "loop.example/g01091/laws.FnExactEvaluate", spec := "fnExactEvaluate", unfollowed := true, recurses := true, loops := true, apart := false, narrowed := true }
def FnExactEvaluateUptoSaid : Prop := fnExactEvaluateUptoRow.holds Try.pinned (OpenSpec.upto fnExactEvaluateSpec)

/-- 'laws.FnExactHigherDerivative', WHERE WHAT IT READS IS OF BULK AT MOST 1048576: true; the input reads as it did. -/
def fnExactHigherDerivativeUptoRow : OpenClaim := { program := "ytlnikpjcggfdmaa", sum := "035dcdaca2d0df3c138ff9db37ee0f0c1943045c74eab01db0ad278f7e69a940", func := "loop.example/g01091/laws.FnExactHigherDerivative", spec := "fnExactHigherDerivative", unfollowed := true, recurses := true, loops := true, apart := false, narrowed := true }
def FnExactHigherDerivativeUptoSaid : Prop := fnExactHigherDerivativeUptoRow.holds Try.pinned (OpenSpec.upto fnExactHigherDerivativeSpec)

/-- 'laws.FnExactMixedDerivative', WHERE WHAT IT READS IS OF BULK AT MOST 1048576: true; the input reads as it did. -/
def fnExactMixedDerivativeUptoRow : OpenClaim := { program := "ytlnikpjcggfdmaa", sum := "035dcdaca2d0df3c138ff9db37ee0f0c1943045c74eab01db0ad278f7e69a940", func := "loop.example/g01091/laws.FnExactMixedDerivative", spec := "fnExactMixedDerivative", unfollowed := true, recurses := true, loops := true, apart := false, narrowed := true }
def FnExactMixedDerivativeUptoSaid : Prop := fnExactMixedDerivativeUptoRow.holds Try.pinned (OpenSpec.upto fnExactMixedDerivativeSpec)

/-- 'laws.FnExactValidRound', WHERE WHAT IT READS IS OF BULK AT MOST 1048576: true; the input reads as it did. -/
def fnExactValidRoundUptoRow : OpenClaim := { program := "ytlnikpjcggfdmaa", sum := "035dcdaca2d0df3c138ff9db37ee0f0c1943045c74eab01db0ad278f7e69a940", func := "loop.example/g01091/laws.FnExactValidRound", spec := "fnExactValidRound", unfollowed := true, recurses := true, loops := true, apart := false, narrowed := true }
def FnExactValidRoundUptoSaid : Prop := fnExactValidRoundUptoRow.holds Try.pinned (OpenSpec.upto fnExactValidRoundSpec)

/-- 'laws.FnExactStandardRules', WHERE WHAT IT READS IS OF BULK AT MOST 1048576: true; the input reads as it did. -/
def fnExactStandardRulesUptoRow : OpenClaim := { program := "ytlnikpjcggfdmaa", sum := "035dcdaca2d0df3c138ff9db37ee0f0c1943045c74eab01db0ad278f7e69a940", func := "loop.example/g01091/laws.FnExactStandardRules", spec := "fnExactStandardRules", unfollowed := true, recurses := true, apart := false, narrowed := true }
def FnExactStandardRulesUptoSaid : Prop := fnExactStandardRulesUptoRow.holds Try.pinned (OpenSpec.upto fnExactStandardRulesSpec)

end Rows
end Go.Proofs.Ytlnikpjcggfdmaa
