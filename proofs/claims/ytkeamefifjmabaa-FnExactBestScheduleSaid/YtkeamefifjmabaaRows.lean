/-
  No cell of these rows narrows 'for every input' (looked for: loops, veiled, ifaces, maps, wideKeys, modest, calm, conditions, laid).
  DERIVED. THE GIVEN ROWS OF THIS SEAT. 12 by the template 'for every input the law returns true; each argument reads behind the call as it read before'; 0 by the template 'total and deterministic' (their statements: YtkeamefifjmabaaTotals.lean).
  GIVEN WITH THE SEED: the statements are not yours to turn. If you find one false, say at which input.
  Laid BY PROGRAM, IN A SANDBOX (cutbox-rows.mjs): the forced cells as the released guide's own fill.sh prints them over the translation efaf5766d153d80d… (all of the seat's roots in one cut). By AI agents, Wed Nov 11 2026. No macro, syntax, notation, axiom, sorry.
-/
import Derived.Test.YtkeamefifjmabaaChecked
import GoSem.Claim
import GoSem.ClaimJoined
import GoSem.ClaimMapViews
import Derived.JoinedTies
import Derived.KernelRfl
namespace Go.Proofs.Ytkeamefifjmabaa
/- THE CELL 'sum', in the pinned program and in every row, IS THE sha256 OF THE DUMP (.gsa) THAT YtkeamefifjmabaaProg.lean LOADS. Nothing in Lean hashes anything: it is a label: what it is worth is what the hold of that sum in a sandbox is worth. -/
noncomputable def Try.pinned : Pinned := { name := "ytkeamefifjmabaa", sum := "efaf5766d153d80ddf88a2cf8c965e3294a54bee5372480a0b0ad9a388acb68e", checked := Try.checked }
namespace Rows
def none {H : Type} : Left H := { results := [], args := [] }

/-- 'laws.FnExactChainReach': WHATEVER THE INPUT: true; the input reads as it did. -/
def fnExactChainReachSpec : ChangeSpec := { name := "fnExactChainReach", fn := fun _ => fun
  | [d1, d2] => { results := [.lit (.bool true)], args := [d1, d2] }
  | _ => none }
def fnExactChainReachRow : OpenClaim := { program := "ytkeamefifjmabaa", sum := "efaf5766d153d80ddf88a2cf8c965e3294a54bee5372480a0b0ad9a388acb68e", func := "loop.example/g01091/laws.FnExactChainReach", spec := "fnExactChainReach", plainKeys := false, apart := false }
def FnExactChainReachSaid : Prop := fnExactChainReachRow.holds Try.pinned (OpenSpec.ofChange fnExactChainReachSpec)

/-- ITS FALSE NEIGHBOUR: 'it returns false'. Refute it at one input. -/
def fnExactChainReachWrong : ChangeSpec := { name := "fnExactChainReach", fn := fun _ => fun
  | [d1, d2] => { results := [.lit (.bool false)], args := [d1, d2] }
  | _ => none }
def FnExactChainReachWrongFalsely : Prop := fnExactChainReachRow.holds Try.pinned (OpenSpec.ofChange fnExactChainReachWrong)

/-- 'laws.FnExactValidWeights': WHATEVER THE INPUT: true; the input reads as it did. -/
def fnExactValidWeightsSpec : ChangeSpec := { name := "fnExactValidWeights", fn := fun _ => fun
  | [d] => { results := [.lit (.bool true)], args := [d] }
  | _ => none }
def fnExactValidWeightsRow : OpenClaim := { program := "ytkeamefifjmabaa", sum := "efaf5766d153d80ddf88a2cf8c965e3294a54bee5372480a0b0ad9a388acb68e", func := "loop.example/g01091/laws.FnExactValidWeights", spec := "fnExactValidWeights", unfollowed := true, recurses := true, plainKeys := false, apart := false }
def FnExactValidWeightsSaid : Prop := fnExactValidWeightsRow.holds Try.pinned (OpenSpec.ofChange fnExactValidWeightsSpec)

/-- ITS FALSE NEIGHBOUR: 'it returns false'. Refute it at one input. -/
def fnExactValidWeightsWrong : ChangeSpec := { name := "fnExactValidWeights", fn := fun _ => fun
  | [d] => { results := [.lit (.bool false)], args := [d] }
  | _ => none }
def FnExactValidWeightsWrongFalsely : Prop := fnExactValidWeightsRow.holds Try.pinned (OpenSpec.ofChange fnExactValidWeightsWrong)

/-- 'laws.FnExactRepeatsNeeded': WHATEVER THE INPUT: true; the input reads as it did. -/
def fnExactRepeatsNeededSpec : ChangeSpec := { name := "fnExactRepeatsNeeded", fn := fun _ => fun
  | [d1, d2] => { results := [.lit (.bool true)], args := [d1, d2] }
  | _ => none }
def fnExactRepeatsNeededRow : OpenClaim := { program := "ytkeamefifjmabaa", sum := "efaf5766d153d80ddf88a2cf8c965e3294a54bee5372480a0b0ad9a388acb68e", func := "loop.example/g01091/laws.FnExactRepeatsNeeded", spec := "fnExactRepeatsNeeded", plainKeys := false, apart := false }
def FnExactRepeatsNeededSaid : Prop := fnExactRepeatsNeededRow.holds Try.pinned (OpenSpec.ofChange fnExactRepeatsNeededSpec)

/-- ITS FALSE NEIGHBOUR: 'it returns false'. Refute it at one input. -/
def fnExactRepeatsNeededWrong : ChangeSpec := { name := "fnExactRepeatsNeeded", fn := fun _ => fun
  | [d1, d2] => { results := [.lit (.bool false)], args := [d1, d2] }
  | _ => none }
def FnExactRepeatsNeededWrongFalsely : Prop := fnExactRepeatsNeededRow.holds Try.pinned (OpenSpec.ofChange fnExactRepeatsNeededWrong)

/-- 'laws.FnExactFormulaCost': WHATEVER THE INPUT: true; the input reads as it did. -/
def fnExactFormulaCostSpec : ChangeSpec := { name := "fnExactFormulaCost", fn := fun _ => fun
  | [d1, d2] => { results := [.lit (.bool true)], args := [d1, d2] }
  | _ => none }
def fnExactFormulaCostRow : OpenClaim := { program := "ytkeamefifjmabaa", sum := "efaf5766d153d80ddf88a2cf8c965e3294a54bee5372480a0b0ad9a388acb68e", func := "loop.example/g01091/laws.FnExactFormulaCost", spec := "fnExactFormulaCost", plainKeys := false, apart := false }
def FnExactFormulaCostSaid : Prop := fnExactFormulaCostRow.holds Try.pinned (OpenSpec.ofChange fnExactFormulaCostSpec)

/-- ITS FALSE NEIGHBOUR: 'it returns false'. Refute it at one input. -/
def fnExactFormulaCostWrong : ChangeSpec := { name := "fnExactFormulaCost", fn := fun _ => fun
  | [d1, d2] => { results := [.lit (.bool false)], args := [d1, d2] }
  | _ => none }
def FnExactFormulaCostWrongFalsely : Prop := fnExactFormulaCostRow.holds Try.pinned (OpenSpec.ofChange fnExactFormulaCostWrong)

/-- 'laws.FnExactValidSchedule': WHATEVER THE INPUT: true; the input reads as it did. -/
def fnExactValidScheduleSpec : ChangeSpec := { name := "fnExactValidSchedule", fn := fun _ => fun
  | [d] => { results := [.lit (.bool true)], args := [d] }
  | _ => none }
def fnExactValidScheduleRow : OpenClaim := { program := "ytkeamefifjmabaa", sum := "efaf5766d153d80ddf88a2cf8c965e3294a54bee5372480a0b0ad9a388acb68e", func := "loop.example/g01091/laws.FnExactValidSchedule", spec := "fnExactValidSchedule", unfollowed := true, recurses := true, plainKeys := false, apart := false }
def FnExactValidScheduleSaid : Prop := fnExactValidScheduleRow.holds Try.pinned (OpenSpec.ofChange fnExactValidScheduleSpec)

/-- ITS FALSE NEIGHBOUR: 'it returns false'. Refute it at one input. -/
def fnExactValidScheduleWrong : ChangeSpec := { name := "fnExactValidSchedule", fn := fun _ => fun
  | [d] => { results := [.lit (.bool false)], args := [d] }
  | _ => none }
def FnExactValidScheduleWrongFalsely : Prop := fnExactValidScheduleRow.holds Try.pinned (OpenSpec.ofChange fnExactValidScheduleWrong)

/-- 'laws.FnExactLeastCost': WHATEVER THE INPUT: true; the input reads as it did. -/
def fnExactLeastCostSpec : ChangeSpec := { name := "fnExactLeastCost", fn := fun _ => fun
  | [d1, d2] => { results := [.lit (.bool true)], args := [d1, d2] }
  | _ => none }
def fnExactLeastCostRow : OpenClaim := { program := "ytkeamefifjmabaa", sum := "efaf5766d153d80ddf88a2cf8c965e3294a54bee5372480a0b0ad9a388acb68e", func := "loop.example/g01091/laws.FnExactLeastCost", spec := "fnExactLeastCost", unfollowed := true, recurses := true, plainKeys := false, apart := false }
def FnExactLeastCostSaid : Prop := fnExactLeastCostRow.holds Try.pinned (OpenSpec.ofChange fnExactLeastCostSpec)

/-- ITS FALSE NEIGHBOUR: 'it returns false'. Refute it at one input. -/
def fnExactLeastCostWrong : ChangeSpec := { name := "fnExactLeastCost", fn := fun _ => fun
  | [d1, d2] => { results := [.lit (.bool false)], args := [d1, d2] }
  | _ => none }
def FnExactLeastCostWrongFalsely : Prop := fnExactLeastCostRow.holds Try.pinned (OpenSpec.ofChange fnExactLeastCostWrong)

/-- 'laws.FnExactLeastSlots': WHATEVER THE INPUT: true; the input reads as it did. -/
def fnExactLeastSlotsSpec : ChangeSpec := { name := "fnExactLeastSlots", fn := fun _ => fun
  | [d1, d2] => { results := [.lit (.bool true)], args := [d1, d2] }
  | _ => none }
def fnExactLeastSlotsRow : OpenClaim := { program := "ytkeamefifjmabaa", sum := "efaf5766d153d80ddf88a2cf8c965e3294a54bee5372480a0b0ad9a388acb68e", func := "loop.example/g01091/laws.FnExactLeastSlots", spec := "fnExactLeastSlots", unfollowed := true, recurses := true, plainKeys := false, apart := false }
def FnExactLeastSlotsSaid : Prop := fnExactLeastSlotsRow.holds Try.pinned (OpenSpec.ofChange fnExactLeastSlotsSpec)

/-- ITS FALSE NEIGHBOUR: 'it returns false'. Refute it at one input. -/
def fnExactLeastSlotsWrong : ChangeSpec := { name := "fnExactLeastSlots", fn := fun _ => fun
  | [d1, d2] => { results := [.lit (.bool false)], args := [d1, d2] }
  | _ => none }
def FnExactLeastSlotsWrongFalsely : Prop := fnExactLeastSlotsRow.holds Try.pinned (OpenSpec.ofChange fnExactLeastSlotsWrong)

/-- 'laws.FnExactSplitOf': WHATEVER THE INPUT: true; the input reads as it did. -/
def fnExactSplitOfSpec : ChangeSpec := { name := "fnExactSplitOf", fn := fun _ => fun
  | [d1, d2] => { results := [.lit (.bool true)], args := [d1, d2] }
  | _ => none }
def fnExactSplitOfRow : OpenClaim := { program := "ytkeamefifjmabaa", sum := "efaf5766d153d80ddf88a2cf8c965e3294a54bee5372480a0b0ad9a388acb68e", func := "loop.example/g01091/laws.FnExactSplitOf", spec := "fnExactSplitOf", unfollowed := true, recurses := true, plainKeys := false, apart := false }
def FnExactSplitOfSaid : Prop := fnExactSplitOfRow.holds Try.pinned (OpenSpec.ofChange fnExactSplitOfSpec)

/-- ITS FALSE NEIGHBOUR: 'it returns false'. Refute it at one input. -/
def fnExactSplitOfWrong : ChangeSpec := { name := "fnExactSplitOf", fn := fun _ => fun
  | [d1, d2] => { results := [.lit (.bool false)], args := [d1, d2] }
  | _ => none }
def FnExactSplitOfWrongFalsely : Prop := fnExactSplitOfRow.holds Try.pinned (OpenSpec.ofChange fnExactSplitOfWrong)

/-- 'laws.FnExactFirstBadAction': WHATEVER THE INPUT: true; the input reads as it did. -/
def fnExactFirstBadActionSpec : ChangeSpec := { name := "fnExactFirstBadAction", fn := fun _ => fun
  | [d1, d2, d3] => { results := [.lit (.bool true)], args := [d1, d2, d3] }
  | _ => none }
def fnExactFirstBadActionRow : OpenClaim := { program := "ytkeamefifjmabaa", sum := "efaf5766d153d80ddf88a2cf8c965e3294a54bee5372480a0b0ad9a388acb68e", func := "loop.example/g01091/laws.FnExactFirstBadAction", spec := "fnExactFirstBadAction", unfollowed := true, recurses := true, plainKeys := false, apart := false }
def FnExactFirstBadActionSaid : Prop := fnExactFirstBadActionRow.holds Try.pinned (OpenSpec.ofChange fnExactFirstBadActionSpec)

/-- ITS FALSE NEIGHBOUR: 'it returns false'. Refute it at one input. -/
def fnExactFirstBadActionWrong : ChangeSpec := { name := "fnExactFirstBadAction", fn := fun _ => fun
  | [d1, d2, d3] => { results := [.lit (.bool false)], args := [d1, d2, d3] }
  | _ => none }
def FnExactFirstBadActionWrongFalsely : Prop := fnExactFirstBadActionRow.holds Try.pinned (OpenSpec.ofChange fnExactFirstBadActionWrong)

/-- 'laws.FnExactBestSchedule': WHATEVER THE INPUT: true; the input reads as it did. -/
def fnExactBestScheduleSpec : ChangeSpec := { name := "fnExactBestSchedule", fn := fun _ => fun
  | [d1, d2] => { results := [.lit (.bool true)], args := [d1, d2] }
  | _ => none }
def fnExactBestScheduleRow : OpenClaim := { program := "ytkeamefifjmabaa", sum := "efaf5766d153d80ddf88a2cf8c965e3294a54bee5372480a0b0ad9a388acb68e", func := "loop.example/g01091/laws.FnExactBestSchedule", spec := "fnExactBestSchedule", unfollowed := true, recurses := true, plainKeys := false, apart := false }
def FnExactBestScheduleSaid : Prop := fnExactBestScheduleRow.holds Try.pinned (OpenSpec.ofChange fnExactBestScheduleSpec)

/-- ITS FALSE NEIGHBOUR: 'it returns false'. Refute it at one input. -/
def fnExactBestScheduleWrong : ChangeSpec := { name := "fnExactBestSchedule", fn := fun _ => fun
  | [d1, d2] => { results := [.lit (.bool false)], args := [d1, d2] }
  | _ => none }
def FnExactBestScheduleWrongFalsely : Prop := fnExactBestScheduleRow.holds Try.pinned (OpenSpec.ofChange fnExactBestScheduleWrong)

/-- 'laws.FnExactAdvancesOf': WHATEVER THE INPUT: true; the input reads as it did. -/
def fnExactAdvancesOfSpec : ChangeSpec := { name := "fnExactAdvancesOf", fn := fun _ => fun
  | [d1, d2, d3] => { results := [.lit (.bool true)], args := [d1, d2, d3] }
  | _ => none }
def fnExactAdvancesOfRow : OpenClaim := { program := "ytkeamefifjmabaa", sum := "efaf5766d153d80ddf88a2cf8c965e3294a54bee5372480a0b0ad9a388acb68e", func := "loop.example/g01091/laws.FnExactAdvancesOf", spec := "fnExactAdvancesOf", unfollowed := true, recurses := true, plainKeys := false, apart := false }
def FnExactAdvancesOfSaid : Prop := fnExactAdvancesOfRow.holds Try.pinned (OpenSpec.ofChange fnExactAdvancesOfSpec)

/-- ITS FALSE NEIGHBOUR: 'it returns false'. Refute it at one input. -/
def fnExactAdvancesOfWrong : ChangeSpec := { name := "fnExactAdvancesOf", fn := fun _ => fun
  | [d1, d2, d3] => { results := [.lit (.bool false)], args := [d1, d2, d3] }
  | _ => none }
def FnExactAdvancesOfWrongFalsely : Prop := fnExactAdvancesOfRow.holds Try.pinned (OpenSpec.ofChange fnExactAdvancesOfWrong)

/-- 'laws.FnExactRunSchedule': WHATEVER THE INPUT: true; the input reads as it did. -/
def fnExactRunScheduleSpec : ChangeSpec := { name := "fnExactRunSchedule", fn := fun _ => fun
  | [d1, d2, d3] => { results := [.lit (.bool true)], args := [d1, d2, d3] }
  | _ => none }
def fnExactRunScheduleRow : OpenClaim := { program := "ytkeamefifjmabaa", sum := "efaf5766d153d80ddf88a2cf8c965e3294a54bee5372480a0b0ad9a388acb68e", func := "loop.example/g01091/laws.FnExactRunSchedule", spec := "fnExactRunSchedule", unfollowed := true, recurses := true, plainKeys := false, apart := false }
def FnExactRunScheduleSaid : Prop := fnExactRunScheduleRow.holds Try.pinned (OpenSpec.ofChange fnExactRunScheduleSpec)

/-- ITS FALSE NEIGHBOUR: 'it returns false'. Refute it at one input. -/
def fnExactRunScheduleWrong : ChangeSpec := { name := "fnExactRunSchedule", fn := fun _ => fun
  | [d1, d2, d3] => { results := [.lit (.bool false)], args := [d1, d2, d3] }
  | _ => none }
def FnExactRunScheduleWrongFalsely : Prop := fnExactRunScheduleRow.holds Try.pinned (OpenSpec.ofChange fnExactRunScheduleWrong)

/- THE SECOND FORM. 'bulk': how many values and letters a reading holds, each counted each time it is reached (what is shared counts as often as it is met; a slice's spare places count too). A statement '..UptoSaid' is the law's where the arguments, and the package variables that the reading takes, are together of bulk at most 1048576: NARROWER than '..Said'. Prove '..Said' where nothing that the law and all that it calls make is longer than what came in: it says more and counts as full. Else prove '..UptoSaid'. A law counts once. -/
mutual
def uptoBulk {H : Type} : DataW H → Nat
  | .lit (.string bytes) => bytes.length + 1
  | .lit _ => 1
  | .nil => 1
  | .ptr d => uptoBulk d + 1
  | .slice elems spare => uptoBulkAll elems + uptoBulkAll spare + 1
  | .agg parts => uptoBulkAll parts + 1
  | .iface _ d => uptoBulk d + 1
  | .map entries => uptoBulkEntries entries + 1
  | .held _ => 1
def uptoBulkAll {H : Type} : List (DataW H) → Nat
  | [] => 0
  | d :: r => uptoBulk d + uptoBulkAll r
def uptoBulkEntries {H : Type} : List (Lit × DataW H) → Nat
  | [] => 0
  | x :: r => uptoBulkEntry x + uptoBulkEntries r
def uptoBulkEntry {H : Type} : Lit × DataW H → Nat
  | (.string bytes, d) => bytes.length + uptoBulk d + 1
  | (_, d) => uptoBulk d + 1
 end
def uptoSmall : (H : Type) → List (DataW H) → Bool := fun _ ds => decide (uptoBulkAll ds ≤ 1048576)
def OpenSpec.upto (s : _root_.Go.ChangeSpec) : _root_.Go.OpenSpec := { _root_.Go.OpenSpec.ofChange s with cond := some uptoSmall }

/-- 'laws.FnExactChainReach', WHERE WHAT IT READS IS OF BULK AT MOST 1048576: true; the input reads as it did. -/
def fnExactChainReachUptoRow : OpenClaim := { program := "ytkeamefifjmabaa", sum := "efaf5766d153d80ddf88a2cf8c965e3294a54bee5372480a0b0ad9a388acb68e", func := "loop.example/g01091/laws.FnExactChainReach", spec := "fnExactChainReach", plainKeys := false, apart := false, narrowed := true }
def FnExactChainReachUptoSaid : Prop := fnExactChainReachUptoRow.holds Try.pinned (OpenSpec.upto fnExactChainReachSpec)

/-- 'laws.FnExactValidWeights', WHERE WHAT IT READS IS OF BULK AT MOST 1048576: true; the input reads as it did. -/
def fnExactValidWeightsUptoRow : OpenClaim := { program := "ytkeamefifjmabaa", sum := "efaf5766d153d80ddf88a2cf8c965e3294a54bee5372480a0b0ad9a388acb68e", func := "loop.example/g01091/laws.FnExactValidWeights", spec := "fnExactValidWeights", unfollowed := true, recurses := true, plainKeys := false, apart := false, narrowed := true }
def FnExactValidWeightsUptoSaid : Prop := fnExactValidWeightsUptoRow.holds Try.pinned (OpenSpec.upto fnExactValidWeightsSpec)

/-- 'laws.FnExactRepeatsNeeded', WHERE WHAT IT READS IS OF BULK AT MOST 1048576: true; the input reads as it did. -/
def fnExactRepeatsNeededUptoRow : OpenClaim := { program := "ytkeamefifjmabaa", sum := "efaf5766d153d80ddf88a2cf8c965e3294a54bee5372480a0b0ad9a388acb68e", func := "loop.example/g01091/laws.FnExactRepeatsNeeded", spec := "fnExactRepeatsNeeded", plainKeys := false, apart := false, narrowed := true }
def FnExactRepeatsNeededUptoSaid : Prop := fnExactRepeatsNeededUptoRow.holds Try.pinned (OpenSpec.upto fnExactRepeatsNeededSpec)

/-- 'laws.FnExactFormulaCost', WHERE WHAT IT READS IS OF BULK AT MOST 1048576: true; the input reads as it did. -/
def fnExactFormulaCostUptoRow : OpenClaim := { program := "ytkeamefifjmabaa", sum := "efaf5766d153d80ddf88a2cf8c965e3294a54bee5372480a0b0ad9a388acb68e", func := "loop.example/g01091/laws.FnExactFormulaCost", spec := "fnExactFormulaCost", plainKeys := false, apart := false, narrowed := true }
def FnExactFormulaCostUptoSaid : Prop := fnExactFormulaCostUptoRow.holds Try.pinned (OpenSpec.upto fnExactFormulaCostSpec)

/-- 'laws.FnExactValidSchedule', WHERE WHAT IT READS IS OF BULK AT MOST 1048576: true; the input reads as it did. -/
def fnExactValidScheduleUptoRow : OpenClaim := { program := "ytkeamefifjmabaa", sum := "efaf5766d153d80ddf88a2cf8c965e3294a54bee5372480a0b0ad9a388acb68e", func := "loop.example/g01091/laws.FnExactValidSchedule", spec := "fnExactValidSchedule", unfollowed := true, recurses := true, plainKeys := false, apart := false, narrowed := true }
def FnExactValidScheduleUptoSaid : Prop := fnExactValidScheduleUptoRow.holds Try.pinned (OpenSpec.upto fnExactValidScheduleSpec)

/-- 'laws.FnExactLeastCost', WHERE WHAT IT READS IS OF BULK AT MOST 1048576: true; the input reads as it did. -/
def fnExactLeastCostUptoRow : OpenClaim := { program := "ytkeamefifjmabaa", sum := "efaf5766d153d80ddf88a2cf8c965e3294a54bee5372480a0b0ad9a388acb68e", func := "loop.example/g01091/laws.FnExactLeastCost", spec := "fnExactLeastCost", unfollowed := true, recurses := true, plainKeys := false, apart := false, narrowed := true }
def FnExactLeastCostUptoSaid : Prop := fnExactLeastCostUptoRow.holds Try.pinned (OpenSpec.upto fnExactLeastCostSpec)

/-- 'laws.FnExactLeastSlots', WHERE WHAT IT READS IS OF BULK AT MOST 1048576: true; the input reads as it did. -/
def fnExactLeastSlotsUptoRow : OpenClaim := { program := "ytkeamefifjmabaa", sum := "efaf5766d153d80ddf88a2cf8c965e3294a54bee5372480a0b0ad9a388acb68e", func := "loop.example/g01091/laws.FnExactLeastSlots", spec := "fnExactLeastSlots", unfollowed := true, recurses := true, plainKeys := false, apart := false, narrowed := true }
def FnExactLeastSlotsUptoSaid : Prop := fnExactLeastSlotsUptoRow.holds Try.pinned (OpenSpec.upto fnExactLeastSlotsSpec)

/-- 'laws.FnExactSplitOf', WHERE WHAT IT READS IS OF BULK AT MOST 1048576: true; the input reads as it did. -/
def fnExactSplitOfUptoRow : OpenClaim := { program := "ytkeamefifjmabaa", sum := "efaf5766d153d80ddf88a2cf8c965e3294a54bee5372480a0b0ad9a388acb68e", func := "loop.example/g01091/laws.FnExactSplitOf", spec := "fnExactSplitOf", unfollowed := true, recurses := true, plainKeys := false, apart := false, narrowed := true }
def FnExactSplitOfUptoSaid : Prop := fnExactSplitOfUptoRow.holds Try.pinned (OpenSpec.upto fnExactSplitOfSpec)

/-- 'laws.FnExactFirstBadAction', WHERE WHAT IT READS IS OF BULK AT MOST 1048576: true; the input reads as it did. -/
def fnExactFirstBadActionUptoRow : OpenClaim := { program := "ytkeamefifjmabaa", sum := "efaf5766d153d80ddf88a2cf8c965e3294a54bee5372480a0b0ad9a388acb68e", func := "loop.example/g01091/laws.FnExactFirstBadAction", spec := "fnExactFirstBadAction", unfollowed := true, recurses := true, plainKeys := false, apart := false, narrowed := true }
def FnExactFirstBadActionUptoSaid : Prop := fnExactFirstBadActionUptoRow.holds Try.pinned (OpenSpec.upto fnExactFirstBadActionSpec)

/-- 'laws.FnExactBestSchedule', WHERE WHAT IT READS IS OF BULK AT MOST 1048576: true; the input reads as it did. -/
def fnExactBestScheduleUptoRow : OpenClaim := { program := "ytkeamefifjmabaa", sum := "efaf5766d153d80ddf88a2cf8c965e3294a54bee5372480a0b0ad9a388acb68e", func := "loop.example/g01091/laws.FnExactBestSchedule", spec := "fnExactBestSchedule", unfollowed := true, recurses := true, plainKeys := false, apart := false, narrowed := true }
def FnExactBestScheduleUptoSaid : Prop := fnExactBestScheduleUptoRow.holds Try.pinned (OpenSpec.upto fnExactBestScheduleSpec)

/-- 'laws.FnExactAdvancesOf', WHERE WHAT IT READS IS OF BULK AT MOST 1048576: true; the input reads as it did. -/
def fnExactAdvancesOfUptoRow : OpenClaim := { program := "ytkeamefifjmabaa", sum := "efaf5766d153d80ddf88a2cf8c965e3294a54bee5372480a0b0ad9a388acb68e", func := "loop.example/g01091/laws.FnExactAdvancesOf", spec := "fnExactAdvancesOf", unfollowed := true, recurses := true, plainKeys := false, apart := false, narrowed := true }
def FnExactAdvancesOfUptoSaid : Prop := fnExactAdvancesOfUptoRow.holds Try.pinned (OpenSpec.upto fnExactAdvancesOfSpec)

/-- 'laws.FnExactRunSchedule', WHERE WHAT IT READS IS OF BULK AT MOST 1048576: true; the input reads as it did. -/
def fnExactRunScheduleUptoRow : OpenClaim := { program := "ytkeamefifjmabaa", sum := "efaf5766d153d80ddf88a2cf8c965e3294a54bee5372480a0b0ad9a388acb68e", func := "loop.example/g01091/laws.FnExactRunSchedule", spec := "fnExactRunSchedule", unfollowed := true, recurses := true, plainKeys := false, apart := false, narrowed := true }
def FnExactRunScheduleUptoSaid : Prop := fnExactRunScheduleUptoRow.holds Try.pinned (OpenSpec.upto fnExactRunScheduleSpec)

end Rows
end Go.Proofs.Ytkeamefifjmabaa
