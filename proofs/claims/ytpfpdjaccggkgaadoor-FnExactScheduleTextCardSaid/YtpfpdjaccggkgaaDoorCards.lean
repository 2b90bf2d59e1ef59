/-
  DERIVED. GIVEN WITH THE SEED: THE CARDS: each row of YtpfpdjaccggkgaaDoorRows.lean that lists a variable, with what it lists TIED to the program's text (the seventh form; the later family's looks); each row that meets fmt, with fmt's text TOLD by the authors' own Lean function (tested against real Go, not proved from fmt's source: count such statements apart). THE CARD IS WHAT COUNTS. Prove the row's statement (the work); the ties are given (YtpfpdjaccggkgaaDoorTie.lean); close each card by the builder's one call (the guide's Derived/Test/ToyasCard.lean, 'card_holds'). Laid BY PROGRAM, IN A SANDBOX (cutbox-door.mjs). By AI agents, Wed Nov 11 2026. No macro, syntax, notation, axiom, sorry.
-/
import Derived.Test.YtpfpdjaccggkgaaDoorRows
import GoSem.ClaimSeven
namespace Go.Proofs.YtpfpdjaccggkgaaDoor
namespace Rows

/-- THE TIED CARD OF 'laws.FnExactScheduleText'. -/
def fnExactScheduleTextCard : Claim7 := { stood := { row := fnExactScheduleTextRow, standIns := [], harness := (true, "d6508e6b076bc21973ae381bf1ca3b7919f9c59ba44bba703a717e7a75b82835"), looks := false }, kinds := [], alts := [], laidByText := true, laidKinds := [.data, .data, .data], laidTests := true, laidLooks := .later }
def FnExactScheduleTextCardSaid : Prop := Claim7.holds Tryd.pinned (.plain (OpenSpec.ofChange fnExactScheduleTextSpec)) fnExactScheduleTextCard

/-- THE SECOND FORM's CARD OF 'laws.FnExactScheduleText'. -/
def fnExactScheduleTextUptoCard : Claim7 := { stood := { row := fnExactScheduleTextUptoRow, standIns := [], harness := (true, "d6508e6b076bc21973ae381bf1ca3b7919f9c59ba44bba703a717e7a75b82835"), looks := false }, kinds := [], alts := [], laidByText := true, laidKinds := [.data, .data, .data], laidTests := true, laidLooks := .later }
def FnExactScheduleTextUptoCardSaid : Prop := Claim7.holds Tryd.pinned (.plain (OpenSpec.upto fnExactScheduleTextSpec)) fnExactScheduleTextUptoCard
end Rows
end Go.Proofs.YtpfpdjaccggkgaaDoor
