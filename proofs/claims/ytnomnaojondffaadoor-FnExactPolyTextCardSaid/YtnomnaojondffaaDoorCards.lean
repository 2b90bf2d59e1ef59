/-
  DERIVED. GIVEN WITH THE SEED: THE CARDS: each row of YtnomnaojondffaaDoorRows.lean that lists a variable, with what it lists TIED to the program's text (the seventh form; the later family's looks); each row that meets fmt, with fmt's text TOLD by the authors' own Lean function (tested against real Go, not proved from fmt's source: count such statements apart). THE CARD IS WHAT COUNTS. Prove the row's statement (the work); the ties are given (YtnomnaojondffaaDoorTie.lean); close each card by the builder's one call (the guide's Derived/Test/ToyasCard.lean, 'card_holds'). Laid BY PROGRAM, IN A SANDBOX (cutbox-door.mjs). By AI agents, Wed Nov 11 2026. No macro, syntax, notation, axiom, sorry.
-/
import Derived.Test.YtnomnaojondffaaDoorRows
import GoSem.ClaimSeven
namespace Go.Proofs.YtnomnaojondffaaDoor
namespace Rows

/-- THE TIED CARD OF 'laws.FnExactPolyText'. -/
def fnExactPolyTextCard : Claim7 := { stood := { row := fnExactPolyTextRow, standIns := [], harness := (true, "79024162635f051b238da0ce902b38e344c3cc48fa7c50b07cda45243c232eba"), looks := false }, kinds := [], alts := [], laidByText := true, laidKinds := [.data, .data, .data], laidTests := true, laidLooks := .later }
def FnExactPolyTextCardSaid : Prop := Claim7.holds Tryd.pinned (.plain (OpenSpec.ofChange fnExactPolyTextSpec)) fnExactPolyTextCard

/-- THE TIED CARD OF 'laws.FnExactDerivedProgram'. -/
def fnExactDerivedProgramCard : Claim7 := { stood := { row := fnExactDerivedProgramRow, standIns := [], harness := (true, "79024162635f051b238da0ce902b38e344c3cc48fa7c50b07cda45243c232eba"), looks := false }, kinds := [], alts := [], laidByText := true, laidKinds := [.data, .data, .data], laidTests := true, laidLooks := .later }
def FnExactDerivedProgramCardSaid : Prop := Claim7.holds Tryd.pinned (.plain (OpenSpec.ofChange fnExactDerivedProgramSpec)) fnExactDerivedProgramCard

/-- THE SECOND FORM's CARD OF 'laws.FnExactPolyText'. -/
def fnExactPolyTextUptoCard : Claim7 := { stood := { row := fnExactPolyTextUptoRow, standIns := [], harness := (true, "79024162635f051b238da0ce902b38e344c3cc48fa7c50b07cda45243c232eba"), looks := false }, kinds := [], alts := [], laidByText := true, laidKinds := [.data, .data, .data], laidTests := true, laidLooks := .later }
def FnExactPolyTextUptoCardSaid : Prop := Claim7.holds Tryd.pinned (.plain (OpenSpec.upto fnExactPolyTextSpec)) fnExactPolyTextUptoCard

/-- THE SECOND FORM's CARD OF 'laws.FnExactDerivedProgram'. -/
def fnExactDerivedProgramUptoCard : Claim7 := { stood := { row := fnExactDerivedProgramUptoRow, standIns := [], harness := (true, "79024162635f051b238da0ce902b38e344c3cc48fa7c50b07cda45243c232eba"), looks := false }, kinds := [], alts := [], laidByText := true, laidKinds := [.data, .data, .data], laidTests := true, laidLooks := .later }
def FnExactDerivedProgramUptoCardSaid : Prop := Claim7.holds Tryd.pinned (.plain (OpenSpec.upto fnExactDerivedProgramSpec)) fnExactDerivedProgramUptoCard
end Rows
end Go.Proofs.YtnomnaojondffaaDoor
