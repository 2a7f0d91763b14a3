/-
  DERIVED. GIVEN WITH THE SEED: THE CARDS: each row of YtccacodlhpoegaaDoorRows.lean that lists a variable, with what it lists TIED to the program's text (the seventh form; the later family's looks); each row that meets fmt, with fmt's text TOLD by the authors' own Lean function (tested against real Go, not proved from fmt's source: count such statements apart). THE CARD IS WHAT COUNTS. Prove the row's statement (the work); the ties are given (YtccacodlhpoegaaDoorTie.lean); close each card by the builder's one call (the guide's Derived/Test/ToyasCard.lean, 'card_holds'). Laid BY PROGRAM, IN A SANDBOX (cutbox-door.mjs). By AI agents, Wed Nov 11 2026. No macro, syntax, notation, axiom, sorry.
-/
import Derived.Test.YtccacodlhpoegaaDoorRows
import GoSem.ClaimSeven
namespace Go.Proofs.YtccacodlhpoegaaDoor
namespace Rows

/-- THE TIED CARD OF 'exegesislaw25.CertWrong'. -/
def certWrongCard : Claim7 := { stood := { row := certWrongRow, standIns := [], harness := (true, "9f00a5530d10507a27fdc7b14ef5aefba05c3b218256ca6db31fd897f7c044e9"), looks := true }, kinds := [], alts := [], laidByText := true, laidKinds := [.data, .data, .data, .data, .sentinel, .sentinel, .pinned], laidTests := true, laidLooks := .later }
def CertWrongCardSaid : Prop := Claim7.holds Tryd.pinned (.plain (OpenSpec.ofChange certWrongSpec)) certWrongCard

/-- THE SECOND FORM's CARD OF 'exegesislaw25.CertWrong'. -/
def certWrongUptoCard : Claim7 := { stood := { row := certWrongUptoRow, standIns := [], harness := (true, "9f00a5530d10507a27fdc7b14ef5aefba05c3b218256ca6db31fd897f7c044e9"), looks := true }, kinds := [], alts := [], laidByText := true, laidKinds := [.data, .data, .data, .data, .sentinel, .sentinel, .pinned], laidTests := true, laidLooks := .later }
def CertWrongUptoCardSaid : Prop := Claim7.holds Tryd.pinned (.plain (OpenSpec.upto certWrongSpec)) certWrongUptoCard
end Rows
end Go.Proofs.YtccacodlhpoegaaDoor
