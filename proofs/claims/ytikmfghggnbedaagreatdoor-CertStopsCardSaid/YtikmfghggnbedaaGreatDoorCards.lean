/-
  DERIVED. GIVEN WITH THE SEED: THE CARDS: each row of YtikmfghggnbedaaGreatDoorRows.lean that lists a variable, with what it lists TIED to the program's text (the seventh form; the later family's looks); each row that meets fmt, with fmt's text TOLD by the authors' own Lean function (tested against real Go, not proved from fmt's source: count such statements apart). THE CARD IS WHAT COUNTS. Prove the row's statement (the work); the ties are given (YtikmfghggnbedaaGreatDoorTie.lean); close each card by the builder's one call (the guide's Derived/Test/ToyasCard.lean, 'card_holds'). Laid BY PROGRAM, IN A SANDBOX (cutbox-door.mjs). By AI agents, Wed Nov 11 2026. No macro, syntax, notation, axiom, sorry.
-/
import Derived.Test.YtikmfghggnbedaaGreatDoorRows
import GoSem.ClaimSeven
namespace Go.Proofs.YtikmfghggnbedaaGreatDoor
namespace Rows

/-- THE TIED CARD OF 'exegesislaw25.CertStops'. -/
def certStopsCard : Claim7 := { stood := { row := certStopsRow, standIns := [], harness := (true, "cbf7c079414e6bedaf83a3483737e7fe25671566cb2484bed902f57a59615017"), looks := true }, kinds := [], alts := [], laidByText := true, laidKinds := [.data, .data, .data, .data, .sentinel, .sentinel, .pinned], laidTests := true, laidLooks := .later }
def CertStopsCardSaid : Prop := Claim7.holds Tryz.pinned (.plain (OpenSpec.ofChange certStopsSpec)) certStopsCard

/-- THE SECOND FORM's CARD OF 'exegesislaw25.CertStops'. -/
def certStopsUptoCard : Claim7 := { stood := { row := certStopsUptoRow, standIns := [], harness := (true, "cbf7c079414e6bedaf83a3483737e7fe25671566cb2484bed902f57a59615017"), looks := true }, kinds := [], alts := [], laidByText := true, laidKinds := [.data, .data, .data, .data, .sentinel, .sentinel, .pinned], laidTests := true, laidLooks := .later }
def CertStopsUptoCardSaid : Prop := Claim7.holds Tryz.pinned (.plain (OpenSpec.upto certStopsSpec)) certStopsUptoCard
end Rows
end Go.Proofs.YtikmfghggnbedaaGreatDoor
