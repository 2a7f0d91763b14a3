/-
  DERIVED. GIVEN WITH THE SEED: THE CARDS: each row of YtojfkhhebedeoaaGreatDoorRows.lean that lists a variable, with what it lists TIED to the program's text (the seventh form; the later family's looks); each row that meets fmt, with fmt's text TOLD by the authors' own Lean function (tested against real Go, not proved from fmt's source: count such statements apart). THE CARD IS WHAT COUNTS. Prove the row's statement (the work); the ties are given (YtojfkhhebedeoaaGreatDoorTie.lean); close each card by the builder's one call (the guide's Derived/Test/ToyasCard.lean, 'card_holds'). Laid BY PROGRAM, IN A SANDBOX (cutbox-door.mjs). By AI agents, Wed Nov 11 2026. No macro, syntax, notation, axiom, sorry.
-/
import Derived.Test.YtojfkhhebedeoaaGreatDoorRows
import GoSem.ClaimSeven
namespace Go.Proofs.YtojfkhhebedeoaaGreatDoor
namespace Rows

/-- THE TIED CARD OF 'exegesislaw21.LiftOther'. -/
def liftOtherCard : Claim7 := { stood := { row := liftOtherRow, standIns := [], harness := (true, "5acf0c00c780efbfef1d6ad8e2b5557ba5bdb235ef53edd9c656ebaea9f05b9f"), looks := true }, kinds := [], alts := [], laidByText := true, laidKinds := [.data, .data, .data, .data, .sentinel, .sentinel, .pinned], laidTests := true, laidLooks := .later }
def LiftOtherCardSaid : Prop := Claim7.holds Tryz.pinned (.plain (OpenSpec.ofChange liftOtherSpec)) liftOtherCard

/-- THE SECOND FORM's CARD OF 'exegesislaw21.LiftOther'. -/
def liftOtherUptoCard : Claim7 := { stood := { row := liftOtherUptoRow, standIns := [], harness := (true, "5acf0c00c780efbfef1d6ad8e2b5557ba5bdb235ef53edd9c656ebaea9f05b9f"), looks := true }, kinds := [], alts := [], laidByText := true, laidKinds := [.data, .data, .data, .data, .sentinel, .sentinel, .pinned], laidTests := true, laidLooks := .later }
def LiftOtherUptoCardSaid : Prop := Claim7.holds Tryz.pinned (.plain (OpenSpec.upto liftOtherSpec)) liftOtherUptoCard
end Rows
end Go.Proofs.YtojfkhhebedeoaaGreatDoor
