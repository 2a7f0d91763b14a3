/-
  DERIVED. GIVEN WITH THE SEED: THE CARDS: each row of YtheojbhaajbecaaGreatDoorRows.lean that lists a variable, with what it lists TIED to the program's text (the seventh form; the later family's looks); each row that meets fmt, with fmt's text TOLD by the authors' own Lean function (tested against real Go, not proved from fmt's source: count such statements apart). THE CARD IS WHAT COUNTS. Prove the row's statement (the work); the ties are given (YtheojbhaajbecaaGreatDoorTie.lean); close each card by the builder's one call (the guide's Derived/Test/ToyasCard.lean, 'card_holds'). Laid BY PROGRAM, IN A SANDBOX (cutbox-door.mjs). By AI agents, Wed Nov 11 2026. No macro, syntax, notation, axiom, sorry.
-/
import Derived.Test.YtheojbhaajbecaaGreatDoorRows
import GoSem.ClaimSeven
namespace Go.Proofs.YtheojbhaajbecaaGreatDoor
namespace Rows

/-- THE TIED CARD OF 'exegesislaw18.PgraphCounts'. -/
def pgraphCountsCard : Claim7 := { stood := { row := pgraphCountsRow, standIns := [], harness := (true, "f63e674a9ad6fd4bc4b7b27398d1c6bf916a5805313cff1b67a7850ff080a396"), looks := true }, kinds := [], alts := [], laidByText := true, laidKinds := [.data, .data, .data, .data, .sentinel, .sentinel, .pinned], laidTests := true, laidLooks := .later }
def PgraphCountsCardSaid : Prop := Claim7.holds Tryz.pinned (.plain (OpenSpec.ofChange pgraphCountsSpec)) pgraphCountsCard

/-- THE TIED CARD OF 'exegesislaw18.PgraphWrong'. -/
def pgraphWrongCard : Claim7 := { stood := { row := pgraphWrongRow, standIns := [], harness := (true, "f63e674a9ad6fd4bc4b7b27398d1c6bf916a5805313cff1b67a7850ff080a396"), looks := true }, kinds := [], alts := [], laidByText := true, laidKinds := [.data, .data, .data, .data, .sentinel, .sentinel, .pinned], laidTests := true, laidLooks := .later }
def PgraphWrongCardSaid : Prop := Claim7.holds Tryz.pinned (.plain (OpenSpec.ofChange pgraphWrongSpec)) pgraphWrongCard

/-- THE TIED CARD OF 'exegesislaw21.LiftOther'. -/
def liftOtherCard : Claim7 := { stood := { row := liftOtherRow, standIns := [], harness := (true, "f63e674a9ad6fd4bc4b7b27398d1c6bf916a5805313cff1b67a7850ff080a396"), looks := true }, kinds := [], alts := [], laidByText := true, laidKinds := [.data, .data, .data, .data, .sentinel, .sentinel, .pinned], laidTests := true, laidLooks := .later }
def LiftOtherCardSaid : Prop := Claim7.holds Tryz.pinned (.plain (OpenSpec.ofChange liftOtherSpec)) liftOtherCard

/-- THE TIED CARD OF 'exegesislaw27.DriveFolds'. -/
def driveFoldsCard : Claim7 := { stood := { row := driveFoldsRow, standIns := [], harness := (true, "f63e674a9ad6fd4bc4b7b27398d1c6bf916a5805313cff1b67a7850ff080a396"), looks := true }, kinds := [], alts := [], laidByText := true, laidKinds := [.data, .data, .data, .data, .handle, .sentinel, .sentinel, .pinned], laidTests := true, laidLooks := .later }
def DriveFoldsCardSaid : Prop := Claim7.holds Tryz.pinned (.plain (OpenSpec.ofChange driveFoldsSpec)) driveFoldsCard

/-- THE SECOND FORM's CARD OF 'exegesislaw18.PgraphCounts'. -/
def pgraphCountsUptoCard : Claim7 := { stood := { row := pgraphCountsUptoRow, standIns := [], harness := (true, "f63e674a9ad6fd4bc4b7b27398d1c6bf916a5805313cff1b67a7850ff080a396"), looks := true }, kinds := [], alts := [], laidByText := true, laidKinds := [.data, .data, .data, .data, .sentinel, .sentinel, .pinned], laidTests := true, laidLooks := .later }
def PgraphCountsUptoCardSaid : Prop := Claim7.holds Tryz.pinned (.plain (OpenSpec.upto pgraphCountsSpec)) pgraphCountsUptoCard

/-- THE SECOND FORM's CARD OF 'exegesislaw18.PgraphWrong'. -/
def pgraphWrongUptoCard : Claim7 := { stood := { row := pgraphWrongUptoRow, standIns := [], harness := (true, "f63e674a9ad6fd4bc4b7b27398d1c6bf916a5805313cff1b67a7850ff080a396"), looks := true }, kinds := [], alts := [], laidByText := true, laidKinds := [.data, .data, .data, .data, .sentinel, .sentinel, .pinned], laidTests := true, laidLooks := .later }
def PgraphWrongUptoCardSaid : Prop := Claim7.holds Tryz.pinned (.plain (OpenSpec.upto pgraphWrongSpec)) pgraphWrongUptoCard

/-- THE SECOND FORM's CARD OF 'exegesislaw21.LiftOther'. -/
def liftOtherUptoCard : Claim7 := { stood := { row := liftOtherUptoRow, standIns := [], harness := (true, "f63e674a9ad6fd4bc4b7b27398d1c6bf916a5805313cff1b67a7850ff080a396"), looks := true }, kinds := [], alts := [], laidByText := true, laidKinds := [.data, .data, .data, .data, .sentinel, .sentinel, .pinned], laidTests := true, laidLooks := .later }
def LiftOtherUptoCardSaid : Prop := Claim7.holds Tryz.pinned (.plain (OpenSpec.upto liftOtherSpec)) liftOtherUptoCard

/-- THE SECOND FORM's CARD OF 'exegesislaw27.DriveFolds'. -/
def driveFoldsUptoCard : Claim7 := { stood := { row := driveFoldsUptoRow, standIns := [], harness := (true, "f63e674a9ad6fd4bc4b7b27398d1c6bf916a5805313cff1b67a7850ff080a396"), looks := true }, kinds := [], alts := [], laidByText := true, laidKinds := [.data, .data, .data, .data, .handle, .sentinel, .sentinel, .pinned], laidTests := true, laidLooks := .later }
def DriveFoldsUptoCardSaid : Prop := Claim7.holds Tryz.pinned (.plain (OpenSpec.upto driveFoldsSpec)) driveFoldsUptoCard
end Rows
end Go.Proofs.YtheojbhaajbecaaGreatDoor
