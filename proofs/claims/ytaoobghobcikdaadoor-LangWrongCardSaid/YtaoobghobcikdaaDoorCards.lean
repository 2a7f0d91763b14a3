/-
  DERIVED. GIVEN WITH THE SEED: THE CARDS: each row of YtaoobghobcikdaaDoorRows.lean that lists a variable, with what it lists TIED to the program's text (the seventh form; the later family's looks); each row that meets fmt, with fmt's text TOLD by the authors' own Lean function (tested against real Go, not proved from fmt's source: count such statements apart). THE CARD IS WHAT COUNTS. Prove the row's statement (the work); the ties are given (YtaoobghobcikdaaDoorTie.lean); close each card by the builder's one call (the guide's Derived/Test/ToyasCard.lean, 'card_holds'). Laid BY PROGRAM, IN A SANDBOX (cutbox-door.mjs). By AI agents, Wed Nov 11 2026. No macro, syntax, notation, axiom, sorry.
-/
import Derived.Test.YtaoobghobcikdaaDoorRows
import GoSem.ClaimSeven
namespace Go.Proofs.YtaoobghobcikdaaDoor
namespace Rows

/-- THE TIED CARD OF 'exegesislaw03.LangHeads'. -/
def langHeadsCard : Claim7 := { stood := { row := langHeadsRow, standIns := [], harness := (true, "d6d276cfc6237c9f7700c8bf89ad3ecce0fc0063671583ea7427d5d7d7f34ce2"), looks := true }, kinds := [], alts := [], laidByText := true, laidKinds := [.data, .data, .data, .data, .sentinel, .sentinel, .pinned], laidTests := true, laidLooks := .later }
def LangHeadsCardSaid : Prop := Claim7.holds Tryd.pinned (.plain (OpenSpec.ofChange langHeadsSpec)) langHeadsCard

/-- THE TIED CARD OF 'exegesislaw03.LangWrong'. -/
def langWrongCard : Claim7 := { stood := { row := langWrongRow, standIns := [], harness := (true, "d6d276cfc6237c9f7700c8bf89ad3ecce0fc0063671583ea7427d5d7d7f34ce2"), looks := true }, kinds := [], alts := [], laidByText := true, laidKinds := [.data, .data, .data, .data, .sentinel, .sentinel, .pinned], laidTests := true, laidLooks := .later }
def LangWrongCardSaid : Prop := Claim7.holds Tryd.pinned (.plain (OpenSpec.ofChange langWrongSpec)) langWrongCard

/-- THE TIED CARD OF 'exegesislaw15.AsmPairs'. -/
def asmPairsCard : Claim7 := { stood := { row := asmPairsRow, standIns := [], harness := (true, "d6d276cfc6237c9f7700c8bf89ad3ecce0fc0063671583ea7427d5d7d7f34ce2"), looks := true }, kinds := [], alts := [], laidByText := true, laidKinds := [.data, .data, .data, .data, .sentinel, .sentinel, .pinned], laidTests := true, laidLooks := .later }
def AsmPairsCardSaid : Prop := Claim7.holds Tryd.pinned (.plain (OpenSpec.ofChange asmPairsSpec)) asmPairsCard

/-- THE TIED CARD OF 'exegesislaw15.AsmBounds'. -/
def asmBoundsCard : Claim7 := { stood := { row := asmBoundsRow, standIns := [], harness := (true, "d6d276cfc6237c9f7700c8bf89ad3ecce0fc0063671583ea7427d5d7d7f34ce2"), looks := true }, kinds := [], alts := [], laidByText := true, laidKinds := [.data, .data, .data, .data, .sentinel, .sentinel, .pinned], laidTests := true, laidLooks := .later }
def AsmBoundsCardSaid : Prop := Claim7.holds Tryd.pinned (.plain (OpenSpec.ofChange asmBoundsSpec)) asmBoundsCard

/-- THE TIED CARD OF 'exegesislaw25.CertWrong'. -/
def certWrongCard : Claim7 := { stood := { row := certWrongRow, standIns := [], harness := (true, "d6d276cfc6237c9f7700c8bf89ad3ecce0fc0063671583ea7427d5d7d7f34ce2"), looks := true }, kinds := [], alts := [], laidByText := true, laidKinds := [.data, .data, .data, .data, .sentinel, .sentinel, .pinned], laidTests := true, laidLooks := .later }
def CertWrongCardSaid : Prop := Claim7.holds Tryd.pinned (.plain (OpenSpec.ofChange certWrongSpec)) certWrongCard

/-- THE SECOND FORM's CARD OF 'exegesislaw03.LangHeads'. -/
def langHeadsUptoCard : Claim7 := { stood := { row := langHeadsUptoRow, standIns := [], harness := (true, "d6d276cfc6237c9f7700c8bf89ad3ecce0fc0063671583ea7427d5d7d7f34ce2"), looks := true }, kinds := [], alts := [], laidByText := true, laidKinds := [.data, .data, .data, .data, .sentinel, .sentinel, .pinned], laidTests := true, laidLooks := .later }
def LangHeadsUptoCardSaid : Prop := Claim7.holds Tryd.pinned (.plain (OpenSpec.upto langHeadsSpec)) langHeadsUptoCard

/-- THE SECOND FORM's CARD OF 'exegesislaw03.LangWrong'. -/
def langWrongUptoCard : Claim7 := { stood := { row := langWrongUptoRow, standIns := [], harness := (true, "d6d276cfc6237c9f7700c8bf89ad3ecce0fc0063671583ea7427d5d7d7f34ce2"), looks := true }, kinds := [], alts := [], laidByText := true, laidKinds := [.data, .data, .data, .data, .sentinel, .sentinel, .pinned], laidTests := true, laidLooks := .later }
def LangWrongUptoCardSaid : Prop := Claim7.holds Tryd.pinned (.plain (OpenSpec.upto langWrongSpec)) langWrongUptoCard

/-- THE SECOND FORM's CARD OF 'exegesislaw15.AsmPairs'. -/
def asmPairsUptoCard : Claim7 := { stood := { row := asmPairsUptoRow, standIns := [], harness := (true, "d6d276cfc6237c9f7700c8bf89ad3ecce0fc0063671583ea7427d5d7d7f34ce2"), looks := true }, kinds := [], alts := [], laidByText := true, laidKinds := [.data, .data, .data, .data, .sentinel, .sentinel, .pinned], laidTests := true, laidLooks := .later }
def AsmPairsUptoCardSaid : Prop := Claim7.holds Tryd.pinned (.plain (OpenSpec.upto asmPairsSpec)) asmPairsUptoCard

/-- THE SECOND FORM's CARD OF 'exegesislaw15.AsmBounds'. -/
def asmBoundsUptoCard : Claim7 := { stood := { row := asmBoundsUptoRow, standIns := [], harness := (true, "d6d276cfc6237c9f7700c8bf89ad3ecce0fc0063671583ea7427d5d7d7f34ce2"), looks := true }, kinds := [], alts := [], laidByText := true, laidKinds := [.data, .data, .data, .data, .sentinel, .sentinel, .pinned], laidTests := true, laidLooks := .later }
def AsmBoundsUptoCardSaid : Prop := Claim7.holds Tryd.pinned (.plain (OpenSpec.upto asmBoundsSpec)) asmBoundsUptoCard

/-- THE SECOND FORM's CARD OF 'exegesislaw25.CertWrong'. -/
def certWrongUptoCard : Claim7 := { stood := { row := certWrongUptoRow, standIns := [], harness := (true, "d6d276cfc6237c9f7700c8bf89ad3ecce0fc0063671583ea7427d5d7d7f34ce2"), looks := true }, kinds := [], alts := [], laidByText := true, laidKinds := [.data, .data, .data, .data, .sentinel, .sentinel, .pinned], laidTests := true, laidLooks := .later }
def CertWrongUptoCardSaid : Prop := Claim7.holds Tryd.pinned (.plain (OpenSpec.upto certWrongSpec)) certWrongUptoCard
end Rows
end Go.Proofs.YtaoobghobcikdaaDoor
