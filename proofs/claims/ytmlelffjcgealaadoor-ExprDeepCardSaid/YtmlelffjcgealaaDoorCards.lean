/-
  DERIVED. GIVEN WITH THE SEED: THE CARDS: each row of YtmlelffjcgealaaDoorRows.lean that lists a variable, with what it lists TIED to the program's text (the seventh form; the later family's looks); each row that meets fmt, with fmt's text TOLD by the authors' own Lean function (tested against real Go, not proved from fmt's source: count such statements apart). THE CARD IS WHAT COUNTS. Prove the row's statement (the work); the ties are given (YtmlelffjcgealaaDoorTie.lean); close each card by the builder's one call (the guide's Derived/Test/ToyasCard.lean, 'card_holds'). Laid BY PROGRAM, IN A SANDBOX (cutbox-door.mjs). By AI agents, Wed Nov 11 2026. No macro, syntax, notation, axiom, sorry.
-/
import Derived.Test.YtmlelffjcgealaaDoorRows
import GoSem.ClaimSeven
namespace Go.Proofs.YtmlelffjcgealaaDoor
namespace Rows

/-- THE TIED CARD OF 'exegesislaw02.ExprSums'. -/
def exprSumsCard : Claim7 := { stood := { row := exprSumsRow, standIns := [], harness := (true, "c2bc0b5c59ad5350aaa801052353832c42bcc929b63a55a67a3e0a52040c19e8"), looks := true }, kinds := [], alts := [], laidByText := true, laidKinds := [.data, .data, .data, .data, .sentinel, .sentinel, .pinned], laidTests := true, laidLooks := .later }
def ExprSumsCardSaid : Prop := Claim7.holds Tryd.pinned (.plain (OpenSpec.ofChange exprSumsSpec)) exprSumsCard

/-- THE TIED CARD OF 'exegesislaw02.ExprWrong'. -/
def exprWrongCard : Claim7 := { stood := { row := exprWrongRow, standIns := [], harness := (true, "c2bc0b5c59ad5350aaa801052353832c42bcc929b63a55a67a3e0a52040c19e8"), looks := true }, kinds := [], alts := [], laidByText := true, laidKinds := [.data, .data, .data, .data, .sentinel, .sentinel, .pinned], laidTests := true, laidLooks := .later }
def ExprWrongCardSaid : Prop := Claim7.holds Tryd.pinned (.plain (OpenSpec.ofChange exprWrongSpec)) exprWrongCard

/-- THE TIED CARD OF 'exegesislaw02.ExprDeep'. -/
def exprDeepCard : Claim7 := { stood := { row := exprDeepRow, standIns := [], harness := (true, "c2bc0b5c59ad5350aaa801052353832c42bcc929b63a55a67a3e0a52040c19e8"), looks := true }, kinds := [], alts := [], laidByText := true, laidKinds := [.data, .data, .data, .data, .sentinel, .sentinel, .pinned], laidTests := true, laidLooks := .later }
def ExprDeepCardSaid : Prop := Claim7.holds Tryd.pinned (.plain (OpenSpec.ofChange exprDeepSpec)) exprDeepCard

/-- THE SECOND FORM's CARD OF 'exegesislaw02.ExprSums'. -/
def exprSumsUptoCard : Claim7 := { stood := { row := exprSumsUptoRow, standIns := [], harness := (true, "c2bc0b5c59ad5350aaa801052353832c42bcc929b63a55a67a3e0a52040c19e8"), looks := true }, kinds := [], alts := [], laidByText := true, laidKinds := [.data, .data, .data, .data, .sentinel, .sentinel, .pinned], laidTests := true, laidLooks := .later }
def ExprSumsUptoCardSaid : Prop := Claim7.holds Tryd.pinned (.plain (OpenSpec.upto exprSumsSpec)) exprSumsUptoCard

/-- THE SECOND FORM's CARD OF 'exegesislaw02.ExprWrong'. -/
def exprWrongUptoCard : Claim7 := { stood := { row := exprWrongUptoRow, standIns := [], harness := (true, "c2bc0b5c59ad5350aaa801052353832c42bcc929b63a55a67a3e0a52040c19e8"), looks := true }, kinds := [], alts := [], laidByText := true, laidKinds := [.data, .data, .data, .data, .sentinel, .sentinel, .pinned], laidTests := true, laidLooks := .later }
def ExprWrongUptoCardSaid : Prop := Claim7.holds Tryd.pinned (.plain (OpenSpec.upto exprWrongSpec)) exprWrongUptoCard

/-- THE SECOND FORM's CARD OF 'exegesislaw02.ExprDeep'. -/
def exprDeepUptoCard : Claim7 := { stood := { row := exprDeepUptoRow, standIns := [], harness := (true, "c2bc0b5c59ad5350aaa801052353832c42bcc929b63a55a67a3e0a52040c19e8"), looks := true }, kinds := [], alts := [], laidByText := true, laidKinds := [.data, .data, .data, .data, .sentinel, .sentinel, .pinned], laidTests := true, laidLooks := .later }
def ExprDeepUptoCardSaid : Prop := Claim7.holds Tryd.pinned (.plain (OpenSpec.upto exprDeepSpec)) exprDeepUptoCard
end Rows
end Go.Proofs.YtmlelffjcgealaaDoor
