/- A text of the verified executor, of contracts, or of this law; joined and trimmed by a program of mine (wip/gen). -/
import Derived.Test.YthkipncmnefomaaXToldL
import Derived.Test.YthkipncmnefomaaXRowM
set_option linter.unusedVariables false
set_option linter.unusedSimpArgs false
set_option linter.unusedSectionVars false
set_option maxRecDepth 100000
namespace Go.Proofs.Ythkipncmnefomaa.XCodeL
open Go Go.X Go.RowKit
theorem awake6 (w : World) : Calls Try.prog 6 #[] w fun e w' => e = .returned (.bool true) ∧ Below w.heap.size w w' :=
  letI : Nu := ⟨fun _ => 0, w, Try.prog⟩
  calls_trueD (cx_ok rfl) cx_mixed (allD rfl) (noOrc_ok _) (n := 60) (vs := []) (args := []) (by kernel_rfl) w (Below.refl _ _) RVs_none
theorem awake_row6 (v : Nat → Int) (old : World) : letI : Nu := ⟨v, old, Try.prog⟩; CRow.OK Try.prog ⟨6, [], .bool true⟩ :=
  letI : Nu := ⟨v, old, Try.prog⟩
  CRow.yes Try.func6 (by kernel_rfl) (by kernel_rfl) awake6
end Go.Proofs.Ythkipncmnefomaa.XCodeL
