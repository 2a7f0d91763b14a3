/- LangHeads returns true at every input: its way through the program. -/
import Derived.Test.YtaoobghobcikdaaDoorLangHeadsC0
set_option maxRecDepth 100000
namespace Go.Proofs.YtaoobghobcikdaaDoor.XCodeL
open Go Go.X Go.RowKit
theorem walkLangHeads (a0 : Int) (w : World) (hL : LibVars w)  : Calls Tryd.prog 3 #[.int .i64 a0] w fun e w' => e = .returned (.bool true) ∧ Below w.heap.size w w' := by
  have h : a0 % 7 = 0 ∨ a0 % 7 = 1 ∨ a0 % 7 = 2 ∨ a0 % 7 = 3 ∨ a0 % 7 = 4 ∨ a0 % 7 = 5 ∨ a0 % 7 = 6 := by omega
  rcases h with h | h | h | h | h | h | h
  · exact caseLangHeads a0 _ w hL  h cLangHeads0
  · exact caseLangHeads a0 _ w hL  h cLangHeads1
  · exact caseLangHeads a0 _ w hL  h cLangHeads2
  · exact caseLangHeads a0 _ w hL  h cLangHeads3
  · exact caseLangHeads a0 _ w hL  h cLangHeads4
  · exact caseLangHeads a0 _ w hL  h cLangHeads5
  · exact caseLangHeads a0 _ w hL  h cLangHeads6
end Go.Proofs.YtaoobghobcikdaaDoor.XCodeL
