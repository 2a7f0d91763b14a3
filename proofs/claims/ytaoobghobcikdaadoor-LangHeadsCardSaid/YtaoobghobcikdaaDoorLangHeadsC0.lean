/- LangHeads: cases, run by the kernel. -/
import Derived.Test.YtaoobghobcikdaaDoorLangHeadsBase
set_option maxRecDepth 100000
namespace Go.Proofs.YtaoobghobcikdaaDoor.XCodeL
open Go Go.X Go.RowKit
theorem cLangHeads0 [Nu] : isTrue (run ((callN (orcLangHeads 0) code 60).call 3 [.sym .i64 0]) h0) = true := by kernel_rfl
theorem cLangHeads1 [Nu] : isTrue (run ((callN (orcLangHeads 1) code 60).call 3 [.sym .i64 0]) h0) = true := by kernel_rfl
theorem cLangHeads2 [Nu] : isTrue (run ((callN (orcLangHeads 2) code 60).call 3 [.sym .i64 0]) h0) = true := by kernel_rfl
theorem cLangHeads3 [Nu] : isTrue (run ((callN (orcLangHeads 3) code 60).call 3 [.sym .i64 0]) h0) = true := by kernel_rfl
theorem cLangHeads4 [Nu] : isTrue (run ((callN (orcLangHeads 4) code 60).call 3 [.sym .i64 0]) h0) = true := by kernel_rfl
theorem cLangHeads5 [Nu] : isTrue (run ((callN (orcLangHeads 5) code 60).call 3 [.sym .i64 0]) h0) = true := by kernel_rfl
theorem cLangHeads6 [Nu] : isTrue (run ((callN (orcLangHeads 6) code 60).call 3 [.sym .i64 0]) h0) = true := by kernel_rfl
end Go.Proofs.YtaoobghobcikdaaDoor.XCodeL
