/- BehaveKnown: cases, run by the kernel. -/
import Derived.Test.YtheojbhaajbecaaGreatBehaveKnownBase
set_option maxRecDepth 100000
namespace Go.Proofs.YtheojbhaajbecaaGreat.XCodeB
open Go Go.X Go.RowKit
theorem cBehaveKnown1xf [Nu] : isTrue (run ((callD (orcBehaveKnownK 1 relRows) code 300).call 6 [.sym .i64 0, .bool false]) h0) = true := by kernel_rfl
theorem cBehaveKnown2xt [Nu] : isTrue (run ((callD (orcBehaveKnownK 2 relRows) code 300).call 6 [.sym .i64 0, .bool true]) h0) = true := by kernel_rfl
end Go.Proofs.YtheojbhaajbecaaGreat.XCodeB
