/- EnumValues: cases, run by the kernel. -/
import Derived.Test.YtheojbhaajbecaaGreatEnumValuesBase
set_option maxRecDepth 100000
namespace Go.Proofs.YtheojbhaajbecaaGreat.XCodeN
open Go Go.X Go.RowKit
theorem cEnumValues0x1 [Nu] : isTrue (run ((callN (orcEnumValues 0 1) code 90).call 4 [.sym .i64 0, .sym .i64 1]) h0) = true := by kernel_rfl
theorem cEnumValues0x3 [Nu] : isTrue (run ((callN (orcEnumValues 0 3) code 90).call 4 [.sym .i64 0, .sym .i64 1]) h0) = true := by kernel_rfl
theorem cEnumValues1x0 [Nu] : isTrue (run ((callN (orcEnumValues 1 0) code 90).call 4 [.sym .i64 0, .sym .i64 1]) h0) = true := by kernel_rfl
theorem cEnumValues1x2 [Nu] : isTrue (run ((callN (orcEnumValues 1 2) code 90).call 4 [.sym .i64 0, .sym .i64 1]) h0) = true := by kernel_rfl
theorem cEnumValues1x4 [Nu] : isTrue (run ((callN (orcEnumValues 1 4) code 90).call 4 [.sym .i64 0, .sym .i64 1]) h0) = true := by kernel_rfl
theorem cEnumValues2x1 [Nu] : isTrue (run ((callN (orcEnumValues 2 1) code 90).call 4 [.sym .i64 0, .sym .i64 1]) h0) = true := by kernel_rfl
theorem cEnumValues2x3 [Nu] : isTrue (run ((callN (orcEnumValues 2 3) code 90).call 4 [.sym .i64 0, .sym .i64 1]) h0) = true := by kernel_rfl
theorem cEnumValues3x0 [Nu] : isTrue (run ((callN (orcEnumValues 3 0) code 90).call 4 [.sym .i64 0, .sym .i64 1]) h0) = true := by kernel_rfl
theorem cEnumValues3x2 [Nu] : isTrue (run ((callN (orcEnumValues 3 2) code 90).call 4 [.sym .i64 0, .sym .i64 1]) h0) = true := by kernel_rfl
theorem cEnumValues3x4 [Nu] : isTrue (run ((callN (orcEnumValues 3 4) code 90).call 4 [.sym .i64 0, .sym .i64 1]) h0) = true := by kernel_rfl
end Go.Proofs.YtheojbhaajbecaaGreat.XCodeN
