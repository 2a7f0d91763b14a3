/- EnumValues: cases, run by the kernel. -/
import Derived.Test.YtheojbhaajbecaaGreatEnumValuesBase
set_option maxRecDepth 100000
namespace Go.Proofs.YtheojbhaajbecaaGreat.XCodeN
open Go Go.X Go.RowKit
theorem cEnumValues0x0 [Nu] : isTrue (run ((callN (orcEnumValues 0 0) code 90).call 4 [.sym .i64 0, .sym .i64 1]) h0) = true := by kernel_rfl
theorem cEnumValues0x2 [Nu] : isTrue (run ((callN (orcEnumValues 0 2) code 90).call 4 [.sym .i64 0, .sym .i64 1]) h0) = true := by kernel_rfl
theorem cEnumValues0x4 [Nu] : isTrue (run ((callN (orcEnumValues 0 4) code 90).call 4 [.sym .i64 0, .sym .i64 1]) h0) = true := by kernel_rfl
theorem cEnumValues1x1 [Nu] : isTrue (run ((callN (orcEnumValues 1 1) code 90).call 4 [.sym .i64 0, .sym .i64 1]) h0) = true := by kernel_rfl
theorem cEnumValues1x3 [Nu] : isTrue (run ((callN (orcEnumValues 1 3) code 90).call 4 [.sym .i64 0, .sym .i64 1]) h0) = true := by kernel_rfl
theorem cEnumValues2x0 [Nu] : isTrue (run ((callN (orcEnumValues 2 0) code 90).call 4 [.sym .i64 0, .sym .i64 1]) h0) = true := by kernel_rfl
theorem cEnumValues2x2 [Nu] : isTrue (run ((callN (orcEnumValues 2 2) code 90).call 4 [.sym .i64 0, .sym .i64 1]) h0) = true := by kernel_rfl
theorem cEnumValues2x4 [Nu] : isTrue (run ((callN (orcEnumValues 2 4) code 90).call 4 [.sym .i64 0, .sym .i64 1]) h0) = true := by kernel_rfl
theorem cEnumValues3x1 [Nu] : isTrue (run ((callN (orcEnumValues 3 1) code 90).call 4 [.sym .i64 0, .sym .i64 1]) h0) = true := by kernel_rfl
theorem cEnumValues3x3 [Nu] : isTrue (run ((callN (orcEnumValues 3 3) code 90).call 4 [.sym .i64 0, .sym .i64 1]) h0) = true := by kernel_rfl
end Go.Proofs.YtheojbhaajbecaaGreat.XCodeN
