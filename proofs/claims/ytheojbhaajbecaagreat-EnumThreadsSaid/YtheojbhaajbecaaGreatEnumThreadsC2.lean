/- EnumThreads: cases, run by the kernel. -/
import Derived.Test.YtheojbhaajbecaaGreatEnumThreadsBase
set_option maxRecDepth 100000
namespace Go.Proofs.YtheojbhaajbecaaGreat.XCodeN
open Go Go.X Go.RowKit
theorem cEnumThreads0x1x0 [Nu] : isTrue (run ((callD (orcEnumThreads 0 1 0) code 90).call 5 [.sym .i64 0, .sym .i64 1, .sym .i64 2]) h0) = true := by kernel_rfl
theorem cEnumThreads0x2x2 [Nu] : isTrue (run ((callD (orcEnumThreads 0 2 2) code 90).call 5 [.sym .i64 0, .sym .i64 1, .sym .i64 2]) h0) = true := by kernel_rfl
theorem cEnumThreads1x1x2 [Nu] : isTrue (run ((callD (orcEnumThreads 1 1 2) code 90).call 5 [.sym .i64 0, .sym .i64 1, .sym .i64 2]) h0) = true := by kernel_rfl
theorem cEnumThreads3x0x0 [Nu] : isTrue (run ((callD (orcEnumThreads 3 0 0) code 90).call 5 [.sym .i64 0, .sym .i64 1, .sym .i64 2]) h0) = true := by kernel_rfl
theorem cEnumThreads3x1x0 [Nu] : isTrue (run ((callD (orcEnumThreads 3 1 0) code 90).call 5 [.sym .i64 0, .sym .i64 1, .sym .i64 2]) h0) = true := by kernel_rfl
theorem cEnumThreads3x1x2 [Nu] : isTrue (run ((callD (orcEnumThreads 3 1 2) code 90).call 5 [.sym .i64 0, .sym .i64 1, .sym .i64 2]) h0) = true := by kernel_rfl
end Go.Proofs.YtheojbhaajbecaaGreat.XCodeN
