/- EnumThreads: cases, run by the kernel. -/
import Derived.Test.YtheojbhaajbecaaGreatEnumThreadsBase
set_option maxRecDepth 100000
namespace Go.Proofs.YtheojbhaajbecaaGreat.XCodeN
open Go Go.X Go.RowKit
theorem cEnumThreads0x1x2 [Nu] : isTrue (run ((callD (orcEnumThreads 0 1 2) code 90).call 5 [.sym .i64 0, .sym .i64 1, .sym .i64 2]) h0) = true := by kernel_rfl
theorem cEnumThreads1x0x0 [Nu] : isTrue (run ((callD (orcEnumThreads 1 0 0) code 90).call 5 [.sym .i64 0, .sym .i64 1, .sym .i64 2]) h0) = true := by kernel_rfl
theorem cEnumThreads1x2x1 [Nu] : isTrue (run ((callD (orcEnumThreads 1 2 1) code 90).call 5 [.sym .i64 0, .sym .i64 1, .sym .i64 2]) h0) = true := by kernel_rfl
theorem cEnumThreads2x0x2 [Nu] : isTrue (run ((callD (orcEnumThreads 2 0 2) code 90).call 5 [.sym .i64 0, .sym .i64 1, .sym .i64 2]) h0) = true := by kernel_rfl
theorem cEnumThreads2x1x0 [Nu] : isTrue (run ((callD (orcEnumThreads 2 1 0) code 90).call 5 [.sym .i64 0, .sym .i64 1, .sym .i64 2]) h0) = true := by kernel_rfl
theorem cEnumThreads3x2x1 [Nu] : isTrue (run ((callD (orcEnumThreads 3 2 1) code 90).call 5 [.sym .i64 0, .sym .i64 1, .sym .i64 2]) h0) = true := by kernel_rfl
end Go.Proofs.YtheojbhaajbecaaGreat.XCodeN
