/- EnumThreads: cases, run by the kernel. -/
import Derived.Test.YtheojbhaajbecaaGreatEnumThreadsBase
import Derived.Test.YtheojbhaajbecaaGreatEnumThreadsRows2
set_option maxRecDepth 100000
namespace Go.Proofs.YtheojbhaajbecaaGreat.XCodeN
open Go Go.X Go.RowKit
theorem cEnumThreads0x0x0 [Nu] : isTrue (run ((callD (orcEnumThreads 0 0 0) code 90).call 5 [.sym .i64 0, .sym .i64 1, .sym .i64 2]) h0) = true := by kernel_rfl
theorem cEnumThreads0x0x2 [Nu] : isTrue (run ((callD (orcEnumThreads 0 0 2) code 90).call 5 [.sym .i64 0, .sym .i64 1, .sym .i64 2]) h0) = true := by kernel_rfl
theorem cEnumThreads2x0x1 [Nu] : isTrue (run ((callD (orcEnumThreads 2 0 1) code 90).call 5 [.sym .i64 0, .sym .i64 1, .sym .i64 2]) h0) = true := by kernel_rfl
theorem cEnumThreads3x0x1 [Nu] : isTrue (run ((callD (orcEnumThreads 3 0 1) code 90).call 5 [.sym .i64 0, .sym .i64 1, .sym .i64 2]) h0) = true := by kernel_rfl
theorem cEnumThreads3x0x2 [Nu] : isTrue (run ((callD (orcEnumThreads 3 0 2) code 90).call 5 [.sym .i64 0, .sym .i64 1, .sym .i64 2]) h0) = true := by kernel_rfl
theorem cEnumThreads3x2x2 [Nu] : isTrue (run ((callD (orcEnumThreadsK 3 2 2 [rowEnumThreads_0]) code 90).call 5 [.sym .i64 0, .sym .i64 1, .sym .i64 2]) h0) = true := by kernel_rfl
end Go.Proofs.YtheojbhaajbecaaGreat.XCodeN
