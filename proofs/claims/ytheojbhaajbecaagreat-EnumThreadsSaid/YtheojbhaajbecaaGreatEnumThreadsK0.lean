/- EnumThreads: a call that is cut off, by itself. -/
import Derived.Test.YtheojbhaajbecaaGreatEnumThreadsBase
set_option maxRecDepth 100000
namespace Go.Proofs.YtheojbhaajbecaaGreat.XCodeN
open Go Go.X Go.RowKit
noncomputable def cutEnumThreads_0 : Cut := ⟨[.agg [.int .i64 2, .bigs 1 [.bigs 7 [.int .i64 2, .int .i64 0, .int .i64 0, .int .i64 0, .int .i64 0, .bigs 2 [.int .i64 1, .int .i64 1] (.int .i64 1), .int .i64 0, .int .i64 2, .int .i64 0, .int .i64 0, .int .i64 0, .int .i64 0, .bigs 2 [.int .i64 1, .int .i64 1] (.int .i64 1), .int .i64 0, .int .i64 2, .int .i64 0, .int .i64 0, .int .i64 0, .int .i64 0, .bigs 2 [.int .i64 1, .int .i64 1] (.int .i64 1), .int .i64 0] (.int .i64 3), .bigs 7 [.int .i64 2, .int .i64 0, .int .i64 0, .int .i64 0, .int .i64 0, .bigs 2 [.int .i64 1, .int .i64 1] (.int .i64 1), .int .i64 0, .int .i64 2, .int .i64 0, .int .i64 0, .int .i64 0, .int .i64 0, .bigs 2 [.int .i64 1, .int .i64 1] (.int .i64 1), .int .i64 0, .int .i64 2, .int .i64 0, .int .i64 0, .int .i64 0, .int .i64 1, .bigs 2 [.int .i64 1, .int .i64 1] (.int .i64 1), .int .i64 0, .int .i64 2, .int .i64 0, .int .i64 0, .int .i64 0, .int .i64 1, .bigs 2 [.int .i64 1, .int .i64 1] (.int .i64 1), .int .i64 0] (.int .i64 4)] (.int .i64 2)], .nils], ⟨.tup [.slice 0 0 240 8 none, .int .i64 0], [.dead]⟩, [11776]⟩
theorem cutkEnumThreads_0 : cutOK cutEnumThreads_0 (run ((callD noOrc code 90).call 9 cutEnumThreads_0.ts) h0) = true := by kernel_rfl
end Go.Proofs.YtheojbhaajbecaaGreat.XCodeN
