/- PthreadPairs, case by case, part 3. -/
import Derived.Test.YtmlelffjcgealaaXAwakeB
import Derived.Test.YtmlelffjcgealaaXArg
set_option maxRecDepth 100000
namespace Go.Proofs.Ytmlelffjcgealaa.XCodeB
open Go Go.X Go.RowKit
theorem pp7x0nilsf : isTrue (run ((callN (rowOrc [⟨7, [.s 0, .n 8], .int .i64 7⟩, ⟨9, [], .bool true⟩] []) code 60).call 5 [.sym .i64 0, .nils, .bool false]) h0) = true := by kernel_rfl
theorem pp7x0nilst : isTrue (run ((callN (rowOrc [⟨7, [.s 0, .n 8], .int .i64 7⟩, ⟨9, [], .bool true⟩] []) code 60).call 5 [.sym .i64 0, .nils, .bool true]) h0) = true := by kernel_rfl
theorem pp7x0empf : isTrue (run ((callN (rowOrc [⟨7, [.s 0, .n 8], .int .i64 7⟩, ⟨9, [], .bool true⟩] []) code 60).call 5 [.sym .i64 0, .emp, .bool false]) h0) = true := by kernel_rfl
theorem pp7x0empt : isTrue (run ((callN (rowOrc [⟨7, [.s 0, .n 8], .int .i64 7⟩, ⟨9, [], .bool true⟩] []) code 60).call 5 [.sym .i64 0, .emp, .bool true]) h0) = true := by kernel_rfl
theorem pp7x1bigf : isTrue (run ((callN (rowOrc [⟨7, [.s 0, .n 8], .int .i64 7⟩, ⟨9, [], .bool true⟩] [⟨.add, .s 10, .n 0, .sym .i64 20⟩, ⟨.neq, .s 20, .s 20, .bool false⟩]) code 60).call 5 [.sym .i64 0, .bigs 1 [.sym .i64 10] (.int .i64 1), .bool false]) h0) = true := by kernel_rfl
theorem pp7x1bigt : isTrue (run ((callN (rowOrc [⟨7, [.s 0, .n 8], .int .i64 7⟩, ⟨9, [], .bool true⟩] [⟨.add, .s 10, .n 0, .sym .i64 20⟩, ⟨.neq, .s 20, .s 20, .bool false⟩]) code 60).call 5 [.sym .i64 0, .bigs 1 [.sym .i64 10] (.int .i64 1), .bool true]) h0) = true := by kernel_rfl
theorem pp7x2bigf : isTrue (run ((callN (rowOrc [⟨7, [.s 0, .n 8], .int .i64 7⟩, ⟨9, [], .bool true⟩] [⟨.add, .s 10, .n 0, .sym .i64 20⟩, ⟨.add, .s 11, .n 1, .sym .i64 21⟩, ⟨.neq, .s 20, .s 20, .bool false⟩, ⟨.neq, .s 21, .s 21, .bool false⟩]) code 60).call 5 [.sym .i64 0, .bigs 1 [.sym .i64 10, .sym .i64 11] (.int .i64 2), .bool false]) h0) = true := by kernel_rfl
theorem pp7x2bigt : isTrue (run ((callN (rowOrc [⟨7, [.s 0, .n 8], .int .i64 7⟩, ⟨9, [], .bool true⟩] [⟨.add, .s 10, .n 0, .sym .i64 20⟩, ⟨.add, .s 11, .n 1, .sym .i64 21⟩, ⟨.neq, .s 20, .s 20, .bool false⟩, ⟨.neq, .s 21, .s 21, .bool false⟩]) code 60).call 5 [.sym .i64 0, .bigs 1 [.sym .i64 10, .sym .i64 11] (.int .i64 2), .bool true]) h0) = true := by kernel_rfl
theorem pp7x3bigf : isTrue (run ((callN (rowOrc [⟨7, [.s 0, .n 8], .int .i64 7⟩, ⟨9, [], .bool true⟩] [⟨.add, .s 10, .n 0, .sym .i64 20⟩, ⟨.add, .s 11, .n 1, .sym .i64 21⟩, ⟨.add, .s 12, .n 2, .sym .i64 22⟩, ⟨.neq, .s 20, .s 20, .bool false⟩, ⟨.neq, .s 21, .s 21, .bool false⟩, ⟨.neq, .s 22, .s 22, .bool false⟩]) code 60).call 5 [.sym .i64 0, .bigs 1 [.sym .i64 10, .sym .i64 11, .sym .i64 12] (.int .i64 3), .bool false]) h0) = true := by kernel_rfl
theorem pp7x3bigt : isTrue (run ((callN (rowOrc [⟨7, [.s 0, .n 8], .int .i64 7⟩, ⟨9, [], .bool true⟩] [⟨.add, .s 10, .n 0, .sym .i64 20⟩, ⟨.add, .s 11, .n 1, .sym .i64 21⟩, ⟨.add, .s 12, .n 2, .sym .i64 22⟩, ⟨.neq, .s 20, .s 20, .bool false⟩, ⟨.neq, .s 21, .s 21, .bool false⟩, ⟨.neq, .s 22, .s 22, .bool false⟩]) code 60).call 5 [.sym .i64 0, .bigs 1 [.sym .i64 10, .sym .i64 11, .sym .i64 12] (.int .i64 3), .bool true]) h0) = true := by kernel_rfl
end Go.Proofs.Ytmlelffjcgealaa.XCodeB
