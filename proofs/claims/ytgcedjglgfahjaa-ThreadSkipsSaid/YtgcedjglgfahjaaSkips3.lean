/- ThreadSkips, case by case, part 3. -/
import Derived.Test.YtgcedjglgfahjaaAwakeT
set_option maxRecDepth 100000
namespace Go.Proofs.Ytgcedjglgfahjaa.XCodeT
open Go Go.X Go.RowKit

theorem sk9x8f : isTrue (run ((callN (rowOrc [⟨20, [.s 1, .n 11], .int .i64 9⟩, ⟨20, [.s 0, .n 10], .int .i64 8⟩, ⟨22, [], .bool true⟩] []) code 60).call 10 [.sym .i64 0, .sym .i64 1, .bool false]) h0) = true := by kernel_rfl
theorem sk9x8t : isTrue (run ((callN (rowOrc [⟨20, [.s 1, .n 11], .int .i64 9⟩, ⟨20, [.s 0, .n 10], .int .i64 8⟩, ⟨22, [], .bool true⟩] []) code 60).call 10 [.sym .i64 0, .sym .i64 1, .bool true]) h0) = true := by kernel_rfl
theorem sk9x9f : isTrue (run ((callN (rowOrc [⟨20, [.s 1, .n 11], .int .i64 9⟩, ⟨20, [.s 0, .n 10], .int .i64 9⟩, ⟨22, [], .bool true⟩] []) code 60).call 10 [.sym .i64 0, .sym .i64 1, .bool false]) h0) = true := by kernel_rfl
theorem sk9x9t : isTrue (run ((callN (rowOrc [⟨20, [.s 1, .n 11], .int .i64 9⟩, ⟨20, [.s 0, .n 10], .int .i64 9⟩, ⟨22, [], .bool true⟩] []) code 60).call 10 [.sym .i64 0, .sym .i64 1, .bool true]) h0) = true := by kernel_rfl
theorem sk10x0f : isTrue (run ((callN (rowOrc [⟨20, [.s 1, .n 11], .int .i64 10⟩, ⟨20, [.s 0, .n 11], .int .i64 0⟩, ⟨22, [], .bool true⟩] []) code 60).call 10 [.sym .i64 0, .sym .i64 1, .bool false]) h0) = true := by kernel_rfl
theorem sk10x0t : isTrue (run ((callN (rowOrc [⟨20, [.s 1, .n 11], .int .i64 10⟩, ⟨20, [.s 0, .n 11], .int .i64 0⟩, ⟨22, [], .bool true⟩] []) code 60).call 10 [.sym .i64 0, .sym .i64 1, .bool true]) h0) = true := by kernel_rfl
theorem sk10x1f : isTrue (run ((callN (rowOrc [⟨20, [.s 1, .n 11], .int .i64 10⟩, ⟨20, [.s 0, .n 11], .int .i64 1⟩, ⟨22, [], .bool true⟩] []) code 60).call 10 [.sym .i64 0, .sym .i64 1, .bool false]) h0) = true := by kernel_rfl
theorem sk10x1t : isTrue (run ((callN (rowOrc [⟨20, [.s 1, .n 11], .int .i64 10⟩, ⟨20, [.s 0, .n 11], .int .i64 1⟩, ⟨22, [], .bool true⟩] []) code 60).call 10 [.sym .i64 0, .sym .i64 1, .bool true]) h0) = true := by kernel_rfl
theorem sk10x2f : isTrue (run ((callN (rowOrc [⟨20, [.s 1, .n 11], .int .i64 10⟩, ⟨20, [.s 0, .n 11], .int .i64 2⟩, ⟨22, [], .bool true⟩] []) code 60).call 10 [.sym .i64 0, .sym .i64 1, .bool false]) h0) = true := by kernel_rfl
theorem sk10x2t : isTrue (run ((callN (rowOrc [⟨20, [.s 1, .n 11], .int .i64 10⟩, ⟨20, [.s 0, .n 11], .int .i64 2⟩, ⟨22, [], .bool true⟩] []) code 60).call 10 [.sym .i64 0, .sym .i64 1, .bool true]) h0) = true := by kernel_rfl
theorem sk10x3f : isTrue (run ((callN (rowOrc [⟨20, [.s 1, .n 11], .int .i64 10⟩, ⟨20, [.s 0, .n 11], .int .i64 3⟩, ⟨22, [], .bool true⟩] []) code 60).call 10 [.sym .i64 0, .sym .i64 1, .bool false]) h0) = true := by kernel_rfl
theorem sk10x3t : isTrue (run ((callN (rowOrc [⟨20, [.s 1, .n 11], .int .i64 10⟩, ⟨20, [.s 0, .n 11], .int .i64 3⟩, ⟨22, [], .bool true⟩] []) code 60).call 10 [.sym .i64 0, .sym .i64 1, .bool true]) h0) = true := by kernel_rfl
theorem sk10x4f : isTrue (run ((callN (rowOrc [⟨20, [.s 1, .n 11], .int .i64 10⟩, ⟨20, [.s 0, .n 11], .int .i64 4⟩, ⟨22, [], .bool true⟩] []) code 60).call 10 [.sym .i64 0, .sym .i64 1, .bool false]) h0) = true := by kernel_rfl
theorem sk10x4t : isTrue (run ((callN (rowOrc [⟨20, [.s 1, .n 11], .int .i64 10⟩, ⟨20, [.s 0, .n 11], .int .i64 4⟩, ⟨22, [], .bool true⟩] []) code 60).call 10 [.sym .i64 0, .sym .i64 1, .bool true]) h0) = true := by kernel_rfl
theorem sk10x5f : isTrue (run ((callN (rowOrc [⟨20, [.s 1, .n 11], .int .i64 10⟩, ⟨20, [.s 0, .n 11], .int .i64 5⟩, ⟨22, [], .bool true⟩] []) code 60).call 10 [.sym .i64 0, .sym .i64 1, .bool false]) h0) = true := by kernel_rfl
theorem sk10x5t : isTrue (run ((callN (rowOrc [⟨20, [.s 1, .n 11], .int .i64 10⟩, ⟨20, [.s 0, .n 11], .int .i64 5⟩, ⟨22, [], .bool true⟩] []) code 60).call 10 [.sym .i64 0, .sym .i64 1, .bool true]) h0) = true := by kernel_rfl
theorem sk10x6f : isTrue (run ((callN (rowOrc [⟨20, [.s 1, .n 11], .int .i64 10⟩, ⟨20, [.s 0, .n 11], .int .i64 6⟩, ⟨22, [], .bool true⟩] []) code 60).call 10 [.sym .i64 0, .sym .i64 1, .bool false]) h0) = true := by kernel_rfl
theorem sk10x6t : isTrue (run ((callN (rowOrc [⟨20, [.s 1, .n 11], .int .i64 10⟩, ⟨20, [.s 0, .n 11], .int .i64 6⟩, ⟨22, [], .bool true⟩] []) code 60).call 10 [.sym .i64 0, .sym .i64 1, .bool true]) h0) = true := by kernel_rfl
theorem sk10x7f : isTrue (run ((callN (rowOrc [⟨20, [.s 1, .n 11], .int .i64 10⟩, ⟨20, [.s 0, .n 11], .int .i64 7⟩, ⟨22, [], .bool true⟩] []) code 60).call 10 [.sym .i64 0, .sym .i64 1, .bool false]) h0) = true := by kernel_rfl
theorem sk10x7t : isTrue (run ((callN (rowOrc [⟨20, [.s 1, .n 11], .int .i64 10⟩, ⟨20, [.s 0, .n 11], .int .i64 7⟩, ⟨22, [], .bool true⟩] []) code 60).call 10 [.sym .i64 0, .sym .i64 1, .bool true]) h0) = true := by kernel_rfl
theorem sk10x8f : isTrue (run ((callN (rowOrc [⟨20, [.s 1, .n 11], .int .i64 10⟩, ⟨20, [.s 0, .n 11], .int .i64 8⟩, ⟨22, [], .bool true⟩] []) code 60).call 10 [.sym .i64 0, .sym .i64 1, .bool false]) h0) = true := by kernel_rfl
theorem sk10x8t : isTrue (run ((callN (rowOrc [⟨20, [.s 1, .n 11], .int .i64 10⟩, ⟨20, [.s 0, .n 11], .int .i64 8⟩, ⟨22, [], .bool true⟩] []) code 60).call 10 [.sym .i64 0, .sym .i64 1, .bool true]) h0) = true := by kernel_rfl
theorem sk10x9f : isTrue (run ((callN (rowOrc [⟨20, [.s 1, .n 11], .int .i64 10⟩, ⟨20, [.s 0, .n 11], .int .i64 9⟩, ⟨22, [], .bool true⟩] []) code 60).call 10 [.sym .i64 0, .sym .i64 1, .bool false]) h0) = true := by kernel_rfl
theorem sk10x9t : isTrue (run ((callN (rowOrc [⟨20, [.s 1, .n 11], .int .i64 10⟩, ⟨20, [.s 0, .n 11], .int .i64 9⟩, ⟨22, [], .bool true⟩] []) code 60).call 10 [.sym .i64 0, .sym .i64 1, .bool true]) h0) = true := by kernel_rfl
theorem sk10x10f : isTrue (run ((callN (rowOrc [⟨20, [.s 1, .n 11], .int .i64 10⟩, ⟨20, [.s 0, .n 11], .int .i64 10⟩, ⟨22, [], .bool true⟩] []) code 60).call 10 [.sym .i64 0, .sym .i64 1, .bool false]) h0) = true := by kernel_rfl
theorem sk10x10t : isTrue (run ((callN (rowOrc [⟨20, [.s 1, .n 11], .int .i64 10⟩, ⟨20, [.s 0, .n 11], .int .i64 10⟩, ⟨22, [], .bool true⟩] []) code 60).call 10 [.sym .i64 0, .sym .i64 1, .bool true]) h0) = true := by kernel_rfl
end Go.Proofs.Ytgcedjglgfahjaa.XCodeT
