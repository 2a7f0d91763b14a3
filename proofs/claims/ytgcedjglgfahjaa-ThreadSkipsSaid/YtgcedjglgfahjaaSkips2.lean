/- ThreadSkips, case by case, part 2. -/
import Derived.Test.YtgcedjglgfahjaaAwakeT
set_option maxRecDepth 100000
namespace Go.Proofs.Ytgcedjglgfahjaa.XCodeT
open Go Go.X Go.RowKit

theorem sk8x0f : isTrue (run ((callN (rowOrc [⟨20, [.s 1, .n 11], .int .i64 8⟩, ⟨20, [.s 0, .n 9], .int .i64 0⟩, ⟨22, [], .bool true⟩] []) code 60).call 10 [.sym .i64 0, .sym .i64 1, .bool false]) h0) = true := by kernel_rfl
theorem sk8x0t : isTrue (run ((callN (rowOrc [⟨20, [.s 1, .n 11], .int .i64 8⟩, ⟨20, [.s 0, .n 9], .int .i64 0⟩, ⟨22, [], .bool true⟩] []) code 60).call 10 [.sym .i64 0, .sym .i64 1, .bool true]) h0) = true := by kernel_rfl
theorem sk8x1f : isTrue (run ((callN (rowOrc [⟨20, [.s 1, .n 11], .int .i64 8⟩, ⟨20, [.s 0, .n 9], .int .i64 1⟩, ⟨22, [], .bool true⟩] []) code 60).call 10 [.sym .i64 0, .sym .i64 1, .bool false]) h0) = true := by kernel_rfl
theorem sk8x1t : isTrue (run ((callN (rowOrc [⟨20, [.s 1, .n 11], .int .i64 8⟩, ⟨20, [.s 0, .n 9], .int .i64 1⟩, ⟨22, [], .bool true⟩] []) code 60).call 10 [.sym .i64 0, .sym .i64 1, .bool true]) h0) = true := by kernel_rfl
theorem sk8x2f : isTrue (run ((callN (rowOrc [⟨20, [.s 1, .n 11], .int .i64 8⟩, ⟨20, [.s 0, .n 9], .int .i64 2⟩, ⟨22, [], .bool true⟩] []) code 60).call 10 [.sym .i64 0, .sym .i64 1, .bool false]) h0) = true := by kernel_rfl
theorem sk8x2t : isTrue (run ((callN (rowOrc [⟨20, [.s 1, .n 11], .int .i64 8⟩, ⟨20, [.s 0, .n 9], .int .i64 2⟩, ⟨22, [], .bool true⟩] []) code 60).call 10 [.sym .i64 0, .sym .i64 1, .bool true]) h0) = true := by kernel_rfl
theorem sk8x3f : isTrue (run ((callN (rowOrc [⟨20, [.s 1, .n 11], .int .i64 8⟩, ⟨20, [.s 0, .n 9], .int .i64 3⟩, ⟨22, [], .bool true⟩] []) code 60).call 10 [.sym .i64 0, .sym .i64 1, .bool false]) h0) = true := by kernel_rfl
theorem sk8x3t : isTrue (run ((callN (rowOrc [⟨20, [.s 1, .n 11], .int .i64 8⟩, ⟨20, [.s 0, .n 9], .int .i64 3⟩, ⟨22, [], .bool true⟩] []) code 60).call 10 [.sym .i64 0, .sym .i64 1, .bool true]) h0) = true := by kernel_rfl
theorem sk8x4f : isTrue (run ((callN (rowOrc [⟨20, [.s 1, .n 11], .int .i64 8⟩, ⟨20, [.s 0, .n 9], .int .i64 4⟩, ⟨22, [], .bool true⟩] []) code 60).call 10 [.sym .i64 0, .sym .i64 1, .bool false]) h0) = true := by kernel_rfl
theorem sk8x4t : isTrue (run ((callN (rowOrc [⟨20, [.s 1, .n 11], .int .i64 8⟩, ⟨20, [.s 0, .n 9], .int .i64 4⟩, ⟨22, [], .bool true⟩] []) code 60).call 10 [.sym .i64 0, .sym .i64 1, .bool true]) h0) = true := by kernel_rfl
theorem sk8x5f : isTrue (run ((callN (rowOrc [⟨20, [.s 1, .n 11], .int .i64 8⟩, ⟨20, [.s 0, .n 9], .int .i64 5⟩, ⟨22, [], .bool true⟩] []) code 60).call 10 [.sym .i64 0, .sym .i64 1, .bool false]) h0) = true := by kernel_rfl
theorem sk8x5t : isTrue (run ((callN (rowOrc [⟨20, [.s 1, .n 11], .int .i64 8⟩, ⟨20, [.s 0, .n 9], .int .i64 5⟩, ⟨22, [], .bool true⟩] []) code 60).call 10 [.sym .i64 0, .sym .i64 1, .bool true]) h0) = true := by kernel_rfl
theorem sk8x6f : isTrue (run ((callN (rowOrc [⟨20, [.s 1, .n 11], .int .i64 8⟩, ⟨20, [.s 0, .n 9], .int .i64 6⟩, ⟨22, [], .bool true⟩] []) code 60).call 10 [.sym .i64 0, .sym .i64 1, .bool false]) h0) = true := by kernel_rfl
theorem sk8x6t : isTrue (run ((callN (rowOrc [⟨20, [.s 1, .n 11], .int .i64 8⟩, ⟨20, [.s 0, .n 9], .int .i64 6⟩, ⟨22, [], .bool true⟩] []) code 60).call 10 [.sym .i64 0, .sym .i64 1, .bool true]) h0) = true := by kernel_rfl
theorem sk8x7f : isTrue (run ((callN (rowOrc [⟨20, [.s 1, .n 11], .int .i64 8⟩, ⟨20, [.s 0, .n 9], .int .i64 7⟩, ⟨22, [], .bool true⟩] []) code 60).call 10 [.sym .i64 0, .sym .i64 1, .bool false]) h0) = true := by kernel_rfl
theorem sk8x7t : isTrue (run ((callN (rowOrc [⟨20, [.s 1, .n 11], .int .i64 8⟩, ⟨20, [.s 0, .n 9], .int .i64 7⟩, ⟨22, [], .bool true⟩] []) code 60).call 10 [.sym .i64 0, .sym .i64 1, .bool true]) h0) = true := by kernel_rfl
theorem sk8x8f : isTrue (run ((callN (rowOrc [⟨20, [.s 1, .n 11], .int .i64 8⟩, ⟨20, [.s 0, .n 9], .int .i64 8⟩, ⟨22, [], .bool true⟩] []) code 60).call 10 [.sym .i64 0, .sym .i64 1, .bool false]) h0) = true := by kernel_rfl
theorem sk8x8t : isTrue (run ((callN (rowOrc [⟨20, [.s 1, .n 11], .int .i64 8⟩, ⟨20, [.s 0, .n 9], .int .i64 8⟩, ⟨22, [], .bool true⟩] []) code 60).call 10 [.sym .i64 0, .sym .i64 1, .bool true]) h0) = true := by kernel_rfl
theorem sk9x0f : isTrue (run ((callN (rowOrc [⟨20, [.s 1, .n 11], .int .i64 9⟩, ⟨20, [.s 0, .n 10], .int .i64 0⟩, ⟨22, [], .bool true⟩] []) code 60).call 10 [.sym .i64 0, .sym .i64 1, .bool false]) h0) = true := by kernel_rfl
theorem sk9x0t : isTrue (run ((callN (rowOrc [⟨20, [.s 1, .n 11], .int .i64 9⟩, ⟨20, [.s 0, .n 10], .int .i64 0⟩, ⟨22, [], .bool true⟩] []) code 60).call 10 [.sym .i64 0, .sym .i64 1, .bool true]) h0) = true := by kernel_rfl
theorem sk9x1f : isTrue (run ((callN (rowOrc [⟨20, [.s 1, .n 11], .int .i64 9⟩, ⟨20, [.s 0, .n 10], .int .i64 1⟩, ⟨22, [], .bool true⟩] []) code 60).call 10 [.sym .i64 0, .sym .i64 1, .bool false]) h0) = true := by kernel_rfl
theorem sk9x1t : isTrue (run ((callN (rowOrc [⟨20, [.s 1, .n 11], .int .i64 9⟩, ⟨20, [.s 0, .n 10], .int .i64 1⟩, ⟨22, [], .bool true⟩] []) code 60).call 10 [.sym .i64 0, .sym .i64 1, .bool true]) h0) = true := by kernel_rfl
theorem sk9x2f : isTrue (run ((callN (rowOrc [⟨20, [.s 1, .n 11], .int .i64 9⟩, ⟨20, [.s 0, .n 10], .int .i64 2⟩, ⟨22, [], .bool true⟩] []) code 60).call 10 [.sym .i64 0, .sym .i64 1, .bool false]) h0) = true := by kernel_rfl
theorem sk9x2t : isTrue (run ((callN (rowOrc [⟨20, [.s 1, .n 11], .int .i64 9⟩, ⟨20, [.s 0, .n 10], .int .i64 2⟩, ⟨22, [], .bool true⟩] []) code 60).call 10 [.sym .i64 0, .sym .i64 1, .bool true]) h0) = true := by kernel_rfl
theorem sk9x3f : isTrue (run ((callN (rowOrc [⟨20, [.s 1, .n 11], .int .i64 9⟩, ⟨20, [.s 0, .n 10], .int .i64 3⟩, ⟨22, [], .bool true⟩] []) code 60).call 10 [.sym .i64 0, .sym .i64 1, .bool false]) h0) = true := by kernel_rfl
theorem sk9x3t : isTrue (run ((callN (rowOrc [⟨20, [.s 1, .n 11], .int .i64 9⟩, ⟨20, [.s 0, .n 10], .int .i64 3⟩, ⟨22, [], .bool true⟩] []) code 60).call 10 [.sym .i64 0, .sym .i64 1, .bool true]) h0) = true := by kernel_rfl
theorem sk9x4f : isTrue (run ((callN (rowOrc [⟨20, [.s 1, .n 11], .int .i64 9⟩, ⟨20, [.s 0, .n 10], .int .i64 4⟩, ⟨22, [], .bool true⟩] []) code 60).call 10 [.sym .i64 0, .sym .i64 1, .bool false]) h0) = true := by kernel_rfl
theorem sk9x4t : isTrue (run ((callN (rowOrc [⟨20, [.s 1, .n 11], .int .i64 9⟩, ⟨20, [.s 0, .n 10], .int .i64 4⟩, ⟨22, [], .bool true⟩] []) code 60).call 10 [.sym .i64 0, .sym .i64 1, .bool true]) h0) = true := by kernel_rfl
theorem sk9x5f : isTrue (run ((callN (rowOrc [⟨20, [.s 1, .n 11], .int .i64 9⟩, ⟨20, [.s 0, .n 10], .int .i64 5⟩, ⟨22, [], .bool true⟩] []) code 60).call 10 [.sym .i64 0, .sym .i64 1, .bool false]) h0) = true := by kernel_rfl
theorem sk9x5t : isTrue (run ((callN (rowOrc [⟨20, [.s 1, .n 11], .int .i64 9⟩, ⟨20, [.s 0, .n 10], .int .i64 5⟩, ⟨22, [], .bool true⟩] []) code 60).call 10 [.sym .i64 0, .sym .i64 1, .bool true]) h0) = true := by kernel_rfl
theorem sk9x6f : isTrue (run ((callN (rowOrc [⟨20, [.s 1, .n 11], .int .i64 9⟩, ⟨20, [.s 0, .n 10], .int .i64 6⟩, ⟨22, [], .bool true⟩] []) code 60).call 10 [.sym .i64 0, .sym .i64 1, .bool false]) h0) = true := by kernel_rfl
theorem sk9x6t : isTrue (run ((callN (rowOrc [⟨20, [.s 1, .n 11], .int .i64 9⟩, ⟨20, [.s 0, .n 10], .int .i64 6⟩, ⟨22, [], .bool true⟩] []) code 60).call 10 [.sym .i64 0, .sym .i64 1, .bool true]) h0) = true := by kernel_rfl
theorem sk9x7f : isTrue (run ((callN (rowOrc [⟨20, [.s 1, .n 11], .int .i64 9⟩, ⟨20, [.s 0, .n 10], .int .i64 7⟩, ⟨22, [], .bool true⟩] []) code 60).call 10 [.sym .i64 0, .sym .i64 1, .bool false]) h0) = true := by kernel_rfl
theorem sk9x7t : isTrue (run ((callN (rowOrc [⟨20, [.s 1, .n 11], .int .i64 9⟩, ⟨20, [.s 0, .n 10], .int .i64 7⟩, ⟨22, [], .bool true⟩] []) code 60).call 10 [.sym .i64 0, .sym .i64 1, .bool true]) h0) = true := by kernel_rfl
end Go.Proofs.Ytgcedjglgfahjaa.XCodeT
