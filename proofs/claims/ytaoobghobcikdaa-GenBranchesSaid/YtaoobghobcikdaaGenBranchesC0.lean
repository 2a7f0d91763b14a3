/- GenBranches: its cases, run by the kernel. -/
import Derived.Test.YtaoobghobcikdaaXAwakeG
set_option maxRecDepth 100000
namespace Go.Proofs.Ytaoobghobcikdaa.XCodeG
open Go Go.X Go.RowKit
noncomputable def orcGB [Nu] (r : Int) (l : List ARow) : Orc := rowOrc [⟨5, [.s 1, .n 5], .int .i64 r⟩, ⟨7, [], .bool true⟩] l
theorem cGBn0 [Nu] : isTrue (run ((callN (orcGB 0 [⟨.neq, .s 0, .n 0, .bool true⟩]) code 90).call 3 [.sym .i64 0, .sym .i64 1]) h0) = true := by kernel_rfl
theorem cGBz0 [Nu] : isTrue (run ((callN (orcGB 0 []) code 90).call 3 [.int .i64 0, .sym .i64 1]) h0) = true := by kernel_rfl
theorem cGBn1 [Nu] : isTrue (run ((callN (orcGB 1 [⟨.neq, .s 0, .n 0, .bool true⟩]) code 90).call 3 [.sym .i64 0, .sym .i64 1]) h0) = true := by kernel_rfl
theorem cGBz1 [Nu] : isTrue (run ((callN (orcGB 1 []) code 90).call 3 [.int .i64 0, .sym .i64 1]) h0) = true := by kernel_rfl
theorem cGBn2 [Nu] : isTrue (run ((callN (orcGB 2 [⟨.neq, .s 0, .n 0, .bool true⟩]) code 90).call 3 [.sym .i64 0, .sym .i64 1]) h0) = true := by kernel_rfl
theorem cGBz2 [Nu] : isTrue (run ((callN (orcGB 2 []) code 90).call 3 [.int .i64 0, .sym .i64 1]) h0) = true := by kernel_rfl
theorem cGBn3 [Nu] : isTrue (run ((callN (orcGB 3 [⟨.neq, .s 0, .n 0, .bool true⟩]) code 90).call 3 [.sym .i64 0, .sym .i64 1]) h0) = true := by kernel_rfl
theorem cGBz3 [Nu] : isTrue (run ((callN (orcGB 3 []) code 90).call 3 [.int .i64 0, .sym .i64 1]) h0) = true := by kernel_rfl
theorem cGBn4 [Nu] : isTrue (run ((callN (orcGB 4 [⟨.neq, .s 0, .n 0, .bool true⟩]) code 90).call 3 [.sym .i64 0, .sym .i64 1]) h0) = true := by kernel_rfl
theorem cGBz4 [Nu] : isTrue (run ((callN (orcGB 4 []) code 90).call 3 [.int .i64 0, .sym .i64 1]) h0) = true := by kernel_rfl
end Go.Proofs.Ytaoobghobcikdaa.XCodeG
