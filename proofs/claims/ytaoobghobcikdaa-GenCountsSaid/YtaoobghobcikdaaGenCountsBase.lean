/- GenCounts: what its cases lean on. -/
import Derived.Test.YtaoobghobcikdaaXAwakeG
set_option maxRecDepth 100000
namespace Go.Proofs.Ytaoobghobcikdaa.XCodeG
open Go Go.X Go.RowKit

noncomputable def orcGenCounts [Nu] (r0 r1 r2 m2 : Int) : Orc := rowOrc [⟨5, [.s 0, .n 4], .int .i64 r0⟩, ⟨5, [.s 1, .n 9], .int .i64 r1⟩, ⟨5, [.s 2, .n m2], .int .i64 r2⟩, ⟨7, [], .bool true⟩] []
theorem caseGenCounts (a0 : Int) (a1 : Int) (a2 : Int) (r0 r1 r2 m2 : Int) (w : World) (p2 : 1 ≤ m2) (q2 : m2 ≤ 1000) (e0 : a0 % 4 = r0) (e1 : a1 % 9 = r1) (e2 : a2 % m2 = r2) (hr : ∀ [Nu], isTrue (run ((callN (orcGenCounts r0 r1 r2 m2) code 90).call 4 [.sym .i64 0, .sym .i64 1, .sym .i64 2]) h0) = true) :
    Calls Try.prog 4 #[.int .i64 a0, .int .i64 a1, .int .i64 a2] w fun e w' => e = .returned (.bool true) ∧ Below w.heap.size w w' := by
  letI : Nu := ⟨fun i => match i with | 0 => a0 | 1 => a1 | _ => a2, w, Try.prog⟩
  have ha : RVs ⟨fun _ => none, fun _ => 0, []⟩ [V.sym .i64 0, V.sym .i64 1, V.sym .i64 2] [.int .i64 a0, .int .i64 a1, .int .i64 a2] := RVs_mk (by rw [RV]; try rfl) (RVs_mk (by rw [RV]; try rfl) (RVs_mk (by rw [RV]; try rfl) (RVs_none)))
  have ho : OrcOK Try.prog (orcGenCounts r0 r1 r2 m2) := rowOrc_ok (allC (place_row _ _ 0 4 r0 (by omega) (by omega) e0) (allC (place_row _ _ 1 9 r1 (by omega) (by omega) e1) (allC (place_row _ _ 2 m2 r2 (by omega) (by omega) e2) (all1 (awake_row7 _ _))))) all0
  exact calls_true (cx_ok rfl) cx_mixed table ho hr w (Below.refl _ _) ha
end Go.Proofs.Ytaoobghobcikdaa.XCodeG
