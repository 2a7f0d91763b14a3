/- What Place comes to: the remainder, never negative. -/
import Derived.Test.YtojfkhhebedeoaaGreatDoorXToldS
import Derived.Test.YtojfkhhebedeoaaGreatDoorXRow
set_option maxRecDepth 100000
namespace Go.Proofs.YtojfkhhebedeoaaGreatDoor.XCodeS
open Go Go.X Go.RowKit

theorem place_1 : symOf (run ((callD (rowOrc [] [⟨.rem, .s 0, .s 3, .sym .i64 1⟩, ⟨.lss, .s 1, .n 0, .bool false⟩]) code 10).call 4 [.sym .i64 0, .sym .i64 3]) h0) = some 1 := by kernel_rfl
theorem place_2 : symOf (run ((callD (rowOrc [] [⟨.rem, .s 0, .s 3, .sym .i64 1⟩, ⟨.lss, .s 1, .n 0, .bool true⟩, ⟨.add, .s 1, .s 3, .sym .i64 2⟩]) code 10).call 4 [.sym .i64 0, .sym .i64 3]) h0) = some 2 := by kernel_rfl

theorem placeIs (v m : Int) (hm : 1 ≤ m) (hm2 : m ≤ 4611686018427387904) (w : World) : Calls Tryz.prog 4 #[.int .i64 v, .int .i64 m] w fun e w' => e = .returned (.int .i64 (v % m)) ∧ Below w.heap.size w w' := by
  letI : Nu := ⟨fun i => match i with | 0 => v | 1 => Int.tmod v m | 2 => Int.tmod v m + m | _ => m, w, Tryz.prog⟩
  have ha : RVs ⟨fun _ => none, fun _ => 0, []⟩ [V.sym .i64 0, .sym .i64 3] [.int .i64 v, .int .i64 m] := RVs_mk (by rw [RV]; rfl) (RVs_mk (by rw [RV]; rfl) RVs_none)
  have hb1 : -m < Int.tmod v m := Int.lt_tmod_of_pos v (by omega)
  have hb2 : Int.tmod v m < m := Int.tmod_lt_of_pos v (by omega)
  have he1 := Int.emod_nonneg v (show m ≠ 0 by omega)
  have he2 := Int.emod_lt_of_pos v (show 0 < m by omega)
  have hcase : Int.tmod v m = v % m ∨ Int.tmod v m = v % m - m := by rw [Int.tmod_eq_emod]; split <;> omega
  by_cases hneg : Int.tmod v m < 0
  · have ho : OrcOK Tryz.prog (rowOrc [] [⟨.rem, .s 0, .s 3, .sym .i64 1⟩, ⟨.lss, .s 1, .n 0, .bool true⟩, ⟨.add, .s 1, .s 3, .sym .i64 2⟩]) :=
      rowOrc_ok all0 (allC (ARow.named (ARow.ofI (arith_rem (show m ≠ 0 by omega)))) (allC (ARow.yesno (ARow.ofB (by rw [arith_lss]; exact congrArg (fun b => some (V.bool b)) (decide_eq_true hneg)))) (all1 (ARow.named (ARow.ofI (by
        rw [arith_add]
        have : IntKind.i64.wrap (Int.tmod v m + m) = Int.tmod v m + m := by rw [IntKind.wrap_i64]; omega
        exact congrArg (fun b => some (V.int .i64 b)) this))))))
    refine Calls.mono (calls_symD (cx_ok rfl) cx_mixed (allD rfl) ho place_2 w (Below.refl _ _) ha) fun e w' ⟨h1, h2⟩ => ⟨?_, h2⟩
    rw [h1]
    have : Int.tmod v m + m = v % m := by omega
    show Ending.returned (.int .i64 (Int.tmod v m + m)) = _
    rw [this]
  · have ho : OrcOK Tryz.prog (rowOrc [] [⟨.rem, .s 0, .s 3, .sym .i64 1⟩, ⟨.lss, .s 1, .n 0, .bool false⟩]) :=
      rowOrc_ok all0 (allC (ARow.named (ARow.ofI (arith_rem (show m ≠ 0 by omega)))) (all1 (ARow.yesno (ARow.ofB (by rw [arith_lss]; exact congrArg (fun b => some (V.bool b)) (decide_eq_false hneg))))))
    refine Calls.mono (calls_symD (cx_ok rfl) cx_mixed (allD rfl) ho place_1 w (Below.refl _ _) ha) fun e w' ⟨h1, h2⟩ => ⟨?_, h2⟩
    rw [h1]
    have : Int.tmod v m = v % m := by omega
    show Ending.returned (.int .i64 (Int.tmod v m)) = _
    rw [this]
end Go.Proofs.YtojfkhhebedeoaaGreatDoor.XCodeS
