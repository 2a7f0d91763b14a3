/- GenBranches returns true at every input: its way through the program. -/
import Derived.Test.YtaoobghobcikdaaGenBranchesC0
set_option maxRecDepth 100000
namespace Go.Proofs.Ytaoobghobcikdaa.XCodeG
open Go Go.X Go.RowKit
theorem walkGenBranches (v n : Int) (w : World) : Calls Try.prog 3 #[.int .i64 v, .int .i64 n] w fun e w' => e = .returned (.bool true) ∧ Below w.heap.size w w' := by
  letI : Nu := ⟨fun i => match i with | 0 => v | _ => n, w, Try.prog⟩
  have go : ∀ (r : Int) (x : V) (l : List ARow), n % 5 = r → (∀ p ∈ l, p.OK) → RV ⟨fun _ => none, fun _ => 0, []⟩ x (.int .i64 v) → isTrue (run ((callN (orcGB r l) code 90).call 3 [x, .sym .i64 1]) h0) = true →
      Calls Try.prog 3 #[.int .i64 v, .int .i64 n] w fun e w' => e = .returned (.bool true) ∧ Below w.heap.size w w' := by
    intro r x l e hl hx hr
    have ha : RVs ⟨fun _ => none, fun _ => 0, []⟩ [x, V.sym .i64 1] [.int .i64 v, .int .i64 n] := RVs_mk hx (RVs_mk (by rw [RV]; rfl) RVs_none)
    have ho : OrcOK Try.prog (orcGB r l) := rowOrc_ok (allC (place_row _ _ 1 5 r (by omega) (by omega) e) (all1 (awake_row7 _ _))) hl
    exact calls_true (cx_ok rfl) cx_mixed table ho hr w (Below.refl _ _) ha
  have h : n % 5 = 0 ∨ n % 5 = 1 ∨ n % 5 = 2 ∨ n % 5 = 3 ∨ n % 5 = 4 := by omega
  by_cases hv : v = 0
  · have hx : RV ⟨fun _ => none, fun _ => 0, []⟩ (.int .i64 0) (.int .i64 v) := by rw [RV, hv]
    rcases h with h | h | h | h | h
    · exact go _ (.int .i64 0) [] h all0 hx cGBz0
    · exact go _ (.int .i64 0) [] h all0 hx cGBz1
    · exact go _ (.int .i64 0) [] h all0 hx cGBz2
    · exact go _ (.int .i64 0) [] h all0 hx cGBz3
    · exact go _ (.int .i64 0) [] h all0 hx cGBz4
  · have hl : ∀ p ∈ [(⟨.neq, .s 0, .n 0, .bool true⟩ : ARow)], p.OK := all1 (ARow.yesno (ARow.ofB (by rw [arith_neq]; exact congrArg (fun b => some (V.bool b)) (decide_eq_true hv))))
    rcases h with h | h | h | h | h
    · exact go _ (.sym .i64 0) _ h hl (by rw [RV]; rfl) cGBn0
    · exact go _ (.sym .i64 0) _ h hl (by rw [RV]; rfl) cGBn1
    · exact go _ (.sym .i64 0) _ h hl (by rw [RV]; rfl) cGBn2
    · exact go _ (.sym .i64 0) _ h hl (by rw [RV]; rfl) cGBn3
    · exact go _ (.sym .i64 0) _ h hl (by rw [RV]; rfl) cGBn4
end Go.Proofs.Ytaoobghobcikdaa.XCodeG
