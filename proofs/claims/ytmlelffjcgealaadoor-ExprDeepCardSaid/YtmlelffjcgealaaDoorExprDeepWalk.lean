/- ExprDeep returns true at every input: its way through the program; registers and partial sums have only names. -/
import Derived.Test.YtmlelffjcgealaaDoorXAwakeLE
import Derived.Test.YtmlelffjcgealaaDoorXArg
set_option maxRecDepth 100000
set_option linter.unusedVariables false
namespace Go.Proofs.YtmlelffjcgealaaDoor.XCodeE
open Go Go.X Go.RowKit
/-- The first so many, together. -/
def sumTo (zs : List Int) : Nat → Int
  | 0 => 0
  | j + 1 => sumTo zs j + zs.getD j 0
theorem wrap_of (a b : Int) (h : ∃ q : Int, a = b + q * 18446744073709551616) : IntKind.i64.wrap a = IntKind.i64.wrap b := by
  obtain ⟨q, rfl⟩ := h
  rw [IntKind.wrap_i64, IntKind.wrap_i64]
  omega
theorem wrap_dif (a : Int) : ∃ q : Int, IntKind.i64.wrap a = a + q * 18446744073709551616 := by
  rw [IntKind.wrap_i64]
  exact ⟨-((a + 9223372036854775808) / 18446744073709551616), by omega⟩
theorem wrap_left (a b : Int) : IntKind.i64.wrap (IntKind.i64.wrap a + b) = IntKind.i64.wrap (a + b) := by
  obtain ⟨q, h⟩ := wrap_dif a
  exact wrap_of _ _ ⟨q, by rw [h]; omega⟩
theorem wrap_right (a b : Int) : IntKind.i64.wrap (a + IntKind.i64.wrap b) = IntKind.i64.wrap (a + b) := by
  obtain ⟨q, h⟩ := wrap_dif b
  exact wrap_of _ _ ⟨q, by rw [h]; omega⟩
noncomputable def orcDeep [Nu] (q : Int) (l : List ARow) : Orc := rowsOrc [⟨10, [.s 0, .n 5], .int .i64 q⟩] (yesRow 9 :: lib) l
theorem dp0x0nils [Nu] : isTrue (run ((callN (orcDeep 0 []) code 60).call 5 [.sym .i64 0, .nils]) h0) = true := by kernel_rfl
theorem dp0x0emp [Nu] : isTrue (run ((callN (orcDeep 0 []) code 60).call 5 [.sym .i64 0, .emp]) h0) = true := by kernel_rfl
theorem dp0x1big [Nu] : isTrue (run ((callN (orcDeep 0 [⟨.lss, .n 0, .s 9, .bool true⟩, ⟨.add, .n 0, .s 10, .sym .i64 21⟩, ⟨.eql, .s 10, .s 21, .bool true⟩]) code 60).call 5 [.sym .i64 0, .bigs 1 [.sym .i64 10] (.sym .i64 9)]) h0) = true := by kernel_rfl
theorem dp1x0nils [Nu] : isTrue (run ((callN (orcDeep 1 []) code 60).call 5 [.sym .i64 0, .nils]) h0) = true := by kernel_rfl
theorem dp1x0emp [Nu] : isTrue (run ((callN (orcDeep 1 []) code 60).call 5 [.sym .i64 0, .emp]) h0) = true := by kernel_rfl
theorem dp1x1big [Nu] : isTrue (run ((callN (orcDeep 1 [⟨.add, .n 0, .s 10, .sym .i64 21⟩, ⟨.add, .s 10, .n 0, .sym .i64 36⟩, ⟨.eql, .s 36, .s 21, .bool true⟩]) code 60).call 5 [.sym .i64 0, .bigs 1 [.sym .i64 10] (.int .i64 1)]) h0) = true := by kernel_rfl
theorem dp1x2big [Nu] : isTrue (run ((callN (orcDeep 1 [⟨.lss, .n 0, .s 9, .bool true⟩, ⟨.add, .n 0, .s 10, .sym .i64 21⟩, ⟨.lss, .n 1, .s 9, .bool true⟩, ⟨.add, .s 21, .s 11, .sym .i64 22⟩, ⟨.add, .s 10, .s 11, .sym .i64 42⟩, ⟨.eql, .s 42, .s 22, .bool true⟩]) code 60).call 5 [.sym .i64 0, .bigs 1 [.sym .i64 10, .sym .i64 11] (.sym .i64 9)]) h0) = true := by kernel_rfl
theorem dp2x0nils [Nu] : isTrue (run ((callN (orcDeep 2 []) code 60).call 5 [.sym .i64 0, .nils]) h0) = true := by kernel_rfl
theorem dp2x0emp [Nu] : isTrue (run ((callN (orcDeep 2 []) code 60).call 5 [.sym .i64 0, .emp]) h0) = true := by kernel_rfl
theorem dp2x1big [Nu] : isTrue (run ((callN (orcDeep 2 [⟨.add, .n 0, .s 10, .sym .i64 21⟩, ⟨.add, .s 10, .n 0, .sym .i64 36⟩, ⟨.eql, .s 36, .s 21, .bool true⟩]) code 60).call 5 [.sym .i64 0, .bigs 1 [.sym .i64 10] (.int .i64 1)]) h0) = true := by kernel_rfl
theorem dp2x2big [Nu] : isTrue (run ((callN (orcDeep 2 [⟨.add, .n 0, .s 10, .sym .i64 21⟩, ⟨.add, .s 21, .s 11, .sym .i64 22⟩, ⟨.add, .s 11, .n 0, .sym .i64 43⟩, ⟨.add, .s 10, .s 43, .sym .i64 42⟩, ⟨.eql, .s 42, .s 22, .bool true⟩]) code 60).call 5 [.sym .i64 0, .bigs 1 [.sym .i64 10, .sym .i64 11] (.int .i64 2)]) h0) = true := by kernel_rfl
theorem dp2x3big [Nu] : isTrue (run ((callN (orcDeep 2 [⟨.lss, .n 0, .s 9, .bool true⟩, ⟨.add, .n 0, .s 10, .sym .i64 21⟩, ⟨.lss, .n 1, .s 9, .bool true⟩, ⟨.add, .s 21, .s 11, .sym .i64 22⟩, ⟨.lss, .n 2, .s 9, .bool true⟩, ⟨.add, .s 22, .s 12, .sym .i64 23⟩, ⟨.add, .s 11, .s 12, .sym .i64 49⟩, ⟨.add, .s 10, .s 49, .sym .i64 48⟩, ⟨.eql, .s 48, .s 23, .bool true⟩]) code 60).call 5 [.sym .i64 0, .bigs 1 [.sym .i64 10, .sym .i64 11, .sym .i64 12] (.sym .i64 9)]) h0) = true := by kernel_rfl
theorem dp3x0nils [Nu] : isTrue (run ((callN (orcDeep 3 []) code 60).call 5 [.sym .i64 0, .nils]) h0) = true := by kernel_rfl
theorem dp3x0emp [Nu] : isTrue (run ((callN (orcDeep 3 []) code 60).call 5 [.sym .i64 0, .emp]) h0) = true := by kernel_rfl
theorem dp3x1big [Nu] : isTrue (run ((callN (orcDeep 3 [⟨.add, .n 0, .s 10, .sym .i64 21⟩, ⟨.add, .s 10, .n 0, .sym .i64 36⟩, ⟨.eql, .s 36, .s 21, .bool true⟩]) code 60).call 5 [.sym .i64 0, .bigs 1 [.sym .i64 10] (.int .i64 1)]) h0) = true := by kernel_rfl
theorem dp3x2big [Nu] : isTrue (run ((callN (orcDeep 3 [⟨.add, .n 0, .s 10, .sym .i64 21⟩, ⟨.add, .s 21, .s 11, .sym .i64 22⟩, ⟨.add, .s 11, .n 0, .sym .i64 43⟩, ⟨.add, .s 10, .s 43, .sym .i64 42⟩, ⟨.eql, .s 42, .s 22, .bool true⟩]) code 60).call 5 [.sym .i64 0, .bigs 1 [.sym .i64 10, .sym .i64 11] (.int .i64 2)]) h0) = true := by kernel_rfl
theorem dp3x3big [Nu] : isTrue (run ((callN (orcDeep 3 [⟨.add, .n 0, .s 10, .sym .i64 21⟩, ⟨.add, .s 21, .s 11, .sym .i64 22⟩, ⟨.add, .s 22, .s 12, .sym .i64 23⟩, ⟨.add, .s 12, .n 0, .sym .i64 50⟩, ⟨.add, .s 11, .s 50, .sym .i64 49⟩, ⟨.add, .s 10, .s 49, .sym .i64 48⟩, ⟨.eql, .s 48, .s 23, .bool true⟩]) code 60).call 5 [.sym .i64 0, .bigs 1 [.sym .i64 10, .sym .i64 11, .sym .i64 12] (.int .i64 3)]) h0) = true := by kernel_rfl
theorem dp3x4big [Nu] : isTrue (run ((callN (orcDeep 3 [⟨.lss, .n 0, .s 9, .bool true⟩, ⟨.add, .n 0, .s 10, .sym .i64 21⟩, ⟨.lss, .n 1, .s 9, .bool true⟩, ⟨.add, .s 21, .s 11, .sym .i64 22⟩, ⟨.lss, .n 2, .s 9, .bool true⟩, ⟨.add, .s 22, .s 12, .sym .i64 23⟩, ⟨.lss, .n 3, .s 9, .bool true⟩, ⟨.add, .s 23, .s 13, .sym .i64 24⟩, ⟨.add, .s 12, .s 13, .sym .i64 56⟩, ⟨.add, .s 11, .s 56, .sym .i64 55⟩, ⟨.add, .s 10, .s 55, .sym .i64 54⟩, ⟨.eql, .s 54, .s 24, .bool true⟩]) code 60).call 5 [.sym .i64 0, .bigs 1 [.sym .i64 10, .sym .i64 11, .sym .i64 12, .sym .i64 13] (.sym .i64 9)]) h0) = true := by kernel_rfl
theorem dp4x0nils [Nu] : isTrue (run ((callN (orcDeep 4 []) code 60).call 5 [.sym .i64 0, .nils]) h0) = true := by kernel_rfl
theorem dp4x0emp [Nu] : isTrue (run ((callN (orcDeep 4 []) code 60).call 5 [.sym .i64 0, .emp]) h0) = true := by kernel_rfl
theorem dp4x1big [Nu] : isTrue (run ((callN (orcDeep 4 [⟨.add, .n 0, .s 10, .sym .i64 21⟩, ⟨.add, .s 10, .n 0, .sym .i64 36⟩, ⟨.eql, .s 36, .s 21, .bool true⟩]) code 60).call 5 [.sym .i64 0, .bigs 1 [.sym .i64 10] (.int .i64 1)]) h0) = true := by kernel_rfl
theorem dp4x2big [Nu] : isTrue (run ((callN (orcDeep 4 [⟨.add, .n 0, .s 10, .sym .i64 21⟩, ⟨.add, .s 21, .s 11, .sym .i64 22⟩, ⟨.add, .s 11, .n 0, .sym .i64 43⟩, ⟨.add, .s 10, .s 43, .sym .i64 42⟩, ⟨.eql, .s 42, .s 22, .bool true⟩]) code 60).call 5 [.sym .i64 0, .bigs 1 [.sym .i64 10, .sym .i64 11] (.int .i64 2)]) h0) = true := by kernel_rfl
theorem dp4x3big [Nu] : isTrue (run ((callN (orcDeep 4 [⟨.add, .n 0, .s 10, .sym .i64 21⟩, ⟨.add, .s 21, .s 11, .sym .i64 22⟩, ⟨.add, .s 22, .s 12, .sym .i64 23⟩, ⟨.add, .s 12, .n 0, .sym .i64 50⟩, ⟨.add, .s 11, .s 50, .sym .i64 49⟩, ⟨.add, .s 10, .s 49, .sym .i64 48⟩, ⟨.eql, .s 48, .s 23, .bool true⟩]) code 60).call 5 [.sym .i64 0, .bigs 1 [.sym .i64 10, .sym .i64 11, .sym .i64 12] (.int .i64 3)]) h0) = true := by kernel_rfl
theorem dp4x4big [Nu] : isTrue (run ((callN (orcDeep 4 [⟨.add, .n 0, .s 10, .sym .i64 21⟩, ⟨.add, .s 21, .s 11, .sym .i64 22⟩, ⟨.add, .s 22, .s 12, .sym .i64 23⟩, ⟨.add, .s 23, .s 13, .sym .i64 24⟩, ⟨.add, .s 13, .n 0, .sym .i64 57⟩, ⟨.add, .s 12, .s 57, .sym .i64 56⟩, ⟨.add, .s 11, .s 56, .sym .i64 55⟩, ⟨.add, .s 10, .s 55, .sym .i64 54⟩, ⟨.eql, .s 54, .s 24, .bool true⟩]) code 60).call 5 [.sym .i64 0, .bigs 1 [.sym .i64 10, .sym .i64 11, .sym .i64 12, .sym .i64 13] (.int .i64 4)]) h0) = true := by kernel_rfl
theorem dp4x5big [Nu] : isTrue (run ((callN (orcDeep 4 [⟨.lss, .n 0, .s 9, .bool true⟩, ⟨.add, .n 0, .s 10, .sym .i64 21⟩, ⟨.lss, .n 1, .s 9, .bool true⟩, ⟨.add, .s 21, .s 11, .sym .i64 22⟩, ⟨.lss, .n 2, .s 9, .bool true⟩, ⟨.add, .s 22, .s 12, .sym .i64 23⟩, ⟨.lss, .n 3, .s 9, .bool true⟩, ⟨.add, .s 23, .s 13, .sym .i64 24⟩, ⟨.lss, .n 4, .s 9, .bool true⟩, ⟨.add, .s 24, .s 14, .sym .i64 25⟩, ⟨.add, .s 13, .s 14, .sym .i64 63⟩, ⟨.add, .s 12, .s 63, .sym .i64 62⟩, ⟨.add, .s 11, .s 62, .sym .i64 61⟩, ⟨.add, .s 10, .s 61, .sym .i64 60⟩, ⟨.eql, .s 60, .s 25, .bool true⟩]) code 60).call 5 [.sym .i64 0, .bigs 1 [.sym .i64 10, .sym .i64 11, .sym .i64 12, .sym .i64 13, .sym .i64 14] (.sym .i64 9)]) h0) = true := by kernel_rfl
theorem walkExprDeep (n : Int) (v : Value) (w : World) (hL : LibVars w) (hv : IntsArgW w v) : Calls Tryd.prog 5 #[.int .i64 n, v] w fun e w' => e = .returned (.bool true) ∧ Below w.heap.size w w' := by
  obtain ⟨zs, len, hwf, hcase⟩ := hv.cases
  letI : Nu := ⟨(fun i => if i = 0 then n else if i = 9 then (len : Int) else if i < 20 then zs.getD (i - 10) 0 else if i < 30 then IntKind.i64.wrap (sumTo zs (i - 20)) else IntKind.i64.wrap (sumTo zs ((i - 30) / 6) - sumTo zs ((i - 30) % 6))), w⟩
  have hk : n % 5 = 0 ∨ n % 5 = 1 ∨ n % 5 = 2 ∨ n % 5 = 3 ∨ n % 5 = 4 := by omega
  have hz : ∀ j, (Lit.int .i64 (zs.getD j 0)).wf = true := fun j => by
    rw [List.getD_eq_getElem?_getD]
    cases h : zs[j]? with
    | none => rfl
    | some z => exact hwf z (List.mem_of_getElem? h)
  have v10 : ∀ j, j < 10 → Nu.val (10 + j) = zs.getD j 0 := fun j hj => by
    show (if 10 + j = 0 then _ else _) = _
    rw [if_neg (by omega), if_neg (by omega), if_pos (by omega), Nat.add_sub_cancel_left]
  have v20 : ∀ j, j < 10 → Nu.val (20 + j) = IntKind.i64.wrap (sumTo zs j) := fun j hj => by
    show (if 20 + j = 0 then _ else _) = _
    rw [if_neg (by omega), if_neg (by omega), if_neg (by omega), if_pos (by omega), Nat.add_sub_cancel_left]
  have v30 : ∀ m j, j < 6 → Nu.val (30 + 6 * m + j) = IntKind.i64.wrap (sumTo zs m - sumTo zs j) := fun m j hj => by
    show (if 30 + 6 * m + j = 0 then _ else _) = _
    rw [if_neg (by omega), if_neg (by omega), if_neg (by omega), if_neg (by omega), show (30 + 6 * m + j - 30) / 6 = m by omega, show (30 + 6 * m + j - 30) % 6 = j by omega]
  have addR : ∀ (a b c : Nat), Nu.val c = IntKind.i64.wrap (Nu.val a + Nu.val b) → ARow.OK ⟨.add, .s a, .s b, .sym .i64 c⟩ := fun a b c h => ARow.named (ARow.ofI (by
    rw [arith_add]
    exact congrArg (fun b => some (V.int .i64 b)) h.symm))
  have r_l0 : ARow.OK ⟨.add, .n 0, .s 10, .sym .i64 21⟩ := ARow.named (ARow.ofI (by
    rw [arith_add]
    refine congrArg (fun b => some (V.int .i64 b)) ?_
    rw [show Nu.val 21 = IntKind.i64.wrap (sumTo zs 1) from v20 1 (by omega)]
    show IntKind.i64.wrap (0 + Nu.val 10) = _
    rw [show Nu.val 10 = zs.getD 0 0 from v10 0 (by omega)]
    rfl))
  have r_ls : ∀ j, j < 9 → ARow.OK ⟨.add, .s (20 + j), .s (10 + j), .sym .i64 (20 + (j + 1))⟩ := fun j hj => addR _ _ _ (by
    rw [v20 j (by omega), v10 j (by omega), v20 (j + 1) (by omega), wrap_left]; rfl)
  have r_rz : ∀ j, j < 5 → ARow.OK ⟨.add, .s (10 + j), .n 0, .sym .i64 (30 + 6 * (j + 1) + j)⟩ := fun j hj => ARow.named (ARow.ofI (by
    rw [arith_add]
    refine congrArg (fun b => some (V.int .i64 b)) ?_
    rw [v30 (j + 1) j (by omega)]
    show IntKind.i64.wrap (Nu.val (10 + j) + 0) = IntKind.i64.wrap (sumTo zs j + zs.getD j 0 - sumTo zs j)
    rw [v10 j (by omega)]
    congr 1; omega))
  have r_r2 : ∀ j, j < 5 → ARow.OK ⟨.add, .s (10 + j), .s (10 + (j + 1)), .sym .i64 (30 + 6 * (j + 2) + j)⟩ := fun j hj => addR _ _ _ (by
    rw [v10 j (by omega), v10 (j + 1) (by omega), v30 (j + 2) j (by omega)]
    show IntKind.i64.wrap (sumTo zs j + zs.getD j 0 + zs.getD (j + 1) 0 - sumTo zs j) = _
    congr 1; omega)
  have r_rs : ∀ m j, j < 5 → ARow.OK ⟨.add, .s (10 + j), .s (30 + 6 * m + (j + 1)), .sym .i64 (30 + 6 * m + j)⟩ := fun m j hj => addR _ _ _ (by
    rw [v10 j (by omega), v30 m (j + 1) (by omega), v30 m j (by omega), wrap_right]
    show _ = IntKind.i64.wrap (zs.getD j 0 + (sumTo zs m - (sumTo zs j + zs.getD j 0)))
    congr 1; omega)
  have r_eql : ∀ j, ARow.OK ⟨.eql, .s j, .s j, .bool true⟩ := fun j => ARow.yesno (ARow.ofB (by rw [arith_eql]; exact congrArg (fun b => some (V.bool b)) (decide_eq_true rfl)))
  have r_e1 : ARow.OK ⟨.eql, .s 10, .s 21, .bool true⟩ := ARow.yesno (ARow.ofB (by
    rw [arith_eql]
    refine congrArg (fun b => some (V.bool b)) (decide_eq_true ?_)
    show Nu.val 10 = Nu.val 21
    rw [show Nu.val 21 = IntKind.i64.wrap (sumTo zs 1) from v20 1 (by omega), show Nu.val 10 = zs.getD 0 0 from v10 0 (by omega)]
    show _ = IntKind.i64.wrap (0 + zs.getD 0 0)
    rw [Int.zero_add, wrap_of_wf (hz 0)]))
  have r_em : ∀ m, m < 9 → ARow.OK ⟨.eql, .s (30 + 6 * m + 0), .s (20 + m), .bool true⟩ := fun m hm => ARow.yesno (ARow.ofB (by
    rw [arith_eql]
    refine congrArg (fun b => some (V.bool b)) (decide_eq_true ?_)
    show Nu.val (30 + 6 * m + 0) = Nu.val (20 + m)
    rw [v30 m 0 (by omega), v20 m (by omega)]
    show IntKind.i64.wrap (sumTo zs m - 0) = _
    rw [Int.sub_zero]))
  have run : ∀ (q : Int) (hq : n % 5 = q) (x : V) (l : List ARow), (∀ p ∈ l, p.OK) → RV ⟨fun _ => none, fun _ => 0⟩ x v → isTrue (run ((callN (orcDeep q l) code 60).call 5 [.sym .i64 0, x]) h0) = true → Calls Tryd.prog 5 #[.int .i64 n, v] w fun e w' => e = .returned (.bool true) ∧ Below w.heap.size w w' :=
    fun q hq x l hl hx hr => calls_true cx_ok cx_mixed table (rowsOrc_ok (all1 (place_row _ _ 0 5 q (by omega) (by omega) hq)) (allC (awakel_row9 hL) (lib_ok hL)) hl) hr w (Below.refl _ _) (args := [.int .i64 n, v]) (RVs_mk (by rw [RV]; rfl) (RVs_mk hx RVs_none))
  rcases hcase with rfl | ⟨a, cap, rfl, hl0⟩ | ⟨a, cap, rfl, hl1, hlz, hcap, hold⟩
  · rcases hk with hk | hk | hk | hk | hk
    · exact run 0 hk (.nils) [] all0 (by rw [RV]) dp0x0nils
    · exact run 1 hk (.nils) [] all0 (by rw [RV]) dp1x0nils
    · exact run 2 hk (.nils) [] all0 (by rw [RV]) dp2x0nils
    · exact run 3 hk (.nils) [] all0 (by rw [RV]) dp3x0nils
    · exact run 4 hk (.nils) [] all0 (by rw [RV]) dp4x0nils
  · rcases hk with hk | hk | hk | hk | hk
    · exact run 0 hk (.emp) [] all0 (by rw [RV]; exact ⟨a, cap, rfl⟩) dp0x0emp
    · exact run 1 hk (.emp) [] all0 (by rw [RV]; exact ⟨a, cap, rfl⟩) dp1x0emp
    · exact run 2 hk (.emp) [] all0 (by rw [RV]; exact ⟨a, cap, rfl⟩) dp2x0emp
    · exact run 3 hk (.emp) [] all0 (by rw [RV]; exact ⟨a, cap, rfl⟩) dp3x0emp
    · exact run 4 hk (.emp) [] all0 (by rw [RV]; exact ⟨a, cap, rfl⟩) dp4x0emp
  · have r_len : ∀ i : Nat, i < len → ARow.OK ⟨.lss, .n i, .s 9, .bool true⟩ := fun i hi => ARow.yesno (ARow.ofB (by rw [arith_lss]; exact congrArg (fun b => some (V.bool b)) (decide_eq_true (show (i : Int) < (len : Int) by omega))))
    rcases hk with hk | hk | hk | hk | hk
    · have hc : 1 ≤ len := by omega
      exact run 0 hk (.bigs 1 [.sym .i64 10] (.sym .i64 9)) [⟨.lss, .n 0, .s 9, .bool true⟩, ⟨.add, .n 0, .s 10, .sym .i64 21⟩, ⟨.eql, .s 10, .s 21, .bool true⟩] (allC (r_len 0 (by omega)) (allC r_l0 (all1 r_e1))) (bigs_rv hold hcap hlz (m := 1) (by omega) (by rw [RV]; rfl) (RVs_mk (by rw [RV]; rfl) RVs_none)) dp0x1big
    · have hc : len = 1 ∨ 2 ≤ len := by omega
      rcases hc with hc | hc
      · exact run 1 hk (.bigs 1 [.sym .i64 10] (.int .i64 1)) [⟨.add, .n 0, .s 10, .sym .i64 21⟩, ⟨.add, .s 10, .n 0, .sym .i64 36⟩, ⟨.eql, .s 36, .s 21, .bool true⟩] (allC r_l0 (allC (r_rz 0 (by omega)) (all1 (r_em 1 (by omega))))) (bigs_rv hold hcap hlz (m := 1) (by omega) (by rw [RV, hc]; rfl) (RVs_mk (by rw [RV]; rfl) RVs_none)) dp1x1big
      · exact run 1 hk (.bigs 1 [.sym .i64 10, .sym .i64 11] (.sym .i64 9)) [⟨.lss, .n 0, .s 9, .bool true⟩, ⟨.add, .n 0, .s 10, .sym .i64 21⟩, ⟨.lss, .n 1, .s 9, .bool true⟩, ⟨.add, .s 21, .s 11, .sym .i64 22⟩, ⟨.add, .s 10, .s 11, .sym .i64 42⟩, ⟨.eql, .s 42, .s 22, .bool true⟩] (allC (r_len 0 (by omega)) (allC r_l0 (allC (r_len 1 (by omega)) (allC (r_ls 1 (by omega)) (allC (r_r2 0 (by omega)) (all1 (r_em 2 (by omega)))))))) (bigs_rv hold hcap hlz (m := 2) (by omega) (by rw [RV]; rfl) (RVs_mk (by rw [RV]; rfl) (RVs_mk (by rw [RV]; rfl) RVs_none))) dp1x2big
    · have hc : len = 1 ∨ len = 2 ∨ 3 ≤ len := by omega
      rcases hc with hc | hc | hc
      · exact run 2 hk (.bigs 1 [.sym .i64 10] (.int .i64 1)) [⟨.add, .n 0, .s 10, .sym .i64 21⟩, ⟨.add, .s 10, .n 0, .sym .i64 36⟩, ⟨.eql, .s 36, .s 21, .bool true⟩] (allC r_l0 (allC (r_rz 0 (by omega)) (all1 (r_em 1 (by omega))))) (bigs_rv hold hcap hlz (m := 1) (by omega) (by rw [RV, hc]; rfl) (RVs_mk (by rw [RV]; rfl) RVs_none)) dp2x1big
      · exact run 2 hk (.bigs 1 [.sym .i64 10, .sym .i64 11] (.int .i64 2)) [⟨.add, .n 0, .s 10, .sym .i64 21⟩, ⟨.add, .s 21, .s 11, .sym .i64 22⟩, ⟨.add, .s 11, .n 0, .sym .i64 43⟩, ⟨.add, .s 10, .s 43, .sym .i64 42⟩, ⟨.eql, .s 42, .s 22, .bool true⟩] (allC r_l0 (allC (r_ls 1 (by omega)) (allC (r_rz 1 (by omega)) (allC (r_rs 2 0 (by omega)) (all1 (r_em 2 (by omega))))))) (bigs_rv hold hcap hlz (m := 2) (by omega) (by rw [RV, hc]; rfl) (RVs_mk (by rw [RV]; rfl) (RVs_mk (by rw [RV]; rfl) RVs_none))) dp2x2big
      · exact run 2 hk (.bigs 1 [.sym .i64 10, .sym .i64 11, .sym .i64 12] (.sym .i64 9)) [⟨.lss, .n 0, .s 9, .bool true⟩, ⟨.add, .n 0, .s 10, .sym .i64 21⟩, ⟨.lss, .n 1, .s 9, .bool true⟩, ⟨.add, .s 21, .s 11, .sym .i64 22⟩, ⟨.lss, .n 2, .s 9, .bool true⟩, ⟨.add, .s 22, .s 12, .sym .i64 23⟩, ⟨.add, .s 11, .s 12, .sym .i64 49⟩, ⟨.add, .s 10, .s 49, .sym .i64 48⟩, ⟨.eql, .s 48, .s 23, .bool true⟩] (allC (r_len 0 (by omega)) (allC r_l0 (allC (r_len 1 (by omega)) (allC (r_ls 1 (by omega)) (allC (r_len 2 (by omega)) (allC (r_ls 2 (by omega)) (allC (r_r2 1 (by omega)) (allC (r_rs 3 0 (by omega)) (all1 (r_em 3 (by omega))))))))))) (bigs_rv hold hcap hlz (m := 3) (by omega) (by rw [RV]; rfl) (RVs_mk (by rw [RV]; rfl) (RVs_mk (by rw [RV]; rfl) (RVs_mk (by rw [RV]; rfl) RVs_none)))) dp2x3big
    · have hc : len = 1 ∨ len = 2 ∨ len = 3 ∨ 4 ≤ len := by omega
      rcases hc with hc | hc | hc | hc
      · exact run 3 hk (.bigs 1 [.sym .i64 10] (.int .i64 1)) [⟨.add, .n 0, .s 10, .sym .i64 21⟩, ⟨.add, .s 10, .n 0, .sym .i64 36⟩, ⟨.eql, .s 36, .s 21, .bool true⟩] (allC r_l0 (allC (r_rz 0 (by omega)) (all1 (r_em 1 (by omega))))) (bigs_rv hold hcap hlz (m := 1) (by omega) (by rw [RV, hc]; rfl) (RVs_mk (by rw [RV]; rfl) RVs_none)) dp3x1big
      · exact run 3 hk (.bigs 1 [.sym .i64 10, .sym .i64 11] (.int .i64 2)) [⟨.add, .n 0, .s 10, .sym .i64 21⟩, ⟨.add, .s 21, .s 11, .sym .i64 22⟩, ⟨.add, .s 11, .n 0, .sym .i64 43⟩, ⟨.add, .s 10, .s 43, .sym .i64 42⟩, ⟨.eql, .s 42, .s 22, .bool true⟩] (allC r_l0 (allC (r_ls 1 (by omega)) (allC (r_rz 1 (by omega)) (allC (r_rs 2 0 (by omega)) (all1 (r_em 2 (by omega))))))) (bigs_rv hold hcap hlz (m := 2) (by omega) (by rw [RV, hc]; rfl) (RVs_mk (by rw [RV]; rfl) (RVs_mk (by rw [RV]; rfl) RVs_none))) dp3x2big
      · exact run 3 hk (.bigs 1 [.sym .i64 10, .sym .i64 11, .sym .i64 12] (.int .i64 3)) [⟨.add, .n 0, .s 10, .sym .i64 21⟩, ⟨.add, .s 21, .s 11, .sym .i64 22⟩, ⟨.add, .s 22, .s 12, .sym .i64 23⟩, ⟨.add, .s 12, .n 0, .sym .i64 50⟩, ⟨.add, .s 11, .s 50, .sym .i64 49⟩, ⟨.add, .s 10, .s 49, .sym .i64 48⟩, ⟨.eql, .s 48, .s 23, .bool true⟩] (allC r_l0 (allC (r_ls 1 (by omega)) (allC (r_ls 2 (by omega)) (allC (r_rz 2 (by omega)) (allC (r_rs 3 1 (by omega)) (allC (r_rs 3 0 (by omega)) (all1 (r_em 3 (by omega))))))))) (bigs_rv hold hcap hlz (m := 3) (by omega) (by rw [RV, hc]; rfl) (RVs_mk (by rw [RV]; rfl) (RVs_mk (by rw [RV]; rfl) (RVs_mk (by rw [RV]; rfl) RVs_none)))) dp3x3big
      · exact run 3 hk (.bigs 1 [.sym .i64 10, .sym .i64 11, .sym .i64 12, .sym .i64 13] (.sym .i64 9)) [⟨.lss, .n 0, .s 9, .bool true⟩, ⟨.add, .n 0, .s 10, .sym .i64 21⟩, ⟨.lss, .n 1, .s 9, .bool true⟩, ⟨.add, .s 21, .s 11, .sym .i64 22⟩, ⟨.lss, .n 2, .s 9, .bool true⟩, ⟨.add, .s 22, .s 12, .sym .i64 23⟩, ⟨.lss, .n 3, .s 9, .bool true⟩, ⟨.add, .s 23, .s 13, .sym .i64 24⟩, ⟨.add, .s 12, .s 13, .sym .i64 56⟩, ⟨.add, .s 11, .s 56, .sym .i64 55⟩, ⟨.add, .s 10, .s 55, .sym .i64 54⟩, ⟨.eql, .s 54, .s 24, .bool true⟩] (allC (r_len 0 (by omega)) (allC r_l0 (allC (r_len 1 (by omega)) (allC (r_ls 1 (by omega)) (allC (r_len 2 (by omega)) (allC (r_ls 2 (by omega)) (allC (r_len 3 (by omega)) (allC (r_ls 3 (by omega)) (allC (r_r2 2 (by omega)) (allC (r_rs 4 1 (by omega)) (allC (r_rs 4 0 (by omega)) (all1 (r_em 4 (by omega)))))))))))))) (bigs_rv hold hcap hlz (m := 4) (by omega) (by rw [RV]; rfl) (RVs_mk (by rw [RV]; rfl) (RVs_mk (by rw [RV]; rfl) (RVs_mk (by rw [RV]; rfl) (RVs_mk (by rw [RV]; rfl) RVs_none))))) dp3x4big
    · have hc : len = 1 ∨ len = 2 ∨ len = 3 ∨ len = 4 ∨ 5 ≤ len := by omega
      rcases hc with hc | hc | hc | hc | hc
      · exact run 4 hk (.bigs 1 [.sym .i64 10] (.int .i64 1)) [⟨.add, .n 0, .s 10, .sym .i64 21⟩, ⟨.add, .s 10, .n 0, .sym .i64 36⟩, ⟨.eql, .s 36, .s 21, .bool true⟩] (allC r_l0 (allC (r_rz 0 (by omega)) (all1 (r_em 1 (by omega))))) (bigs_rv hold hcap hlz (m := 1) (by omega) (by rw [RV, hc]; rfl) (RVs_mk (by rw [RV]; rfl) RVs_none)) dp4x1big
      · exact run 4 hk (.bigs 1 [.sym .i64 10, .sym .i64 11] (.int .i64 2)) [⟨.add, .n 0, .s 10, .sym .i64 21⟩, ⟨.add, .s 21, .s 11, .sym .i64 22⟩, ⟨.add, .s 11, .n 0, .sym .i64 43⟩, ⟨.add, .s 10, .s 43, .sym .i64 42⟩, ⟨.eql, .s 42, .s 22, .bool true⟩] (allC r_l0 (allC (r_ls 1 (by omega)) (allC (r_rz 1 (by omega)) (allC (r_rs 2 0 (by omega)) (all1 (r_em 2 (by omega))))))) (bigs_rv hold hcap hlz (m := 2) (by omega) (by rw [RV, hc]; rfl) (RVs_mk (by rw [RV]; rfl) (RVs_mk (by rw [RV]; rfl) RVs_none))) dp4x2big
      · exact run 4 hk (.bigs 1 [.sym .i64 10, .sym .i64 11, .sym .i64 12] (.int .i64 3)) [⟨.add, .n 0, .s 10, .sym .i64 21⟩, ⟨.add, .s 21, .s 11, .sym .i64 22⟩, ⟨.add, .s 22, .s 12, .sym .i64 23⟩, ⟨.add, .s 12, .n 0, .sym .i64 50⟩, ⟨.add, .s 11, .s 50, .sym .i64 49⟩, ⟨.add, .s 10, .s 49, .sym .i64 48⟩, ⟨.eql, .s 48, .s 23, .bool true⟩] (allC r_l0 (allC (r_ls 1 (by omega)) (allC (r_ls 2 (by omega)) (allC (r_rz 2 (by omega)) (allC (r_rs 3 1 (by omega)) (allC (r_rs 3 0 (by omega)) (all1 (r_em 3 (by omega))))))))) (bigs_rv hold hcap hlz (m := 3) (by omega) (by rw [RV, hc]; rfl) (RVs_mk (by rw [RV]; rfl) (RVs_mk (by rw [RV]; rfl) (RVs_mk (by rw [RV]; rfl) RVs_none)))) dp4x3big
      · exact run 4 hk (.bigs 1 [.sym .i64 10, .sym .i64 11, .sym .i64 12, .sym .i64 13] (.int .i64 4)) [⟨.add, .n 0, .s 10, .sym .i64 21⟩, ⟨.add, .s 21, .s 11, .sym .i64 22⟩, ⟨.add, .s 22, .s 12, .sym .i64 23⟩, ⟨.add, .s 23, .s 13, .sym .i64 24⟩, ⟨.add, .s 13, .n 0, .sym .i64 57⟩, ⟨.add, .s 12, .s 57, .sym .i64 56⟩, ⟨.add, .s 11, .s 56, .sym .i64 55⟩, ⟨.add, .s 10, .s 55, .sym .i64 54⟩, ⟨.eql, .s 54, .s 24, .bool true⟩] (allC r_l0 (allC (r_ls 1 (by omega)) (allC (r_ls 2 (by omega)) (allC (r_ls 3 (by omega)) (allC (r_rz 3 (by omega)) (allC (r_rs 4 2 (by omega)) (allC (r_rs 4 1 (by omega)) (allC (r_rs 4 0 (by omega)) (all1 (r_em 4 (by omega))))))))))) (bigs_rv hold hcap hlz (m := 4) (by omega) (by rw [RV, hc]; rfl) (RVs_mk (by rw [RV]; rfl) (RVs_mk (by rw [RV]; rfl) (RVs_mk (by rw [RV]; rfl) (RVs_mk (by rw [RV]; rfl) RVs_none))))) dp4x4big
      · exact run 4 hk (.bigs 1 [.sym .i64 10, .sym .i64 11, .sym .i64 12, .sym .i64 13, .sym .i64 14] (.sym .i64 9)) [⟨.lss, .n 0, .s 9, .bool true⟩, ⟨.add, .n 0, .s 10, .sym .i64 21⟩, ⟨.lss, .n 1, .s 9, .bool true⟩, ⟨.add, .s 21, .s 11, .sym .i64 22⟩, ⟨.lss, .n 2, .s 9, .bool true⟩, ⟨.add, .s 22, .s 12, .sym .i64 23⟩, ⟨.lss, .n 3, .s 9, .bool true⟩, ⟨.add, .s 23, .s 13, .sym .i64 24⟩, ⟨.lss, .n 4, .s 9, .bool true⟩, ⟨.add, .s 24, .s 14, .sym .i64 25⟩, ⟨.add, .s 13, .s 14, .sym .i64 63⟩, ⟨.add, .s 12, .s 63, .sym .i64 62⟩, ⟨.add, .s 11, .s 62, .sym .i64 61⟩, ⟨.add, .s 10, .s 61, .sym .i64 60⟩, ⟨.eql, .s 60, .s 25, .bool true⟩] (allC (r_len 0 (by omega)) (allC r_l0 (allC (r_len 1 (by omega)) (allC (r_ls 1 (by omega)) (allC (r_len 2 (by omega)) (allC (r_ls 2 (by omega)) (allC (r_len 3 (by omega)) (allC (r_ls 3 (by omega)) (allC (r_len 4 (by omega)) (allC (r_ls 4 (by omega)) (allC (r_r2 3 (by omega)) (allC (r_rs 5 2 (by omega)) (allC (r_rs 5 1 (by omega)) (allC (r_rs 5 0 (by omega)) (all1 (r_em 5 (by omega))))))))))))))))) (bigs_rv hold hcap hlz (m := 5) (by omega) (by rw [RV]; rfl) (RVs_mk (by rw [RV]; rfl) (RVs_mk (by rw [RV]; rfl) (RVs_mk (by rw [RV]; rfl) (RVs_mk (by rw [RV]; rfl) (RVs_mk (by rw [RV]; rfl) RVs_none)))))) dp4x5big
end Go.Proofs.YtmlelffjcgealaaDoor.XCodeE
