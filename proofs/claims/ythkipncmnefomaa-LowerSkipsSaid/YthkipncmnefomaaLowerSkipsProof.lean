/- The statement holds at every input: it returns true and its arguments read as they did. No condition. -/
import Derived.Test.YthkipncmnefomaaLowX
import Derived.Test.YthkipncmnefomaaXRowM
import Derived.Test.YthkipncmnefomaaXAwakeL
import Derived.OpenShut
import Derived.Carry
import Derived.ChangeSlices
set_option linter.unusedVariables false
set_option linter.unusedSimpArgs false
set_option linter.unusedSectionVars false
namespace Go.Proofs.Ythkipncmnefomaa
open Go.ChangeShapes Go.WideShapes Go.ChangeAt Go.RowKit
theorem lowerSkips_own : ownKnob Try.prog.godebug = none := by kernel_rfl
theorem lowerSkips_laidOut : laidOutB Try.prog = true := by kernel_rfl
theorem lowerSkips_cells3 : Try.prog.cellsOf 3 = 1 := by kernel_rfl
theorem lowerSkips_opnints {H : Type} (enc : TypeId × Value → H) (W : World) : letI : Go.X.Nu := ⟨fun _ => 0, W, Try.prog⟩; Go.X.Opn enc Try.prog ⟨fun _ => none, fun _ => 0, []⟩ 34 (Go.X.SlT 1 Go.X.IntT) := by
  letI : Go.X.Nu := ⟨fun _ => 0, W, Try.prog⟩
  exact Go.X.opn_slice Try.underlying34 lowerSkips_cells3 (by decide) (Go.X.opn_int (enc := enc) (E := ⟨fun _ => none, fun _ => 0, []⟩) Try.underlying3)
theorem lowerSkips_walk {H : Type} (enc : TypeId × Value → H) (W : World) {r : Reach} {b0 : Nat} {v0 : Value} {d0 : DataW H} {p0 : List MemPlace} (hval0 : Value.okWide Try.prog W r b0 34 v0) (h0 : DataW.Trod enc Try.prog W 0 (fun _ => true) true 34 v0 d0 p0) {v1 : Value} {d1 : DataW H} {p1 : List MemPlace} (hval1 : Value.okWide Try.prog W r b0 3 v1) (h1 : DataW.Trod enc Try.prog W 0 (fun _ => true) true 3 v1 d1 p1) : Calls Try.prog 4 #[v0, v1] W fun e w' => e = .returned (.bool true) ∧ Below W.heap.size W w' := by
  letI : Go.X.Nu := ⟨fun _ => 0, W, Try.prog⟩
  obtain ⟨s0, l0, c0, rfl⟩ := okWide_slice Try.underlying34 hval0
  obtain ⟨f0, hf0⟩ := h0
  obtain ⟨_, e0, x0, rfl, h0⟩ := lowerSkips_opnints enc W _ _ _ _ _ hf0
  obtain ⟨n1, rfl, _, _, _⟩ := open_int Try.underlying3 hval1 h1
  have ho : Go.X.OrcOK Try.prog (Go.X.rowsOrc [⟨6, [], .bool true⟩] [] []) := Go.X.rowsOrc_ok (Go.X.allC (XCodeL.awake_row6 _ _) Go.X.all0) Go.X.all0 Go.X.all0
  exact Go.X.calls_trueD (XCodeL.cx_ok rfl) XCodeL.cx_mixed (XCodeL.allD rfl) ho (XCodeL.lowerSkips_run (m := 0) (n := n1) h0) W (Below.refl _ _) (Go.X.RVs_append e0 (show Go.X.RVs ⟨fun _ => none, fun _ => 0, []⟩ [.int .i64 n1] [.int .i64 n1] from Go.X.RVs_one (by rw [Go.X.RV])))
set_option maxRecDepth 100000 in
theorem lowerSkips_lifted (os : Os) (started : os.Started) (H : Type) (enc : TypeId × Value → H) :
    ReturnsInHanded {} Try.checked os 4 .any (Rows.lowerSkipsSpec.pre6 enc Try.prog Try.f4 Rows.lowerSkipsRow.domain false) (Rows.lowerSkipsSpec.post enc Try.prog Try.f4 false true false false) := by
  refine returnsInHanded_of_change (C := Try.checked) lowerSkips_own started (by kernel_rfl) Try.func4
    (ChangeSpec.witness6 (enc := enc) (C := Try.checked) false ⟨#[], #[.slice none 0 0, .int .i64 0], []⟩ 8 (by kernel_rfl) (by kernel_rfl) (by kernel_rfl) (by kernel_rfl)) ?_
  intro W base args ds gs before hval0 hW hcnd _
  have hval : ∀ (j : Nat) t v, Try.f4.params[j]? = some t → args[j]? = some v → Value.okWide Try.prog W .any base t v := hval0
  have hW' := hW
  obtain ⟨p, q, hA0, hV, rfl, hfz, hnd⟩ := hW
  have hA : DataW.TrodAll enc Try.prog W 0 (fun _ => true) true Try.f4.params.toList args.toList ds p := hA0
  rw [Try.params4] at hA hval
  obtain ⟨v0, vs0, d0, ds0, p0, q0, hargs, rfl, rfl, h0, r0⟩ := trodAll_cons hA
  obtain ⟨v1, vs1, d1, ds1, p1, q1, rfl, rfl, rfl, h1, r1⟩ := trodAll_cons r0
  obtain ⟨rfl, rfl, rfl⟩ := trodAll_nil r1
  obtain rfl : args = #[v0, v1] := by cases args; simp_all
  obtain ⟨rfl, rfl⟩ := trodVars_none hV
  have hlt0 : ∀ x ∈ p0, x.block < W.heap.size := fun x hx => hW'.lt x (by simp [hx])
  have hv0 := hval 0 34 v0 rfl rfl
  have hlt1 : ∀ x ∈ p1, x.block < W.heap.size := fun x hx => hW'.lt x (by simp [hx])
  have hv1 := hval 1 3 v1 rfl rfl
  clear hA0 hval0
  simp only [List.append_nil] at hW'
  refine (lowerSkips_walk enc W hv0 h0 hv1 h1).mono fun e W' ⟨he, hg⟩ => ?_
  subst he
  have hargs : DataW.TrodAll enc Try.prog W' 0 (fun b => decide (b < W.heap.size)) true [34, 3] [v0, v1] _ _ := (trodAll_cons_mk (Below.trod lowerSkips_laidOut (by kernel_rfl) (of_decide_eq_true (by kernel_rfl)) h0 hg hlt0) (trodAll_cons_mk (Below.trod lowerSkips_laidOut (by kernel_rfl) (of_decide_eq_true (by kernel_rfl)) h1 hg hlt1) trodAll_mk0))
  exact ⟨_, rfl, Go.X.post_of_below2 (pv := []) hW' (fun _ _ _ => (trodAll_cons_mk (shut_bool Try.underlying4 _) trodAll_mk0)) hargs (fun _ _ => rfl) (by simp) (hg.frame _)⟩
theorem lowerSkips_over : Rows.lowerSkipsRow.holds Try.pinned (OpenSpec.ofChange Rows.lowerSkipsSpec) :=
  OpenClaim.holds_of_wide 4 Try.f4 rfl rfl rfl rfl rfl rfl rfl ⟨rfl, rfl, rfl, rfl, rfl⟩ rfl rfl rfl rfl rfl (by kernel_rfl) Try.func4 (by kernel_rfl)
    (of_decide_eq_true (by kernel_rfl)) (by unfold Func.isWrapper; first | (rw [if_pos (by decide +kernel)]; kernel_rfl) | (rw [if_neg (by decide +kernel)]; exact ⟨rfl, rfl⟩))
    (fun os started H enc _ => lowerSkips_lifted os started H enc)
theorem lowerSkips_proved : Rows.LowerSkipsSaid :=
  lowerSkips_over
#print axioms lowerSkips_proved
end Go.Proofs.Ythkipncmnefomaa
