/- The statement LowerAll holds at every input: it returns true and its argument reads as it did. No condition. -/
import Derived.Test.YthkipncmnefomaaLowSM
import Derived.Test.YthkipncmnefomaaXAwakeL
import Derived.Test.YthkipncmnefomaaXRowM
import Derived.OpenShut
import Derived.Carry
import Derived.ChangeSlices
namespace Go.Proofs.Ythkipncmnefomaa
open Go.ChangeShapes Go.WideShapes Go.ChangeAt Go.RowKit
set_option linter.unusedVariables false
set_option maxRecDepth 100000
theorem lowerAll_own : ownKnob Try.prog.godebug = none := by kernel_rfl
theorem lowerAll_laidOut : laidOutB Try.prog = true := by kernel_rfl
theorem lowerAll_cells42 : Try.prog.cellsOf 42 = 2 := by kernel_rfl
theorem lowerAll_cells38 : Try.prog.cellsOf 38 = 7 := by kernel_rfl
theorem lowerAll_cells35 : Try.prog.cellsOf 35 = 1 := by kernel_rfl
/-- A program that comes in, as the executor knows it. -/
theorem lowerAll_opn {H : Type} (enc : TypeId × Value → H) (W : World) : letI : Go.X.Nu := ⟨fun _ => 0, W, Try.prog⟩; Go.X.Opn enc Try.prog ⟨fun _ => none, fun _ => 0, []⟩ 24 (Go.X.StT [Go.X.IntT, Go.X.SlT 1 (Go.X.SlT 7 XCodeL.InsA)]) := by
  letI : Go.X.Nu := ⟨fun _ => 0, W, Try.prog⟩
  have hi := Go.X.opn_int (enc := enc) (E := ⟨fun _ => none, fun _ => 0, []⟩) Try.underlying3
  have ht := Go.X.opn_struct (enc := enc) (E := ⟨fun _ => none, fun _ => 0, []⟩) (Ts := [Go.X.IntT, Go.X.IntT]) Try.underlying42 ⟨rfl, hi, by kernel_rfl, hi, (show _ = _ by kernel_rfl)⟩
  have he := Go.X.opn_slice Try.underlying36 lowerAll_cells42 (by decide) ht
  have hs := Go.X.opn_struct (enc := enc) (E := ⟨fun _ => none, fun _ => 0, []⟩) (Ts := [Go.X.IntT, Go.X.IntT, Go.X.IntT, Go.X.IntT, Go.X.IntT, Go.X.SlT 2 (Go.X.StT [Go.X.IntT, Go.X.IntT]), Go.X.IntT]) Try.underlying38 ⟨rfl, hi, by kernel_rfl, hi, by kernel_rfl, hi, by kernel_rfl, hi, by kernel_rfl, hi, by kernel_rfl, he, by kernel_rfl, hi, (show _ = _ by kernel_rfl)⟩
  have h1 := Go.X.opn_slice Try.underlying35 lowerAll_cells38 (by decide) hs
  have h2 := Go.X.opn_slice Try.underlying22 lowerAll_cells35 (by decide) h1
  exact Go.X.opn_struct Try.underlying24 ⟨rfl, hi, by kernel_rfl, h2, (show _ = _ by kernel_rfl)⟩
theorem lowerAll_walk {H : Type} (enc : TypeId × Value → H) (W : World) {r : Reach} {b0 : Nat} {v : Value} {d : DataW H} {p : List MemPlace} (hval : Value.okWide Try.prog W r b0 24 v) (h : DataW.Trod enc Try.prog W 0 (fun _ => true) true 24 v d p) : Calls Try.prog 3 #[v] W fun e w' => e = .returned (.bool true) ∧ Below W.heap.size W w' := by
  letI : Go.X.Nu := ⟨fun _ => 0, W, Try.prog⟩
  obtain ⟨fuel, hf⟩ := h
  obtain ⟨l, h1, h2⟩ := lowerAll_opn enc W _ _ _ _ _ hf
  obtain ⟨_, _, rfl, ⟨locs, rfl, _⟩, _, _, rfl, ⟨vt, rfl, ht⟩, hr⟩ := h2
  have hr : _ = [] := hr
  subst hr
  have hv : ∃ cs, v = .agg cs := by
    unfold Value.okWide at hval
    rw [Try.underlying24] at hval
    obtain ⟨cs, h, _⟩ := hval; exact ⟨cs, h⟩
  obtain ⟨cs, rfl⟩ := hv
  have ho : Go.X.OrcOK Try.prog (Go.X.rowsOrc [⟨6, [], .bool true⟩] [] []) := Go.X.rowsOrc_ok (Go.X.allC (XCodeL.awake_row6 _ _) Go.X.all0) Go.X.all0 Go.X.all0
  exact Go.X.calls_trueD (XCodeL.cx_ok rfl) XCodeL.cx_mixed (XCodeL.allD rfl) ho (XCodeL.lowerAll_run (m := 0) (locs := locs) ht) W (Below.refl _ _) (Go.X.RVs_one (by rw [Go.X.RV]; exact ⟨cs.toList, by simp, h1⟩))

set_option maxRecDepth 100000 in
theorem lowerAll_lifted (os : Os) (started : os.Started) (H : Type) (enc : TypeId × Value → H) :
    ReturnsInHanded {} Try.checked os 3 .any (Rows.lowerAllSpec.pre6 enc Try.prog Try.f3 Rows.lowerAllRow.domain false) (Rows.lowerAllSpec.post enc Try.prog Try.f3 false true false false) := by
  refine returnsInHanded_of_change (C := Try.checked) lowerAll_own started (by kernel_rfl) Try.func3
    (ChangeSpec.witness6 (enc := enc) (C := Try.checked) false ⟨#[], #[.agg #[.int .i64 0, .slice none 0 0]], []⟩ 8 (by kernel_rfl) (by kernel_rfl) (by kernel_rfl) (by kernel_rfl)) ?_
  intro W base args ds gs before hval0 hW hcnd _
  have hval : ∀ (j : Nat) t v, Try.f3.params[j]? = some t → args[j]? = some v → Value.okWide Try.prog W .any base t v := hval0
  have hW' := hW
  obtain ⟨p, q, hA0, hV, rfl, hfz, hnd⟩ := hW
  have hA : DataW.TrodAll enc Try.prog W 0 (fun _ => true) true Try.f3.params.toList args.toList ds p := hA0
  rw [Try.params3] at hA hval
  obtain ⟨v0, vs0, d0, ds0, p0, q0, hargs, rfl, rfl, h0, r0⟩ := trodAll_cons hA
  obtain ⟨rfl, rfl, rfl⟩ := trodAll_nil r0
  obtain rfl : args = #[v0] := by cases args; simp_all
  obtain ⟨rfl, rfl⟩ := trodVars_none hV
  have hlt0 : ∀ x ∈ p0, x.block < W.heap.size := fun x hx => hW'.lt x (by simp [hx])
  have hv0 := hval 0 24 v0 rfl rfl
  clear hA0 hval0
  simp only [List.append_nil] at hW'
  refine (lowerAll_walk enc W hv0 h0).mono fun e W' ⟨he, hg⟩ => ?_
  subst he
  have hargs : DataW.TrodAll enc Try.prog W' 0 (fun b => decide (b < W.heap.size)) true [24] [v0] _ _ := (trodAll_cons_mk (Below.trod lowerAll_laidOut (by kernel_rfl) (of_decide_eq_true (by kernel_rfl)) h0 hg hlt0) trodAll_mk0)
  exact ⟨_, rfl, Go.X.post_of_below2 (pv := []) hW' (fun _ _ _ => (trodAll_cons_mk (shut_bool Try.underlying4 _) trodAll_mk0)) hargs (fun _ _ => rfl) (by simp) (hg.frame _)⟩

theorem lowerAll_over : Rows.lowerAllRow.holds Try.pinned (OpenSpec.ofChange Rows.lowerAllSpec) :=
  OpenClaim.holds_of_wide 3 Try.f3 rfl rfl rfl rfl rfl rfl rfl ⟨rfl, rfl, rfl, rfl, rfl⟩ rfl rfl rfl rfl rfl (by kernel_rfl) Try.func3 (by kernel_rfl)
    (of_decide_eq_true (by kernel_rfl)) (by unfold Func.isWrapper; first | (rw [if_pos (by decide +kernel)]; kernel_rfl) | (rw [if_neg (by decide +kernel)]; exact ⟨rfl, rfl⟩))
    (fun os started H enc _ => lowerAll_lifted os started H enc)

theorem lowerAll_proved : Rows.LowerAllSaid :=
  lowerAll_over
#print axioms lowerAll_proved
end Go.Proofs.Ythkipncmnefomaa
