/- The statement PthreadPairs holds at every input: it returns true and its arguments read as they did. No condition. -/
import Derived.Test.YtmlelffjcgealaaPairsWalk
import Derived.Test.YtmlelffjcgealaaXPost
import Derived.OpenShut
import Derived.Carry
import Derived.ChangeSlices
namespace Go.Proofs.Ytmlelffjcgealaa
open Go.ChangeShapes Go.WideShapes Go.ChangeAt Go.RowKit
set_option linter.unusedVariables false
theorem pthreadPairs_own : ownKnob Try.prog.godebug = none := by kernel_rfl
theorem pthreadPairs_laidOut : laidOutB Try.prog = true := by kernel_rfl
theorem pthreadPairs_cells3 : Try.prog.cellsOf 3 = 1 := by kernel_rfl

set_option maxRecDepth 100000 in
theorem pthreadPairs_lifted (os : Os) (started : os.Started) (H : Type) (enc : TypeId × Value → H) :
    ReturnsInHanded {} Try.checked os 5 .any (Rows.pthreadPairsSpec.pre6 enc Try.prog Try.f5 Rows.pthreadPairsRow.domain false) (Rows.pthreadPairsSpec.post enc Try.prog Try.f5 false true false false) := by
  refine returnsInHanded_of_change (C := Try.checked) pthreadPairs_own started (by kernel_rfl) Try.func5
    (ChangeSpec.witness6 (enc := enc) (C := Try.checked) false ⟨#[], #[.int .i64 0, .slice none 0 0, .bool false], []⟩ 8 (by kernel_rfl) (by kernel_rfl) (by kernel_rfl) (by kernel_rfl)) ?_
  intro W base args ds gs before hval0 hW hcnd _
  have hval : ∀ (j : Nat) t v, Try.f5.params[j]? = some t → args[j]? = some v → Value.okWide Try.prog W .any base t v := hval0
  have hW' := hW
  obtain ⟨p, q, hA0, hV, rfl, hfz, hnd⟩ := hW
  have hA : DataW.TrodAll enc Try.prog W 0 (fun _ => true) true Try.f5.params.toList args.toList ds p := hA0
  rw [Try.params5] at hA hval
  obtain ⟨v0, vs0, d0, ds0, p0, q0, hargs, rfl, rfl, h0, r0⟩ := trodAll_cons hA
  obtain ⟨v1, vs1, d1, ds1, p1, q1, rfl, rfl, rfl, h1, r1⟩ := trodAll_cons r0
  obtain ⟨v2, vs2, d2, ds2, p2, q2, rfl, rfl, rfl, h2, r2⟩ := trodAll_cons r1
  obtain ⟨rfl, rfl, rfl⟩ := trodAll_nil r2
  obtain rfl : args = #[v0, v1, v2] := by cases args; simp_all
  obtain ⟨rfl, rfl⟩ := trodVars_none hV
  obtain ⟨a0, rfl, rfl, rfl, w0⟩ := open_int Try.underlying3 (hval 0 3 v0 rfl rfl) h0
  have hlt1 : ∀ x ∈ p1, x.block < W.heap.size := fun x hx => hW'.lt x (by simp [hx])
  have hv1 : Go.X.IntsArg W v1 := by
    obtain ⟨fuel, hf⟩ := h1
    obtain ⟨s, l, c, rfl⟩ := okWide_slice Try.underlying31 (hval 1 31 v1 rfl rfl)
    rcases open_ints Try.underlying31 Try.underlying3 pthreadPairs_cells3 hf with ⟨hcs, _⟩ | ⟨a, len', cap', zs, hcs, _, hl, _, hz, _, hcl, _⟩
    · simp [Value.cells] at hcs
      obtain ⟨rfl, rfl, rfl⟩ := hcs
      exact .inl rfl
    · simp [Value.cells] at hcs
      obtain ⟨rfl, rfl, rfl⟩ := hcs
      exact .inr ⟨a, _, _, zs, rfl, hl, by rw [hz]; split <;> omega, hcl⟩
  obtain ⟨a2, rfl, rfl, rfl⟩ := open_bool Try.underlying4 (hval 2 4 v2 rfl rfl) h2
  clear hA0 hval0
  simp only [List.append_nil] at hW'
  refine (XCodeB.walkPthreadPairs a0 v1 a2 W hv1).mono fun e W' ⟨he, hg⟩ => ?_
  subst he
  have hargs : DataW.TrodAll enc Try.prog W' 0 (fun b => decide (b < W.heap.size)) true [3, 31, 4] [.int .i64 a0, v1, .bool a2] _ _ := (trodAll_cons_mk (shut_int Try.underlying3 w0) (trodAll_cons_mk (Below.trod pthreadPairs_laidOut (by kernel_rfl) (of_decide_eq_true (by kernel_rfl)) h1 hg hlt1) (trodAll_cons_mk (shut_bool Try.underlying4 _) trodAll_mk0)))
  exact ⟨_, rfl, Go.X.post_of_below2 (pv := []) hW' (fun _ _ _ => (trodAll_cons_mk (shut_bool Try.underlying4 _) trodAll_mk0)) hargs (fun _ _ => rfl) (by simp) (hg.frame _)⟩

theorem pthreadPairs_over : Rows.pthreadPairsRow.holds Try.pinned (OpenSpec.ofChange Rows.pthreadPairsSpec) :=
  OpenClaim.holds_of_wide 5 Try.f5 rfl rfl rfl rfl rfl rfl rfl ⟨rfl, rfl, rfl, rfl, rfl⟩ rfl rfl rfl rfl rfl (by kernel_rfl) Try.func5 (by kernel_rfl)
    (of_decide_eq_true (by kernel_rfl)) (by unfold Func.isWrapper; first | (rw [if_pos (by decide +kernel)]; kernel_rfl) | (rw [if_neg (by decide +kernel)]; exact ⟨rfl, rfl⟩))
    (fun os started H enc _ => pthreadPairs_lifted os started H enc)

theorem pthreadPairs_proved : Rows.PthreadPairsSaid :=
  pthreadPairs_over
#print axioms pthreadPairs_proved
end Go.Proofs.Ytmlelffjcgealaa
