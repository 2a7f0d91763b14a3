/- A verified executor, part 26: the table of the compact functions. -/
import Derived.Test.YtojfkhhebedeoaaGreatDoorXRun
set_option linter.unusedVariables false
set_option linter.unusedSimpArgs false
set_option linter.unusedSectionVars false
namespace Go.X
open Go.RowKit

/-- A table of such items. -/
noncomputable def tabOf {α : Type 1} : List (Nat × α) → Uh α := List.rec Uh.nil fun p _ ih => ih.put p.2 p.1
theorem mem_tabOf {α : Type 1} {v : α} : ∀ (l : List (Nat × α)) (k : Nat), (tabOf l).get k = some v → (k, v) ∈ l
  | [], k, h => by rw [show (tabOf [] : Uh α) = Uh.nil from rfl, Uh.get_nil] at h; exact nomatch h
  | p :: l, k, h => by
    rw [show tabOf (p :: l) = (tabOf l).put p.2 p.1 from rfl, Uh.get_put] at h
    by_cases c : k = p.1
    · rw [if_pos c] at h
      simp only [Option.some.injEq] at h
      subst c
      subst h
      exact List.mem_cons_self
    · rw [if_neg c] at h
      exact List.mem_cons_of_mem _ (mem_tabOf l k h)

/-- Each function of the list is told rightly. -/
def AllTold (Γ : Cx) : List (Nat × FnC) → Prop
  | [] => True
  | p :: l => (∃ fn w, Γ.P.funcs[p.1]? = some fn ∧ cF Γ w p.1 fn = some p.2) ∧ AllTold Γ l
theorem AllTold.mem {Γ : Cx} : ∀ {l : List (Nat × FnC)}, AllTold Γ l → ∀ p ∈ l, ∃ fn w, Γ.P.funcs[p.1]? = some fn ∧ cF Γ w p.1 fn = some p.2
  | [], _, p, h => nomatch h
  | q :: l, h, p, hp => by
    rcases List.mem_cons.1 hp with rfl | hp
    · exact h.1
    · exact h.2.mem p hp
theorem tableOK_of {Γ : Cx} {l : List (Nat × FnC)} (ht : AllTold Γ l) : TableOK Γ (tabOf l) := fun g fc hg => ht.mem _ (mem_tabOf l g hg)
end Go.X
