/- A verified executor, part 26: the table of the compact functions. -/
import Derived.Test.YtaoobghobcikdaaDoorXRun
set_option linter.unusedVariables false
set_option linter.unusedSimpArgs false
set_option linter.unusedSectionVars false
namespace Go.X
open Go.RowKit

/-- The items of a table, by the keys. -/
def itemsOf {α : Type 1} : Tr α → Nat → Nat → List (Nat × α)
  | .nil, _, _ => []
  | .leaf j v, m, a => [(Nat.add a (Nat.mul m j), v)]
  | .node l r, m, a => itemsOf l (Nat.mul 2 m) a ++ itemsOf r (Nat.mul 2 m) (Nat.add a m)
theorem mem_itemsOf {α : Type 1} {v : α} : ∀ (t : Tr α) (k m a : Nat), t.get k = some v → (a + m * k, v) ∈ itemsOf t m a
  | .nil, k, m, a, h => by rw [Tr.get_nil] at h; exact nomatch h
  | .leaf j u, k, m, a, h => by
    have h' : Tr.getK some (.leaf j u) k = some v := h
    rw [Tr.getK_leaf] at h'
    by_cases c : k = j
    · rw [if_pos c] at h'
      simp only [Option.some.injEq] at h'
      subst c
      subst h'
      exact List.mem_singleton.2 rfl
    · rw [if_neg c] at h'; exact nomatch h'
  | .node l r, k, m, a, h => by
    have h' : Tr.getK some (.node l r) k = some v := h
    rw [Tr.getK_node] at h'
    have hk := Nat.div_add_mod k 2
    by_cases c : k % 2 = 0
    · rw [if_pos c] at h'
      have := mem_itemsOf l (k / 2) (2 * m) a h'
      have e : a + 2 * m * (k / 2) = a + m * k := by
        rw [Nat.mul_comm 2 m, Nat.mul_assoc]
        congr 2
        omega
      rw [e] at this
      exact List.mem_append_left _ this
    · rw [if_neg c] at h'
      have := mem_itemsOf r (k / 2) (2 * m) (a + m) h'
      have e : a + m + 2 * m * (k / 2) = a + m * k := by
        rw [Nat.mul_comm 2 m, Nat.mul_assoc, Nat.add_assoc]
        have : m + m * (2 * (k / 2)) = m * (1 + 2 * (k / 2)) := by rw [Nat.mul_add, Nat.mul_one]
        rw [this]
        congr 2
        omega
      rw [e] at this
      exact List.mem_append_right _ this

/-- Each function of the list is told rightly. -/
def AllTold (Γ : Cx) : List (Nat × FnC) → Prop
  | [] => True
  | p :: l => (∃ fn w, Γ.P.funcs[p.1]? = some fn ∧ cF Γ w fn = some p.2) ∧ AllTold Γ l
theorem AllTold.mem {Γ : Cx} : ∀ {l : List (Nat × FnC)}, AllTold Γ l → ∀ p ∈ l, ∃ fn w, Γ.P.funcs[p.1]? = some fn ∧ cF Γ w fn = some p.2
  | [], _, p, h => nomatch h
  | q :: l, h, p, hp => by
    rcases List.mem_cons.1 hp with rfl | hp
    · exact h.1
    · exact h.2.mem p hp
theorem tableOK_of {Γ : Cx} {T : Tr FnC} {l : List (Nat × FnC)} (h : itemsOf T 1 0 = l) (ht : AllTold Γ l) : TableOK Γ T := by
  intro g fc hg
  have := mem_itemsOf T g 1 0 hg
  rw [h, Nat.zero_add, Nat.one_mul] at this
  exact ht.mem _ this
end Go.X
