/- A text of the verified executor, of contracts, or of this law; joined and trimmed by a program of mine (wip/gen). -/
import Derived.Test.YthkipncmnefomaaLowV
set_option linter.unusedVariables false
set_option linter.unusedSimpArgs false
set_option linter.unusedSectionVars false
set_option maxRecDepth 100000
set_option maxHeartbeats 4000000
namespace Go.Proofs.Ythkipncmnefomaa.XCodeL
open Go Go.X
noncomputable section
variable [Nu] {R : Type} {Q : Option R → Prop} {B : Nat} {A : Nat → Prop} {S : Nat} {L : Kn}
def Plain (t : List Ins) : Prop := ∀ x ∈ t, insOK x 2 0 = true ∧ x.k ≠ 6 ∧ x.e.length ≤ 3
theorem insOK_left {x : Ins} {locs a c : Int} (h : x.k ≠ 6) : insOK x locs a = insOK x locs c := by
  unfold insOK; simp only [h, if_false]
theorem okT_plain : ∀ {t : List Ins}, Plain t → okT 2 t = true
  | [], _ => rfl
  | x :: t, h => by
    have hx := h x List.mem_cons_self
    show (insOK x 2 t.length && okT 2 t) = true
    rw [insOK_left hx.2.1 (c := 0), hx.1, okT_plain fun y hy => h y (List.mem_cons_of_mem _ hy)]; rfl
theorem paths_plain (n : Int) : ∀ {t : List Ins}, Plain t → t.foldl (fun n i => pathStep i.k n) n = n
  | [], _ => rfl
  | x :: t, h => by
    have hx := h x List.mem_cons_self
    show t.foldl _ (pathStep x.k n) = n
    rw [show pathStep x.k n = n by unfold pathStep; rw [if_neg hx.2.1]]
    exact paths_plain n fun y hy => h y (List.mem_cons_of_mem _ hy)
theorem lowT_plain : ∀ {t : List Ins}, Plain t → ((lowT t).length : Int) = (szs t).sum
  | [], _ => rfl
  | x :: t, h => by
    have hx := h x List.mem_cons_self
    have ih := lowT_plain fun y hy => h y (List.mem_cons_of_mem _ hy)
    have h1 : lowI x t = lowOne x := by rw [lowI, if_neg hx.2.1]
    have h2 : (szs (x :: t)).sum = ((lowOne x).length : Int) + (szs t).sum := by unfold szs; rw [List.map_cons, List.sum_cons]
    show ((lowI x t ++ lowT t).length : Int) = _
    rw [h1, List.length_append, h2, ← ih]; omega
theorem szs_split (t : List Ins) (k : Nat) : (szs t).sum = (szs (t.take k)).sum + (szs (t.drop k)).sum := by
  conv => lhs; rw [← List.take_append_drop k t]
  unfold szs; rw [List.map_append, List.sum_append]
theorem Plain.take {t : List Ins} (h : Plain t) (k : Nat) : Plain (t.take k) := fun x hx => h x (List.mem_of_mem_take hx)
theorem Plain.drop {t : List Ins} (h : Plain t) (k : Nat) : Plain (t.drop k) := fun x hx => h x (List.mem_of_mem_drop hx)
def skipI (k : Int) : Ins := ⟨6, 0, 0, 0, 0, [(1, 1)], k⟩
theorem few_all {t : List Ins} {k : Int} (h : Plain t) (hl : t.length ≤ 11) : Few [skipI k :: t] := by
  refine ⟨by simp, fun u hu => ?_⟩
  rw [List.mem_singleton.1 hu]
  refine ⟨by simp; omega, fun x hx => ?_⟩
  rcases List.mem_cons.1 hx with rfl | hx
  · simp [skipI]
  · have := (h x hx).2.2; omega
theorem few_two {t : List Ins} {k : Nat} (h : Plain t) (hl : t.length ≤ 11) : Few [t.take k, t.drop k] := by
  refine ⟨by simp, fun u hu => ?_⟩
  rcases List.mem_cons.1 hu with rfl | hu
  · exact ⟨by rw [List.length_take]; omega, fun x hx => by have := (h.take k x hx).2.2; omega⟩
  · rw [List.mem_singleton.1 hu]
    exact ⟨by rw [List.length_drop]; omega, fun x hx => by have := (h.drop k x hx).2.2; omega⟩
theorem check_all {t : List Ins} {k : Nat} (h : Plain t) (hl : t.length ≤ 11) (hk : k ≤ t.length) : checkP 2 [skipI k :: t] = 0 := by
  have h1 : okT 2 (skipI k :: t) = true := by
    show (insOK (skipI k) 2 t.length && okT 2 t) = true
    rw [okT_plain h, Bool.and_true]
    unfold insOK skipI; simp [checkE, checkG, checkStep, mayO1]; omega
  have h2 : paths (skipI k :: t) = 2 := paths_plain 2 h
  have h3 := evs_le t
  have h4 : evs (skipI k :: t) = 0 + evs t := by unfold evs; rw [List.map_cons, List.sum_cons]; rfl
  have h5 : bigT (skipI k :: t) = false := by unfold bigT; rw [h2]; simp; omega
  unfold checkP
  rw [if_neg (by simp), if_neg (by simp [h1]), if_neg (by simp [h5, evP, h4]; omega)]
theorem check_two {t : List Ins} {k : Nat} (h : Plain t) (hl : t.length ≤ 11) : checkP 2 [t.take k, t.drop k] = 0 := by
  have p1 : paths (t.take k) = 1 := paths_plain 1 (h.take k)
  have p2 : paths (t.drop k) = 1 := paths_plain 1 (h.drop k)
  have e1 := evs_le (t.take k)
  have e2 := evs_le (t.drop k)
  have l1 : (t.take k).length ≤ 11 := by rw [List.length_take]; omega
  have l2 : (t.drop k).length ≤ 11 := by rw [List.length_drop]; omega
  have l3 : (t.take k).length + (t.drop k).length ≤ 11 := by rw [List.length_take, List.length_drop]; omega
  have b1 : bigT (t.take k) = false := by unfold bigT; rw [p1, Bool.or_eq_false_iff]; exact ⟨decide_eq_false (by omega), rfl⟩
  have b2 : bigT (t.drop k) = false := by unfold bigT; rw [p2, Bool.or_eq_false_iff]; exact ⟨decide_eq_false (by omega), rfl⟩
  unfold checkP
  rw [if_neg (by simp), if_neg (by simp [okT_plain (h.take k), okT_plain (h.drop k)]), if_neg (by simp [b1, b2, evP]; omega)]
theorem lowT_all {t : List Ins} {k : Nat} (hk : k ≤ t.length) : lowT (skipI k :: t) = ⟨9, 0, 0, [(1, 1)], (szs (t.take k)).sum⟩ :: lowT t := by
  show lowI (skipI k) t ++ lowT t = _
  have : lowI (skipI k) t = [⟨9, 0, 0, [(1, 1)], (szs (t.take k)).sum⟩] := by unfold lowI skipI; simp
  rw [this]; rfl
end
end Go.Proofs.Ythkipncmnefomaa.XCodeL
