/- A text of the verified executor, of contracts, or of this law; joined and trimmed by a program of mine (wip/gen). -/
import Derived.Test.YthkipncmnefomaaLowQM
import Derived.Test.YthkipncmnefomaaLowIM
import Derived.Test.YthkipncmnefomaaXRowM
set_option linter.unusedVariables false
set_option linter.unusedSimpArgs false
set_option linter.unusedSectionVars false
set_option maxRecDepth 100000
set_option maxHeartbeats 4000000
namespace Go.Proofs.Ythkipncmnefomaa.XCodeL
open Go Go.X
noncomputable section
variable [Nu] {R : Type} {Q : Option R → Prop} {B : Nat} {A : Nat → Prop} {S : Nat} {L : Kn}
theorem PThr.idxM {M : Kn} {v : V} {ps : List (List PIn)} {a : Int} {K : V → H → Option R} (h : PThr M v ps) (i : Nat) (x : List PIn) (ha : a = (i : Int)) (hx : ps[i]? = some x) (q : ∀ p vt r, PR M vt x → Pl M p (vt :: r) → W Q B A S L (K p)) : W Q B A S L fun h => J.idxL 1 v (.int .i64 a) R h K := by
  obtain ⟨l, h1, h2⟩ := h
  refine W.idxM h1 i ha (List.getElem?_eq_some_iff.1 hx).1 fun p hp => ?_
  have key : ∀ {ps : List (List PIn)} {l : List V} (i : Nat) (x : List PIn), PT M ps l → ps[i]? = some x → ∃ v r, l.drop (i * 1) = v :: r ∧ PR M v x := by
    intro ps
    induction ps with
    | nil => intro l i x _ e; exact nomatch e
    | cons y is ih =>
      intro l i x h e
      obtain ⟨v, r, h1, h2, h3⟩ := h
      cases i with
      | zero =>
        simp only [List.getElem?_cons_zero, Option.some.injEq] at e
        subst e; exact ⟨v, r, by rw [Nat.zero_mul, List.drop_zero, h1], h2⟩
      | succ i =>
        obtain ⟨v', r', h4, h5⟩ := ih i x h3 e
        refine ⟨v', r', ?_, h5⟩
        rw [h1, show (i + 1) * 1 = i * 1 + 1 by omega]
        exact h4
  obtain ⟨ve, r, h3, h4⟩ := key i x h2 hx
  exact q p ve r h4 (h3 ▸ hp)
theorem PThr.len {M : Kn} {v : V} {ps : List (List PIn)} {K : V → H → Option R} (h : PThr M v ps) (q : W Q B A S L (K (.int .i64 ps.length))) : W Q B A S L fun h => J.lenL v R h K := by
  obtain ⟨l, h1, h2⟩ := h; exact W.lenM h1 q
theorem PThr.one {M : Kn} {v : V} {ps : List (List PIn)} (h : PThr M v ps) : v.one = true := by obtain ⟨l, h1, h2⟩ := h; exact h1.one
theorem PR.len {M : Kn} {v : V} {ps : List PIn} {K : V → H → Option R} (h : PR M v ps) (q : W Q B A S L (K (.int .i64 ps.length))) : W Q B A S L fun h => J.lenL v R h K := by
  obtain ⟨l, h1, h2⟩ := h; exact W.lenM h1 q
end
end Go.Proofs.Ythkipncmnefomaa.XCodeL
set_option maxRecDepth 100000
set_option maxHeartbeats 4000000
namespace Go.Proofs.Ythkipncmnefomaa.XCodeL
open Go Go.X
noncomputable section
variable [Nu] {R : Type} {Q : Option R → Prop} {B : Nat} {A : Nat → Prop} {S : Nat} {L : Kn}
def good (t : List Ins) : Prop := t.length ≤ 16 ∧ ∀ x ∈ t, x.e.length ≤ 12
def InsA : List V → Prop := StT [IntT, IntT, IntT, IntT, IntT, SlT 2 (StT [IntT, IntT]), IntT]
end
end Go.Proofs.Ythkipncmnefomaa.XCodeL
