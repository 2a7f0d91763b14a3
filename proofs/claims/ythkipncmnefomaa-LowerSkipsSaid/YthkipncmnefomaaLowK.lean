/- A text of the verified executor, of contracts, or of this law; joined and trimmed by a program of mine (wip/gen). -/
import Derived.Test.YthkipncmnefomaaLowIM
import Derived.Test.YthkipncmnefomaaLowF
set_option linter.unusedVariables false
set_option linter.unusedSimpArgs false
set_option linter.unusedSectionVars false
set_option maxRecDepth 100000
set_option maxHeartbeats 4000000
namespace Go.Proofs.Ythkipncmnefomaa.XCodeL
open Go Go.X
noncomputable section
variable [Nu] {R : Type} {Q : Option R → Prop} {B : Nat} {A : Nat → Prop} {S : Nat} {L : Kn}
def SameI (k m1 m2 r l n : Int) (e : List (Int × Int)) (k' m1' m2' r' l' n' : Int) (e' : List (Int × Int)) : Prop := k = k' ∧ m1 = m1' ∧ m2 = m2' ∧ r = r' ∧ l = l' ∧ n = n' ∧ e = e'
end
end Go.Proofs.Ythkipncmnefomaa.XCodeL
