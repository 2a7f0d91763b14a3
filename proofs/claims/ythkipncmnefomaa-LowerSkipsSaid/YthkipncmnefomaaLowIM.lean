/- A text of the verified executor, of contracts, or of this law; joined and trimmed by a program of mine (wip/gen). -/
import Derived.Test.YthkipncmnefomaaLowAM
import Derived.Test.YthkipncmnefomaaXSep3M
set_option linter.unusedVariables false
set_option linter.unusedSimpArgs false
set_option linter.unusedSectionVars false
set_option maxRecDepth 100000
set_option maxHeartbeats 4000000
namespace Go.Proofs.Ythkipncmnefomaa.XCodeL
open Go Go.X
noncomputable section
variable [Nu] {R : Type} {Q : Option R → Prop} {B : Nat} {A : Nat → Prop} {S : Nat} {L : Kn}
theorem tokCells_at2 {L : Kn} {p : V} {ts : List (Int × Int)} {i : Nat} {t : Int × Int} (ht : ts[i]? = some t) (h : Pl L p ((tokCells ts).drop (i * 2))) : Pl L p (.int .i64 t.1 :: .int .i64 t.2 :: tokCells (ts.drop (i + 1))) := by
  rw [tokCells_at ts i t ht] at h; exact h
theorem Tk.idx {M : Kn} {v : V} {ts : List (Int × Int)} {a : Int} {K : V → H → Option R} (hv : Tk M v ts) (i : Nat) (x : Int × Int) (ha : a = (i : Int)) (hx : ts[i]? = some x) (q : ∀ p, Pl M p (.int .i64 x.1 :: .int .i64 x.2 :: tokCells (ts.drop (i + 1))) → W Q B A S L (K p)) : W Q B A S L fun h => J.idxL 2 v (.int .i64 a) R h K :=
  W.idxM hv i ha (List.getElem?_eq_some_iff.1 hx).1 fun p hp => q p (tokCells_at2 hx hp)
theorem Iv.idx {M : Kn} {v : V} {l : List Int} {a : Int} {K : V → H → Option R} (hv : Iv M v l) (i : Nat) (x : Int) (ha : a = (i : Int)) (hx : l[i]? = some x) (q : ∀ p, Pl M p (.int .i64 x :: intsC (l.drop (i + 1))) → W Q B A S L (K p)) : W Q B A S L fun h => J.idxL 1 v (.int .i64 a) R h K :=
  W.idxM hv i ha (List.getElem?_eq_some_iff.1 hx).1 fun p hp => q p (by
    have hi := (List.getElem?_eq_some_iff.1 hx).1
    rw [Nat.mul_one, intsC_drop, List.drop_eq_getElem_cons hi, (List.getElem?_eq_some_iff.1 hx).2] at hp; exact hp)
end
end Go.Proofs.Ythkipncmnefomaa.XCodeL
set_option maxRecDepth 100000
set_option maxHeartbeats 4000000
namespace Go.Proofs.Ythkipncmnefomaa.XCodeL
open Go Go.X
noncomputable section
variable [Nu] {R : Type} {Q : Option R → Prop} {B : Nat} {A : Nat → Prop} {S : Nat} {L : Kn}
end
end Go.Proofs.Ythkipncmnefomaa.XCodeL
