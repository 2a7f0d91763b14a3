/- A text of the verified executor, of contracts, or of this law; joined and trimmed by a program of mine (wip/gen). -/
import Derived.Test.YthkipncmnefomaaXSep3M
set_option linter.unusedVariables false
set_option linter.unusedSimpArgs false
set_option linter.unusedSectionVars false
namespace Go.X
open Go.RowKit
noncomputable section
variable [Nu]
namespace W
variable {R : Type} {Q : Option R → Prop} {B : Nat} {A : Nat → Prop} {S : Nat} {L : Kn} {K : V → H → Option R} {F : CallF} {a b : Int}
theorem remT (hb : b ≠ 0) (q : W Q B A S L (K (.int .i64 (Int.tmod a b)))) : W Q B A S L fun h => J.bin F .rem (.int .i64 a) (.int .i64 b) R h K :=
  bin (r := .int .i64 (Int.tmod a b)) (by
    show (Bool.rec (some (V.int .i64 (imod a b))) none (ieq b 0) : Option V) = _
    have : ieq b 0 = false := by rw [ieq_eq]; simpa using hb
    rw [this, imod_eq]) q
theorem rem (q : W Q B A S L (K (.int .i64 (a % b)))) (ha : 0 ≤ a := by omega) (hb : 0 < b := by omega) : W Q B A S L fun h => J.bin F .rem (.int .i64 a) (.int .i64 b) R h K :=
  remT (by omega) (by rw [Int.tmod_eq_emod_of_nonneg ha]; exact q)
theorem quo (q : W Q B A S L (K (.int .i64 (a / b)))) (ha : 0 ≤ a := by omega) (hb : 0 < b := by omega) (hm : a ≤ 9223372036854775807 := by omega) : W Q B A S L fun h => J.bin F .quo (.int .i64 a) (.int .i64 b) R h K :=
  bin (r := .int .i64 (a / b)) (by
    show (Bool.rec (some (V.int .i64 (wrap64 (idiv a b)))) none (ieq b 0) : Option V) = _
    have h0 : ieq b 0 = false := by rw [ieq_eq]; simp; omega
    rw [h0, idiv_eq, Int.tdiv_eq_ediv_of_nonneg ha, wrap64_eq]
    have h1 : 0 ≤ a / b := Int.ediv_nonneg ha (by omega)
    have h2 : a / b ≤ a := Int.ediv_le_self b ha
    have : IntKind.i64.wrap (a / b) = a / b := by rw [IntKind.wrap_i64]; omega
    rw [this]) q
theorem at1 {l : List V} {n : Nat} {i : Nat} {v : V} (hi : i < n) (hv : l[i]? = some v) (ha : a = (i : Int)) (q : W Q B A S L (K v)) : W Q B A S L fun h => J.at1 n (.agg l) (.int .i64 a) R h K := fun h m => by
  subst ha
  show Q (Bool.rec none (nthK (fun r => K r h) l i) (Nat.ble (Nat.succ i) n))
  have : Nat.ble (Nat.succ i) n = true := Nat.ble_eq_true_of_le hi
  rw [this]
  show Q (nthK (fun r => K r h) l i)
  rw [Ev.nthK_bind, hv]; exact q h m
theorem lnewT {K : V × List (Nat × Bool) × Nat → H → Option R} {y : Nat} {z : List V} (q : ∀ b hi, B ≤ b → S ≤ b → b < hi → W Q B A hi ((b, .cells z true y) :: L) (K (.ptr b 0, [], hi))) : W Q B A S L fun h => X.logged (J.newT y z) R h K := fun h m => by
  obtain ⟨hp, nx, lg, log⟩ := h
  show Q (X.logged (J.newT y z) R ⟨hp, nx, lg, log⟩ K)
  rw [Ev.logged]
  refine St.newT (m.free nx (Nat.le_refl _)) ?_
  have m1 := Mem.new (.cells z true y) m
  refine q nx (nx + 1) m.low m.sz (Nat.lt_succ_self _) _ ⟨m1.blk, m1.nd, m1.free, m1.low, Nat.le_refl _, m1.may, fun p hp => ?_⟩
  have h8 : ∀ p ∈ log, p.1 < nx + 1 ∧ (p.1 < B → p.2 = false ∧ A p.1) := fun p hp => ⟨Nat.lt_succ_of_lt (m.ro p hp).1, (m.ro p hp).2⟩
  cases lg <;> exact h8 p hp
theorem lstoreN {K : V × List (Nat × Bool) × Nat → H → Option R} {n b o : Nat} {u : V} {c : List V} {y : Nat} (hB : B ≤ b) (hu : u.cells.length = n) (ho : o + n ≤ c.length) (h1 : allOne u.cells = true) (q : ∀ lgs hi, S ≤ hi → (∀ p ∈ lgs, p.1 = b) → W Q B A hi ((b, .cells (c.take o ++ (u.cells ++ c.drop (o + n))) true y) :: L) (K (X.undef, lgs, hi))) : W Q B A S ((b, .cells c true y) :: L) fun h => X.logged (J.storeN n (.ptr b o) u) R h K := fun h m => by
  obtain ⟨hp, nx, lg, log⟩ := h
  have hm := m.blk _ List.mem_cons_self
  show Q (X.logged (J.storeN n (.ptr b o) u) R ⟨hp, nx, lg, log⟩ K)
  rw [Ev.logged]
  refine St.storeN hm.1 hm.2 hu ho h1 ?_
  have m1 := Mem.put (.cells (c.take o ++ (u.cells ++ c.drop (o + n))) true y) m
  refine q [(b, true), (b, false)] nx m.sz (fun p hp => by rcases List.mem_cons.1 hp with rfl | hp; · rfl
                                                           · rw [List.mem_singleton.1 hp]) _ ⟨m1.blk, m1.nd, m1.free, m1.low, Nat.le_refl _, m1.may, fun p hp => ?_⟩
  have hbb : ∀ f, (b, f).1 < nx ∧ ((b, f).1 < B → (b, f).2 = false ∧ A (b, f).1) := fun f => ⟨hm.2, fun c => absurd hB (Nat.not_le.2 c)⟩
  cases lg with
  | false => exact m.ro p hp
  | true =>
    rcases List.mem_cons.1 hp with rfl | hp
    · exact hbb true
    · rcases List.mem_cons.1 hp with rfl | hp
      · exact hbb false
      · exact m.ro p hp
end W
end
end Go.X
