/- A text of the verified executor, of contracts, or of this law; joined and trimmed by a program of mine (wip/gen). -/
import Derived.Test.YthkipncmnefomaaLowK
set_option linter.unusedVariables false
set_option linter.unusedSimpArgs false
set_option linter.unusedSectionVars false
set_option maxRecDepth 100000
set_option maxHeartbeats 4000000
namespace Go.Proofs.Ythkipncmnefomaa.XCodeL
open Go Go.X
noncomputable section
variable [Nu] {R : Type} {Q : Option R → Prop} {B : Nat} {A : Nat → Prop} {S : Nat} {L : Kn}
theorem checkRS_c {K : V → H → Option R} {m : Nat} {vs : List V} {ts : List (Int × Int)} {v : V} (hvs : vs = [v]) (hv : Tk L v ts) (hl : ts.length < 100000) (q : checkE ts = true → W Q B A S L (K (.bool true))) (q' : checkE ts = false → W Q B A S L (K (.bool false))) : W Q B A S L fun h => J.call (F (m + 2)) (.fn (.func 46) [] []) vs R h K :=
  checkR_c hvs hv hl (boolE q q')
theorem instrR1_c {K : V → H → Option R} {m : Nat} {vs : List V} {m1 m2 r l n : Int} {e : List (Int × Int)} {ve : V} {locs left : Int} (hvs : vs = [.agg [.int .i64 1, .int .i64 m1, .int .i64 m2, .int .i64 r, .int .i64 l, ve, .int .i64 n], .int .i64 locs, .int .i64 left]) (hv : Tk L ve e) (hl : e.length ≤ 12) (h1 : 1 ≤ locs) (h4 : locs ≤ 4) (q : W Q B A S L (K (.bool (insOK ⟨1, m1, m2, r, l, e, n⟩ locs left)))) : W Q B A S (L) fun h => J.call (F (m + 7)) (.fn (.func 32) [] []) vs R h K := by
  subst hvs
  refine W.callE (d := d32) (c := c32) (by kernel_rfl) rfl (by rfl) ?_
  unfold c32
  have hone := hv.one
  have hnil : Tk L .nils [] := Rd.nils (by decide)
  have hbx : ∀ k, allOne (V.agg [.int .i64 k, .int .i64 m1, .int .i64 m2, .int .i64 r, .int .i64 l, ve, .int .i64 n]).cells = true := fun k => ins_one hv.one ⟨k, m1, m2, r, l, e, n⟩
  have qT : (0 ≤ r ∧ r ≤ 7 ∧ 0 ≤ l ∧ l ≤ locs - 1 ∧ (m1 = 0 ∨ m1 = 1) ∧ m2 = 0 ∧ e.length = 0 ∧ n = 0) → W Q B A S L (K (.bool true)) := fun h => (by
    have e : insOK ⟨1, m1, m2, r, l, e, n⟩ locs left = true := decide_eq_true h
    rw [e] at q; exact q)
  have qF : ¬ (0 ≤ r ∧ r ≤ 7 ∧ 0 ≤ l ∧ l ≤ locs - 1 ∧ (m1 = 0 ∨ m1 = 1) ∧ m2 = 0 ∧ e.length = 0 ∧ n = 0) → W Q B A S L (K (.bool false)) := fun h => (by
    have e : insOK ⟨1, m1, m2, r, l, e, n⟩ locs left = false := decide_eq_false h
    rw [e] at q; exact q)
  clear q
  (iterate 3 refine .hd ?_)
  refine .en ?_
  refine .box bx_ fun b hb => ?_
  refine .fl ?_
  refine .geqC (fun c => ?_) (fun c => ?_)
  refine .whenTT ?_
  refine .fldP ?_
  refine .whenTT ?_
  refine .load1P mm_ _ rf_ ?_
  refine .whenTT ?_
  refine .lssC (fun c => ?_) (fun c => ?_)
  refine .pickT ?_
  refine .fl ?_
  refine .geqC (fun c => ?_) (fun c => ?_)
  refine .whenTT ?_
  refine .fldP ?_
  refine .whenTT ?_
  refine .load1P mm_ _ rf_ ?_
  refine .whenTT ?_
  refine .pure ?_
  refine .whenTT ?_
  refine .lssC (fun c => ?_) (fun c => ?_)
  refine .pickT ?_
  refine .fl ?_
  refine checkRS_c rf_ rc_ om_ (fun hE => ?_) (fun hE => ?_)
  refine .fl ?_
  refine .bn fun b hb => ?_
  refine .fl ?_
  refine .ejT ?_
  refine .whenTT ?_
  refine .pure ?_
  refine .pickT ?_
  refine .whenTT ?_
  refine .fldP ?_
  refine .whenTT ?_
  refine .load1P mm_ _ rf_ ?_
  refine .whenTT ?_
  refine .eqlC (fun c => ?_) (fun c => ?_)
  refine .whenTT ?_
  refine .pure ?_
  (iterate 3 refine .whenTF ?_)
  refine .whenTT ?_
  (iterate 2 refine .pickT ?_)
  refine .nx fun _ _ _ _ => ?_
  (iterate 3 (refine .ft fun _ _ _ _ _ _ _ => ?_; dsimp only))
  (iterate 3 (refine .fs fun _ _ _ _ => ?_; dsimp only))
  refine .ok S ?_
  refine .whenTT ?_
  refine .loadNP mm_ nl_ ?_
  refine .whenTT ?_
  refine .loadNP mm_ nl_ ?_
  refine .whenTT ?_
  refine sameI_c rf_ rc_ rc_ om_ (fun c => ?_) (fun c => ?_)
  refine .pickT ?_
  rotate_left
  refine .pickT ?_
  rotate_right
  rotate_left 2
  refine .whenTT ?_
  refine .pure ?_
  refine .whenFF ?_
  refine .fldP ?_
  refine .whenFF ?_
  refine .load1P mm_ _ rf_ ?_
  refine .whenFF ?_
  refine .eqlC (fun c => ?_) (fun c => ?_)
  refine .whenTT ?_
  refine .pickF ?_
  refine .pickT ?_
  refine .nx fun _ _ _ _ => ?_
  (iterate 3 (refine .ft fun _ _ _ _ _ _ _ => ?_; dsimp only))
  (iterate 3 (refine .fs fun _ _ _ _ => ?_; dsimp only))
  refine .ok S ?_
  refine .whenTT ?_
  refine .loadNP mm_ nl_ ?_
  refine .whenTT ?_
  refine .loadNP mm_ nl_ ?_
  refine .whenTT ?_
  refine sameI_c rf_ rc_ rc_ om_ (fun c => ?_) (fun c => ?_)
  refine .pickT ?_
  rotate_left
  refine .pickT ?_
  rotate_right
  rotate_left 2
  refine .whenTT ?_
  refine .pickF ?_
  refine .pickT ?_
  refine .nx fun _ _ _ _ => ?_
  (iterate 3 (refine .ft fun _ _ _ _ _ _ _ => ?_; dsimp only))
  (iterate 3 (refine .fs fun _ _ _ _ => ?_; dsimp only))
  refine .ok S ?_
  refine .wp3 ?_
  rotate_right 2
  rotate_right 2
  rotate_left 5
  refine .fl ?_
  refine .bn fun b hb => ?_
  refine .fl ?_
  refine .ejT ?_
  refine .whenTT ?_
  refine .pure ?_
  refine .pickT ?_
  refine .whenTT ?_
  refine .fldP ?_
  refine .whenTT ?_
  refine .load1P mm_ _ rf_ ?_
  refine .whenTT ?_
  refine .eqlC (fun c => ?_) (fun c => ?_)
  refine .whenTT ?_
  refine .pure ?_
  (iterate 3 refine .whenTF ?_)
  refine .whenTT ?_
  (iterate 2 refine .pickT ?_)
  refine .nx fun _ _ _ _ => ?_
  (iterate 3 (refine .ft fun _ _ _ _ _ _ _ => ?_; dsimp only))
  (iterate 3 (refine .fs fun _ _ _ _ => ?_; dsimp only))
  refine .ok S ?_
  refine .whenTT ?_
  refine .loadNP mm_ nl_ ?_
  refine .whenTT ?_
  refine .loadNP mm_ nl_ ?_
  refine .whenTT ?_
  refine sameI_c rf_ rc_ rc_ om_ (fun c => ?_) (fun c => ?_)
  refine .pickT ?_
  rotate_left
  refine .pickT ?_
  rotate_right
  rotate_left 2
  refine .whenTT ?_
  refine .pure ?_
  refine .whenFF ?_
  refine .fldP ?_
  refine .whenFF ?_
  refine .load1P mm_ _ rf_ ?_
  refine .whenFF ?_
  refine .eqlC (fun c => ?_) (fun c => ?_)
  refine .whenTT ?_
  refine .pickF ?_
  refine .pickT ?_
  refine .nx fun _ _ _ _ => ?_
  (iterate 3 (refine .ft fun _ _ _ _ _ _ _ => ?_; dsimp only))
  (iterate 3 (refine .fs fun _ _ _ _ => ?_; dsimp only))
  refine .ok S ?_
  refine .whenTT ?_
  refine .loadNP mm_ nl_ ?_
  refine .whenTT ?_
  refine .loadNP mm_ nl_ ?_
  refine .whenTT ?_
  refine sameI_c rf_ rc_ rc_ om_ (fun c => ?_) (fun c => ?_)
  refine .pickT ?_
  rotate_left
  refine .pickT ?_
  rotate_right
  rotate_left 2
  refine .whenTT ?_
  refine .pickF ?_
  refine .pickT ?_
  refine .nx fun _ _ _ _ => ?_
  (iterate 3 (refine .ft fun _ _ _ _ _ _ _ => ?_; dsimp only))
  (iterate 3 (refine .fs fun _ _ _ _ => ?_; dsimp only))
  refine .ok S ?_
  refine .wp3 ?_
  rotate_right 2
  rotate_right 2
  rotate_right 5
  rotate_left 10
  refine .pickT ?_
  refine .fl ?_
  refine checkRS_c rf_ rc_ om_ (fun hE => ?_) (fun hE => ?_)
  refine .fl ?_
  refine .bn fun b hb => ?_
  refine .fl ?_
  refine .ejT ?_
  refine .whenTT ?_
  refine .pure ?_
  refine .pickT ?_
  (iterate 4 refine .whenFT ?_)
  (iterate 3 refine .whenU ?_)
  refine .whenFT ?_
  refine .pickF ?_
  refine .nx fun _ _ _ _ => ?_
  (iterate 3 (refine .ft fun _ _ _ _ _ _ _ => ?_; dsimp only))
  (iterate 3 (refine .fs fun _ _ _ _ => ?_; dsimp only))
  refine .ok S ?_
  refine .wp3 ?_
  rotate_left
  refine .fl ?_
  refine .bn fun b hb => ?_
  refine .fl ?_
  refine .ejT ?_
  refine .whenTT ?_
  refine .pure ?_
  refine .pickT ?_
  (iterate 4 refine .whenFT ?_)
  (iterate 3 refine .whenU ?_)
  refine .whenFT ?_
  refine .pickF ?_
  refine .nx fun _ _ _ _ => ?_
  (iterate 3 (refine .ft fun _ _ _ _ _ _ _ => ?_; dsimp only))
  (iterate 3 (refine .fs fun _ _ _ _ => ?_; dsimp only))
  refine .ok S ?_
  refine .wp3 ?_
  rotate_right
  rotate_right 10
  rotate_left 12
  refine .whenFT ?_
  refine .wp3 ?_
  refine .fl ?_
  refine checkRS_c rf_ rc_ om_ (fun hE => ?_) (fun hE => ?_)
  refine .fl ?_
  refine .bn fun b hb => ?_
  refine .fl ?_
  refine .ejT ?_
  refine .whenTT ?_
  refine .pure ?_
  refine .pickT ?_
  (iterate 4 refine .whenFT ?_)
  (iterate 3 refine .whenU ?_)
  refine .whenFT ?_
  refine .pickF ?_
  refine .nx fun _ _ _ _ => ?_
  (iterate 3 (refine .ft fun _ _ _ _ _ _ _ => ?_; dsimp only))
  (iterate 3 (refine .fs fun _ _ _ _ => ?_; dsimp only))
  refine .ok S ?_
  refine .wp3 ?_
  rotate_left
  refine .fl ?_
  refine .bn fun b hb => ?_
  refine .fl ?_
  refine .ejT ?_
  refine .whenTT ?_
  refine .pure ?_
  refine .pickT ?_
  (iterate 4 refine .whenFT ?_)
  (iterate 3 refine .whenU ?_)
  refine .whenFT ?_
  refine .pickF ?_
  refine .nx fun _ _ _ _ => ?_
  (iterate 3 (refine .ft fun _ _ _ _ _ _ _ => ?_; dsimp only))
  (iterate 3 (refine .fs fun _ _ _ _ => ?_; dsimp only))
  refine .ok S ?_
  refine .wp3 ?_
  rotate_right
  rotate_right 12
  rotate_left 14
  refine .pickT ?_
  refine .fl ?_
  refine .geqC (fun c => ?_) (fun c => ?_)
  refine .whenTT ?_
  refine .fldP ?_
  refine .whenTT ?_
  refine .load1P mm_ _ rf_ ?_
  refine .whenTT ?_
  refine .pure ?_
  refine .whenTT ?_
  refine .lssC (fun c => ?_) (fun c => ?_)
  refine .pickT ?_
  refine .fl ?_
  refine checkRS_c rf_ rc_ om_ (fun hE => ?_) (fun hE => ?_)
  refine .fl ?_
  refine .bn fun b hb => ?_
  refine .fl ?_
  refine .ejT ?_
  refine .whenFT ?_
  refine .pickF ?_
  (iterate 4 refine .whenFT ?_)
  (iterate 3 refine .whenU ?_)
  refine .whenFT ?_
  refine .pickF ?_
  refine .nx fun _ _ _ _ => ?_
  (iterate 3 (refine .ft fun _ _ _ _ _ _ _ => ?_; dsimp only))
  (iterate 3 (refine .fs fun _ _ _ _ => ?_; dsimp only))
  refine .ok S ?_
  refine .wp3 ?_
  rotate_left
  refine .fl ?_
  refine .bn fun b hb => ?_
  refine .fl ?_
  refine .ejT ?_
  refine .whenFT ?_
  refine .pickF ?_
  (iterate 4 refine .whenFT ?_)
  (iterate 3 refine .whenU ?_)
  refine .whenFT ?_
  refine .pickF ?_
  refine .nx fun _ _ _ _ => ?_
  (iterate 3 (refine .ft fun _ _ _ _ _ _ _ => ?_; dsimp only))
  (iterate 3 (refine .fs fun _ _ _ _ => ?_; dsimp only))
  refine .ok S ?_
  refine .wp3 ?_
  rotate_right
  rotate_left 2
  refine .pickT ?_
  refine .fl ?_
  refine checkRS_c rf_ rc_ om_ (fun hE => ?_) (fun hE => ?_)
  refine .fl ?_
  refine .bn fun b hb => ?_
  refine .fl ?_
  refine .ejT ?_
  refine .whenFT ?_
  refine .pickF ?_
  (iterate 4 refine .whenFT ?_)
  (iterate 3 refine .whenU ?_)
  refine .whenFT ?_
  refine .pickF ?_
  refine .nx fun _ _ _ _ => ?_
  (iterate 3 (refine .ft fun _ _ _ _ _ _ _ => ?_; dsimp only))
  (iterate 3 (refine .fs fun _ _ _ _ => ?_; dsimp only))
  refine .ok S ?_
  refine .wp3 ?_
  rotate_left
  refine .fl ?_
  refine .bn fun b hb => ?_
  refine .fl ?_
  refine .ejT ?_
  refine .whenFT ?_
  refine .pickF ?_
  (iterate 4 refine .whenFT ?_)
  (iterate 3 refine .whenU ?_)
  refine .whenFT ?_
  refine .pickF ?_
  refine .nx fun _ _ _ _ => ?_
  (iterate 3 (refine .ft fun _ _ _ _ _ _ _ => ?_; dsimp only))
  (iterate 3 (refine .fs fun _ _ _ _ => ?_; dsimp only))
  refine .ok S ?_
  refine .wp3 ?_
  rotate_right
  rotate_right 2
  rotate_left 4
  refine .whenFT ?_
  refine .wp3 ?_
  refine .fl ?_
  refine checkRS_c rf_ rc_ om_ (fun hE => ?_) (fun hE => ?_)
  refine .fl ?_
  refine .bn fun b hb => ?_
  refine .fl ?_
  refine .ejT ?_
  refine .whenFT ?_
  refine .pickF ?_
  (iterate 4 refine .whenFT ?_)
  (iterate 3 refine .whenU ?_)
  refine .whenFT ?_
  refine .pickF ?_
  refine .nx fun _ _ _ _ => ?_
  (iterate 3 (refine .ft fun _ _ _ _ _ _ _ => ?_; dsimp only))
  (iterate 3 (refine .fs fun _ _ _ _ => ?_; dsimp only))
  refine .ok S ?_
  refine .wp3 ?_
  rotate_left
  refine .fl ?_
  refine .bn fun b hb => ?_
  refine .fl ?_
  refine .ejT ?_
  refine .whenFT ?_
  refine .pickF ?_
  (iterate 4 refine .whenFT ?_)
  (iterate 3 refine .whenU ?_)
  refine .whenFT ?_
  refine .pickF ?_
  refine .nx fun _ _ _ _ => ?_
  (iterate 3 (refine .ft fun _ _ _ _ _ _ _ => ?_; dsimp only))
  (iterate 3 (refine .fs fun _ _ _ _ => ?_; dsimp only))
  refine .ok S ?_
  refine .wp3 ?_
  rotate_right
  rotate_right 4
  rotate_right 14
  rotate_left 20
  refine .wp3 ?_
  refine .fl ?_
  refine .geqC (fun c => ?_) (fun c => ?_)
  refine .whenTT ?_
  refine .fldP ?_
  refine .whenTT ?_
  refine .load1P mm_ _ rf_ ?_
  refine .whenTT ?_
  refine .pure ?_
  refine .whenTT ?_
  refine .lssC (fun c => ?_) (fun c => ?_)
  refine .pickT ?_
  refine .fl ?_
  refine checkRS_c rf_ rc_ om_ (fun hE => ?_) (fun hE => ?_)
  refine .fl ?_
  refine .bn fun b hb => ?_
  refine .fl ?_
  refine .ejT ?_
  refine .whenFT ?_
  refine .pickF ?_
  (iterate 4 refine .whenFT ?_)
  (iterate 3 refine .whenU ?_)
  refine .whenFT ?_
  refine .pickF ?_
  refine .nx fun _ _ _ _ => ?_
  (iterate 3 (refine .ft fun _ _ _ _ _ _ _ => ?_; dsimp only))
  (iterate 3 (refine .fs fun _ _ _ _ => ?_; dsimp only))
  refine .ok S ?_
  refine .wp3 ?_
  rotate_left
  refine .fl ?_
  refine .bn fun b hb => ?_
  refine .fl ?_
  refine .ejT ?_
  refine .whenFT ?_
  refine .pickF ?_
  (iterate 4 refine .whenFT ?_)
  (iterate 3 refine .whenU ?_)
  refine .whenFT ?_
  refine .pickF ?_
  refine .nx fun _ _ _ _ => ?_
  (iterate 3 (refine .ft fun _ _ _ _ _ _ _ => ?_; dsimp only))
  (iterate 3 (refine .fs fun _ _ _ _ => ?_; dsimp only))
  refine .ok S ?_
  refine .wp3 ?_
  rotate_right
  rotate_left 2
  refine .pickT ?_
  refine .fl ?_
  refine checkRS_c rf_ rc_ om_ (fun hE => ?_) (fun hE => ?_)
  refine .fl ?_
  refine .bn fun b hb => ?_
  refine .fl ?_
  refine .ejT ?_
  refine .whenFT ?_
  refine .pickF ?_
  (iterate 4 refine .whenFT ?_)
  (iterate 3 refine .whenU ?_)
  refine .whenFT ?_
  refine .pickF ?_
  refine .nx fun _ _ _ _ => ?_
  (iterate 3 (refine .ft fun _ _ _ _ _ _ _ => ?_; dsimp only))
  (iterate 3 (refine .fs fun _ _ _ _ => ?_; dsimp only))
  refine .ok S ?_
  refine .wp3 ?_
  rotate_left
  refine .fl ?_
  refine .bn fun b hb => ?_
  refine .fl ?_
  refine .ejT ?_
  refine .whenFT ?_
  refine .pickF ?_
  (iterate 4 refine .whenFT ?_)
  (iterate 3 refine .whenU ?_)
  refine .whenFT ?_
  refine .pickF ?_
  refine .nx fun _ _ _ _ => ?_
  (iterate 3 (refine .ft fun _ _ _ _ _ _ _ => ?_; dsimp only))
  (iterate 3 (refine .fs fun _ _ _ _ => ?_; dsimp only))
  refine .ok S ?_
  refine .wp3 ?_
  rotate_right
  rotate_right 2
  rotate_left 4
  refine .whenFT ?_
  refine .wp3 ?_
  refine .fl ?_
  refine checkRS_c rf_ rc_ om_ (fun hE => ?_) (fun hE => ?_)
  refine .fl ?_
  refine .bn fun b hb => ?_
  refine .fl ?_
  refine .ejT ?_
  refine .whenFT ?_
  refine .pickF ?_
  (iterate 4 refine .whenFT ?_)
  (iterate 3 refine .whenU ?_)
  refine .whenFT ?_
  refine .pickF ?_
  refine .nx fun _ _ _ _ => ?_
  (iterate 3 (refine .ft fun _ _ _ _ _ _ _ => ?_; dsimp only))
  (iterate 3 (refine .fs fun _ _ _ _ => ?_; dsimp only))
  refine .ok S ?_
  refine .wp3 ?_
  rotate_left
  refine .fl ?_
  refine .bn fun b hb => ?_
  refine .fl ?_
  refine .ejT ?_
  refine .whenFT ?_
  refine .pickF ?_
  (iterate 4 refine .whenFT ?_)
  (iterate 3 refine .whenU ?_)
  refine .whenFT ?_
  refine .pickF ?_
  refine .nx fun _ _ _ _ => ?_
  (iterate 3 (refine .ft fun _ _ _ _ _ _ _ => ?_; dsimp only))
  (iterate 3 (refine .fs fun _ _ _ _ => ?_; dsimp only))
  refine .ok S ?_
  refine .wp3 ?_
  rotate_right
  rotate_right 4
  rotate_right 20
  all_goals (first | unfold SameI at c | skip)
  all_goals (repeat (first | exact qT (by first | omega | (refine ⟨?_, ?_, ?_, ?_, ?_, ?_, ?_, ?_, ?_, ?_⟩ <;> first | omega | assumption | fail) | (refine ⟨?_, ?_, ?_, ?_, ?_, ?_, ?_, ?_⟩ <;> first | omega | assumption | (rw [c.2.2.2.2.2.2]; rfl) | fail) | (refine ⟨?_, ?_, ?_, ?_, ?_, ?_, ?_⟩ <;> first | omega | assumption | fail) | (refine ⟨?_, ?_, ?_, ?_, ?_, ?_⟩ <;> first | omega | assumption | (rw [c.2.2.2.2.2.2]; rfl) | fail) | fail) | exact qF (by intro hx; first | omega | exact absurd (hE.symm.trans hx.2.2.2.2.2.1) Bool.false_ne_true | exact absurd (hE.symm.trans hx.2.2.2.2.2.2) Bool.false_ne_true | exact absurd (hE.symm.trans hx.2.2.2.2.2.2.2.2.2) Bool.false_ne_true | exact hx.2.2.2.2.2.2.2.2.1 hU | exact c ⟨by omega, by omega, by omega, by omega, by omega, by omega, by first | rfl | exact List.eq_nil_of_length_eq_zero om_ | fail⟩ | fail) | refine W.drop ?_ | refine W.dropN _ ?_))
theorem instrR2_c {K : V → H → Option R} {m : Nat} {vs : List V} {m1 m2 r l n : Int} {e : List (Int × Int)} {ve : V} {locs left : Int} (hvs : vs = [.agg [.int .i64 2, .int .i64 m1, .int .i64 m2, .int .i64 r, .int .i64 l, ve, .int .i64 n], .int .i64 locs, .int .i64 left]) (hv : Tk L ve e) (hl : e.length ≤ 12) (h1 : 1 ≤ locs) (h4 : locs ≤ 4) (q : W Q B A S L (K (.bool (insOK ⟨2, m1, m2, r, l, e, n⟩ locs left)))) : W Q B A S (L) fun h => J.call (F (m + 7)) (.fn (.func 32) [] []) vs R h K := by
  subst hvs
  refine W.callE (d := d32) (c := c32) (by kernel_rfl) rfl (by rfl) ?_
  unfold c32
  have hone := hv.one
  have hnil : Tk L .nils [] := Rd.nils (by decide)
  have hbx : ∀ k, allOne (V.agg [.int .i64 k, .int .i64 m1, .int .i64 m2, .int .i64 r, .int .i64 l, ve, .int .i64 n]).cells = true := fun k => ins_one hv.one ⟨k, m1, m2, r, l, e, n⟩
  have qT : (r = 0 ∧ 0 ≤ l ∧ l ≤ locs - 1 ∧ (m1 = 0 ∨ m1 = 2) ∧ m2 = 0 ∧ checkE e = true ∧ n = 0) → W Q B A S L (K (.bool true)) := fun h => (by
    have e : insOK ⟨2, m1, m2, r, l, e, n⟩ locs left = true := decide_eq_true h
    rw [e] at q; exact q)
  have qF : ¬ (r = 0 ∧ 0 ≤ l ∧ l ≤ locs - 1 ∧ (m1 = 0 ∨ m1 = 2) ∧ m2 = 0 ∧ checkE e = true ∧ n = 0) → W Q B A S L (K (.bool false)) := fun h => (by
    have e : insOK ⟨2, m1, m2, r, l, e, n⟩ locs left = false := decide_eq_false h
    rw [e] at q; exact q)
  clear q
  (iterate 3 refine .hd ?_)
  refine .en ?_
  refine .box bx_ fun b hb => ?_
  refine .fl ?_
  refine .geqC (fun c => ?_) (fun c => ?_)
  refine .whenTT ?_
  refine .fldP ?_
  refine .whenTT ?_
  refine .load1P mm_ _ rf_ ?_
  refine .whenTT ?_
  refine .lssC (fun c => ?_) (fun c => ?_)
  refine .pickT ?_
  refine .fl ?_
  refine .geqC (fun c => ?_) (fun c => ?_)
  refine .whenTT ?_
  refine .fldP ?_
  refine .whenTT ?_
  refine .load1P mm_ _ rf_ ?_
  refine .whenTT ?_
  refine .pure ?_
  refine .whenTT ?_
  refine .lssC (fun c => ?_) (fun c => ?_)
  refine .pickT ?_
  refine .fl ?_
  refine checkRS_c rf_ rc_ om_ (fun hE => ?_) (fun hE => ?_)
  refine .fl ?_
  refine .bn fun b hb => ?_
  refine .fl ?_
  refine .ejF ?_
  refine .et ?_
  refine .whenTT ?_
  refine .pure ?_
  refine .pickT ?_
  refine .whenTT ?_
  refine .fldP ?_
  refine .whenTT ?_
  refine .load1P mm_ _ rf_ ?_
  refine .whenTT ?_
  refine .eqlC (fun c => ?_) (fun c => ?_)
  refine .whenTT ?_
  refine .pure ?_
  (iterate 3 refine .whenTF ?_)
  refine .whenTT ?_
  (iterate 2 refine .pickT ?_)
  refine .nx fun _ _ _ _ => ?_
  (iterate 3 (refine .ft fun _ _ _ _ _ _ _ => ?_; dsimp only))
  (iterate 3 (refine .fs fun _ _ _ _ => ?_; dsimp only))
  refine .ok S ?_
  refine .whenTT ?_
  refine .loadNP mm_ nl_ ?_
  refine .whenTT ?_
  refine .loadNP mm_ nl_ ?_
  refine .whenTT ?_
  refine sameI_c rf_ rc_ rc_ om_ (fun c => ?_) (fun c => ?_)
  refine .pickT ?_
  rotate_left
  refine .pickT ?_
  rotate_right
  rotate_left 2
  refine .whenTT ?_
  refine .pure ?_
  refine .whenFF ?_
  refine .fldP ?_
  refine .whenFF ?_
  refine .load1P mm_ _ rf_ ?_
  refine .whenFF ?_
  refine .eqlC (fun c => ?_) (fun c => ?_)
  refine .whenTT ?_
  refine .pickF ?_
  refine .pickT ?_
  refine .nx fun _ _ _ _ => ?_
  (iterate 3 (refine .ft fun _ _ _ _ _ _ _ => ?_; dsimp only))
  (iterate 3 (refine .fs fun _ _ _ _ => ?_; dsimp only))
  refine .ok S ?_
  refine .whenTT ?_
  refine .loadNP mm_ nl_ ?_
  refine .whenTT ?_
  refine .loadNP mm_ nl_ ?_
  refine .whenTT ?_
  refine sameI_c rf_ rc_ rc_ om_ (fun c => ?_) (fun c => ?_)
  refine .pickT ?_
  rotate_left
  refine .pickT ?_
  rotate_right
  rotate_left 2
  refine .whenTT ?_
  refine .pickF ?_
  refine .pickT ?_
  refine .nx fun _ _ _ _ => ?_
  (iterate 3 (refine .ft fun _ _ _ _ _ _ _ => ?_; dsimp only))
  (iterate 3 (refine .fs fun _ _ _ _ => ?_; dsimp only))
  refine .ok S ?_
  refine .wp3 ?_
  rotate_right 2
  rotate_right 2
  rotate_left 5
  refine .fl ?_
  refine .bn fun b hb => ?_
  refine .fl ?_
  refine .ejF ?_
  refine .et ?_
  refine .whenTT ?_
  refine .pure ?_
  refine .pickT ?_
  (iterate 4 refine .whenFT ?_)
  (iterate 3 refine .whenU ?_)
  refine .whenFT ?_
  refine .pickF ?_
  refine .nx fun _ _ _ _ => ?_
  (iterate 3 (refine .ft fun _ _ _ _ _ _ _ => ?_; dsimp only))
  (iterate 3 (refine .fs fun _ _ _ _ => ?_; dsimp only))
  refine .ok S ?_
  refine .wp3 ?_
  rotate_right 5
  rotate_left 6
  refine .pickT ?_
  refine .fl ?_
  refine checkRS_c rf_ rc_ om_ (fun hE => ?_) (fun hE => ?_)
  refine .fl ?_
  refine .bn fun b hb => ?_
  refine .fl ?_
  refine .ejF ?_
  refine .et ?_
  refine .whenFT ?_
  refine .pickF ?_
  (iterate 4 refine .whenFT ?_)
  (iterate 3 refine .whenU ?_)
  refine .whenFT ?_
  refine .pickF ?_
  refine .nx fun _ _ _ _ => ?_
  (iterate 3 (refine .ft fun _ _ _ _ _ _ _ => ?_; dsimp only))
  (iterate 3 (refine .fs fun _ _ _ _ => ?_; dsimp only))
  refine .ok S ?_
  refine .wp3 ?_
  rotate_left
  refine .fl ?_
  refine .bn fun b hb => ?_
  refine .fl ?_
  refine .ejF ?_
  refine .et ?_
  refine .whenFT ?_
  refine .pickF ?_
  (iterate 4 refine .whenFT ?_)
  (iterate 3 refine .whenU ?_)
  refine .whenFT ?_
  refine .pickF ?_
  refine .nx fun _ _ _ _ => ?_
  (iterate 3 (refine .ft fun _ _ _ _ _ _ _ => ?_; dsimp only))
  (iterate 3 (refine .fs fun _ _ _ _ => ?_; dsimp only))
  refine .ok S ?_
  refine .wp3 ?_
  rotate_right
  rotate_right 6
  rotate_left 8
  refine .whenFT ?_
  refine .wp3 ?_
  refine .fl ?_
  refine checkRS_c rf_ rc_ om_ (fun hE => ?_) (fun hE => ?_)
  refine .fl ?_
  refine .bn fun b hb => ?_
  refine .fl ?_
  refine .ejF ?_
  refine .et ?_
  refine .whenFT ?_
  refine .pickF ?_
  (iterate 4 refine .whenFT ?_)
  (iterate 3 refine .whenU ?_)
  refine .whenFT ?_
  refine .pickF ?_
  refine .nx fun _ _ _ _ => ?_
  (iterate 3 (refine .ft fun _ _ _ _ _ _ _ => ?_; dsimp only))
  (iterate 3 (refine .fs fun _ _ _ _ => ?_; dsimp only))
  refine .ok S ?_
  refine .wp3 ?_
  rotate_left
  refine .fl ?_
  refine .bn fun b hb => ?_
  refine .fl ?_
  refine .ejF ?_
  refine .et ?_
  refine .whenFT ?_
  refine .pickF ?_
  (iterate 4 refine .whenFT ?_)
  (iterate 3 refine .whenU ?_)
  refine .whenFT ?_
  refine .pickF ?_
  refine .nx fun _ _ _ _ => ?_
  (iterate 3 (refine .ft fun _ _ _ _ _ _ _ => ?_; dsimp only))
  (iterate 3 (refine .fs fun _ _ _ _ => ?_; dsimp only))
  refine .ok S ?_
  refine .wp3 ?_
  rotate_right
  rotate_right 8
  rotate_left 10
  refine .pickT ?_
  refine .fl ?_
  refine .geqC (fun c => ?_) (fun c => ?_)
  refine .whenTT ?_
  refine .fldP ?_
  refine .whenTT ?_
  refine .load1P mm_ _ rf_ ?_
  refine .whenTT ?_
  refine .pure ?_
  refine .whenTT ?_
  refine .lssC (fun c => ?_) (fun c => ?_)
  refine .pickT ?_
  refine .fl ?_
  refine checkRS_c rf_ rc_ om_ (fun hE => ?_) (fun hE => ?_)
  refine .fl ?_
  refine .bn fun b hb => ?_
  refine .fl ?_
  refine .ejF ?_
  refine .et ?_
  refine .whenTT ?_
  refine .pure ?_
  refine .pickT ?_
  refine .whenTT ?_
  refine .fldP ?_
  refine .whenTT ?_
  refine .load1P mm_ _ rf_ ?_
  refine .whenTT ?_
  refine .eqlC (fun c => ?_) (fun c => ?_)
  refine .whenTT ?_
  refine .pure ?_
  (iterate 3 refine .whenTF ?_)
  refine .whenTT ?_
  (iterate 2 refine .pickT ?_)
  refine .nx fun _ _ _ _ => ?_
  (iterate 3 (refine .ft fun _ _ _ _ _ _ _ => ?_; dsimp only))
  (iterate 3 (refine .fs fun _ _ _ _ => ?_; dsimp only))
  refine .ok S ?_
  refine .whenTT ?_
  refine .loadNP mm_ nl_ ?_
  refine .whenTT ?_
  refine .loadNP mm_ nl_ ?_
  refine .whenTT ?_
  refine sameI_c rf_ rc_ rc_ om_ (fun c => ?_) (fun c => ?_)
  refine .pickT ?_
  rotate_left
  refine .pickT ?_
  rotate_right
  rotate_left 2
  refine .whenTT ?_
  refine .pure ?_
  refine .whenFF ?_
  refine .fldP ?_
  refine .whenFF ?_
  refine .load1P mm_ _ rf_ ?_
  refine .whenFF ?_
  refine .eqlC (fun c => ?_) (fun c => ?_)
  refine .whenTT ?_
  refine .pickF ?_
  refine .pickT ?_
  refine .nx fun _ _ _ _ => ?_
  (iterate 3 (refine .ft fun _ _ _ _ _ _ _ => ?_; dsimp only))
  (iterate 3 (refine .fs fun _ _ _ _ => ?_; dsimp only))
  refine .ok S ?_
  refine .whenTT ?_
  refine .loadNP mm_ nl_ ?_
  refine .whenTT ?_
  refine .loadNP mm_ nl_ ?_
  refine .whenTT ?_
  refine sameI_c rf_ rc_ rc_ om_ (fun c => ?_) (fun c => ?_)
  refine .pickT ?_
  rotate_left
  refine .pickT ?_
  rotate_right
  rotate_left 2
  refine .whenTT ?_
  refine .pickF ?_
  refine .pickT ?_
  refine .nx fun _ _ _ _ => ?_
  (iterate 3 (refine .ft fun _ _ _ _ _ _ _ => ?_; dsimp only))
  (iterate 3 (refine .fs fun _ _ _ _ => ?_; dsimp only))
  refine .ok S ?_
  refine .wp3 ?_
  rotate_right 2
  rotate_right 2
  rotate_left 5
  refine .fl ?_
  refine .bn fun b hb => ?_
  refine .fl ?_
  refine .ejF ?_
  refine .et ?_
  refine .whenTT ?_
  refine .pure ?_
  refine .pickT ?_
  (iterate 4 refine .whenFT ?_)
  (iterate 3 refine .whenU ?_)
  refine .whenFT ?_
  refine .pickF ?_
  refine .nx fun _ _ _ _ => ?_
  (iterate 3 (refine .ft fun _ _ _ _ _ _ _ => ?_; dsimp only))
  (iterate 3 (refine .fs fun _ _ _ _ => ?_; dsimp only))
  refine .ok S ?_
  refine .wp3 ?_
  rotate_right 5
  rotate_left 6
  refine .pickT ?_
  refine .fl ?_
  refine checkRS_c rf_ rc_ om_ (fun hE => ?_) (fun hE => ?_)
  refine .fl ?_
  refine .bn fun b hb => ?_
  refine .fl ?_
  refine .ejF ?_
  refine .et ?_
  refine .whenFT ?_
  refine .pickF ?_
  (iterate 4 refine .whenFT ?_)
  (iterate 3 refine .whenU ?_)
  refine .whenFT ?_
  refine .pickF ?_
  refine .nx fun _ _ _ _ => ?_
  (iterate 3 (refine .ft fun _ _ _ _ _ _ _ => ?_; dsimp only))
  (iterate 3 (refine .fs fun _ _ _ _ => ?_; dsimp only))
  refine .ok S ?_
  refine .wp3 ?_
  rotate_left
  refine .fl ?_
  refine .bn fun b hb => ?_
  refine .fl ?_
  refine .ejF ?_
  refine .et ?_
  refine .whenFT ?_
  refine .pickF ?_
  (iterate 4 refine .whenFT ?_)
  (iterate 3 refine .whenU ?_)
  refine .whenFT ?_
  refine .pickF ?_
  refine .nx fun _ _ _ _ => ?_
  (iterate 3 (refine .ft fun _ _ _ _ _ _ _ => ?_; dsimp only))
  (iterate 3 (refine .fs fun _ _ _ _ => ?_; dsimp only))
  refine .ok S ?_
  refine .wp3 ?_
  rotate_right
  rotate_right 6
  rotate_left 8
  refine .whenFT ?_
  refine .wp3 ?_
  refine .fl ?_
  refine checkRS_c rf_ rc_ om_ (fun hE => ?_) (fun hE => ?_)
  refine .fl ?_
  refine .bn fun b hb => ?_
  refine .fl ?_
  refine .ejF ?_
  refine .et ?_
  refine .whenFT ?_
  refine .pickF ?_
  (iterate 4 refine .whenFT ?_)
  (iterate 3 refine .whenU ?_)
  refine .whenFT ?_
  refine .pickF ?_
  refine .nx fun _ _ _ _ => ?_
  (iterate 3 (refine .ft fun _ _ _ _ _ _ _ => ?_; dsimp only))
  (iterate 3 (refine .fs fun _ _ _ _ => ?_; dsimp only))
  refine .ok S ?_
  refine .wp3 ?_
  rotate_left
  refine .fl ?_
  refine .bn fun b hb => ?_
  refine .fl ?_
  refine .ejF ?_
  refine .et ?_
  refine .whenFT ?_
  refine .pickF ?_
  (iterate 4 refine .whenFT ?_)
  (iterate 3 refine .whenU ?_)
  refine .whenFT ?_
  refine .pickF ?_
  refine .nx fun _ _ _ _ => ?_
  (iterate 3 (refine .ft fun _ _ _ _ _ _ _ => ?_; dsimp only))
  (iterate 3 (refine .fs fun _ _ _ _ => ?_; dsimp only))
  refine .ok S ?_
  refine .wp3 ?_
  rotate_right
  rotate_right 8
  rotate_right 10
  rotate_left 20
  refine .wp3 ?_
  refine .fl ?_
  refine .geqC (fun c => ?_) (fun c => ?_)
  refine .whenTT ?_
  refine .fldP ?_
  refine .whenTT ?_
  refine .load1P mm_ _ rf_ ?_
  refine .whenTT ?_
  refine .pure ?_
  refine .whenTT ?_
  refine .lssC (fun c => ?_) (fun c => ?_)
  refine .pickT ?_
  refine .fl ?_
  refine checkRS_c rf_ rc_ om_ (fun hE => ?_) (fun hE => ?_)
  refine .fl ?_
  refine .bn fun b hb => ?_
  refine .fl ?_
  refine .ejF ?_
  refine .et ?_
  refine .whenTT ?_
  refine .pure ?_
  refine .pickT ?_
  refine .whenTT ?_
  refine .fldP ?_
  refine .whenTT ?_
  refine .load1P mm_ _ rf_ ?_
  refine .whenTT ?_
  refine .eqlC (fun c => ?_) (fun c => ?_)
  refine .whenTT ?_
  refine .pure ?_
  (iterate 3 refine .whenTF ?_)
  refine .whenTT ?_
  (iterate 2 refine .pickT ?_)
  refine .nx fun _ _ _ _ => ?_
  (iterate 3 (refine .ft fun _ _ _ _ _ _ _ => ?_; dsimp only))
  (iterate 3 (refine .fs fun _ _ _ _ => ?_; dsimp only))
  refine .ok S ?_
  refine .whenTT ?_
  refine .loadNP mm_ nl_ ?_
  refine .whenTT ?_
  refine .loadNP mm_ nl_ ?_
  refine .whenTT ?_
  refine sameI_c rf_ rc_ rc_ om_ (fun c => ?_) (fun c => ?_)
  refine .pickT ?_
  rotate_left
  refine .pickT ?_
  rotate_right
  rotate_left 2
  refine .whenTT ?_
  refine .pure ?_
  refine .whenFF ?_
  refine .fldP ?_
  refine .whenFF ?_
  refine .load1P mm_ _ rf_ ?_
  refine .whenFF ?_
  refine .eqlC (fun c => ?_) (fun c => ?_)
  refine .whenTT ?_
  refine .pickF ?_
  refine .pickT ?_
  refine .nx fun _ _ _ _ => ?_
  (iterate 3 (refine .ft fun _ _ _ _ _ _ _ => ?_; dsimp only))
  (iterate 3 (refine .fs fun _ _ _ _ => ?_; dsimp only))
  refine .ok S ?_
  refine .whenTT ?_
  refine .loadNP mm_ nl_ ?_
  refine .whenTT ?_
  refine .loadNP mm_ nl_ ?_
  refine .whenTT ?_
  refine sameI_c rf_ rc_ rc_ om_ (fun c => ?_) (fun c => ?_)
  refine .pickT ?_
  rotate_left
  refine .pickT ?_
  rotate_right
  rotate_left 2
  refine .whenTT ?_
  refine .pickF ?_
  refine .pickT ?_
  refine .nx fun _ _ _ _ => ?_
  (iterate 3 (refine .ft fun _ _ _ _ _ _ _ => ?_; dsimp only))
  (iterate 3 (refine .fs fun _ _ _ _ => ?_; dsimp only))
  refine .ok S ?_
  refine .wp3 ?_
  rotate_right 2
  rotate_right 2
  rotate_left 5
  refine .fl ?_
  refine .bn fun b hb => ?_
  refine .fl ?_
  refine .ejF ?_
  refine .et ?_
  refine .whenTT ?_
  refine .pure ?_
  refine .pickT ?_
  (iterate 4 refine .whenFT ?_)
  (iterate 3 refine .whenU ?_)
  refine .whenFT ?_
  refine .pickF ?_
  refine .nx fun _ _ _ _ => ?_
  (iterate 3 (refine .ft fun _ _ _ _ _ _ _ => ?_; dsimp only))
  (iterate 3 (refine .fs fun _ _ _ _ => ?_; dsimp only))
  refine .ok S ?_
  refine .wp3 ?_
  rotate_right 5
  rotate_left 6
  refine .pickT ?_
  refine .fl ?_
  refine checkRS_c rf_ rc_ om_ (fun hE => ?_) (fun hE => ?_)
  refine .fl ?_
  refine .bn fun b hb => ?_
  refine .fl ?_
  refine .ejF ?_
  refine .et ?_
  refine .whenFT ?_
  refine .pickF ?_
  (iterate 4 refine .whenFT ?_)
  (iterate 3 refine .whenU ?_)
  refine .whenFT ?_
  refine .pickF ?_
  refine .nx fun _ _ _ _ => ?_
  (iterate 3 (refine .ft fun _ _ _ _ _ _ _ => ?_; dsimp only))
  (iterate 3 (refine .fs fun _ _ _ _ => ?_; dsimp only))
  refine .ok S ?_
  refine .wp3 ?_
  rotate_left
  refine .fl ?_
  refine .bn fun b hb => ?_
  refine .fl ?_
  refine .ejF ?_
  refine .et ?_
  refine .whenFT ?_
  refine .pickF ?_
  (iterate 4 refine .whenFT ?_)
  (iterate 3 refine .whenU ?_)
  refine .whenFT ?_
  refine .pickF ?_
  refine .nx fun _ _ _ _ => ?_
  (iterate 3 (refine .ft fun _ _ _ _ _ _ _ => ?_; dsimp only))
  (iterate 3 (refine .fs fun _ _ _ _ => ?_; dsimp only))
  refine .ok S ?_
  refine .wp3 ?_
  rotate_right
  rotate_right 6
  rotate_left 8
  refine .whenFT ?_
  refine .wp3 ?_
  refine .fl ?_
  refine checkRS_c rf_ rc_ om_ (fun hE => ?_) (fun hE => ?_)
  refine .fl ?_
  refine .bn fun b hb => ?_
  refine .fl ?_
  refine .ejF ?_
  refine .et ?_
  refine .whenFT ?_
  refine .pickF ?_
  (iterate 4 refine .whenFT ?_)
  (iterate 3 refine .whenU ?_)
  refine .whenFT ?_
  refine .pickF ?_
  refine .nx fun _ _ _ _ => ?_
  (iterate 3 (refine .ft fun _ _ _ _ _ _ _ => ?_; dsimp only))
  (iterate 3 (refine .fs fun _ _ _ _ => ?_; dsimp only))
  refine .ok S ?_
  refine .wp3 ?_
  rotate_left
  refine .fl ?_
  refine .bn fun b hb => ?_
  refine .fl ?_
  refine .ejF ?_
  refine .et ?_
  refine .whenFT ?_
  refine .pickF ?_
  (iterate 4 refine .whenFT ?_)
  (iterate 3 refine .whenU ?_)
  refine .whenFT ?_
  refine .pickF ?_
  refine .nx fun _ _ _ _ => ?_
  (iterate 3 (refine .ft fun _ _ _ _ _ _ _ => ?_; dsimp only))
  (iterate 3 (refine .fs fun _ _ _ _ => ?_; dsimp only))
  refine .ok S ?_
  refine .wp3 ?_
  rotate_right
  rotate_right 8
  rotate_right 20
  all_goals (first | unfold SameI at c | skip)
  all_goals (repeat (first | exact qT (by first | omega | (refine ⟨?_, ?_, ?_, ?_, ?_, ?_, ?_, ?_, ?_, ?_⟩ <;> first | omega | assumption | fail) | (refine ⟨?_, ?_, ?_, ?_, ?_, ?_, ?_, ?_⟩ <;> first | omega | assumption | (rw [c.2.2.2.2.2.2]; rfl) | fail) | (refine ⟨?_, ?_, ?_, ?_, ?_, ?_, ?_⟩ <;> first | omega | assumption | fail) | (refine ⟨?_, ?_, ?_, ?_, ?_, ?_⟩ <;> first | omega | assumption | (rw [c.2.2.2.2.2.2]; rfl) | fail) | fail) | exact qF (by intro hx; first | omega | exact absurd (hE.symm.trans hx.2.2.2.2.2.1) Bool.false_ne_true | exact absurd (hE.symm.trans hx.2.2.2.2.2.2) Bool.false_ne_true | exact absurd (hE.symm.trans hx.2.2.2.2.2.2.2.2.2) Bool.false_ne_true | exact hx.2.2.2.2.2.2.2.2.1 hU | exact c ⟨by omega, by omega, by omega, by omega, by omega, by omega, by first | rfl | exact List.eq_nil_of_length_eq_zero om_ | fail⟩ | fail) | refine W.drop ?_ | refine W.dropN _ ?_))
theorem instrR3_c {K : V → H → Option R} {m : Nat} {vs : List V} {m1 m2 r l n : Int} {e : List (Int × Int)} {ve : V} {locs left : Int} (hvs : vs = [.agg [.int .i64 3, .int .i64 m1, .int .i64 m2, .int .i64 r, .int .i64 l, ve, .int .i64 n], .int .i64 locs, .int .i64 left]) (hv : Tk L ve e) (hl : e.length ≤ 12) (h1 : 1 ≤ locs) (h4 : locs ≤ 4) (q : W Q B A S L (K (.bool (insOK ⟨3, m1, m2, r, l, e, n⟩ locs left)))) : W Q B A S (L) fun h => J.call (F (m + 7)) (.fn (.func 32) [] []) vs R h K := by
  subst hvs
  refine W.callE (d := d32) (c := c32) (by kernel_rfl) rfl (by rfl) ?_
  unfold c32
  have hone := hv.one
  have hnil : Tk L .nils [] := Rd.nils (by decide)
  have hbx : ∀ k, allOne (V.agg [.int .i64 k, .int .i64 m1, .int .i64 m2, .int .i64 r, .int .i64 l, ve, .int .i64 n]).cells = true := fun k => ins_one hv.one ⟨k, m1, m2, r, l, e, n⟩
  have qT : (r = 0 ∧ l = 0 ∧ (m1 = 1 ∨ m1 = 2 ∨ m1 = 3 ∨ m1 = 4) ∧ m2 = 0 ∧ e.length = 0 ∧ n = 0) → W Q B A S L (K (.bool true)) := fun h => (by
    have e : insOK ⟨3, m1, m2, r, l, e, n⟩ locs left = true := decide_eq_true h
    rw [e] at q; exact q)
  have qF : ¬ (r = 0 ∧ l = 0 ∧ (m1 = 1 ∨ m1 = 2 ∨ m1 = 3 ∨ m1 = 4) ∧ m2 = 0 ∧ e.length = 0 ∧ n = 0) → W Q B A S L (K (.bool false)) := fun h => (by
    have e : insOK ⟨3, m1, m2, r, l, e, n⟩ locs left = false := decide_eq_false h
    rw [e] at q; exact q)
  clear q
  (iterate 3 refine .hd ?_)
  refine .en ?_
  refine .box bx_ fun b hb => ?_
  refine .fl ?_
  refine .geqC (fun c => ?_) (fun c => ?_)
  refine .whenTT ?_
  refine .fldP ?_
  refine .whenTT ?_
  refine .load1P mm_ _ rf_ ?_
  refine .whenTT ?_
  refine .lssC (fun c => ?_) (fun c => ?_)
  refine .pickT ?_
  refine .fl ?_
  refine .geqC (fun c => ?_) (fun c => ?_)
  refine .whenTT ?_
  refine .fldP ?_
  refine .whenTT ?_
  refine .load1P mm_ _ rf_ ?_
  refine .whenTT ?_
  refine .pure ?_
  refine .whenTT ?_
  refine .lssC (fun c => ?_) (fun c => ?_)
  refine .pickT ?_
  refine .fl ?_
  refine checkRS_c rf_ rc_ om_ (fun hE => ?_) (fun hE => ?_)
  refine .fl ?_
  refine .bn fun b hb => ?_
  refine .fl ?_
  refine .ejF ?_
  refine .ef ?_
  refine .et ?_
  refine .fl ?_
  refine .geqC (fun c => ?_) (fun c => ?_)
  refine .whenTT ?_
  refine .fldP ?_
  refine .whenTT ?_
  refine .load1P mm_ _ rf_ ?_
  refine .whenTT ?_
  refine .leqC (fun c => ?_) (fun c => ?_)
  refine .pickT ?_
  refine .fl ?_
  refine .fldP ?_
  (refine .store1 om_ sn_ bx_ ?_)
  refine .whenTT ?_
  refine .loadNP mm_ nl_ ?_
  refine .whenTT ?_
  refine .loadNP mm_ nl_ ?_
  refine .whenTT ?_
  refine sameI_c rf_ rc_ rc_ om_ (fun c => ?_) (fun c => ?_)
  refine .pickT ?_
  rotate_left
  refine .pickT ?_
  rotate_right
  rotate_left 2
  refine .pickT ?_
  refine .fl ?_
  refine .fldP ?_
  (refine .store1 om_ sn_ bx_ ?_)
  refine .wp3 ?_
  rotate_right 2
  rotate_left 3
  refine .wp3 ?_
  refine .fl ?_
  refine .fldP ?_
  (refine .store1 om_ sn_ bx_ ?_)
  refine .wp3 ?_
  rotate_right 3
  rotate_left 4
  refine .fl ?_
  refine .bn fun b hb => ?_
  refine .fl ?_
  refine .ejF ?_
  refine .ef ?_
  refine .et ?_
  refine .fl ?_
  refine .geqC (fun c => ?_) (fun c => ?_)
  refine .whenTT ?_
  refine .fldP ?_
  refine .whenTT ?_
  refine .load1P mm_ _ rf_ ?_
  refine .whenTT ?_
  refine .leqC (fun c => ?_) (fun c => ?_)
  refine .pickT ?_
  refine .fl ?_
  refine .fldP ?_
  (refine .store1 om_ sn_ bx_ ?_)
  refine .whenTT ?_
  refine .loadNP mm_ nl_ ?_
  refine .whenTT ?_
  refine .loadNP mm_ nl_ ?_
  refine .whenTT ?_
  refine sameI_c rf_ rc_ rc_ om_ (fun c => ?_) (fun c => ?_)
  refine .pickT ?_
  rotate_left
  refine .pickT ?_
  rotate_right
  rotate_left 2
  refine .pickT ?_
  refine .fl ?_
  refine .fldP ?_
  (refine .store1 om_ sn_ bx_ ?_)
  refine .wp3 ?_
  rotate_right 2
  rotate_left 3
  refine .wp3 ?_
  refine .fl ?_
  refine .fldP ?_
  (refine .store1 om_ sn_ bx_ ?_)
  refine .wp3 ?_
  rotate_right 3
  rotate_right 4
  rotate_left 8
  refine .pickT ?_
  refine .fl ?_
  refine checkRS_c rf_ rc_ om_ (fun hE => ?_) (fun hE => ?_)
  refine .fl ?_
  refine .bn fun b hb => ?_
  refine .fl ?_
  refine .ejF ?_
  refine .ef ?_
  refine .et ?_
  refine .fl ?_
  refine .geqC (fun c => ?_) (fun c => ?_)
  refine .whenTT ?_
  refine .fldP ?_
  refine .whenTT ?_
  refine .load1P mm_ _ rf_ ?_
  refine .whenTT ?_
  refine .leqC (fun c => ?_) (fun c => ?_)
  refine .pickT ?_
  refine .fl ?_
  refine .fldP ?_
  (refine .store1 om_ sn_ bx_ ?_)
  refine .whenTT ?_
  refine .loadNP mm_ nl_ ?_
  refine .whenTT ?_
  refine .loadNP mm_ nl_ ?_
  refine .whenTT ?_
  refine sameI_c rf_ rc_ rc_ om_ (fun c => ?_) (fun c => ?_)
  refine .pickT ?_
  rotate_left
  refine .pickT ?_
  rotate_right
  rotate_left 2
  refine .pickT ?_
  refine .fl ?_
  refine .fldP ?_
  (refine .store1 om_ sn_ bx_ ?_)
  refine .wp3 ?_
  rotate_right 2
  rotate_left 3
  refine .wp3 ?_
  refine .fl ?_
  refine .fldP ?_
  (refine .store1 om_ sn_ bx_ ?_)
  refine .wp3 ?_
  rotate_right 3
  rotate_left 4
  refine .fl ?_
  refine .bn fun b hb => ?_
  refine .fl ?_
  refine .ejF ?_
  refine .ef ?_
  refine .et ?_
  refine .fl ?_
  refine .geqC (fun c => ?_) (fun c => ?_)
  refine .whenTT ?_
  refine .fldP ?_
  refine .whenTT ?_
  refine .load1P mm_ _ rf_ ?_
  refine .whenTT ?_
  refine .leqC (fun c => ?_) (fun c => ?_)
  refine .pickT ?_
  refine .fl ?_
  refine .fldP ?_
  (refine .store1 om_ sn_ bx_ ?_)
  refine .whenTT ?_
  refine .loadNP mm_ nl_ ?_
  refine .whenTT ?_
  refine .loadNP mm_ nl_ ?_
  refine .whenTT ?_
  refine sameI_c rf_ rc_ rc_ om_ (fun c => ?_) (fun c => ?_)
  refine .pickT ?_
  rotate_left
  refine .pickT ?_
  rotate_right
  rotate_left 2
  refine .pickT ?_
  refine .fl ?_
  refine .fldP ?_
  (refine .store1 om_ sn_ bx_ ?_)
  refine .wp3 ?_
  rotate_right 2
  rotate_left 3
  refine .wp3 ?_
  refine .fl ?_
  refine .fldP ?_
  (refine .store1 om_ sn_ bx_ ?_)
  refine .wp3 ?_
  rotate_right 3
  rotate_right 4
  rotate_right 8
  rotate_left 16
  refine .whenFT ?_
  refine .wp3 ?_
  refine .fl ?_
  refine checkRS_c rf_ rc_ om_ (fun hE => ?_) (fun hE => ?_)
  refine .fl ?_
  refine .bn fun b hb => ?_
  refine .fl ?_
  refine .ejF ?_
  refine .ef ?_
  refine .et ?_
  refine .fl ?_
  refine .geqC (fun c => ?_) (fun c => ?_)
  refine .whenTT ?_
  refine .fldP ?_
  refine .whenTT ?_
  refine .load1P mm_ _ rf_ ?_
  refine .whenTT ?_
  refine .leqC (fun c => ?_) (fun c => ?_)
  refine .pickT ?_
  refine .fl ?_
  refine .fldP ?_
  (refine .store1 om_ sn_ bx_ ?_)
  refine .whenTT ?_
  refine .loadNP mm_ nl_ ?_
  refine .whenTT ?_
  refine .loadNP mm_ nl_ ?_
  refine .whenTT ?_
  refine sameI_c rf_ rc_ rc_ om_ (fun c => ?_) (fun c => ?_)
  refine .pickT ?_
  rotate_left
  refine .pickT ?_
  rotate_right
  rotate_left 2
  refine .pickT ?_
  refine .fl ?_
  refine .fldP ?_
  (refine .store1 om_ sn_ bx_ ?_)
  refine .wp3 ?_
  rotate_right 2
  rotate_left 3
  refine .wp3 ?_
  refine .fl ?_
  refine .fldP ?_
  (refine .store1 om_ sn_ bx_ ?_)
  refine .wp3 ?_
  rotate_right 3
  rotate_left 4
  refine .fl ?_
  refine .bn fun b hb => ?_
  refine .fl ?_
  refine .ejF ?_
  refine .ef ?_
  refine .et ?_
  refine .fl ?_
  refine .geqC (fun c => ?_) (fun c => ?_)
  refine .whenTT ?_
  refine .fldP ?_
  refine .whenTT ?_
  refine .load1P mm_ _ rf_ ?_
  refine .whenTT ?_
  refine .leqC (fun c => ?_) (fun c => ?_)
  refine .pickT ?_
  refine .fl ?_
  refine .fldP ?_
  (refine .store1 om_ sn_ bx_ ?_)
  refine .whenTT ?_
  refine .loadNP mm_ nl_ ?_
  refine .whenTT ?_
  refine .loadNP mm_ nl_ ?_
  refine .whenTT ?_
  refine sameI_c rf_ rc_ rc_ om_ (fun c => ?_) (fun c => ?_)
  refine .pickT ?_
  rotate_left
  refine .pickT ?_
  rotate_right
  rotate_left 2
  refine .pickT ?_
  refine .fl ?_
  refine .fldP ?_
  (refine .store1 om_ sn_ bx_ ?_)
  refine .wp3 ?_
  rotate_right 2
  rotate_left 3
  refine .wp3 ?_
  refine .fl ?_
  refine .fldP ?_
  (refine .store1 om_ sn_ bx_ ?_)
  refine .wp3 ?_
  rotate_right 3
  rotate_right 4
  rotate_right 16
  rotate_left 24
  refine .pickT ?_
  refine .fl ?_
  refine .geqC (fun c => ?_) (fun c => ?_)
  refine .whenTT ?_
  refine .fldP ?_
  refine .whenTT ?_
  refine .load1P mm_ _ rf_ ?_
  refine .whenTT ?_
  refine .pure ?_
  refine .whenTT ?_
  refine .lssC (fun c => ?_) (fun c => ?_)
  refine .pickT ?_
  refine .fl ?_
  refine checkRS_c rf_ rc_ om_ (fun hE => ?_) (fun hE => ?_)
  refine .fl ?_
  refine .bn fun b hb => ?_
  refine .fl ?_
  refine .ejF ?_
  refine .ef ?_
  refine .et ?_
  refine .fl ?_
  refine .geqC (fun c => ?_) (fun c => ?_)
  refine .whenTT ?_
  refine .fldP ?_
  refine .whenTT ?_
  refine .load1P mm_ _ rf_ ?_
  refine .whenTT ?_
  refine .leqC (fun c => ?_) (fun c => ?_)
  refine .pickT ?_
  refine .fl ?_
  refine .fldP ?_
  (refine .store1 om_ sn_ bx_ ?_)
  refine .whenTT ?_
  refine .loadNP mm_ nl_ ?_
  refine .whenTT ?_
  refine .loadNP mm_ nl_ ?_
  refine .whenTT ?_
  refine sameI_c rf_ rc_ rc_ om_ (fun c => ?_) (fun c => ?_)
  refine .pickT ?_
  rotate_left
  refine .pickT ?_
  rotate_right
  rotate_left 2
  refine .pickT ?_
  refine .fl ?_
  refine .fldP ?_
  (refine .store1 om_ sn_ bx_ ?_)
  refine .wp3 ?_
  rotate_right 2
  rotate_left 3
  refine .wp3 ?_
  refine .fl ?_
  refine .fldP ?_
  (refine .store1 om_ sn_ bx_ ?_)
  refine .wp3 ?_
  rotate_right 3
  rotate_left 4
  refine .fl ?_
  refine .bn fun b hb => ?_
  refine .fl ?_
  refine .ejF ?_
  refine .ef ?_
  refine .et ?_
  refine .fl ?_
  refine .geqC (fun c => ?_) (fun c => ?_)
  refine .whenTT ?_
  refine .fldP ?_
  refine .whenTT ?_
  refine .load1P mm_ _ rf_ ?_
  refine .whenTT ?_
  refine .leqC (fun c => ?_) (fun c => ?_)
  refine .pickT ?_
  refine .fl ?_
  refine .fldP ?_
  (refine .store1 om_ sn_ bx_ ?_)
  refine .whenTT ?_
  refine .loadNP mm_ nl_ ?_
  refine .whenTT ?_
  refine .loadNP mm_ nl_ ?_
  refine .whenTT ?_
  refine sameI_c rf_ rc_ rc_ om_ (fun c => ?_) (fun c => ?_)
  refine .pickT ?_
  rotate_left
  refine .pickT ?_
  rotate_right
  rotate_left 2
  refine .pickT ?_
  refine .fl ?_
  refine .fldP ?_
  (refine .store1 om_ sn_ bx_ ?_)
  refine .wp3 ?_
  rotate_right 2
  rotate_left 3
  refine .wp3 ?_
  refine .fl ?_
  refine .fldP ?_
  (refine .store1 om_ sn_ bx_ ?_)
  refine .wp3 ?_
  rotate_right 3
  rotate_right 4
  rotate_left 8
  refine .pickT ?_
  refine .fl ?_
  refine checkRS_c rf_ rc_ om_ (fun hE => ?_) (fun hE => ?_)
  refine .fl ?_
  refine .bn fun b hb => ?_
  refine .fl ?_
  refine .ejF ?_
  refine .ef ?_
  refine .et ?_
  refine .fl ?_
  refine .geqC (fun c => ?_) (fun c => ?_)
  refine .whenTT ?_
  refine .fldP ?_
  refine .whenTT ?_
  refine .load1P mm_ _ rf_ ?_
  refine .whenTT ?_
  refine .leqC (fun c => ?_) (fun c => ?_)
  refine .pickT ?_
  refine .fl ?_
  refine .fldP ?_
  (refine .store1 om_ sn_ bx_ ?_)
  refine .whenTT ?_
  refine .loadNP mm_ nl_ ?_
  refine .whenTT ?_
  refine .loadNP mm_ nl_ ?_
  refine .whenTT ?_
  refine sameI_c rf_ rc_ rc_ om_ (fun c => ?_) (fun c => ?_)
  refine .pickT ?_
  rotate_left
  refine .pickT ?_
  rotate_right
  rotate_left 2
  refine .pickT ?_
  refine .fl ?_
  refine .fldP ?_
  (refine .store1 om_ sn_ bx_ ?_)
  refine .wp3 ?_
  rotate_right 2
  rotate_left 3
  refine .wp3 ?_
  refine .fl ?_
  refine .fldP ?_
  (refine .store1 om_ sn_ bx_ ?_)
  refine .wp3 ?_
  rotate_right 3
  rotate_left 4
  refine .fl ?_
  refine .bn fun b hb => ?_
  refine .fl ?_
  refine .ejF ?_
  refine .ef ?_
  refine .et ?_
  refine .fl ?_
  refine .geqC (fun c => ?_) (fun c => ?_)
  refine .whenTT ?_
  refine .fldP ?_
  refine .whenTT ?_
  refine .load1P mm_ _ rf_ ?_
  refine .whenTT ?_
  refine .leqC (fun c => ?_) (fun c => ?_)
  refine .pickT ?_
  refine .fl ?_
  refine .fldP ?_
  (refine .store1 om_ sn_ bx_ ?_)
  refine .whenTT ?_
  refine .loadNP mm_ nl_ ?_
  refine .whenTT ?_
  refine .loadNP mm_ nl_ ?_
  refine .whenTT ?_
  refine sameI_c rf_ rc_ rc_ om_ (fun c => ?_) (fun c => ?_)
  refine .pickT ?_
  rotate_left
  refine .pickT ?_
  rotate_right
  rotate_left 2
  refine .pickT ?_
  refine .fl ?_
  refine .fldP ?_
  (refine .store1 om_ sn_ bx_ ?_)
  refine .wp3 ?_
  rotate_right 2
  rotate_left 3
  refine .wp3 ?_
  refine .fl ?_
  refine .fldP ?_
  (refine .store1 om_ sn_ bx_ ?_)
  refine .wp3 ?_
  rotate_right 3
  rotate_right 4
  rotate_right 8
  rotate_left 16
  refine .whenFT ?_
  refine .wp3 ?_
  refine .fl ?_
  refine checkRS_c rf_ rc_ om_ (fun hE => ?_) (fun hE => ?_)
  refine .fl ?_
  refine .bn fun b hb => ?_
  refine .fl ?_
  refine .ejF ?_
  refine .ef ?_
  refine .et ?_
  refine .fl ?_
  refine .geqC (fun c => ?_) (fun c => ?_)
  refine .whenTT ?_
  refine .fldP ?_
  refine .whenTT ?_
  refine .load1P mm_ _ rf_ ?_
  refine .whenTT ?_
  refine .leqC (fun c => ?_) (fun c => ?_)
  refine .pickT ?_
  refine .fl ?_
  refine .fldP ?_
  (refine .store1 om_ sn_ bx_ ?_)
  refine .whenTT ?_
  refine .loadNP mm_ nl_ ?_
  refine .whenTT ?_
  refine .loadNP mm_ nl_ ?_
  refine .whenTT ?_
  refine sameI_c rf_ rc_ rc_ om_ (fun c => ?_) (fun c => ?_)
  refine .pickT ?_
  rotate_left
  refine .pickT ?_
  rotate_right
  rotate_left 2
  refine .pickT ?_
  refine .fl ?_
  refine .fldP ?_
  (refine .store1 om_ sn_ bx_ ?_)
  refine .wp3 ?_
  rotate_right 2
  rotate_left 3
  refine .wp3 ?_
  refine .fl ?_
  refine .fldP ?_
  (refine .store1 om_ sn_ bx_ ?_)
  refine .wp3 ?_
  rotate_right 3
  rotate_left 4
  refine .fl ?_
  refine .bn fun b hb => ?_
  refine .fl ?_
  refine .ejF ?_
  refine .ef ?_
  refine .et ?_
  refine .fl ?_
  refine .geqC (fun c => ?_) (fun c => ?_)
  refine .whenTT ?_
  refine .fldP ?_
  refine .whenTT ?_
  refine .load1P mm_ _ rf_ ?_
  refine .whenTT ?_
  refine .leqC (fun c => ?_) (fun c => ?_)
  refine .pickT ?_
  refine .fl ?_
  refine .fldP ?_
  (refine .store1 om_ sn_ bx_ ?_)
  refine .whenTT ?_
  refine .loadNP mm_ nl_ ?_
  refine .whenTT ?_
  refine .loadNP mm_ nl_ ?_
  refine .whenTT ?_
  refine sameI_c rf_ rc_ rc_ om_ (fun c => ?_) (fun c => ?_)
  refine .pickT ?_
  rotate_left
  refine .pickT ?_
  rotate_right
  rotate_left 2
  refine .pickT ?_
  refine .fl ?_
  refine .fldP ?_
  (refine .store1 om_ sn_ bx_ ?_)
  refine .wp3 ?_
  rotate_right 2
  rotate_left 3
  refine .wp3 ?_
  refine .fl ?_
  refine .fldP ?_
  (refine .store1 om_ sn_ bx_ ?_)
  refine .wp3 ?_
  rotate_right 3
  rotate_right 4
  rotate_right 16
  rotate_right 24
  rotate_left 48
  refine .wp3 ?_
  refine .fl ?_
  refine .geqC (fun c => ?_) (fun c => ?_)
  refine .whenTT ?_
  refine .fldP ?_
  refine .whenTT ?_
  refine .load1P mm_ _ rf_ ?_
  refine .whenTT ?_
  refine .pure ?_
  refine .whenTT ?_
  refine .lssC (fun c => ?_) (fun c => ?_)
  refine .pickT ?_
  refine .fl ?_
  refine checkRS_c rf_ rc_ om_ (fun hE => ?_) (fun hE => ?_)
  refine .fl ?_
  refine .bn fun b hb => ?_
  refine .fl ?_
  refine .ejF ?_
  refine .ef ?_
  refine .et ?_
  refine .fl ?_
  refine .geqC (fun c => ?_) (fun c => ?_)
  refine .whenTT ?_
  refine .fldP ?_
  refine .whenTT ?_
  refine .load1P mm_ _ rf_ ?_
  refine .whenTT ?_
  refine .leqC (fun c => ?_) (fun c => ?_)
  refine .pickT ?_
  refine .fl ?_
  refine .fldP ?_
  (refine .store1 om_ sn_ bx_ ?_)
  refine .whenTT ?_
  refine .loadNP mm_ nl_ ?_
  refine .whenTT ?_
  refine .loadNP mm_ nl_ ?_
  refine .whenTT ?_
  refine sameI_c rf_ rc_ rc_ om_ (fun c => ?_) (fun c => ?_)
  refine .pickT ?_
  rotate_left
  refine .pickT ?_
  rotate_right
  rotate_left 2
  refine .pickT ?_
  refine .fl ?_
  refine .fldP ?_
  (refine .store1 om_ sn_ bx_ ?_)
  refine .wp3 ?_
  rotate_right 2
  rotate_left 3
  refine .wp3 ?_
  refine .fl ?_
  refine .fldP ?_
  (refine .store1 om_ sn_ bx_ ?_)
  refine .wp3 ?_
  rotate_right 3
  rotate_left 4
  refine .fl ?_
  refine .bn fun b hb => ?_
  refine .fl ?_
  refine .ejF ?_
  refine .ef ?_
  refine .et ?_
  refine .fl ?_
  refine .geqC (fun c => ?_) (fun c => ?_)
  refine .whenTT ?_
  refine .fldP ?_
  refine .whenTT ?_
  refine .load1P mm_ _ rf_ ?_
  refine .whenTT ?_
  refine .leqC (fun c => ?_) (fun c => ?_)
  refine .pickT ?_
  refine .fl ?_
  refine .fldP ?_
  (refine .store1 om_ sn_ bx_ ?_)
  refine .whenTT ?_
  refine .loadNP mm_ nl_ ?_
  refine .whenTT ?_
  refine .loadNP mm_ nl_ ?_
  refine .whenTT ?_
  refine sameI_c rf_ rc_ rc_ om_ (fun c => ?_) (fun c => ?_)
  refine .pickT ?_
  rotate_left
  refine .pickT ?_
  rotate_right
  rotate_left 2
  refine .pickT ?_
  refine .fl ?_
  refine .fldP ?_
  (refine .store1 om_ sn_ bx_ ?_)
  refine .wp3 ?_
  rotate_right 2
  rotate_left 3
  refine .wp3 ?_
  refine .fl ?_
  refine .fldP ?_
  (refine .store1 om_ sn_ bx_ ?_)
  refine .wp3 ?_
  rotate_right 3
  rotate_right 4
  rotate_left 8
  refine .pickT ?_
  refine .fl ?_
  refine checkRS_c rf_ rc_ om_ (fun hE => ?_) (fun hE => ?_)
  refine .fl ?_
  refine .bn fun b hb => ?_
  refine .fl ?_
  refine .ejF ?_
  refine .ef ?_
  refine .et ?_
  refine .fl ?_
  refine .geqC (fun c => ?_) (fun c => ?_)
  refine .whenTT ?_
  refine .fldP ?_
  refine .whenTT ?_
  refine .load1P mm_ _ rf_ ?_
  refine .whenTT ?_
  refine .leqC (fun c => ?_) (fun c => ?_)
  refine .pickT ?_
  refine .fl ?_
  refine .fldP ?_
  (refine .store1 om_ sn_ bx_ ?_)
  refine .whenTT ?_
  refine .loadNP mm_ nl_ ?_
  refine .whenTT ?_
  refine .loadNP mm_ nl_ ?_
  refine .whenTT ?_
  refine sameI_c rf_ rc_ rc_ om_ (fun c => ?_) (fun c => ?_)
  refine .pickT ?_
  rotate_left
  refine .pickT ?_
  rotate_right
  rotate_left 2
  refine .pickT ?_
  refine .fl ?_
  refine .fldP ?_
  (refine .store1 om_ sn_ bx_ ?_)
  refine .wp3 ?_
  rotate_right 2
  rotate_left 3
  refine .wp3 ?_
  refine .fl ?_
  refine .fldP ?_
  (refine .store1 om_ sn_ bx_ ?_)
  refine .wp3 ?_
  rotate_right 3
  rotate_left 4
  refine .fl ?_
  refine .bn fun b hb => ?_
  refine .fl ?_
  refine .ejF ?_
  refine .ef ?_
  refine .et ?_
  refine .fl ?_
  refine .geqC (fun c => ?_) (fun c => ?_)
  refine .whenTT ?_
  refine .fldP ?_
  refine .whenTT ?_
  refine .load1P mm_ _ rf_ ?_
  refine .whenTT ?_
  refine .leqC (fun c => ?_) (fun c => ?_)
  refine .pickT ?_
  refine .fl ?_
  refine .fldP ?_
  (refine .store1 om_ sn_ bx_ ?_)
  refine .whenTT ?_
  refine .loadNP mm_ nl_ ?_
  refine .whenTT ?_
  refine .loadNP mm_ nl_ ?_
  refine .whenTT ?_
  refine sameI_c rf_ rc_ rc_ om_ (fun c => ?_) (fun c => ?_)
  refine .pickT ?_
  rotate_left
  refine .pickT ?_
  rotate_right
  rotate_left 2
  refine .pickT ?_
  refine .fl ?_
  refine .fldP ?_
  (refine .store1 om_ sn_ bx_ ?_)
  refine .wp3 ?_
  rotate_right 2
  rotate_left 3
  refine .wp3 ?_
  refine .fl ?_
  refine .fldP ?_
  (refine .store1 om_ sn_ bx_ ?_)
  refine .wp3 ?_
  rotate_right 3
  rotate_right 4
  rotate_right 8
  rotate_left 16
  refine .whenFT ?_
  refine .wp3 ?_
  refine .fl ?_
  refine checkRS_c rf_ rc_ om_ (fun hE => ?_) (fun hE => ?_)
  refine .fl ?_
  refine .bn fun b hb => ?_
  refine .fl ?_
  refine .ejF ?_
  refine .ef ?_
  refine .et ?_
  refine .fl ?_
  refine .geqC (fun c => ?_) (fun c => ?_)
  refine .whenTT ?_
  refine .fldP ?_
  refine .whenTT ?_
  refine .load1P mm_ _ rf_ ?_
  refine .whenTT ?_
  refine .leqC (fun c => ?_) (fun c => ?_)
  refine .pickT ?_
  refine .fl ?_
  refine .fldP ?_
  (refine .store1 om_ sn_ bx_ ?_)
  refine .whenTT ?_
  refine .loadNP mm_ nl_ ?_
  refine .whenTT ?_
  refine .loadNP mm_ nl_ ?_
  refine .whenTT ?_
  refine sameI_c rf_ rc_ rc_ om_ (fun c => ?_) (fun c => ?_)
  refine .pickT ?_
  rotate_left
  refine .pickT ?_
  rotate_right
  rotate_left 2
  refine .pickT ?_
  refine .fl ?_
  refine .fldP ?_
  (refine .store1 om_ sn_ bx_ ?_)
  refine .wp3 ?_
  rotate_right 2
  rotate_left 3
  refine .wp3 ?_
  refine .fl ?_
  refine .fldP ?_
  (refine .store1 om_ sn_ bx_ ?_)
  refine .wp3 ?_
  rotate_right 3
  rotate_left 4
  refine .fl ?_
  refine .bn fun b hb => ?_
  refine .fl ?_
  refine .ejF ?_
  refine .ef ?_
  refine .et ?_
  refine .fl ?_
  refine .geqC (fun c => ?_) (fun c => ?_)
  refine .whenTT ?_
  refine .fldP ?_
  refine .whenTT ?_
  refine .load1P mm_ _ rf_ ?_
  refine .whenTT ?_
  refine .leqC (fun c => ?_) (fun c => ?_)
  refine .pickT ?_
  refine .fl ?_
  refine .fldP ?_
  (refine .store1 om_ sn_ bx_ ?_)
  refine .whenTT ?_
  refine .loadNP mm_ nl_ ?_
  refine .whenTT ?_
  refine .loadNP mm_ nl_ ?_
  refine .whenTT ?_
  refine sameI_c rf_ rc_ rc_ om_ (fun c => ?_) (fun c => ?_)
  refine .pickT ?_
  rotate_left
  refine .pickT ?_
  rotate_right
  rotate_left 2
  refine .pickT ?_
  refine .fl ?_
  refine .fldP ?_
  (refine .store1 om_ sn_ bx_ ?_)
  refine .wp3 ?_
  rotate_right 2
  rotate_left 3
  refine .wp3 ?_
  refine .fl ?_
  refine .fldP ?_
  (refine .store1 om_ sn_ bx_ ?_)
  refine .wp3 ?_
  rotate_right 3
  rotate_right 4
  rotate_right 16
  rotate_right 48
  all_goals (first | unfold SameI at c | skip)
  all_goals (repeat (first | exact qT (by first | omega | (refine ⟨?_, ?_, ?_, ?_, ?_, ?_, ?_, ?_, ?_, ?_⟩ <;> first | omega | assumption | fail) | (refine ⟨?_, ?_, ?_, ?_, ?_, ?_, ?_, ?_⟩ <;> first | omega | assumption | (rw [c.2.2.2.2.2.2]; rfl) | fail) | (refine ⟨?_, ?_, ?_, ?_, ?_, ?_, ?_⟩ <;> first | omega | assumption | fail) | (refine ⟨?_, ?_, ?_, ?_, ?_, ?_⟩ <;> first | omega | assumption | (rw [c.2.2.2.2.2.2]; rfl) | fail) | fail) | exact qF (by intro hx; first | omega | exact absurd (hE.symm.trans hx.2.2.2.2.2.1) Bool.false_ne_true | exact absurd (hE.symm.trans hx.2.2.2.2.2.2) Bool.false_ne_true | exact absurd (hE.symm.trans hx.2.2.2.2.2.2.2.2.2) Bool.false_ne_true | exact hx.2.2.2.2.2.2.2.2.1 hU | exact c ⟨by omega, by omega, by omega, by omega, by omega, by omega, by first | rfl | exact List.eq_nil_of_length_eq_zero om_ | fail⟩ | fail) | refine W.drop ?_ | refine W.dropN _ ?_))
theorem instrR4_c {K : V → H → Option R} {m : Nat} {vs : List V} {m1 m2 r l n : Int} {e : List (Int × Int)} {ve : V} {locs left : Int} (hvs : vs = [.agg [.int .i64 4, .int .i64 m1, .int .i64 m2, .int .i64 r, .int .i64 l, ve, .int .i64 n], .int .i64 locs, .int .i64 left]) (hv : Tk L ve e) (hl : e.length ≤ 12) (h1 : 1 ≤ locs) (h4 : locs ≤ 4) (q : W Q B A S L (K (.bool (insOK ⟨4, m1, m2, r, l, e, n⟩ locs left)))) : W Q B A S (L) fun h => J.call (F (m + 7)) (.fn (.func 32) [] []) vs R h K := by
  subst hvs
  refine W.callE (d := d32) (c := c32) (by kernel_rfl) rfl (by rfl) ?_
  unfold c32
  have hone := hv.one
  have hnil : Tk L .nils [] := Rd.nils (by decide)
  have hbx : ∀ k, allOne (V.agg [.int .i64 k, .int .i64 m1, .int .i64 m2, .int .i64 r, .int .i64 l, ve, .int .i64 n]).cells = true := fun k => ins_one hv.one ⟨k, m1, m2, r, l, e, n⟩
  have qT : (0 ≤ r ∧ r ≤ 7 ∧ 0 ≤ l ∧ l ≤ locs - 1 ∧ (m1 = 0 ∨ m1 = 1) ∧ (m2 = 0 ∨ m2 = 2) ∧ n = 0 ∧ e.length ≤ 7 ∧ r ∉ regL e ∧ checkE e = true) → W Q B A S L (K (.bool true)) := fun h => (by
    have e : insOK ⟨4, m1, m2, r, l, e, n⟩ locs left = true := decide_eq_true h
    rw [e] at q; exact q)
  have qF : ¬ (0 ≤ r ∧ r ≤ 7 ∧ 0 ≤ l ∧ l ≤ locs - 1 ∧ (m1 = 0 ∨ m1 = 1) ∧ (m2 = 0 ∨ m2 = 2) ∧ n = 0 ∧ e.length ≤ 7 ∧ r ∉ regL e ∧ checkE e = true) → W Q B A S L (K (.bool false)) := fun h => (by
    have e : insOK ⟨4, m1, m2, r, l, e, n⟩ locs left = false := decide_eq_false h
    rw [e] at q; exact q)
  clear q
  (iterate 3 refine .hd ?_)
  refine .en ?_
  refine .box bx_ fun b hb => ?_
  refine .fl ?_
  refine .geqC (fun c => ?_) (fun c => ?_)
  refine .whenTT ?_
  refine .fldP ?_
  refine .whenTT ?_
  refine .load1P mm_ _ rf_ ?_
  refine .whenTT ?_
  refine .lssC (fun c => ?_) (fun c => ?_)
  refine .pickT ?_
  refine .fl ?_
  refine .geqC (fun c => ?_) (fun c => ?_)
  refine .whenTT ?_
  refine .fldP ?_
  refine .whenTT ?_
  refine .load1P mm_ _ rf_ ?_
  refine .whenTT ?_
  refine .pure ?_
  refine .whenTT ?_
  refine .lssC (fun c => ?_) (fun c => ?_)
  refine .pickT ?_
  refine .fl ?_
  refine checkRS_c rf_ rc_ om_ (fun hE => ?_) (fun hE => ?_)
  refine .fl ?_
  refine .bn fun b hb => ?_
  refine .fl ?_
  refine .ejF ?_
  refine .ef ?_
  refine .ef ?_
  refine .et ?_
  refine .whenTT ?_
  refine .pure ?_
  refine .pickT ?_
  refine .whenTT ?_
  refine .pure ?_
  refine .pickT ?_
  refine .whenTT ?_
  refine .fldP ?_
  refine .whenTT ?_
  refine .load1P mm_ _ rf_ ?_
  refine .whenTT ?_
  refine .lenR rc_ ?_
  refine .whenTT ?_
  refine .leqC (fun c => ?_) (fun c => ?_)
  refine .pickT ?_
  refine .whenTT ?_
  refine .fldP ?_
  refine .whenTT ?_
  refine .load1P mm_ _ rf_ ?_
  refine .whenTT ?_
  refine .fldP ?_
  refine .whenTT ?_
  refine .load1P mm_ _ rf_ ?_
  refine .whenTT ?_
  refine usesS_c rf_ rc_ om_ (fun hU => ?_) (fun hU => ?_)
  refine .whenTT ?_
  refine .notT ?_
  refine .pickT ?_
  (iterate 4 refine .whenFT ?_)
  (iterate 3 refine .whenU ?_)
  refine .whenFT ?_
  refine .pickF ?_
  (iterate 4 refine .whenFT ?_)
  (iterate 3 refine .whenU ?_)
  refine .whenFT ?_
  refine .pickF ?_
  refine .nx fun _ _ _ _ => ?_
  (iterate 5 (refine .ft fun _ _ _ _ _ _ _ => ?_; dsimp only))
  (iterate 5 (refine .fs fun _ _ _ _ => ?_; dsimp only))
  refine .ok S ?_
  refine .wp3 ?_
  rotate_left
  refine .whenTT ?_
  refine .notF ?_
  refine .pickT ?_
  refine .whenTT ?_
  refine .fldP ?_
  refine .whenTT ?_
  refine .load1P mm_ _ rf_ ?_
  refine .whenTT ?_
  refine .eqlC (fun c => ?_) (fun c => ?_)
  refine .whenTT ?_
  refine .pure ?_
  (iterate 3 refine .whenTF ?_)
  refine .whenTT ?_
  (iterate 2 refine .pickT ?_)
  refine .whenTT ?_
  refine .fldP ?_
  refine .whenTT ?_
  refine .load1P mm_ _ rf_ ?_
  refine .whenTT ?_
  refine .eqlC (fun c => ?_) (fun c => ?_)
  refine .whenTT ?_
  refine .pure ?_
  (iterate 3 refine .whenTF ?_)
  refine .whenTT ?_
  (iterate 2 refine .pickT ?_)
  refine .nx fun _ _ _ _ => ?_
  (iterate 5 (refine .ft fun _ _ _ _ _ _ _ => ?_; dsimp only))
  (iterate 5 (refine .fs fun _ _ _ _ => ?_; dsimp only))
  refine .ok S ?_
  refine .whenTT ?_
  refine .loadNP mm_ nl_ ?_
  refine .whenTT ?_
  refine .loadNP mm_ nl_ ?_
  refine .whenTT ?_
  refine sameI_c rf_ rc_ rc_ om_ (fun c => ?_) (fun c => ?_)
  refine .pickT ?_
  rotate_left
  refine .pickT ?_
  rotate_right
  rotate_left 2
  refine .whenTT ?_
  refine .pure ?_
  refine .whenFF ?_
  refine .fldP ?_
  refine .whenFF ?_
  refine .load1P mm_ _ rf_ ?_
  refine .whenFF ?_
  refine .eqlC (fun c => ?_) (fun c => ?_)
  refine .whenTT ?_
  refine .pickF ?_
  refine .pickT ?_
  refine .nx fun _ _ _ _ => ?_
  (iterate 5 (refine .ft fun _ _ _ _ _ _ _ => ?_; dsimp only))
  (iterate 5 (refine .fs fun _ _ _ _ => ?_; dsimp only))
  refine .ok S ?_
  refine .whenTT ?_
  refine .loadNP mm_ nl_ ?_
  refine .whenTT ?_
  refine .loadNP mm_ nl_ ?_
  refine .whenTT ?_
  refine sameI_c rf_ rc_ rc_ om_ (fun c => ?_) (fun c => ?_)
  refine .pickT ?_
  rotate_left
  refine .pickT ?_
  rotate_right
  rotate_left 2
  refine .whenTT ?_
  refine .pickF ?_
  refine .pickT ?_
  refine .nx fun _ _ _ _ => ?_
  (iterate 5 (refine .ft fun _ _ _ _ _ _ _ => ?_; dsimp only))
  (iterate 5 (refine .fs fun _ _ _ _ => ?_; dsimp only))
  refine .ok S ?_
  refine .wp3 ?_
  rotate_right 2
  rotate_right 2
  rotate_left 5
  refine .whenTT ?_
  refine .pure ?_
  refine .whenFF ?_
  refine .fldP ?_
  refine .whenFF ?_
  refine .load1P mm_ _ rf_ ?_
  refine .whenFF ?_
  refine .eqlC (fun c => ?_) (fun c => ?_)
  refine .whenTT ?_
  refine .pickF ?_
  refine .pickT ?_
  refine .whenTT ?_
  refine .fldP ?_
  refine .whenTT ?_
  refine .load1P mm_ _ rf_ ?_
  refine .whenTT ?_
  refine .eqlC (fun c => ?_) (fun c => ?_)
  refine .whenTT ?_
  refine .pure ?_
  (iterate 3 refine .whenTF ?_)
  refine .whenTT ?_
  (iterate 2 refine .pickT ?_)
  refine .nx fun _ _ _ _ => ?_
  (iterate 5 (refine .ft fun _ _ _ _ _ _ _ => ?_; dsimp only))
  (iterate 5 (refine .fs fun _ _ _ _ => ?_; dsimp only))
  refine .ok S ?_
  refine .whenTT ?_
  refine .loadNP mm_ nl_ ?_
  refine .whenTT ?_
  refine .loadNP mm_ nl_ ?_
  refine .whenTT ?_
  refine sameI_c rf_ rc_ rc_ om_ (fun c => ?_) (fun c => ?_)
  refine .pickT ?_
  rotate_left
  refine .pickT ?_
  rotate_right
  rotate_left 2
  refine .whenTT ?_
  refine .pure ?_
  refine .whenFF ?_
  refine .fldP ?_
  refine .whenFF ?_
  refine .load1P mm_ _ rf_ ?_
  refine .whenFF ?_
  refine .eqlC (fun c => ?_) (fun c => ?_)
  refine .whenTT ?_
  refine .pickF ?_
  refine .pickT ?_
  refine .nx fun _ _ _ _ => ?_
  (iterate 5 (refine .ft fun _ _ _ _ _ _ _ => ?_; dsimp only))
  (iterate 5 (refine .fs fun _ _ _ _ => ?_; dsimp only))
  refine .ok S ?_
  refine .whenTT ?_
  refine .loadNP mm_ nl_ ?_
  refine .whenTT ?_
  refine .loadNP mm_ nl_ ?_
  refine .whenTT ?_
  refine sameI_c rf_ rc_ rc_ om_ (fun c => ?_) (fun c => ?_)
  refine .pickT ?_
  rotate_left
  refine .pickT ?_
  rotate_right
  rotate_left 2
  refine .whenTT ?_
  refine .pickF ?_
  refine .pickT ?_
  refine .nx fun _ _ _ _ => ?_
  (iterate 5 (refine .ft fun _ _ _ _ _ _ _ => ?_; dsimp only))
  (iterate 5 (refine .fs fun _ _ _ _ => ?_; dsimp only))
  refine .ok S ?_
  refine .wp3 ?_
  rotate_right 2
  rotate_right 2
  rotate_left 5
  refine .whenTT ?_
  refine .pickF ?_
  refine .pickT ?_
  (iterate 4 refine .whenFT ?_)
  (iterate 3 refine .whenU ?_)
  refine .whenFT ?_
  refine .pickF ?_
  refine .nx fun _ _ _ _ => ?_
  (iterate 5 (refine .ft fun _ _ _ _ _ _ _ => ?_; dsimp only))
  (iterate 5 (refine .fs fun _ _ _ _ => ?_; dsimp only))
  refine .ok S ?_
  refine .wp3 ?_
  rotate_right 5
  rotate_right 5
  rotate_right
  rotate_left 12
  refine .pickT ?_
  (iterate 3 refine .whenFT ?_)
  refine .wp3 ?_
  (iterate 4 refine .whenFT ?_)
  (iterate 3 refine .whenU ?_)
  refine .whenFT ?_
  refine .pickF ?_
  (iterate 4 refine .whenFT ?_)
  (iterate 3 refine .whenU ?_)
  refine .whenFT ?_
  refine .pickF ?_
  refine .nx fun _ _ _ _ => ?_
  (iterate 5 (refine .ft fun _ _ _ _ _ _ _ => ?_; dsimp only))
  (iterate 5 (refine .fs fun _ _ _ _ => ?_; dsimp only))
  refine .ok S ?_
  refine .wp3 ?_
  rotate_right 12
  rotate_left 13
  refine .fl ?_
  refine .bn fun b hb => ?_
  refine .fl ?_
  refine .ejF ?_
  refine .ef ?_
  refine .ef ?_
  refine .et ?_
  refine .whenTT ?_
  refine .pure ?_
  refine .pickT ?_
  refine .whenTT ?_
  refine .pure ?_
  refine .pickT ?_
  refine .whenFT ?_
  refine .wp3 ?_
  (iterate 3 refine .whenFT ?_)
  refine .wp3 ?_
  (iterate 4 refine .whenFT ?_)
  (iterate 3 refine .whenU ?_)
  refine .whenFT ?_
  refine .pickF ?_
  (iterate 4 refine .whenFT ?_)
  (iterate 3 refine .whenU ?_)
  refine .whenFT ?_
  refine .pickF ?_
  refine .nx fun _ _ _ _ => ?_
  (iterate 5 (refine .ft fun _ _ _ _ _ _ _ => ?_; dsimp only))
  (iterate 5 (refine .fs fun _ _ _ _ => ?_; dsimp only))
  refine .ok S ?_
  refine .wp3 ?_
  rotate_right 13
  rotate_left 14
  refine .pickT ?_
  refine .fl ?_
  refine checkRS_c rf_ rc_ om_ (fun hE => ?_) (fun hE => ?_)
  refine .fl ?_
  refine .bn fun b hb => ?_
  refine .fl ?_
  refine .ejF ?_
  refine .ef ?_
  refine .ef ?_
  refine .et ?_
  refine .whenTT ?_
  refine .pure ?_
  refine .pickT ?_
  refine .whenFT ?_
  refine .pickF ?_
  refine .whenFT ?_
  refine .wp3 ?_
  (iterate 3 refine .whenFT ?_)
  refine .wp3 ?_
  (iterate 4 refine .whenFT ?_)
  (iterate 3 refine .whenU ?_)
  refine .whenFT ?_
  refine .pickF ?_
  (iterate 4 refine .whenFT ?_)
  (iterate 3 refine .whenU ?_)
  refine .whenFT ?_
  refine .pickF ?_
  refine .nx fun _ _ _ _ => ?_
  (iterate 5 (refine .ft fun _ _ _ _ _ _ _ => ?_; dsimp only))
  (iterate 5 (refine .fs fun _ _ _ _ => ?_; dsimp only))
  refine .ok S ?_
  refine .wp3 ?_
  rotate_left
  refine .fl ?_
  refine .bn fun b hb => ?_
  refine .fl ?_
  refine .ejF ?_
  refine .ef ?_
  refine .ef ?_
  refine .et ?_
  refine .whenTT ?_
  refine .pure ?_
  refine .pickT ?_
  refine .whenFT ?_
  refine .pickF ?_
  refine .whenFT ?_
  refine .wp3 ?_
  (iterate 3 refine .whenFT ?_)
  refine .wp3 ?_
  (iterate 4 refine .whenFT ?_)
  (iterate 3 refine .whenU ?_)
  refine .whenFT ?_
  refine .pickF ?_
  (iterate 4 refine .whenFT ?_)
  (iterate 3 refine .whenU ?_)
  refine .whenFT ?_
  refine .pickF ?_
  refine .nx fun _ _ _ _ => ?_
  (iterate 5 (refine .ft fun _ _ _ _ _ _ _ => ?_; dsimp only))
  (iterate 5 (refine .fs fun _ _ _ _ => ?_; dsimp only))
  refine .ok S ?_
  refine .wp3 ?_
  rotate_right
  rotate_right 14
  rotate_left 16
  refine .whenFT ?_
  refine .wp3 ?_
  refine .fl ?_
  refine checkRS_c rf_ rc_ om_ (fun hE => ?_) (fun hE => ?_)
  refine .fl ?_
  refine .bn fun b hb => ?_
  refine .fl ?_
  refine .ejF ?_
  refine .ef ?_
  refine .ef ?_
  refine .et ?_
  refine .whenTT ?_
  refine .pure ?_
  refine .pickT ?_
  refine .whenFT ?_
  refine .pickF ?_
  refine .whenFT ?_
  refine .wp3 ?_
  (iterate 3 refine .whenFT ?_)
  refine .wp3 ?_
  (iterate 4 refine .whenFT ?_)
  (iterate 3 refine .whenU ?_)
  refine .whenFT ?_
  refine .pickF ?_
  (iterate 4 refine .whenFT ?_)
  (iterate 3 refine .whenU ?_)
  refine .whenFT ?_
  refine .pickF ?_
  refine .nx fun _ _ _ _ => ?_
  (iterate 5 (refine .ft fun _ _ _ _ _ _ _ => ?_; dsimp only))
  (iterate 5 (refine .fs fun _ _ _ _ => ?_; dsimp only))
  refine .ok S ?_
  refine .wp3 ?_
  rotate_left
  refine .fl ?_
  refine .bn fun b hb => ?_
  refine .fl ?_
  refine .ejF ?_
  refine .ef ?_
  refine .ef ?_
  refine .et ?_
  refine .whenTT ?_
  refine .pure ?_
  refine .pickT ?_
  refine .whenFT ?_
  refine .pickF ?_
  refine .whenFT ?_
  refine .wp3 ?_
  (iterate 3 refine .whenFT ?_)
  refine .wp3 ?_
  (iterate 4 refine .whenFT ?_)
  (iterate 3 refine .whenU ?_)
  refine .whenFT ?_
  refine .pickF ?_
  (iterate 4 refine .whenFT ?_)
  (iterate 3 refine .whenU ?_)
  refine .whenFT ?_
  refine .pickF ?_
  refine .nx fun _ _ _ _ => ?_
  (iterate 5 (refine .ft fun _ _ _ _ _ _ _ => ?_; dsimp only))
  (iterate 5 (refine .fs fun _ _ _ _ => ?_; dsimp only))
  refine .ok S ?_
  refine .wp3 ?_
  rotate_right
  rotate_right 16
  rotate_left 18
  refine .pickT ?_
  refine .fl ?_
  refine .geqC (fun c => ?_) (fun c => ?_)
  refine .whenTT ?_
  refine .fldP ?_
  refine .whenTT ?_
  refine .load1P mm_ _ rf_ ?_
  refine .whenTT ?_
  refine .pure ?_
  refine .whenTT ?_
  refine .lssC (fun c => ?_) (fun c => ?_)
  refine .pickT ?_
  refine .fl ?_
  refine checkRS_c rf_ rc_ om_ (fun hE => ?_) (fun hE => ?_)
  refine .fl ?_
  refine .bn fun b hb => ?_
  refine .fl ?_
  refine .ejF ?_
  refine .ef ?_
  refine .ef ?_
  refine .et ?_
  refine .whenFT ?_
  refine .pickF ?_
  refine .whenFT ?_
  refine .pickF ?_
  refine .whenFT ?_
  refine .wp3 ?_
  (iterate 3 refine .whenFT ?_)
  refine .wp3 ?_
  (iterate 4 refine .whenFT ?_)
  (iterate 3 refine .whenU ?_)
  refine .whenFT ?_
  refine .pickF ?_
  (iterate 4 refine .whenFT ?_)
  (iterate 3 refine .whenU ?_)
  refine .whenFT ?_
  refine .pickF ?_
  refine .nx fun _ _ _ _ => ?_
  (iterate 5 (refine .ft fun _ _ _ _ _ _ _ => ?_; dsimp only))
  (iterate 5 (refine .fs fun _ _ _ _ => ?_; dsimp only))
  refine .ok S ?_
  refine .wp3 ?_
  rotate_left
  refine .fl ?_
  refine .bn fun b hb => ?_
  refine .fl ?_
  refine .ejF ?_
  refine .ef ?_
  refine .ef ?_
  refine .et ?_
  refine .whenFT ?_
  refine .pickF ?_
  refine .whenFT ?_
  refine .pickF ?_
  refine .whenFT ?_
  refine .wp3 ?_
  (iterate 3 refine .whenFT ?_)
  refine .wp3 ?_
  (iterate 4 refine .whenFT ?_)
  (iterate 3 refine .whenU ?_)
  refine .whenFT ?_
  refine .pickF ?_
  (iterate 4 refine .whenFT ?_)
  (iterate 3 refine .whenU ?_)
  refine .whenFT ?_
  refine .pickF ?_
  refine .nx fun _ _ _ _ => ?_
  (iterate 5 (refine .ft fun _ _ _ _ _ _ _ => ?_; dsimp only))
  (iterate 5 (refine .fs fun _ _ _ _ => ?_; dsimp only))
  refine .ok S ?_
  refine .wp3 ?_
  rotate_right
  rotate_left 2
  refine .pickT ?_
  refine .fl ?_
  refine checkRS_c rf_ rc_ om_ (fun hE => ?_) (fun hE => ?_)
  refine .fl ?_
  refine .bn fun b hb => ?_
  refine .fl ?_
  refine .ejF ?_
  refine .ef ?_
  refine .ef ?_
  refine .et ?_
  refine .whenFT ?_
  refine .pickF ?_
  refine .whenFT ?_
  refine .pickF ?_
  refine .whenFT ?_
  refine .wp3 ?_
  (iterate 3 refine .whenFT ?_)
  refine .wp3 ?_
  (iterate 4 refine .whenFT ?_)
  (iterate 3 refine .whenU ?_)
  refine .whenFT ?_
  refine .pickF ?_
  (iterate 4 refine .whenFT ?_)
  (iterate 3 refine .whenU ?_)
  refine .whenFT ?_
  refine .pickF ?_
  refine .nx fun _ _ _ _ => ?_
  (iterate 5 (refine .ft fun _ _ _ _ _ _ _ => ?_; dsimp only))
  (iterate 5 (refine .fs fun _ _ _ _ => ?_; dsimp only))
  refine .ok S ?_
  refine .wp3 ?_
  rotate_left
  refine .fl ?_
  refine .bn fun b hb => ?_
  refine .fl ?_
  refine .ejF ?_
  refine .ef ?_
  refine .ef ?_
  refine .et ?_
  refine .whenFT ?_
  refine .pickF ?_
  refine .whenFT ?_
  refine .pickF ?_
  refine .whenFT ?_
  refine .wp3 ?_
  (iterate 3 refine .whenFT ?_)
  refine .wp3 ?_
  (iterate 4 refine .whenFT ?_)
  (iterate 3 refine .whenU ?_)
  refine .whenFT ?_
  refine .pickF ?_
  (iterate 4 refine .whenFT ?_)
  (iterate 3 refine .whenU ?_)
  refine .whenFT ?_
  refine .pickF ?_
  refine .nx fun _ _ _ _ => ?_
  (iterate 5 (refine .ft fun _ _ _ _ _ _ _ => ?_; dsimp only))
  (iterate 5 (refine .fs fun _ _ _ _ => ?_; dsimp only))
  refine .ok S ?_
  refine .wp3 ?_
  rotate_right
  rotate_right 2
  rotate_left 4
  refine .whenFT ?_
  refine .wp3 ?_
  refine .fl ?_
  refine checkRS_c rf_ rc_ om_ (fun hE => ?_) (fun hE => ?_)
  refine .fl ?_
  refine .bn fun b hb => ?_
  refine .fl ?_
  refine .ejF ?_
  refine .ef ?_
  refine .ef ?_
  refine .et ?_
  refine .whenFT ?_
  refine .pickF ?_
  refine .whenFT ?_
  refine .pickF ?_
  refine .whenFT ?_
  refine .wp3 ?_
  (iterate 3 refine .whenFT ?_)
  refine .wp3 ?_
  (iterate 4 refine .whenFT ?_)
  (iterate 3 refine .whenU ?_)
  refine .whenFT ?_
  refine .pickF ?_
  (iterate 4 refine .whenFT ?_)
  (iterate 3 refine .whenU ?_)
  refine .whenFT ?_
  refine .pickF ?_
  refine .nx fun _ _ _ _ => ?_
  (iterate 5 (refine .ft fun _ _ _ _ _ _ _ => ?_; dsimp only))
  (iterate 5 (refine .fs fun _ _ _ _ => ?_; dsimp only))
  refine .ok S ?_
  refine .wp3 ?_
  rotate_left
  refine .fl ?_
  refine .bn fun b hb => ?_
  refine .fl ?_
  refine .ejF ?_
  refine .ef ?_
  refine .ef ?_
  refine .et ?_
  refine .whenFT ?_
  refine .pickF ?_
  refine .whenFT ?_
  refine .pickF ?_
  refine .whenFT ?_
  refine .wp3 ?_
  (iterate 3 refine .whenFT ?_)
  refine .wp3 ?_
  (iterate 4 refine .whenFT ?_)
  (iterate 3 refine .whenU ?_)
  refine .whenFT ?_
  refine .pickF ?_
  (iterate 4 refine .whenFT ?_)
  (iterate 3 refine .whenU ?_)
  refine .whenFT ?_
  refine .pickF ?_
  refine .nx fun _ _ _ _ => ?_
  (iterate 5 (refine .ft fun _ _ _ _ _ _ _ => ?_; dsimp only))
  (iterate 5 (refine .fs fun _ _ _ _ => ?_; dsimp only))
  refine .ok S ?_
  refine .wp3 ?_
  rotate_right
  rotate_right 4
  rotate_right 18
  rotate_left 24
  refine .wp3 ?_
  refine .fl ?_
  refine .geqC (fun c => ?_) (fun c => ?_)
  refine .whenTT ?_
  refine .fldP ?_
  refine .whenTT ?_
  refine .load1P mm_ _ rf_ ?_
  refine .whenTT ?_
  refine .pure ?_
  refine .whenTT ?_
  refine .lssC (fun c => ?_) (fun c => ?_)
  refine .pickT ?_
  refine .fl ?_
  refine checkRS_c rf_ rc_ om_ (fun hE => ?_) (fun hE => ?_)
  refine .fl ?_
  refine .bn fun b hb => ?_
  refine .fl ?_
  refine .ejF ?_
  refine .ef ?_
  refine .ef ?_
  refine .et ?_
  refine .whenFT ?_
  refine .pickF ?_
  refine .whenFT ?_
  refine .pickF ?_
  refine .whenFT ?_
  refine .wp3 ?_
  (iterate 3 refine .whenFT ?_)
  refine .wp3 ?_
  (iterate 4 refine .whenFT ?_)
  (iterate 3 refine .whenU ?_)
  refine .whenFT ?_
  refine .pickF ?_
  (iterate 4 refine .whenFT ?_)
  (iterate 3 refine .whenU ?_)
  refine .whenFT ?_
  refine .pickF ?_
  refine .nx fun _ _ _ _ => ?_
  (iterate 5 (refine .ft fun _ _ _ _ _ _ _ => ?_; dsimp only))
  (iterate 5 (refine .fs fun _ _ _ _ => ?_; dsimp only))
  refine .ok S ?_
  refine .wp3 ?_
  rotate_left
  refine .fl ?_
  refine .bn fun b hb => ?_
  refine .fl ?_
  refine .ejF ?_
  refine .ef ?_
  refine .ef ?_
  refine .et ?_
  refine .whenFT ?_
  refine .pickF ?_
  refine .whenFT ?_
  refine .pickF ?_
  refine .whenFT ?_
  refine .wp3 ?_
  (iterate 3 refine .whenFT ?_)
  refine .wp3 ?_
  (iterate 4 refine .whenFT ?_)
  (iterate 3 refine .whenU ?_)
  refine .whenFT ?_
  refine .pickF ?_
  (iterate 4 refine .whenFT ?_)
  (iterate 3 refine .whenU ?_)
  refine .whenFT ?_
  refine .pickF ?_
  refine .nx fun _ _ _ _ => ?_
  (iterate 5 (refine .ft fun _ _ _ _ _ _ _ => ?_; dsimp only))
  (iterate 5 (refine .fs fun _ _ _ _ => ?_; dsimp only))
  refine .ok S ?_
  refine .wp3 ?_
  rotate_right
  rotate_left 2
  refine .pickT ?_
  refine .fl ?_
  refine checkRS_c rf_ rc_ om_ (fun hE => ?_) (fun hE => ?_)
  refine .fl ?_
  refine .bn fun b hb => ?_
  refine .fl ?_
  refine .ejF ?_
  refine .ef ?_
  refine .ef ?_
  refine .et ?_
  refine .whenFT ?_
  refine .pickF ?_
  refine .whenFT ?_
  refine .pickF ?_
  refine .whenFT ?_
  refine .wp3 ?_
  (iterate 3 refine .whenFT ?_)
  refine .wp3 ?_
  (iterate 4 refine .whenFT ?_)
  (iterate 3 refine .whenU ?_)
  refine .whenFT ?_
  refine .pickF ?_
  (iterate 4 refine .whenFT ?_)
  (iterate 3 refine .whenU ?_)
  refine .whenFT ?_
  refine .pickF ?_
  refine .nx fun _ _ _ _ => ?_
  (iterate 5 (refine .ft fun _ _ _ _ _ _ _ => ?_; dsimp only))
  (iterate 5 (refine .fs fun _ _ _ _ => ?_; dsimp only))
  refine .ok S ?_
  refine .wp3 ?_
  rotate_left
  refine .fl ?_
  refine .bn fun b hb => ?_
  refine .fl ?_
  refine .ejF ?_
  refine .ef ?_
  refine .ef ?_
  refine .et ?_
  refine .whenFT ?_
  refine .pickF ?_
  refine .whenFT ?_
  refine .pickF ?_
  refine .whenFT ?_
  refine .wp3 ?_
  (iterate 3 refine .whenFT ?_)
  refine .wp3 ?_
  (iterate 4 refine .whenFT ?_)
  (iterate 3 refine .whenU ?_)
  refine .whenFT ?_
  refine .pickF ?_
  (iterate 4 refine .whenFT ?_)
  (iterate 3 refine .whenU ?_)
  refine .whenFT ?_
  refine .pickF ?_
  refine .nx fun _ _ _ _ => ?_
  (iterate 5 (refine .ft fun _ _ _ _ _ _ _ => ?_; dsimp only))
  (iterate 5 (refine .fs fun _ _ _ _ => ?_; dsimp only))
  refine .ok S ?_
  refine .wp3 ?_
  rotate_right
  rotate_right 2
  rotate_left 4
  refine .whenFT ?_
  refine .wp3 ?_
  refine .fl ?_
  refine checkRS_c rf_ rc_ om_ (fun hE => ?_) (fun hE => ?_)
  refine .fl ?_
  refine .bn fun b hb => ?_
  refine .fl ?_
  refine .ejF ?_
  refine .ef ?_
  refine .ef ?_
  refine .et ?_
  refine .whenFT ?_
  refine .pickF ?_
  refine .whenFT ?_
  refine .pickF ?_
  refine .whenFT ?_
  refine .wp3 ?_
  (iterate 3 refine .whenFT ?_)
  refine .wp3 ?_
  (iterate 4 refine .whenFT ?_)
  (iterate 3 refine .whenU ?_)
  refine .whenFT ?_
  refine .pickF ?_
  (iterate 4 refine .whenFT ?_)
  (iterate 3 refine .whenU ?_)
  refine .whenFT ?_
  refine .pickF ?_
  refine .nx fun _ _ _ _ => ?_
  (iterate 5 (refine .ft fun _ _ _ _ _ _ _ => ?_; dsimp only))
  (iterate 5 (refine .fs fun _ _ _ _ => ?_; dsimp only))
  refine .ok S ?_
  refine .wp3 ?_
  rotate_left
  refine .fl ?_
  refine .bn fun b hb => ?_
  refine .fl ?_
  refine .ejF ?_
  refine .ef ?_
  refine .ef ?_
  refine .et ?_
  refine .whenFT ?_
  refine .pickF ?_
  refine .whenFT ?_
  refine .pickF ?_
  refine .whenFT ?_
  refine .wp3 ?_
  (iterate 3 refine .whenFT ?_)
  refine .wp3 ?_
  (iterate 4 refine .whenFT ?_)
  (iterate 3 refine .whenU ?_)
  refine .whenFT ?_
  refine .pickF ?_
  (iterate 4 refine .whenFT ?_)
  (iterate 3 refine .whenU ?_)
  refine .whenFT ?_
  refine .pickF ?_
  refine .nx fun _ _ _ _ => ?_
  (iterate 5 (refine .ft fun _ _ _ _ _ _ _ => ?_; dsimp only))
  (iterate 5 (refine .fs fun _ _ _ _ => ?_; dsimp only))
  refine .ok S ?_
  refine .wp3 ?_
  rotate_right
  rotate_right 4
  rotate_right 24
  all_goals (first | unfold SameI at c | skip)
  all_goals (repeat (first | exact qT (by first | omega | (refine ⟨?_, ?_, ?_, ?_, ?_, ?_, ?_, ?_, ?_, ?_⟩ <;> first | omega | assumption | fail) | (refine ⟨?_, ?_, ?_, ?_, ?_, ?_, ?_, ?_⟩ <;> first | omega | assumption | (rw [c.2.2.2.2.2.2]; rfl) | fail) | (refine ⟨?_, ?_, ?_, ?_, ?_, ?_, ?_⟩ <;> first | omega | assumption | fail) | (refine ⟨?_, ?_, ?_, ?_, ?_, ?_⟩ <;> first | omega | assumption | (rw [c.2.2.2.2.2.2]; rfl) | fail) | fail) | exact qF (by intro hx; first | omega | exact absurd (hE.symm.trans hx.2.2.2.2.2.1) Bool.false_ne_true | exact absurd (hE.symm.trans hx.2.2.2.2.2.2) Bool.false_ne_true | exact absurd (hE.symm.trans hx.2.2.2.2.2.2.2.2.2) Bool.false_ne_true | exact hx.2.2.2.2.2.2.2.2.1 hU | exact c ⟨by omega, by omega, by omega, by omega, by omega, by omega, by first | rfl | exact List.eq_nil_of_length_eq_zero om_ | fail⟩ | fail) | refine W.drop ?_ | refine W.dropN _ ?_))
theorem instrR5_c {K : V → H → Option R} {m : Nat} {vs : List V} {m1 m2 r l n : Int} {e : List (Int × Int)} {ve : V} {locs left : Int} (hvs : vs = [.agg [.int .i64 5, .int .i64 m1, .int .i64 m2, .int .i64 r, .int .i64 l, ve, .int .i64 n], .int .i64 locs, .int .i64 left]) (hv : Tk L ve e) (hl : e.length ≤ 12) (h1 : 1 ≤ locs) (h4 : locs ≤ 4) (q : W Q B A S L (K (.bool (insOK ⟨5, m1, m2, r, l, e, n⟩ locs left)))) : W Q B A S (L) fun h => J.call (F (m + 7)) (.fn (.func 32) [] []) vs R h K := by
  subst hvs
  refine W.callE (d := d32) (c := c32) (by kernel_rfl) rfl (by rfl) ?_
  unfold c32
  have hone := hv.one
  have hnil : Tk L .nils [] := Rd.nils (by decide)
  have hbx : ∀ k, allOne (V.agg [.int .i64 k, .int .i64 m1, .int .i64 m2, .int .i64 r, .int .i64 l, ve, .int .i64 n]).cells = true := fun k => ins_one hv.one ⟨k, m1, m2, r, l, e, n⟩
  have qT : (0 ≤ r ∧ r ≤ 7 ∧ l = 0 ∧ m1 = 0 ∧ m2 = 0 ∧ n = 0 ∧ checkE e = true) → W Q B A S L (K (.bool true)) := fun h => (by
    have e : insOK ⟨5, m1, m2, r, l, e, n⟩ locs left = true := decide_eq_true h
    rw [e] at q; exact q)
  have qF : ¬ (0 ≤ r ∧ r ≤ 7 ∧ l = 0 ∧ m1 = 0 ∧ m2 = 0 ∧ n = 0 ∧ checkE e = true) → W Q B A S L (K (.bool false)) := fun h => (by
    have e : insOK ⟨5, m1, m2, r, l, e, n⟩ locs left = false := decide_eq_false h
    rw [e] at q; exact q)
  clear q
  (iterate 3 refine .hd ?_)
  refine .en ?_
  refine .box bx_ fun b hb => ?_
  refine .fl ?_
  refine .geqC (fun c => ?_) (fun c => ?_)
  refine .whenTT ?_
  refine .fldP ?_
  refine .whenTT ?_
  refine .load1P mm_ _ rf_ ?_
  refine .whenTT ?_
  refine .lssC (fun c => ?_) (fun c => ?_)
  refine .pickT ?_
  refine .fl ?_
  refine .geqC (fun c => ?_) (fun c => ?_)
  refine .whenTT ?_
  refine .fldP ?_
  refine .whenTT ?_
  refine .load1P mm_ _ rf_ ?_
  refine .whenTT ?_
  refine .pure ?_
  refine .whenTT ?_
  refine .lssC (fun c => ?_) (fun c => ?_)
  refine .pickT ?_
  refine .fl ?_
  refine checkRS_c rf_ rc_ om_ (fun hE => ?_) (fun hE => ?_)
  refine .fl ?_
  refine .bn fun b hb => ?_
  refine .fl ?_
  refine .ejF ?_
  (iterate 3 refine .ef ?_)
  refine .et ?_
  refine .whenTT ?_
  refine .pure ?_
  refine .pickT ?_
  refine .nx fun _ _ _ _ => ?_
  (iterate 2 (refine .ft fun _ _ _ _ _ _ _ => ?_; dsimp only))
  (iterate 2 (refine .fs fun _ _ _ _ => ?_; dsimp only))
  refine .ok S ?_
  refine .whenTT ?_
  refine .loadNP mm_ nl_ ?_
  refine .whenTT ?_
  refine .loadNP mm_ nl_ ?_
  refine .whenTT ?_
  refine sameI_c rf_ rc_ rc_ om_ (fun c => ?_) (fun c => ?_)
  refine .pickT ?_
  rotate_left
  refine .pickT ?_
  rotate_right
  rotate_left 2
  refine .fl ?_
  refine .bn fun b hb => ?_
  refine .fl ?_
  refine .ejF ?_
  (iterate 3 refine .ef ?_)
  refine .et ?_
  refine .whenTT ?_
  refine .pure ?_
  refine .pickT ?_
  refine .nx fun _ _ _ _ => ?_
  (iterate 2 (refine .ft fun _ _ _ _ _ _ _ => ?_; dsimp only))
  (iterate 2 (refine .fs fun _ _ _ _ => ?_; dsimp only))
  refine .ok S ?_
  refine .wp3 ?_
  rotate_right 2
  rotate_left 3
  refine .pickT ?_
  refine .fl ?_
  refine checkRS_c rf_ rc_ om_ (fun hE => ?_) (fun hE => ?_)
  refine .fl ?_
  refine .bn fun b hb => ?_
  refine .fl ?_
  refine .ejF ?_
  (iterate 3 refine .ef ?_)
  refine .et ?_
  refine .whenTT ?_
  refine .pure ?_
  refine .pickT ?_
  refine .nx fun _ _ _ _ => ?_
  (iterate 2 (refine .ft fun _ _ _ _ _ _ _ => ?_; dsimp only))
  (iterate 2 (refine .fs fun _ _ _ _ => ?_; dsimp only))
  refine .ok S ?_
  refine .whenTT ?_
  refine .loadNP mm_ nl_ ?_
  refine .whenTT ?_
  refine .loadNP mm_ nl_ ?_
  refine .whenTT ?_
  refine sameI_c rf_ rc_ rc_ om_ (fun c => ?_) (fun c => ?_)
  refine .pickT ?_
  rotate_left
  refine .pickT ?_
  rotate_right
  rotate_left 2
  refine .fl ?_
  refine .bn fun b hb => ?_
  refine .fl ?_
  refine .ejF ?_
  (iterate 3 refine .ef ?_)
  refine .et ?_
  refine .whenTT ?_
  refine .pure ?_
  refine .pickT ?_
  refine .nx fun _ _ _ _ => ?_
  (iterate 2 (refine .ft fun _ _ _ _ _ _ _ => ?_; dsimp only))
  (iterate 2 (refine .fs fun _ _ _ _ => ?_; dsimp only))
  refine .ok S ?_
  refine .wp3 ?_
  rotate_right 2
  rotate_right 3
  rotate_left 6
  refine .whenFT ?_
  refine .wp3 ?_
  refine .fl ?_
  refine checkRS_c rf_ rc_ om_ (fun hE => ?_) (fun hE => ?_)
  refine .fl ?_
  refine .bn fun b hb => ?_
  refine .fl ?_
  refine .ejF ?_
  (iterate 3 refine .ef ?_)
  refine .et ?_
  refine .whenTT ?_
  refine .pure ?_
  refine .pickT ?_
  refine .nx fun _ _ _ _ => ?_
  (iterate 2 (refine .ft fun _ _ _ _ _ _ _ => ?_; dsimp only))
  (iterate 2 (refine .fs fun _ _ _ _ => ?_; dsimp only))
  refine .ok S ?_
  refine .whenTT ?_
  refine .loadNP mm_ nl_ ?_
  refine .whenTT ?_
  refine .loadNP mm_ nl_ ?_
  refine .whenTT ?_
  refine sameI_c rf_ rc_ rc_ om_ (fun c => ?_) (fun c => ?_)
  refine .pickT ?_
  rotate_left
  refine .pickT ?_
  rotate_right
  rotate_left 2
  refine .fl ?_
  refine .bn fun b hb => ?_
  refine .fl ?_
  refine .ejF ?_
  (iterate 3 refine .ef ?_)
  refine .et ?_
  refine .whenTT ?_
  refine .pure ?_
  refine .pickT ?_
  refine .nx fun _ _ _ _ => ?_
  (iterate 2 (refine .ft fun _ _ _ _ _ _ _ => ?_; dsimp only))
  (iterate 2 (refine .fs fun _ _ _ _ => ?_; dsimp only))
  refine .ok S ?_
  refine .wp3 ?_
  rotate_right 2
  rotate_right 6
  rotate_left 9
  refine .pickT ?_
  refine .fl ?_
  refine .geqC (fun c => ?_) (fun c => ?_)
  refine .whenTT ?_
  refine .fldP ?_
  refine .whenTT ?_
  refine .load1P mm_ _ rf_ ?_
  refine .whenTT ?_
  refine .pure ?_
  refine .whenTT ?_
  refine .lssC (fun c => ?_) (fun c => ?_)
  refine .pickT ?_
  refine .fl ?_
  refine checkRS_c rf_ rc_ om_ (fun hE => ?_) (fun hE => ?_)
  refine .fl ?_
  refine .bn fun b hb => ?_
  refine .fl ?_
  refine .ejF ?_
  (iterate 3 refine .ef ?_)
  refine .et ?_
  refine .whenFT ?_
  refine .pickF ?_
  refine .nx fun _ _ _ _ => ?_
  (iterate 2 (refine .ft fun _ _ _ _ _ _ _ => ?_; dsimp only))
  (iterate 2 (refine .fs fun _ _ _ _ => ?_; dsimp only))
  refine .ok S ?_
  refine .wp3 ?_
  rotate_left
  refine .fl ?_
  refine .bn fun b hb => ?_
  refine .fl ?_
  refine .ejF ?_
  (iterate 3 refine .ef ?_)
  refine .et ?_
  refine .whenFT ?_
  refine .pickF ?_
  refine .nx fun _ _ _ _ => ?_
  (iterate 2 (refine .ft fun _ _ _ _ _ _ _ => ?_; dsimp only))
  (iterate 2 (refine .fs fun _ _ _ _ => ?_; dsimp only))
  refine .ok S ?_
  refine .wp3 ?_
  rotate_right
  rotate_left 2
  refine .pickT ?_
  refine .fl ?_
  refine checkRS_c rf_ rc_ om_ (fun hE => ?_) (fun hE => ?_)
  refine .fl ?_
  refine .bn fun b hb => ?_
  refine .fl ?_
  refine .ejF ?_
  (iterate 3 refine .ef ?_)
  refine .et ?_
  refine .whenFT ?_
  refine .pickF ?_
  refine .nx fun _ _ _ _ => ?_
  (iterate 2 (refine .ft fun _ _ _ _ _ _ _ => ?_; dsimp only))
  (iterate 2 (refine .fs fun _ _ _ _ => ?_; dsimp only))
  refine .ok S ?_
  refine .wp3 ?_
  rotate_left
  refine .fl ?_
  refine .bn fun b hb => ?_
  refine .fl ?_
  refine .ejF ?_
  (iterate 3 refine .ef ?_)
  refine .et ?_
  refine .whenFT ?_
  refine .pickF ?_
  refine .nx fun _ _ _ _ => ?_
  (iterate 2 (refine .ft fun _ _ _ _ _ _ _ => ?_; dsimp only))
  (iterate 2 (refine .fs fun _ _ _ _ => ?_; dsimp only))
  refine .ok S ?_
  refine .wp3 ?_
  rotate_right
  rotate_right 2
  rotate_left 4
  refine .whenFT ?_
  refine .wp3 ?_
  refine .fl ?_
  refine checkRS_c rf_ rc_ om_ (fun hE => ?_) (fun hE => ?_)
  refine .fl ?_
  refine .bn fun b hb => ?_
  refine .fl ?_
  refine .ejF ?_
  (iterate 3 refine .ef ?_)
  refine .et ?_
  refine .whenFT ?_
  refine .pickF ?_
  refine .nx fun _ _ _ _ => ?_
  (iterate 2 (refine .ft fun _ _ _ _ _ _ _ => ?_; dsimp only))
  (iterate 2 (refine .fs fun _ _ _ _ => ?_; dsimp only))
  refine .ok S ?_
  refine .wp3 ?_
  rotate_left
  refine .fl ?_
  refine .bn fun b hb => ?_
  refine .fl ?_
  refine .ejF ?_
  (iterate 3 refine .ef ?_)
  refine .et ?_
  refine .whenFT ?_
  refine .pickF ?_
  refine .nx fun _ _ _ _ => ?_
  (iterate 2 (refine .ft fun _ _ _ _ _ _ _ => ?_; dsimp only))
  (iterate 2 (refine .fs fun _ _ _ _ => ?_; dsimp only))
  refine .ok S ?_
  refine .wp3 ?_
  rotate_right
  rotate_right 4
  rotate_right 9
  rotate_left 15
  refine .wp3 ?_
  refine .fl ?_
  refine .geqC (fun c => ?_) (fun c => ?_)
  refine .whenTT ?_
  refine .fldP ?_
  refine .whenTT ?_
  refine .load1P mm_ _ rf_ ?_
  refine .whenTT ?_
  refine .pure ?_
  refine .whenTT ?_
  refine .lssC (fun c => ?_) (fun c => ?_)
  refine .pickT ?_
  refine .fl ?_
  refine checkRS_c rf_ rc_ om_ (fun hE => ?_) (fun hE => ?_)
  refine .fl ?_
  refine .bn fun b hb => ?_
  refine .fl ?_
  refine .ejF ?_
  (iterate 3 refine .ef ?_)
  refine .et ?_
  refine .whenFT ?_
  refine .pickF ?_
  refine .nx fun _ _ _ _ => ?_
  (iterate 2 (refine .ft fun _ _ _ _ _ _ _ => ?_; dsimp only))
  (iterate 2 (refine .fs fun _ _ _ _ => ?_; dsimp only))
  refine .ok S ?_
  refine .wp3 ?_
  rotate_left
  refine .fl ?_
  refine .bn fun b hb => ?_
  refine .fl ?_
  refine .ejF ?_
  (iterate 3 refine .ef ?_)
  refine .et ?_
  refine .whenFT ?_
  refine .pickF ?_
  refine .nx fun _ _ _ _ => ?_
  (iterate 2 (refine .ft fun _ _ _ _ _ _ _ => ?_; dsimp only))
  (iterate 2 (refine .fs fun _ _ _ _ => ?_; dsimp only))
  refine .ok S ?_
  refine .wp3 ?_
  rotate_right
  rotate_left 2
  refine .pickT ?_
  refine .fl ?_
  refine checkRS_c rf_ rc_ om_ (fun hE => ?_) (fun hE => ?_)
  refine .fl ?_
  refine .bn fun b hb => ?_
  refine .fl ?_
  refine .ejF ?_
  (iterate 3 refine .ef ?_)
  refine .et ?_
  refine .whenFT ?_
  refine .pickF ?_
  refine .nx fun _ _ _ _ => ?_
  (iterate 2 (refine .ft fun _ _ _ _ _ _ _ => ?_; dsimp only))
  (iterate 2 (refine .fs fun _ _ _ _ => ?_; dsimp only))
  refine .ok S ?_
  refine .wp3 ?_
  rotate_left
  refine .fl ?_
  refine .bn fun b hb => ?_
  refine .fl ?_
  refine .ejF ?_
  (iterate 3 refine .ef ?_)
  refine .et ?_
  refine .whenFT ?_
  refine .pickF ?_
  refine .nx fun _ _ _ _ => ?_
  (iterate 2 (refine .ft fun _ _ _ _ _ _ _ => ?_; dsimp only))
  (iterate 2 (refine .fs fun _ _ _ _ => ?_; dsimp only))
  refine .ok S ?_
  refine .wp3 ?_
  rotate_right
  rotate_right 2
  rotate_left 4
  refine .whenFT ?_
  refine .wp3 ?_
  refine .fl ?_
  refine checkRS_c rf_ rc_ om_ (fun hE => ?_) (fun hE => ?_)
  refine .fl ?_
  refine .bn fun b hb => ?_
  refine .fl ?_
  refine .ejF ?_
  (iterate 3 refine .ef ?_)
  refine .et ?_
  refine .whenFT ?_
  refine .pickF ?_
  refine .nx fun _ _ _ _ => ?_
  (iterate 2 (refine .ft fun _ _ _ _ _ _ _ => ?_; dsimp only))
  (iterate 2 (refine .fs fun _ _ _ _ => ?_; dsimp only))
  refine .ok S ?_
  refine .wp3 ?_
  rotate_left
  refine .fl ?_
  refine .bn fun b hb => ?_
  refine .fl ?_
  refine .ejF ?_
  (iterate 3 refine .ef ?_)
  refine .et ?_
  refine .whenFT ?_
  refine .pickF ?_
  refine .nx fun _ _ _ _ => ?_
  (iterate 2 (refine .ft fun _ _ _ _ _ _ _ => ?_; dsimp only))
  (iterate 2 (refine .fs fun _ _ _ _ => ?_; dsimp only))
  refine .ok S ?_
  refine .wp3 ?_
  rotate_right
  rotate_right 4
  rotate_right 15
  all_goals (first | unfold SameI at c | skip)
  all_goals (repeat (first | exact qT (by first | omega | (refine ⟨?_, ?_, ?_, ?_, ?_, ?_, ?_, ?_, ?_, ?_⟩ <;> first | omega | assumption | fail) | (refine ⟨?_, ?_, ?_, ?_, ?_, ?_, ?_, ?_⟩ <;> first | omega | assumption | (rw [c.2.2.2.2.2.2]; rfl) | fail) | (refine ⟨?_, ?_, ?_, ?_, ?_, ?_, ?_⟩ <;> first | omega | assumption | fail) | (refine ⟨?_, ?_, ?_, ?_, ?_, ?_⟩ <;> first | omega | assumption | (rw [c.2.2.2.2.2.2]; rfl) | fail) | fail) | exact qF (by intro hx; first | omega | exact absurd (hE.symm.trans hx.2.2.2.2.2.1) Bool.false_ne_true | exact absurd (hE.symm.trans hx.2.2.2.2.2.2) Bool.false_ne_true | exact absurd (hE.symm.trans hx.2.2.2.2.2.2.2.2.2) Bool.false_ne_true | exact hx.2.2.2.2.2.2.2.2.1 hU | exact c ⟨by omega, by omega, by omega, by omega, by omega, by omega, by first | rfl | exact List.eq_nil_of_length_eq_zero om_ | fail⟩ | fail) | refine W.drop ?_ | refine W.dropN _ ?_))
theorem instrR6_c {K : V → H → Option R} {m : Nat} {vs : List V} {m1 m2 r l n : Int} {e : List (Int × Int)} {ve : V} {locs left : Int} (hvs : vs = [.agg [.int .i64 6, .int .i64 m1, .int .i64 m2, .int .i64 r, .int .i64 l, ve, .int .i64 n], .int .i64 locs, .int .i64 left]) (hv : Tk L ve e) (hl : e.length ≤ 12) (h1 : 1 ≤ locs) (h4 : locs ≤ 4) (q : W Q B A S L (K (.bool (insOK ⟨6, m1, m2, r, l, e, n⟩ locs left)))) : W Q B A S (L) fun h => J.call (F (m + 7)) (.fn (.func 32) [] []) vs R h K := by
  subst hvs
  refine W.callE (d := d32) (c := c32) (by kernel_rfl) rfl (by rfl) ?_
  unfold c32
  have hone := hv.one
  have hnil : Tk L .nils [] := Rd.nils (by decide)
  have hbx : ∀ k, allOne (V.agg [.int .i64 k, .int .i64 m1, .int .i64 m2, .int .i64 r, .int .i64 l, ve, .int .i64 n]).cells = true := fun k => ins_one hv.one ⟨k, m1, m2, r, l, e, n⟩
  have qT : (r = 0 ∧ l = 0 ∧ m1 = 0 ∧ m2 = 0 ∧ 0 ≤ n ∧ n ≤ left ∧ checkE e = true) → W Q B A S L (K (.bool true)) := fun h => (by
    have e : insOK ⟨6, m1, m2, r, l, e, n⟩ locs left = true := decide_eq_true h
    rw [e] at q; exact q)
  have qF : ¬ (r = 0 ∧ l = 0 ∧ m1 = 0 ∧ m2 = 0 ∧ 0 ≤ n ∧ n ≤ left ∧ checkE e = true) → W Q B A S L (K (.bool false)) := fun h => (by
    have e : insOK ⟨6, m1, m2, r, l, e, n⟩ locs left = false := decide_eq_false h
    rw [e] at q; exact q)
  clear q
  (iterate 3 refine .hd ?_)
  refine .en ?_
  refine .box bx_ fun b hb => ?_
  refine .fl ?_
  refine .geqC (fun c => ?_) (fun c => ?_)
  refine .whenTT ?_
  refine .fldP ?_
  refine .whenTT ?_
  refine .load1P mm_ _ rf_ ?_
  refine .whenTT ?_
  refine .lssC (fun c => ?_) (fun c => ?_)
  refine .pickT ?_
  refine .fl ?_
  refine .geqC (fun c => ?_) (fun c => ?_)
  refine .whenTT ?_
  refine .fldP ?_
  refine .whenTT ?_
  refine .load1P mm_ _ rf_ ?_
  refine .whenTT ?_
  refine .pure ?_
  refine .whenTT ?_
  refine .lssC (fun c => ?_) (fun c => ?_)
  refine .pickT ?_
  refine .fl ?_
  refine checkRS_c rf_ rc_ om_ (fun hE => ?_) (fun hE => ?_)
  refine .fl ?_
  refine .bn fun b hb => ?_
  refine .fl ?_
  refine .ejF ?_
  (iterate 4 refine .ef ?_)
  refine .et ?_
  refine .whenTT ?_
  refine .fldP ?_
  refine .whenTT ?_
  refine .load1P mm_ _ rf_ ?_
  refine .whenTT ?_
  refine .geqC (fun c => ?_) (fun c => ?_)
  refine .pickT ?_
  refine .whenTT ?_
  refine .fldP ?_
  refine .whenTT ?_
  refine .load1P mm_ _ rf_ ?_
  refine .whenTT ?_
  refine .pure ?_
  refine .whenTT ?_
  refine .leqC (fun c => ?_) (fun c => ?_)
  refine .pickT ?_
  refine .nx fun _ _ _ _ => ?_
  (iterate 2 (refine .ft fun _ _ _ _ _ _ _ => ?_; dsimp only))
  (iterate 2 (refine .fs fun _ _ _ _ => ?_; dsimp only))
  refine .ok S ?_
  refine .whenTT ?_
  refine .loadNP mm_ nl_ ?_
  refine .whenTT ?_
  refine .loadNP mm_ nl_ ?_
  refine .whenTT ?_
  refine sameI_c rf_ rc_ rc_ om_ (fun c => ?_) (fun c => ?_)
  refine .pickT ?_
  rotate_left
  refine .pickT ?_
  rotate_right
  rotate_left 2
  refine .pickT ?_
  refine .nx fun _ _ _ _ => ?_
  (iterate 2 (refine .ft fun _ _ _ _ _ _ _ => ?_; dsimp only))
  (iterate 2 (refine .fs fun _ _ _ _ => ?_; dsimp only))
  refine .ok S ?_
  refine .wp3 ?_
  rotate_right 2
  rotate_left 3
  refine .pickT ?_
  refine .whenFT ?_
  refine .wp3 ?_
  refine .nx fun _ _ _ _ => ?_
  (iterate 2 (refine .ft fun _ _ _ _ _ _ _ => ?_; dsimp only))
  (iterate 2 (refine .fs fun _ _ _ _ => ?_; dsimp only))
  refine .ok S ?_
  refine .wp3 ?_
  rotate_right 3
  rotate_left 4
  refine .fl ?_
  refine .bn fun b hb => ?_
  refine .fl ?_
  refine .ejF ?_
  (iterate 4 refine .ef ?_)
  refine .et ?_
  refine .wp3 ?_
  refine .whenFT ?_
  refine .wp3 ?_
  refine .nx fun _ _ _ _ => ?_
  (iterate 2 (refine .ft fun _ _ _ _ _ _ _ => ?_; dsimp only))
  (iterate 2 (refine .fs fun _ _ _ _ => ?_; dsimp only))
  refine .ok S ?_
  refine .wp3 ?_
  rotate_right 4
  rotate_left 5
  refine .pickT ?_
  refine .fl ?_
  refine checkRS_c rf_ rc_ om_ (fun hE => ?_) (fun hE => ?_)
  refine .fl ?_
  refine .bn fun b hb => ?_
  refine .fl ?_
  refine .ejF ?_
  (iterate 4 refine .ef ?_)
  refine .et ?_
  refine .whenTT ?_
  refine .fldP ?_
  refine .whenTT ?_
  refine .load1P mm_ _ rf_ ?_
  refine .whenTT ?_
  refine .geqC (fun c => ?_) (fun c => ?_)
  refine .pickT ?_
  refine .whenTT ?_
  refine .fldP ?_
  refine .whenTT ?_
  refine .load1P mm_ _ rf_ ?_
  refine .whenTT ?_
  refine .pure ?_
  refine .whenTT ?_
  refine .leqC (fun c => ?_) (fun c => ?_)
  refine .pickT ?_
  refine .nx fun _ _ _ _ => ?_
  (iterate 2 (refine .ft fun _ _ _ _ _ _ _ => ?_; dsimp only))
  (iterate 2 (refine .fs fun _ _ _ _ => ?_; dsimp only))
  refine .ok S ?_
  refine .whenTT ?_
  refine .loadNP mm_ nl_ ?_
  refine .whenTT ?_
  refine .loadNP mm_ nl_ ?_
  refine .whenTT ?_
  refine sameI_c rf_ rc_ rc_ om_ (fun c => ?_) (fun c => ?_)
  refine .pickT ?_
  rotate_left
  refine .pickT ?_
  rotate_right
  rotate_left 2
  refine .pickT ?_
  refine .nx fun _ _ _ _ => ?_
  (iterate 2 (refine .ft fun _ _ _ _ _ _ _ => ?_; dsimp only))
  (iterate 2 (refine .fs fun _ _ _ _ => ?_; dsimp only))
  refine .ok S ?_
  refine .wp3 ?_
  rotate_right 2
  rotate_left 3
  refine .pickT ?_
  refine .whenFT ?_
  refine .wp3 ?_
  refine .nx fun _ _ _ _ => ?_
  (iterate 2 (refine .ft fun _ _ _ _ _ _ _ => ?_; dsimp only))
  (iterate 2 (refine .fs fun _ _ _ _ => ?_; dsimp only))
  refine .ok S ?_
  refine .wp3 ?_
  rotate_right 3
  rotate_left 4
  refine .fl ?_
  refine .bn fun b hb => ?_
  refine .fl ?_
  refine .ejF ?_
  (iterate 4 refine .ef ?_)
  refine .et ?_
  refine .wp3 ?_
  refine .whenFT ?_
  refine .wp3 ?_
  refine .nx fun _ _ _ _ => ?_
  (iterate 2 (refine .ft fun _ _ _ _ _ _ _ => ?_; dsimp only))
  (iterate 2 (refine .fs fun _ _ _ _ => ?_; dsimp only))
  refine .ok S ?_
  refine .wp3 ?_
  rotate_right 4
  rotate_right 5
  rotate_left 10
  refine .whenFT ?_
  refine .wp3 ?_
  refine .fl ?_
  refine checkRS_c rf_ rc_ om_ (fun hE => ?_) (fun hE => ?_)
  refine .fl ?_
  refine .bn fun b hb => ?_
  refine .fl ?_
  refine .ejF ?_
  (iterate 4 refine .ef ?_)
  refine .et ?_
  refine .whenTT ?_
  refine .fldP ?_
  refine .whenTT ?_
  refine .load1P mm_ _ rf_ ?_
  refine .whenTT ?_
  refine .geqC (fun c => ?_) (fun c => ?_)
  refine .pickT ?_
  refine .whenTT ?_
  refine .fldP ?_
  refine .whenTT ?_
  refine .load1P mm_ _ rf_ ?_
  refine .whenTT ?_
  refine .pure ?_
  refine .whenTT ?_
  refine .leqC (fun c => ?_) (fun c => ?_)
  refine .pickT ?_
  refine .nx fun _ _ _ _ => ?_
  (iterate 2 (refine .ft fun _ _ _ _ _ _ _ => ?_; dsimp only))
  (iterate 2 (refine .fs fun _ _ _ _ => ?_; dsimp only))
  refine .ok S ?_
  refine .whenTT ?_
  refine .loadNP mm_ nl_ ?_
  refine .whenTT ?_
  refine .loadNP mm_ nl_ ?_
  refine .whenTT ?_
  refine sameI_c rf_ rc_ rc_ om_ (fun c => ?_) (fun c => ?_)
  refine .pickT ?_
  rotate_left
  refine .pickT ?_
  rotate_right
  rotate_left 2
  refine .pickT ?_
  refine .nx fun _ _ _ _ => ?_
  (iterate 2 (refine .ft fun _ _ _ _ _ _ _ => ?_; dsimp only))
  (iterate 2 (refine .fs fun _ _ _ _ => ?_; dsimp only))
  refine .ok S ?_
  refine .wp3 ?_
  rotate_right 2
  rotate_left 3
  refine .pickT ?_
  refine .whenFT ?_
  refine .wp3 ?_
  refine .nx fun _ _ _ _ => ?_
  (iterate 2 (refine .ft fun _ _ _ _ _ _ _ => ?_; dsimp only))
  (iterate 2 (refine .fs fun _ _ _ _ => ?_; dsimp only))
  refine .ok S ?_
  refine .wp3 ?_
  rotate_right 3
  rotate_left 4
  refine .fl ?_
  refine .bn fun b hb => ?_
  refine .fl ?_
  refine .ejF ?_
  (iterate 4 refine .ef ?_)
  refine .et ?_
  refine .wp3 ?_
  refine .whenFT ?_
  refine .wp3 ?_
  refine .nx fun _ _ _ _ => ?_
  (iterate 2 (refine .ft fun _ _ _ _ _ _ _ => ?_; dsimp only))
  (iterate 2 (refine .fs fun _ _ _ _ => ?_; dsimp only))
  refine .ok S ?_
  refine .wp3 ?_
  rotate_right 4
  rotate_right 10
  rotate_left 15
  refine .pickT ?_
  refine .fl ?_
  refine .geqC (fun c => ?_) (fun c => ?_)
  refine .whenTT ?_
  refine .fldP ?_
  refine .whenTT ?_
  refine .load1P mm_ _ rf_ ?_
  refine .whenTT ?_
  refine .pure ?_
  refine .whenTT ?_
  refine .lssC (fun c => ?_) (fun c => ?_)
  refine .pickT ?_
  refine .fl ?_
  refine checkRS_c rf_ rc_ om_ (fun hE => ?_) (fun hE => ?_)
  refine .fl ?_
  refine .bn fun b hb => ?_
  refine .fl ?_
  refine .ejF ?_
  (iterate 4 refine .ef ?_)
  refine .et ?_
  refine .whenTT ?_
  refine .fldP ?_
  refine .whenTT ?_
  refine .load1P mm_ _ rf_ ?_
  refine .whenTT ?_
  refine .geqC (fun c => ?_) (fun c => ?_)
  refine .pickT ?_
  refine .whenTT ?_
  refine .fldP ?_
  refine .whenTT ?_
  refine .load1P mm_ _ rf_ ?_
  refine .whenTT ?_
  refine .pure ?_
  refine .whenTT ?_
  refine .leqC (fun c => ?_) (fun c => ?_)
  refine .pickT ?_
  refine .nx fun _ _ _ _ => ?_
  (iterate 2 (refine .ft fun _ _ _ _ _ _ _ => ?_; dsimp only))
  (iterate 2 (refine .fs fun _ _ _ _ => ?_; dsimp only))
  refine .ok S ?_
  refine .whenTT ?_
  refine .loadNP mm_ nl_ ?_
  refine .whenTT ?_
  refine .loadNP mm_ nl_ ?_
  refine .whenTT ?_
  refine sameI_c rf_ rc_ rc_ om_ (fun c => ?_) (fun c => ?_)
  refine .pickT ?_
  rotate_left
  refine .pickT ?_
  rotate_right
  rotate_left 2
  refine .pickT ?_
  refine .nx fun _ _ _ _ => ?_
  (iterate 2 (refine .ft fun _ _ _ _ _ _ _ => ?_; dsimp only))
  (iterate 2 (refine .fs fun _ _ _ _ => ?_; dsimp only))
  refine .ok S ?_
  refine .wp3 ?_
  rotate_right 2
  rotate_left 3
  refine .pickT ?_
  refine .whenFT ?_
  refine .wp3 ?_
  refine .nx fun _ _ _ _ => ?_
  (iterate 2 (refine .ft fun _ _ _ _ _ _ _ => ?_; dsimp only))
  (iterate 2 (refine .fs fun _ _ _ _ => ?_; dsimp only))
  refine .ok S ?_
  refine .wp3 ?_
  rotate_right 3
  rotate_left 4
  refine .fl ?_
  refine .bn fun b hb => ?_
  refine .fl ?_
  refine .ejF ?_
  (iterate 4 refine .ef ?_)
  refine .et ?_
  refine .wp3 ?_
  refine .whenFT ?_
  refine .wp3 ?_
  refine .nx fun _ _ _ _ => ?_
  (iterate 2 (refine .ft fun _ _ _ _ _ _ _ => ?_; dsimp only))
  (iterate 2 (refine .fs fun _ _ _ _ => ?_; dsimp only))
  refine .ok S ?_
  refine .wp3 ?_
  rotate_right 4
  rotate_left 5
  refine .pickT ?_
  refine .fl ?_
  refine checkRS_c rf_ rc_ om_ (fun hE => ?_) (fun hE => ?_)
  refine .fl ?_
  refine .bn fun b hb => ?_
  refine .fl ?_
  refine .ejF ?_
  (iterate 4 refine .ef ?_)
  refine .et ?_
  refine .whenTT ?_
  refine .fldP ?_
  refine .whenTT ?_
  refine .load1P mm_ _ rf_ ?_
  refine .whenTT ?_
  refine .geqC (fun c => ?_) (fun c => ?_)
  refine .pickT ?_
  refine .whenTT ?_
  refine .fldP ?_
  refine .whenTT ?_
  refine .load1P mm_ _ rf_ ?_
  refine .whenTT ?_
  refine .pure ?_
  refine .whenTT ?_
  refine .leqC (fun c => ?_) (fun c => ?_)
  refine .pickT ?_
  refine .nx fun _ _ _ _ => ?_
  (iterate 2 (refine .ft fun _ _ _ _ _ _ _ => ?_; dsimp only))
  (iterate 2 (refine .fs fun _ _ _ _ => ?_; dsimp only))
  refine .ok S ?_
  refine .whenTT ?_
  refine .loadNP mm_ nl_ ?_
  refine .whenTT ?_
  refine .loadNP mm_ nl_ ?_
  refine .whenTT ?_
  refine sameI_c rf_ rc_ rc_ om_ (fun c => ?_) (fun c => ?_)
  refine .pickT ?_
  rotate_left
  refine .pickT ?_
  rotate_right
  rotate_left 2
  refine .pickT ?_
  refine .nx fun _ _ _ _ => ?_
  (iterate 2 (refine .ft fun _ _ _ _ _ _ _ => ?_; dsimp only))
  (iterate 2 (refine .fs fun _ _ _ _ => ?_; dsimp only))
  refine .ok S ?_
  refine .wp3 ?_
  rotate_right 2
  rotate_left 3
  refine .pickT ?_
  refine .whenFT ?_
  refine .wp3 ?_
  refine .nx fun _ _ _ _ => ?_
  (iterate 2 (refine .ft fun _ _ _ _ _ _ _ => ?_; dsimp only))
  (iterate 2 (refine .fs fun _ _ _ _ => ?_; dsimp only))
  refine .ok S ?_
  refine .wp3 ?_
  rotate_right 3
  rotate_left 4
  refine .fl ?_
  refine .bn fun b hb => ?_
  refine .fl ?_
  refine .ejF ?_
  (iterate 4 refine .ef ?_)
  refine .et ?_
  refine .wp3 ?_
  refine .whenFT ?_
  refine .wp3 ?_
  refine .nx fun _ _ _ _ => ?_
  (iterate 2 (refine .ft fun _ _ _ _ _ _ _ => ?_; dsimp only))
  (iterate 2 (refine .fs fun _ _ _ _ => ?_; dsimp only))
  refine .ok S ?_
  refine .wp3 ?_
  rotate_right 4
  rotate_right 5
  rotate_left 10
  refine .whenFT ?_
  refine .wp3 ?_
  refine .fl ?_
  refine checkRS_c rf_ rc_ om_ (fun hE => ?_) (fun hE => ?_)
  refine .fl ?_
  refine .bn fun b hb => ?_
  refine .fl ?_
  refine .ejF ?_
  (iterate 4 refine .ef ?_)
  refine .et ?_
  refine .whenTT ?_
  refine .fldP ?_
  refine .whenTT ?_
  refine .load1P mm_ _ rf_ ?_
  refine .whenTT ?_
  refine .geqC (fun c => ?_) (fun c => ?_)
  refine .pickT ?_
  refine .whenTT ?_
  refine .fldP ?_
  refine .whenTT ?_
  refine .load1P mm_ _ rf_ ?_
  refine .whenTT ?_
  refine .pure ?_
  refine .whenTT ?_
  refine .leqC (fun c => ?_) (fun c => ?_)
  refine .pickT ?_
  refine .nx fun _ _ _ _ => ?_
  (iterate 2 (refine .ft fun _ _ _ _ _ _ _ => ?_; dsimp only))
  (iterate 2 (refine .fs fun _ _ _ _ => ?_; dsimp only))
  refine .ok S ?_
  refine .whenTT ?_
  refine .loadNP mm_ nl_ ?_
  refine .whenTT ?_
  refine .loadNP mm_ nl_ ?_
  refine .whenTT ?_
  refine sameI_c rf_ rc_ rc_ om_ (fun c => ?_) (fun c => ?_)
  refine .pickT ?_
  rotate_left
  refine .pickT ?_
  rotate_right
  rotate_left 2
  refine .pickT ?_
  refine .nx fun _ _ _ _ => ?_
  (iterate 2 (refine .ft fun _ _ _ _ _ _ _ => ?_; dsimp only))
  (iterate 2 (refine .fs fun _ _ _ _ => ?_; dsimp only))
  refine .ok S ?_
  refine .wp3 ?_
  rotate_right 2
  rotate_left 3
  refine .pickT ?_
  refine .whenFT ?_
  refine .wp3 ?_
  refine .nx fun _ _ _ _ => ?_
  (iterate 2 (refine .ft fun _ _ _ _ _ _ _ => ?_; dsimp only))
  (iterate 2 (refine .fs fun _ _ _ _ => ?_; dsimp only))
  refine .ok S ?_
  refine .wp3 ?_
  rotate_right 3
  rotate_left 4
  refine .fl ?_
  refine .bn fun b hb => ?_
  refine .fl ?_
  refine .ejF ?_
  (iterate 4 refine .ef ?_)
  refine .et ?_
  refine .wp3 ?_
  refine .whenFT ?_
  refine .wp3 ?_
  refine .nx fun _ _ _ _ => ?_
  (iterate 2 (refine .ft fun _ _ _ _ _ _ _ => ?_; dsimp only))
  (iterate 2 (refine .fs fun _ _ _ _ => ?_; dsimp only))
  refine .ok S ?_
  refine .wp3 ?_
  rotate_right 4
  rotate_right 10
  rotate_right 15
  rotate_left 30
  refine .wp3 ?_
  refine .fl ?_
  refine .geqC (fun c => ?_) (fun c => ?_)
  refine .whenTT ?_
  refine .fldP ?_
  refine .whenTT ?_
  refine .load1P mm_ _ rf_ ?_
  refine .whenTT ?_
  refine .pure ?_
  refine .whenTT ?_
  refine .lssC (fun c => ?_) (fun c => ?_)
  refine .pickT ?_
  refine .fl ?_
  refine checkRS_c rf_ rc_ om_ (fun hE => ?_) (fun hE => ?_)
  refine .fl ?_
  refine .bn fun b hb => ?_
  refine .fl ?_
  refine .ejF ?_
  (iterate 4 refine .ef ?_)
  refine .et ?_
  refine .whenTT ?_
  refine .fldP ?_
  refine .whenTT ?_
  refine .load1P mm_ _ rf_ ?_
  refine .whenTT ?_
  refine .geqC (fun c => ?_) (fun c => ?_)
  refine .pickT ?_
  refine .whenTT ?_
  refine .fldP ?_
  refine .whenTT ?_
  refine .load1P mm_ _ rf_ ?_
  refine .whenTT ?_
  refine .pure ?_
  refine .whenTT ?_
  refine .leqC (fun c => ?_) (fun c => ?_)
  refine .pickT ?_
  refine .nx fun _ _ _ _ => ?_
  (iterate 2 (refine .ft fun _ _ _ _ _ _ _ => ?_; dsimp only))
  (iterate 2 (refine .fs fun _ _ _ _ => ?_; dsimp only))
  refine .ok S ?_
  refine .whenTT ?_
  refine .loadNP mm_ nl_ ?_
  refine .whenTT ?_
  refine .loadNP mm_ nl_ ?_
  refine .whenTT ?_
  refine sameI_c rf_ rc_ rc_ om_ (fun c => ?_) (fun c => ?_)
  refine .pickT ?_
  rotate_left
  refine .pickT ?_
  rotate_right
  rotate_left 2
  refine .pickT ?_
  refine .nx fun _ _ _ _ => ?_
  (iterate 2 (refine .ft fun _ _ _ _ _ _ _ => ?_; dsimp only))
  (iterate 2 (refine .fs fun _ _ _ _ => ?_; dsimp only))
  refine .ok S ?_
  refine .wp3 ?_
  rotate_right 2
  rotate_left 3
  refine .pickT ?_
  refine .whenFT ?_
  refine .wp3 ?_
  refine .nx fun _ _ _ _ => ?_
  (iterate 2 (refine .ft fun _ _ _ _ _ _ _ => ?_; dsimp only))
  (iterate 2 (refine .fs fun _ _ _ _ => ?_; dsimp only))
  refine .ok S ?_
  refine .wp3 ?_
  rotate_right 3
  rotate_left 4
  refine .fl ?_
  refine .bn fun b hb => ?_
  refine .fl ?_
  refine .ejF ?_
  (iterate 4 refine .ef ?_)
  refine .et ?_
  refine .wp3 ?_
  refine .whenFT ?_
  refine .wp3 ?_
  refine .nx fun _ _ _ _ => ?_
  (iterate 2 (refine .ft fun _ _ _ _ _ _ _ => ?_; dsimp only))
  (iterate 2 (refine .fs fun _ _ _ _ => ?_; dsimp only))
  refine .ok S ?_
  refine .wp3 ?_
  rotate_right 4
  rotate_left 5
  refine .pickT ?_
  refine .fl ?_
  refine checkRS_c rf_ rc_ om_ (fun hE => ?_) (fun hE => ?_)
  refine .fl ?_
  refine .bn fun b hb => ?_
  refine .fl ?_
  refine .ejF ?_
  (iterate 4 refine .ef ?_)
  refine .et ?_
  refine .whenTT ?_
  refine .fldP ?_
  refine .whenTT ?_
  refine .load1P mm_ _ rf_ ?_
  refine .whenTT ?_
  refine .geqC (fun c => ?_) (fun c => ?_)
  refine .pickT ?_
  refine .whenTT ?_
  refine .fldP ?_
  refine .whenTT ?_
  refine .load1P mm_ _ rf_ ?_
  refine .whenTT ?_
  refine .pure ?_
  refine .whenTT ?_
  refine .leqC (fun c => ?_) (fun c => ?_)
  refine .pickT ?_
  refine .nx fun _ _ _ _ => ?_
  (iterate 2 (refine .ft fun _ _ _ _ _ _ _ => ?_; dsimp only))
  (iterate 2 (refine .fs fun _ _ _ _ => ?_; dsimp only))
  refine .ok S ?_
  refine .whenTT ?_
  refine .loadNP mm_ nl_ ?_
  refine .whenTT ?_
  refine .loadNP mm_ nl_ ?_
  refine .whenTT ?_
  refine sameI_c rf_ rc_ rc_ om_ (fun c => ?_) (fun c => ?_)
  refine .pickT ?_
  rotate_left
  refine .pickT ?_
  rotate_right
  rotate_left 2
  refine .pickT ?_
  refine .nx fun _ _ _ _ => ?_
  (iterate 2 (refine .ft fun _ _ _ _ _ _ _ => ?_; dsimp only))
  (iterate 2 (refine .fs fun _ _ _ _ => ?_; dsimp only))
  refine .ok S ?_
  refine .wp3 ?_
  rotate_right 2
  rotate_left 3
  refine .pickT ?_
  refine .whenFT ?_
  refine .wp3 ?_
  refine .nx fun _ _ _ _ => ?_
  (iterate 2 (refine .ft fun _ _ _ _ _ _ _ => ?_; dsimp only))
  (iterate 2 (refine .fs fun _ _ _ _ => ?_; dsimp only))
  refine .ok S ?_
  refine .wp3 ?_
  rotate_right 3
  rotate_left 4
  refine .fl ?_
  refine .bn fun b hb => ?_
  refine .fl ?_
  refine .ejF ?_
  (iterate 4 refine .ef ?_)
  refine .et ?_
  refine .wp3 ?_
  refine .whenFT ?_
  refine .wp3 ?_
  refine .nx fun _ _ _ _ => ?_
  (iterate 2 (refine .ft fun _ _ _ _ _ _ _ => ?_; dsimp only))
  (iterate 2 (refine .fs fun _ _ _ _ => ?_; dsimp only))
  refine .ok S ?_
  refine .wp3 ?_
  rotate_right 4
  rotate_right 5
  rotate_left 10
  refine .whenFT ?_
  refine .wp3 ?_
  refine .fl ?_
  refine checkRS_c rf_ rc_ om_ (fun hE => ?_) (fun hE => ?_)
  refine .fl ?_
  refine .bn fun b hb => ?_
  refine .fl ?_
  refine .ejF ?_
  (iterate 4 refine .ef ?_)
  refine .et ?_
  refine .whenTT ?_
  refine .fldP ?_
  refine .whenTT ?_
  refine .load1P mm_ _ rf_ ?_
  refine .whenTT ?_
  refine .geqC (fun c => ?_) (fun c => ?_)
  refine .pickT ?_
  refine .whenTT ?_
  refine .fldP ?_
  refine .whenTT ?_
  refine .load1P mm_ _ rf_ ?_
  refine .whenTT ?_
  refine .pure ?_
  refine .whenTT ?_
  refine .leqC (fun c => ?_) (fun c => ?_)
  refine .pickT ?_
  refine .nx fun _ _ _ _ => ?_
  (iterate 2 (refine .ft fun _ _ _ _ _ _ _ => ?_; dsimp only))
  (iterate 2 (refine .fs fun _ _ _ _ => ?_; dsimp only))
  refine .ok S ?_
  refine .whenTT ?_
  refine .loadNP mm_ nl_ ?_
  refine .whenTT ?_
  refine .loadNP mm_ nl_ ?_
  refine .whenTT ?_
  refine sameI_c rf_ rc_ rc_ om_ (fun c => ?_) (fun c => ?_)
  refine .pickT ?_
  rotate_left
  refine .pickT ?_
  rotate_right
  rotate_left 2
  refine .pickT ?_
  refine .nx fun _ _ _ _ => ?_
  (iterate 2 (refine .ft fun _ _ _ _ _ _ _ => ?_; dsimp only))
  (iterate 2 (refine .fs fun _ _ _ _ => ?_; dsimp only))
  refine .ok S ?_
  refine .wp3 ?_
  rotate_right 2
  rotate_left 3
  refine .pickT ?_
  refine .whenFT ?_
  refine .wp3 ?_
  refine .nx fun _ _ _ _ => ?_
  (iterate 2 (refine .ft fun _ _ _ _ _ _ _ => ?_; dsimp only))
  (iterate 2 (refine .fs fun _ _ _ _ => ?_; dsimp only))
  refine .ok S ?_
  refine .wp3 ?_
  rotate_right 3
  rotate_left 4
  refine .fl ?_
  refine .bn fun b hb => ?_
  refine .fl ?_
  refine .ejF ?_
  (iterate 4 refine .ef ?_)
  refine .et ?_
  refine .wp3 ?_
  refine .whenFT ?_
  refine .wp3 ?_
  refine .nx fun _ _ _ _ => ?_
  (iterate 2 (refine .ft fun _ _ _ _ _ _ _ => ?_; dsimp only))
  (iterate 2 (refine .fs fun _ _ _ _ => ?_; dsimp only))
  refine .ok S ?_
  refine .wp3 ?_
  rotate_right 4
  rotate_right 10
  rotate_right 30
  all_goals (first | unfold SameI at c | skip)
  all_goals (repeat (first | exact qT (by first | omega | (refine ⟨?_, ?_, ?_, ?_, ?_, ?_, ?_, ?_, ?_, ?_⟩ <;> first | omega | assumption | fail) | (refine ⟨?_, ?_, ?_, ?_, ?_, ?_, ?_, ?_⟩ <;> first | omega | assumption | (rw [c.2.2.2.2.2.2]; rfl) | fail) | (refine ⟨?_, ?_, ?_, ?_, ?_, ?_, ?_⟩ <;> first | omega | assumption | fail) | (refine ⟨?_, ?_, ?_, ?_, ?_, ?_⟩ <;> first | omega | assumption | (rw [c.2.2.2.2.2.2]; rfl) | fail) | fail) | exact qF (by intro hx; first | omega | exact absurd (hE.symm.trans hx.2.2.2.2.2.1) Bool.false_ne_true | exact absurd (hE.symm.trans hx.2.2.2.2.2.2) Bool.false_ne_true | exact absurd (hE.symm.trans hx.2.2.2.2.2.2.2.2.2) Bool.false_ne_true | exact hx.2.2.2.2.2.2.2.2.1 hU | exact c ⟨by omega, by omega, by omega, by omega, by omega, by omega, by first | rfl | exact List.eq_nil_of_length_eq_zero om_ | fail⟩ | fail) | refine W.drop ?_ | refine W.dropN _ ?_))
theorem instrR7_c {K : V → H → Option R} {m : Nat} {vs : List V} {k m1 m2 r l n : Int} {e : List (Int × Int)} {ve : V} {locs left : Int} (hvs : vs = [.agg [.int .i64 k, .int .i64 m1, .int .i64 m2, .int .i64 r, .int .i64 l, ve, .int .i64 n], .int .i64 locs, .int .i64 left]) (hv : Tk L ve e) (hl : e.length ≤ 12) (h1 : 1 ≤ locs) (h4 : locs ≤ 4) (hk : k < 1 ∨ 6 < k) (q : W Q B A S L (K (.bool (insOK ⟨k, m1, m2, r, l, e, n⟩ locs left)))) : W Q B A S (L) fun h => J.call (F (m + 7)) (.fn (.func 32) [] []) vs R h K := by
  subst hvs
  refine W.callE (d := d32) (c := c32) (by kernel_rfl) rfl (by rfl) ?_
  unfold c32
  have hone := hv.one
  have hnil : Tk L .nils [] := Rd.nils (by decide)
  have hbx : ∀ k, allOne (V.agg [.int .i64 k, .int .i64 m1, .int .i64 m2, .int .i64 r, .int .i64 l, ve, .int .i64 n]).cells = true := fun k => ins_one hv.one ⟨k, m1, m2, r, l, e, n⟩
  have qF : W Q B A S L (K (.bool false)) := by
    have e : insOK ⟨k, m1, m2, r, l, e, n⟩ locs left = false := by
      unfold insOK
      simp only
      rw [if_neg om_, if_neg om_, if_neg om_, if_neg om_, if_neg om_, if_neg om_]
    rw [e] at q; exact q
  (iterate 3 refine .hd ?_)
  refine .en ?_
  refine .box bx_ fun b hb => ?_
  refine .fl ?_
  refine .geqC (fun c => ?_) (fun c => ?_)
  refine .whenTT ?_
  refine .fldP ?_
  refine .whenTT ?_
  refine .load1P mm_ _ rf_ ?_
  refine .whenTT ?_
  refine .lssC (fun c => ?_) (fun c => ?_)
  refine .pickT ?_
  refine .fl ?_
  refine .geqC (fun c => ?_) (fun c => ?_)
  refine .whenTT ?_
  refine .fldP ?_
  refine .whenTT ?_
  refine .load1P mm_ _ rf_ ?_
  refine .whenTT ?_
  refine .pure ?_
  refine .whenTT ?_
  refine .lssC (fun c => ?_) (fun c => ?_)
  refine .pickT ?_
  refine .fl ?_
  refine checkRS_c rf_ rc_ om_ (fun hE => ?_) (fun hE => ?_)
  refine .fl ?_
  refine .bn fun b hb => ?_
  refine .fl ?_
  refine .ejF ?_
  (iterate 5 refine .ef ?_)
  refine .wp3 ?_
  rotate_left
  refine .fl ?_
  refine .bn fun b hb => ?_
  refine .fl ?_
  refine .ejF ?_
  (iterate 5 refine .ef ?_)
  refine .wp3 ?_
  rotate_right
  rotate_left 2
  refine .pickT ?_
  refine .fl ?_
  refine checkRS_c rf_ rc_ om_ (fun hE => ?_) (fun hE => ?_)
  refine .fl ?_
  refine .bn fun b hb => ?_
  refine .fl ?_
  refine .ejF ?_
  (iterate 5 refine .ef ?_)
  refine .wp3 ?_
  rotate_left
  refine .fl ?_
  refine .bn fun b hb => ?_
  refine .fl ?_
  refine .ejF ?_
  (iterate 5 refine .ef ?_)
  refine .wp3 ?_
  rotate_right
  rotate_right 2
  rotate_left 4
  refine .whenFT ?_
  refine .wp3 ?_
  refine .fl ?_
  refine checkRS_c rf_ rc_ om_ (fun hE => ?_) (fun hE => ?_)
  refine .fl ?_
  refine .bn fun b hb => ?_
  refine .fl ?_
  refine .ejF ?_
  (iterate 5 refine .ef ?_)
  refine .wp3 ?_
  rotate_left
  refine .fl ?_
  refine .bn fun b hb => ?_
  refine .fl ?_
  refine .ejF ?_
  (iterate 5 refine .ef ?_)
  refine .wp3 ?_
  rotate_right
  rotate_right 4
  rotate_left 6
  refine .pickT ?_
  refine .fl ?_
  refine .geqC (fun c => ?_) (fun c => ?_)
  refine .whenTT ?_
  refine .fldP ?_
  refine .whenTT ?_
  refine .load1P mm_ _ rf_ ?_
  refine .whenTT ?_
  refine .pure ?_
  refine .whenTT ?_
  refine .lssC (fun c => ?_) (fun c => ?_)
  refine .pickT ?_
  refine .fl ?_
  refine checkRS_c rf_ rc_ om_ (fun hE => ?_) (fun hE => ?_)
  refine .fl ?_
  refine .bn fun b hb => ?_
  refine .fl ?_
  refine .ejF ?_
  (iterate 5 refine .ef ?_)
  refine .wp3 ?_
  rotate_left
  refine .fl ?_
  refine .bn fun b hb => ?_
  refine .fl ?_
  refine .ejF ?_
  (iterate 5 refine .ef ?_)
  refine .wp3 ?_
  rotate_right
  rotate_left 2
  refine .pickT ?_
  refine .fl ?_
  refine checkRS_c rf_ rc_ om_ (fun hE => ?_) (fun hE => ?_)
  refine .fl ?_
  refine .bn fun b hb => ?_
  refine .fl ?_
  refine .ejF ?_
  (iterate 5 refine .ef ?_)
  refine .wp3 ?_
  rotate_left
  refine .fl ?_
  refine .bn fun b hb => ?_
  refine .fl ?_
  refine .ejF ?_
  (iterate 5 refine .ef ?_)
  refine .wp3 ?_
  rotate_right
  rotate_right 2
  rotate_left 4
  refine .whenFT ?_
  refine .wp3 ?_
  refine .fl ?_
  refine checkRS_c rf_ rc_ om_ (fun hE => ?_) (fun hE => ?_)
  refine .fl ?_
  refine .bn fun b hb => ?_
  refine .fl ?_
  refine .ejF ?_
  (iterate 5 refine .ef ?_)
  refine .wp3 ?_
  rotate_left
  refine .fl ?_
  refine .bn fun b hb => ?_
  refine .fl ?_
  refine .ejF ?_
  (iterate 5 refine .ef ?_)
  refine .wp3 ?_
  rotate_right
  rotate_right 4
  rotate_right 6
  rotate_left 12
  refine .wp3 ?_
  refine .fl ?_
  refine .geqC (fun c => ?_) (fun c => ?_)
  refine .whenTT ?_
  refine .fldP ?_
  refine .whenTT ?_
  refine .load1P mm_ _ rf_ ?_
  refine .whenTT ?_
  refine .pure ?_
  refine .whenTT ?_
  refine .lssC (fun c => ?_) (fun c => ?_)
  refine .pickT ?_
  refine .fl ?_
  refine checkRS_c rf_ rc_ om_ (fun hE => ?_) (fun hE => ?_)
  refine .fl ?_
  refine .bn fun b hb => ?_
  refine .fl ?_
  refine .ejF ?_
  (iterate 5 refine .ef ?_)
  refine .wp3 ?_
  rotate_left
  refine .fl ?_
  refine .bn fun b hb => ?_
  refine .fl ?_
  refine .ejF ?_
  (iterate 5 refine .ef ?_)
  refine .wp3 ?_
  rotate_right
  rotate_left 2
  refine .pickT ?_
  refine .fl ?_
  refine checkRS_c rf_ rc_ om_ (fun hE => ?_) (fun hE => ?_)
  refine .fl ?_
  refine .bn fun b hb => ?_
  refine .fl ?_
  refine .ejF ?_
  (iterate 5 refine .ef ?_)
  refine .wp3 ?_
  rotate_left
  refine .fl ?_
  refine .bn fun b hb => ?_
  refine .fl ?_
  refine .ejF ?_
  (iterate 5 refine .ef ?_)
  refine .wp3 ?_
  rotate_right
  rotate_right 2
  rotate_left 4
  refine .whenFT ?_
  refine .wp3 ?_
  refine .fl ?_
  refine checkRS_c rf_ rc_ om_ (fun hE => ?_) (fun hE => ?_)
  refine .fl ?_
  refine .bn fun b hb => ?_
  refine .fl ?_
  refine .ejF ?_
  (iterate 5 refine .ef ?_)
  refine .wp3 ?_
  rotate_left
  refine .fl ?_
  refine .bn fun b hb => ?_
  refine .fl ?_
  refine .ejF ?_
  (iterate 5 refine .ef ?_)
  refine .wp3 ?_
  rotate_right
  rotate_right 4
  rotate_right 12
  all_goals (repeat (first | exact qF | refine W.drop ?_ | refine W.dropN _ ?_))
theorem instrR_c {K : V → H → Option R} {m : Nat} {vs : List V} {k m1 m2 r l n : Int} {e : List (Int × Int)} {ve : V} {locs left : Int} (hvs : vs = [.agg [.int .i64 k, .int .i64 m1, .int .i64 m2, .int .i64 r, .int .i64 l, ve, .int .i64 n], .int .i64 locs, .int .i64 left]) (hv : Tk L ve e) (hl : e.length ≤ 12) (h1 : 1 ≤ locs) (h4 : locs ≤ 4) (q : W Q B A S L (K (.bool (insOK ⟨k, m1, m2, r, l, e, n⟩ locs left)))) : W Q B A S L fun h => J.call (F (m + 7)) (.fn (.func 32) [] []) vs R h K := by
  rcases kind_cases k with rfl | rfl | rfl | rfl | rfl | rfl | hk
  · exact instrR1_c hvs hv hl h1 h4 q
  · exact instrR2_c hvs hv hl h1 h4 q
  · exact instrR3_c hvs hv hl h1 h4 q
  · exact instrR4_c hvs hv hl h1 h4 q
  · exact instrR5_c hvs hv hl h1 h4 q
  · exact instrR6_c hvs hv hl h1 h4 q
  · exact instrR7_c hvs hv hl h1 h4 hk q
end
end Go.Proofs.Ythkipncmnefomaa.XCodeL
