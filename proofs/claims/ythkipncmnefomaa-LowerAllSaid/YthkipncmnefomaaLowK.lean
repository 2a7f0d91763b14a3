/- A text of the verified executor, of contracts, or of this law; joined and trimmed by a program of mine (wip/gen). -/
import Derived.Test.YthkipncmnefomaaLowIM
import Derived.Test.YthkipncmnefomaaLowF
set_option linter.unusedVariables false
set_option linter.unusedSimpArgs false
set_option linter.unusedSectionVars false
set_option maxRecDepth 100000
set_option maxHeartbeats 4000000
namespace Go.Proofs.Ythkipncmnefomaa.XCodeL
open Go Go.X
noncomputable section
variable [Nu] {R : Type} {Q : Option R → Prop} {B : Nat} {A : Nat → Prop} {S : Nat} {L : Kn}
theorem uses_c {K : V → H → Option R} {m : Nat} {vs : List V} {ts : List (Int × Int)} {v : V} {r : Int} (hvs : vs = [v, .int .i64 r]) (hv : Tk L v ts) (hl : ts.length ≤ 12) (q : W Q B A S L (K (.bool (decide (r ∈ regL ts))))) : W Q B A S (L) fun h => J.call (F (m + 3)) (.fn (.func 47) [] []) vs R h K := by
  subst hvs
  refine W.callE (d := d47) (c := c47) (by kernel_rfl) rfl (by rfl) ?_
  unfold c47
  (refine .hd ?_; refine .hd ?_; refine .en ?_)
  with_reducible refine regsR_c rf_ hv hl fun w l N hm hll hB hw => ?_
  have hdec : decide (r ∈ regL ts) = decide (r ∈ l) := decide_eq_decide.2 (hm r).symm
  rw [hdec] at q
  refine W.loop3 (I := fun d x1 x2 x3 L' => ∃ i : Nat, l.length ≤ i + d ∧ i ≤ l.length ∧ x1 = .int .i64 r ∧ w = x2 ∧ x3 = .int .i64 i ∧ L' = N ++ L ∧ r ∉ l.take i) ?_ l.length om_
    ⟨0, by omega, by omega, rfl, rfl, rfl, rfl, by simp⟩
  rintro d k x1 x2 x3 L' ⟨i, e1, e2, rfl, rfl, rfl, rfl, hno⟩ hk
  refine W.lenR hw ?_
  rcases Nat.lt_or_ge i l.length with hi | hi
  · obtain ⟨z, hz, _⟩ := drop_at hi
    (refine .lssT om_ ?_; refine .condT ?_; refine Iv.idx hw i z rfl hz fun p hp => ?_; refine .load1A hp _ rf_ ?_)
    refine W.eqlC (fun c => ?_) (fun c => ?_)
    · (refine .condT ?_)
      rw [decide_eq_true (by rw [← c]; exact List.mem_of_getElem? hz)] at q
      exact W.dropN N q
    · (refine .condF ?_; refine .add om_ om_ ?_)
      refine hk (d - 1) _ _ _ _ om_ ⟨i + 1, by omega, by omega, rfl, rfl, by rw [Int.natCast_add]; rfl, rfl, ?_⟩
      rw [take_succ_mem hz]; rintro (h | h)
      · exact hno h
      · exact c h.symm
  · (refine .lssF om_ ?_; refine .condF ?_)
    rw [List.take_of_length_le hi] at hno
    rw [decide_eq_false hno] at q
    exact W.dropN N q
theorem usesS_c {K : V → H → Option R} {m : Nat} {vs : List V} {ts : List (Int × Int)} {v : V} {r : Int} (hvs : vs = [v, .int .i64 r]) (hv : Tk L v ts) (hl : ts.length ≤ 12) (q : r ∈ regL ts → W Q B A S L (K (.bool true))) (q' : r ∉ regL ts → W Q B A S L (K (.bool false))) : W Q B A S L fun h => J.call (F (m + 3)) (.fn (.func 47) [] []) vs R h K :=
  uses_c hvs hv hl (boolC q q')
theorem sameES_c {K : V → H → Option R} {m : Nat} {vs : List V} {as bs : List (Int × Int)} {v w : V} (hvs : vs = [v, w]) (hv : Tk L v as) (hw : Tk L w bs) (hl : as.length < 100000) (q : as = bs → W Q B A S L (K (.bool true))) (q' : ¬ as = bs → W Q B A S L (K (.bool false))) : W Q B A S L fun h => J.call (F (m + 1)) (.fn (.func 36) [] []) vs R h K :=
  sameE_c hvs hv hw hl (boolC q q')
def SameI (k m1 m2 r l n : Int) (e : List (Int × Int)) (k' m1' m2' r' l' n' : Int) (e' : List (Int × Int)) : Prop := k = k' ∧ m1 = m1' ∧ m2 = m2' ∧ r = r' ∧ l = l' ∧ n = n' ∧ e = e'
theorem sameI_c {K : V → H → Option R} {m : Nat} {vs : List V} {k m1 m2 r l n : Int} {e : List (Int × Int)} {v : V} {k' m1' m2' r' l' n' : Int} {e' : List (Int × Int)} {w : V} (hvs : vs = [.agg [.int .i64 k, .int .i64 m1, .int .i64 m2, .int .i64 r, .int .i64 l, v, .int .i64 n], .agg [.int .i64 k', .int .i64 m1', .int .i64 m2', .int .i64 r', .int .i64 l', w, .int .i64 n']]) (hv : Tk L v e) (hw : Tk L w e') (hl : e.length < 100000) (q : SameI k m1 m2 r l n e k' m1' m2' r' l' n' e' → W Q B A S L (K (.bool true))) (q' : ¬ SameI k m1 m2 r l n e k' m1' m2' r' l' n' e' → W Q B A S L (K (.bool false))) : W Q B A S (L) fun h => J.call (F (m + 2)) (.fn (.func 48) [] []) vs R h K := by
  subst hvs
  refine W.callE (d := d48) (c := c48) (by kernel_rfl) rfl (by rfl) ?_
  unfold c48
  have hbx : ∀ k m1 m2 r l n : Int, allOne (V.agg [.int .i64 k, .int .i64 m1, .int .i64 m2, .int .i64 r, .int .i64 l, v, .int .i64 n]).cells = true := fun k m1 m2 r l n => ins_one hv.one ⟨k, m1, m2, r, l, e, n⟩
  have hbw : ∀ k m1 m2 r l n : Int, allOne (V.agg [.int .i64 k, .int .i64 m1, .int .i64 m2, .int .i64 r, .int .i64 l, w, .int .i64 n]).cells = true := fun k m1 m2 r l n => ins_one hw.one ⟨k, m1, m2, r, l, e', n⟩
  refine W.hd (W.hd (W.en (W.box (hbx _ _ _ _ _ _) fun b hb => W.box (hbw _ _ _ _ _ _) fun b' hb' => ?_)))
  refine .fl ?_
  refine .fl ?_
  refine .eqlC (fun c => ?_) (fun c => ?_)
  refine .whenTT ?_
  refine .fldP ?_
  refine .whenTT ?_
  refine .load1P mm_ _ rf_ ?_
  refine .whenTT ?_
  refine .fldP ?_
  refine .whenTT ?_
  refine .load1P mm_ _ rf_ ?_
  refine .whenTT ?_
  refine .eqlC (fun c => ?_) (fun c => ?_)
  refine .pickT ?_
  refine .whenTT ?_
  refine .fldP ?_
  refine .whenTT ?_
  refine .load1P mm_ _ rf_ ?_
  refine .whenTT ?_
  refine .fldP ?_
  refine .whenTT ?_
  refine .load1P mm_ _ rf_ ?_
  refine .whenTT ?_
  refine .eqlC (fun c => ?_) (fun c => ?_)
  refine .pickT ?_
  refine .whenTT ?_
  refine .fldP ?_
  refine .whenTT ?_
  refine .load1P mm_ _ rf_ ?_
  refine .whenTT ?_
  refine .fldP ?_
  refine .whenTT ?_
  refine .load1P mm_ _ rf_ ?_
  refine .whenTT ?_
  refine .eqlC (fun c => ?_) (fun c => ?_)
  refine .pickT ?_
  refine .whenTT ?_
  refine .fldP ?_
  refine .whenTT ?_
  refine .load1P mm_ _ rf_ ?_
  refine .whenTT ?_
  refine .fldP ?_
  refine .whenTT ?_
  refine .load1P mm_ _ rf_ ?_
  refine .whenTT ?_
  refine .eqlC (fun c => ?_) (fun c => ?_)
  refine .pickT ?_
  refine .whenTT ?_
  refine .fldP ?_
  refine .whenTT ?_
  refine .load1P mm_ _ rf_ ?_
  refine .whenTT ?_
  refine .fldP ?_
  refine .whenTT ?_
  refine .load1P mm_ _ rf_ ?_
  refine .whenTT ?_
  refine .eqlC (fun c => ?_) (fun c => ?_)
  refine .pickT ?_
  refine .whenTT ?_
  refine .fldP ?_
  refine .whenTT ?_
  refine .load1P mm_ _ rf_ ?_
  refine .whenTT ?_
  refine .fldP ?_
  refine .whenTT ?_
  refine .load1P mm_ _ rf_ ?_
  refine .whenTT ?_
  refine sameES_c rf_ rc_ rc_ om_ (fun c => ?_) (fun c => ?_)
  refine .pickT ?_
  rotate_left
  refine .pickT ?_
  rotate_right
  rotate_left 2
  refine .pickT ?_
  (iterate 2 refine .whenFT ?_)
  refine .wp3 ?_
  rotate_right 2
  rotate_left 3
  refine .pickT ?_
  (iterate 2 refine .whenFT ?_)
  refine .wp3 ?_
  (iterate 2 refine .whenFT ?_)
  refine .wp3 ?_
  rotate_right 3
  rotate_left 4
  refine .pickT ?_
  (iterate 2 refine .whenFT ?_)
  refine .wp3 ?_
  (iterate 2 refine .whenFT ?_)
  refine .wp3 ?_
  (iterate 2 refine .whenFT ?_)
  refine .wp3 ?_
  rotate_right 4
  rotate_left 5
  refine .pickT ?_
  (iterate 2 refine .whenFT ?_)
  refine .wp3 ?_
  (iterate 2 refine .whenFT ?_)
  refine .wp3 ?_
  (iterate 2 refine .whenFT ?_)
  refine .wp3 ?_
  (iterate 2 refine .whenFT ?_)
  refine .wp3 ?_
  rotate_right 5
  rotate_left 6
  refine .pickT ?_
  (iterate 2 refine .whenFT ?_)
  refine .wp3 ?_
  (iterate 2 refine .whenFT ?_)
  refine .wp3 ?_
  (iterate 2 refine .whenFT ?_)
  refine .wp3 ?_
  (iterate 2 refine .whenFT ?_)
  refine .wp3 ?_
  (iterate 2 refine .whenFT ?_)
  refine .wp3 ?_
  rotate_right 6
  rotate_left 7
  (iterate 2 refine .whenFT ?_)
  refine .wp3 ?_
  (iterate 2 refine .whenFT ?_)
  refine .wp3 ?_
  (iterate 2 refine .whenFT ?_)
  refine .wp3 ?_
  (iterate 2 refine .whenFT ?_)
  refine .wp3 ?_
  (iterate 2 refine .whenFT ?_)
  refine .wp3 ?_
  (iterate 2 refine .whenFT ?_)
  refine .wp3 ?_
  rotate_right 7
  all_goals (repeat (first | exact q ⟨by omega, by omega, by omega, by omega, by omega, by omega, by assumption⟩ | exact q' (by rintro ⟨h1, h2, h3, h4, h5, h6, h7⟩; first | omega | exact c h7 | fail) | refine W.drop ?_ | refine W.dropN _ ?_))
end
end Go.Proofs.Ythkipncmnefomaa.XCodeL
