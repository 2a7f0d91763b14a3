/- A text of the verified executor, of contracts, or of this law; joined and trimmed by a program of mine (wip/gen). -/
import Derived.Test.YthkipncmnefomaaLowL
import Derived.Test.YthkipncmnefomaaLowH
set_option linter.unusedVariables false
set_option linter.unusedSimpArgs false
set_option linter.unusedSectionVars false
set_option maxRecDepth 100000
set_option maxHeartbeats 4000000
namespace Go.Proofs.Ythkipncmnefomaa.XCodeL
open Go Go.X
noncomputable section
variable [Nu] {R : Type} {Q : Option R → Prop} {B : Nat} {A : Nat → Prop} {S : Nat} {L : Kn}
theorem instrRS_c {K : V → H → Option R} {m : Nat} {vs : List V} {x : Ins} {ve : V} {locs left : Int} (hvs : vs = [.agg (insC x ve), .int .i64 locs, .int .i64 left]) (hv : Tk L ve x.e) (hl : x.e.length ≤ 12) (h1 : 1 ≤ locs) (h4 : locs ≤ 4) (q : insOK x locs left = true → W Q B A S L (K (.bool true))) (q' : insOK x locs left = false → W Q B A S L (K (.bool false))) : W Q B A S L fun h => J.call (F (m + 7)) (.fn (.func 32) [] []) vs R h K :=
  instrR_c hvs hv hl h1 h4 (boolS q q')
theorem refCheck_c {K : V → H → Option R} {m : Nat} {vs : List V} {locs : Int} {ps : List (List Ins)} {v : V} (hvs : vs = [.agg [.int .i64 locs, v]]) (hv : ThrR L v ps) (hf : Few ps) (q : W Q B A S L (K (.int .i64 (checkP locs ps)))) : W Q B A S (L) fun h => J.call (F (m + 8)) (.fn (.func 15) [] []) vs R h K := by
  subst hvs
  refine W.callE (d := d15) (c := c15) (by kernel_rfl) rfl (by rfl) ?_
  unfold c15
  have hone := hv.one
  have hbx : allOne (V.agg [.int .i64 locs, v]).cells = true := by show (Bool.rec false true v.one : Bool) = true; rw [hone]
  have q3 : (locs < 1 ∨ 4 < locs ∨ ps.length = 0) → W Q B A S L (K (.int .i64 3)) := fun h => by unfold checkP at q; rw [if_pos h] at q; exact q
  by_cases hc : locs < 1 ∨ 4 < locs ∨ ps.length = 0
  · (refine .hd ?_; refine .en ?_; refine .box bx_ fun b hb => ?_; refine .fl ?_; refine .lssC (fun c => ?_) (fun c => ?_); (iterate 3 refine .whenTF ?_); refine .pickT ?_; (iterate 4 refine .whenTF ?_); refine .pickT ?_; refine .condT ?_; rotate_left; refine .whenFF ?_; refine .fldP ?_; refine .whenFF ?_; refine .load1P mm_ _ rf_ ?_; refine .whenFF ?_; refine .gtrC (fun c => ?_) (fun c => ?_); refine .pickF ?_; (iterate 4 refine .whenTF ?_); refine .pickT ?_; refine .condT ?_; rotate_left; refine .pickF ?_; refine .whenFF ?_; refine .fldP ?_; refine .whenFF ?_; refine .load1P mm_ _ rf_ ?_; refine .whenFF ?_; refine ThrR.len (by repeat (first | assumption | apply ThrR.cons)) ?_; refine .whenFF ?_; refine .eqlT om_ ?_; refine .pickF ?_; refine .condT ?_; rotate_right; rotate_right)
    all_goals (first | exact W.drop (q3 om_) | (exfalso; omega))
  have hc' : 1 ≤ locs ∧ locs ≤ 4 ∧ 0 < ps.length := by omega
  have hf6 := hf.1
  have qb : ∀ t ∈ ps, okT locs t = false → W Q B A S L (K (.int .i64 3)) := fun t ht h => by
    unfold checkP at q
    rw [if_neg hc, if_pos (by rw [List.all_eq_false]; exact ⟨t, ht, by rw [h]; exact Bool.false_ne_true⟩)] at q; exact q
  have qe : ps.all (okT locs) = true → W Q B A S L (K (.int .i64 (if (decide (4 < ps.length) || ps.any bigT) = true ∨ 40 < locs + evP ps then 4 else 0))) := fun h => by
    unfold checkP at q; rw [if_neg hc, if_neg (by rw [h]; exact Bool.noConfusion)] at q; exact q
  (refine .hd ?_; refine .en ?_; refine .box bx_ fun b hb => ?_; refine .fl ?_; refine .lssF om_ ?_; refine .whenFF ?_; refine .fldP ?_; refine .whenFF ?_; refine .load1P mm_ _ rf_ ?_; refine .whenFF ?_; refine .gtrF om_ ?_; refine .pickF ?_; refine .whenFF ?_; refine .fldP ?_; refine .whenFF ?_; refine .load1P mm_ _ rf_ ?_; refine .whenFF ?_; refine ThrR.len (by repeat (first | assumption | apply ThrR.cons)) ?_; refine .whenFF ?_; refine .eqlF om_ ?_; refine .pickF ?_; refine .condF ?_; refine .nextOf fun n0 hn0 hids => ?_; refine .fldP ?_; (refine .lload1P mm_ _ rf_ fun B1 lgs1 hi1 hS1 ro1 hh1 => ?_; dsimp only); refine .fldP ?_; (refine .lload1P mm_ _ rf_ fun B1 lgs1 hi1 hS1 ro1 hh1 => ?_; dsimp only); refine ThrR.len (by repeat (first | assumption | apply ThrR.cons)) ?_)
  refine W.gtr ?_
  have e4 : decide ((4 : Int) < (ps.length : Int)) = decide (4 < ps.length) := decide_eq_decide.2 om_
  rw [e4]
  (refine .ok S ?_)
  refine W.loop4 (I := fun d x1 x2 x3 x4 L' => ∃ i : Nat, ps.length ≤ i + d ∧ i ≤ ps.length ∧ x1 = .ptr b 0 ∧ x2 = .int .i64 (locs + evP (ps.take i)) ∧ x3 = .bool (decide (4 < ps.length) || (ps.take i).any bigT) ∧ x4 = .int .i64 i ∧ L' = (b, .cells [.int .i64 locs, v] true 0) :: L ∧ ∀ t ∈ ps.take i, okT locs t = true) ?_ ps.length om_
    ⟨0, by omega, by omega, rfl, by simp [evP], by simp, rfl, rfl, by simp⟩
  rintro d k x1 x2 x3 x4 L' ⟨i, e1, e2, rfl, rfl, rfl, rfl, rfl, hok⟩ hk
  have hle := evP_le hf i
  rw [List.length_take] at hle
  (refine .fl ?_; refine ThrR.len (by repeat (first | assumption | apply ThrR.cons)) ?_)
  rcases Nat.lt_or_ge i ps.length with hi | hi
  · obtain ⟨t, ht, _⟩ := drop_at hi
    have htm : t ∈ ps := List.mem_of_getElem? ht
    have ht16 := (hf.2 t htm).1
    (refine .lssT om_ ?_; refine .condT ?_; refine .fl ?_)
    refine ThrR.idx hv.cons i t rfl ht fun p vt r hvt hp => ?_
    (refine .load1A hp _ rf_ ?_)
    refine W.loop6 (I := fun d x1 x2 x3 x4 x5 x6 L' => ∃ j : Nat, t.length ≤ j + d ∧ j ≤ t.length ∧ x1 = .ptr b 0 ∧ x2 = .int .i64 (locs + evP (ps.take i)) ∧ x3 = .bool (decide (4 < ps.length) || (ps.take i).any bigT) ∧ x4 = .int .i64 i ∧ vt = x5 ∧ x6 = .int .i64 j ∧ L' = (b, .cells [.int .i64 locs, v] true 0) :: L ∧ okT locs t = okT locs (t.drop j)) ?_ t.length om_
      ⟨0, by omega, by omega, rfl, rfl, rfl, rfl, rfl, rfl, rfl, rfl⟩
    rintro d2 k2 x1 x2 x3 x4 x5 x6 L' ⟨j, f1, f2, rfl, rfl, rfl, rfl, rfl, rfl, rfl, hoj⟩ hk2
    rcases Nat.lt_or_ge j t.length with hj | hj
    · obtain ⟨x, hx, hd⟩ := drop_at hj
      rw [okT_drop hx hd] at hoj
      have hxl := (hf.2 t htm).2 x (List.mem_of_getElem? hx)
      refine InsR.len hvt ?_
      refine .lssT om_ ?_
      refine .condT ?_
      refine .nd fun hnd => W.nextOf fun n0 hn0 hids => ?_
      refine InsR.idx hvt j x rfl hx fun p ve r hve hp => ?_
      refine .logged fun B1 hB1 hS1 K1 hK0 hK1 => ?_
      refine loadIns hp ?_
      (refine hK0 _ (fun lgs1 hi1 ro1 hh1 => ?_); clear hK0 hK1; dsimp only)
      (refine .ft fun B1 lgs1 hi1 hS1 ro1 hh1 tn1 => ?_; dsimp only)
      refine InsR.len hvt ?_
      (iterate 2 refine .sub om_ om_ ?_)
      refine .logged fun B1 hB1 hS1 K1 hK0 hK1 => ?_
      refine instrRS_c rf_ hve hxl om_ om_ (fun c => ?_) (fun c => ?_)
      (refine hK0 _ (fun lgs1 hi1 ro1 hh1 => ?_); clear hK0 hK1; dsimp only)
      refine .notT ?_
      refine .ok S ?_
      refine .condF ?_
      refine .add om_ om_ ?_
      rotate_left
      (refine hK0 _ (fun lgs1 hi1 ro1 hh1 => ?_); clear hK0 hK1; dsimp only)
      refine .notF ?_
      refine .ok S ?_
      refine .condT ?_
      rotate_right
      · rw [c, Bool.true_and] at hoj
        exact hk2 (d2 - 1) _ _ _ _ _ _ _ om_ ⟨j + 1, by omega, by omega, rfl, rfl, rfl, rfl, rfl, by rw [Int.natCast_add]; rfl, rfl, hoj⟩
      · rw [c, Bool.false_and] at hoj
        exact W.drop (qb t htm hoj)
    · have hot : okT locs t = true := by rw [hoj, List.drop_of_length_le hj]; rfl
      have hev := evs_le t
      have hany := any_take ht
      have hevp := evP_take ht
      have go : ∀ b' : Bool, ((decide (4 < ps.length) || (ps.take i).any bigT) || bigT t) = b' → ∀ n : Int, n = locs + evP (ps.take i) + evs t → W Q B A S ((b, .cells [.int .i64 locs, v] true 0) :: L) (k (.ptr b 0) (.int .i64 n) (.bool b') (.int .i64 ((i : Int) + 1))) := fun b' hb n hn =>
        hk (d - 1) _ _ _ _ _ om_ ⟨i + 1, by omega, by omega, rfl, by rw [hn, hevp, Int.add_assoc], by rw [hany, ← hb, Bool.or_assoc], by rw [Int.natCast_add]; rfl, rfl, fun t' ht' => by
          rw [List.take_add_one, ht] at ht'
          rcases List.mem_append.1 ht' with h | h
          · exact hok t' h
          · simp at h; rw [h]; exact hot⟩
      (refine InsR.len (by repeat (first | assumption | apply InsR.cons)) ?_; refine .lssF om_ ?_; refine .condF ?_; refine eventsR_c rf_ (by repeat (first | assumption | apply InsR.cons)) om_ ?_; refine .add om_ om_ ?_)
      generalize hbv : (decide (4 < ps.length) || (ps.take i).any bigT) = bv at go
      cases bv
      · (refine .whenFF ?_; refine .pure ?_; refine .whenFF ?_; refine InsR.len (by repeat (first | assumption | apply InsR.cons)) ?_; refine .whenFF ?_; refine .gtrC (fun c => ?_) (fun c => ?_); refine .pickF ?_; (iterate 3 refine .whenTF ?_); refine .pickT ?_; refine .add om_ om_ ?_; rotate_left; refine .pickF ?_; refine .whenFF ?_; refine .pure ?_; refine .whenFF ?_; refine pathsR_c rf_ (by repeat (first | assumption | apply InsR.cons)) om_ ?_; refine .whenFF ?_; refine .gtrC (fun c => ?_) (fun c => ?_); refine .pickF ?_; refine .add om_ om_ ?_; rotate_left; refine .pickF ?_; refine .add om_ om_ ?_; rotate_right; rotate_right)
        · exact go true (by unfold bigT; simp; omega) _ rfl
        · exact go true (by unfold bigT; simp; omega) _ rfl
        · exact go false (by unfold bigT; simp; omega) _ rfl
      · ((iterate 3 refine .whenTF ?_); refine .pickT ?_; (iterate 3 refine .whenTF ?_); refine .pickT ?_; refine .add om_ om_ ?_)
        exact go true rfl _ rfl
  · (refine .lssF om_ ?_; refine .condF ?_)
    rw [List.take_of_length_le hi] at hok ⊢
    have qe' := qe (List.all_eq_true.2 hok)
    rw [List.take_of_length_le hi] at hle
    generalize hbv : (decide (4 < ps.length) || ps.any bigT) = bv at qe'
    cases bv
    · (refine .whenFF ?_; refine .pure ?_; refine .whenFF ?_; refine .gtrC (fun c => ?_) (fun c => ?_); refine .pickF ?_; refine .condT ?_; rotate_left; refine .pickF ?_; refine .condF ?_; rotate_right)
      · rw [if_pos (.inr (by assumption))] at qe'; exact W.drop qe'
      · rw [if_neg (by simp; omega)] at qe'; exact W.drop qe'
    · ((iterate 2 refine .whenTF ?_); refine .pickT ?_; refine .condT ?_)
      rw [if_pos (.inl rfl)] at qe'; exact W.drop qe'
end
end Go.Proofs.Ythkipncmnefomaa.XCodeL
