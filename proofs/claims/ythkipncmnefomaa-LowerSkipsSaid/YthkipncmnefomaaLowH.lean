/- A text of the verified executor, of contracts, or of this law; joined and trimmed by a program of mine (wip/gen). -/
import Derived.Test.YthkipncmnefomaaLowF
set_option linter.unusedVariables false
set_option linter.unusedSimpArgs false
set_option linter.unusedSectionVars false
set_option maxRecDepth 100000
set_option maxHeartbeats 4000000
namespace Go.Proofs.Ythkipncmnefomaa.XCodeL
open Go Go.X
noncomputable section
variable [Nu] {R : Type} {Q : Option R → Prop} {B : Nat} {A : Nat → Prop} {S : Nat} {L : Kn}
def ThrCells (L : Kn) : List (List Ins) → List V → Prop
  | [], l => l = []
  | t :: ts, l => ∃ v r, l = v :: r ∧ InsR L v t ∧ ThrCells L ts r
def ThrR (L : Kn) (v : V) (ps : List (List Ins)) : Prop := ∃ l, Rd L 1 v ps.length l ∧ ThrCells L ps l
theorem ThrCells.cons {L : Kn} {x : Nat × Blk} : ∀ {is : List (List Ins)} {l : List V}, ThrCells L is l → ThrCells (x :: L) is l
  | [], l, h => h
  | i :: is, l, ⟨v, r, h1, h2, h3⟩ => ⟨v, r, h1, h2.cons, ThrCells.cons h3⟩
theorem ThrR.cons {L : Kn} {x : Nat × Blk} {v : V} {ps : List (List Ins)} (h : ThrR L v ps) : ThrR (x :: L) v ps := by
  obtain ⟨l, h1, h2⟩ := h; exact ⟨l, h1.cons, h2.cons⟩
theorem ThrR.app {L : Kn} {v : V} {ps : List (List Ins)} (N : Kn) (h : ThrR L v ps) : ThrR (N ++ L) v ps := by
  induction N with
  | nil => exact h
  | cons x N ih => exact ThrR.cons ih
theorem ThrCells.at' {L : Kn} : ∀ {is : List (List Ins)} {l : List V} (i : Nat) (x : List Ins), ThrCells L is l → is[i]? = some x → ∃ v r, l.drop (i * 1) = v :: r ∧ InsR L v x
  | [], l, i, x, h, e => nomatch e
  | y :: is, l, 0, x, ⟨v, r, h1, h2, h3⟩, e => by
    simp only [List.getElem?_cons_zero, Option.some.injEq] at e
    subst e; exact ⟨v, r, by rw [Nat.zero_mul, List.drop_zero, h1], h2⟩
  | y :: is, l, i + 1, x, ⟨v, r, h1, h2, h3⟩, e => by
    obtain ⟨v', r', h4, h5⟩ := ThrCells.at' i x h3 e
    refine ⟨v', r', ?_, h5⟩
    rw [h1, show (i + 1) * 1 = i * 1 + 1 by omega]
    exact h4
theorem ThrR.idx {v : V} {ps : List (List Ins)} {a : Int} {K : V → H → Option R} (h : ThrR L v ps) (i : Nat) (x : List Ins) (ha : a = (i : Int)) (hx : ps[i]? = some x) (q : ∀ p vt r, InsR L vt x → Pl L p (vt :: r) → W Q B A S L (K p)) : W Q B A S L fun h => J.idxL 1 v (.int .i64 a) R h K := by
  obtain ⟨l, h1, h2⟩ := h
  refine W.idxR h1 i ha (List.getElem?_eq_some_iff.1 hx).1 fun p hp => ?_
  obtain ⟨ve, r, h3, h4⟩ := ThrCells.at' i x h2 hx
  exact q p ve r h4 (h3 ▸ hp)
theorem ThrR.len {v : V} {ps : List (List Ins)} {K : V → H → Option R} (h : ThrR L v ps) (q : W Q B A S L (K (.int .i64 ps.length))) : W Q B A S L fun h => J.lenL v R h K := by
  obtain ⟨l, h1, h2⟩ := h; exact W.lenR h1 q
theorem ThrR.one {v : V} {ps : List (List Ins)} (h : ThrR L v ps) : v.one = true := by obtain ⟨l, h1, _⟩ := h; exact h1.one
def okT (locs : Int) : List Ins → Bool
  | [] => true
  | i :: r => insOK i locs r.length && okT locs r
def bigT (t : List Ins) : Bool := decide (12 < t.length) || decide (64 < paths t)
def evP (ps : List (List Ins)) : Int := (ps.map evs).sum
def checkP (locs : Int) (ps : List (List Ins)) : Int :=
  if locs < 1 ∨ 4 < locs ∨ ps.length = 0 then 3 else if ps.all (okT locs) = false then 3 else if (decide (4 < ps.length) || ps.any bigT) = true ∨ 40 < locs + evP ps then 4 else 0
theorem evP_take {ps : List (List Ins)} {i : Nat} {t : List Ins} (h : ps[i]? = some t) : evP (ps.take (i + 1)) = evP (ps.take i) + evs t := by
  unfold evP; rw [List.take_add_one, h]; simp
theorem any_take {ps : List (List Ins)} {i : Nat} {t : List Ins} (h : ps[i]? = some t) : (ps.take (i + 1)).any bigT = ((ps.take i).any bigT || bigT t) := by
  rw [List.take_add_one, h]; simp
def Few (ps : List (List Ins)) : Prop := ps.length ≤ 6 ∧ ∀ t ∈ ps, t.length ≤ 16 ∧ ∀ i ∈ t, i.e.length ≤ 12
theorem evP_le {ps : List (List Ins)} (h : Few ps) (n : Nat) : 0 ≤ evP (ps.take n) ∧ evP (ps.take n) ≤ 32 * (ps.take n).length := by
  have key : ∀ l : List (List Ins), (∀ t ∈ l, t.length ≤ 16) → 0 ≤ evP l ∧ evP l ≤ 32 * l.length := by
    intro l
    induction l with
    | nil => intro _; exact ⟨Int.le_refl _, Int.le_refl _⟩
    | cons t l ih =>
      intro hl
      have h1 := evs_le t
      have h2 := hl t List.mem_cons_self
      have h3 := ih fun t ht => hl t (List.mem_cons_of_mem _ ht)
      have h4 : evP (t :: l) = evs t + evP l := by unfold evP; rw [List.map_cons, List.sum_cons]
      rw [h4, List.length_cons]; omega
  exact key _ fun t ht => (h.2 t (List.mem_of_mem_take ht)).1
theorem boolS {c : Bool} {K : V → H → Option R} (q : c = true → W Q B A S L (K (.bool true))) (q' : c = false → W Q B A S L (K (.bool false))) : W Q B A S L (K (.bool c)) := by
  cases c with
  | true => exact q rfl
  | false => exact q' rfl
theorem instrS_c {K : V → H → Option R} {m : Nat} {vs : List V} {x : Ins} {ve : V} {locs left : Int} (hvs : vs = [.agg (insC x ve), .int .i64 locs, .int .i64 left]) (hv : Tk L ve x.e) (hl : x.e.length ≤ 12) (h1 : 1 ≤ locs) (h4 : locs ≤ 4) (q : insOK x locs left = true → W Q B A S L (K (.bool true))) (q' : insOK x locs left = false → W Q B A S L (K (.bool false))) : W Q B A S L fun h => J.call (F (m + 7)) (.fn (.func 21) [] []) vs R h K :=
  instr_c hvs hv hl h1 h4 (boolS q q')
theorem okT_drop {locs : Int} {t : List Ins} {k : Nat} {x : Ins} (hx : t[k]? = some x) (hd : t.drop k = x :: t.drop (k + 1)) : okT locs (t.drop k) = (insOK x locs ((t.length : Int) - 1 - k) && okT locs (t.drop (k + 1))) := by
  rw [hd]
  have hk := (List.getElem?_eq_some_iff.1 hx).1
  have e : (((t.drop (k + 1)).length : Nat) : Int) = (t.length : Int) - 1 - k := by rw [List.length_drop]; omega
  show (insOK x locs ((t.drop (k + 1)).length : Nat) && okT locs (t.drop (k + 1))) = _
  rw [e]
theorem soundCheck_c {K : V → H → Option R} {m : Nat} {vs : List V} {locs : Int} {ps : List (List Ins)} {v : V} (hvs : vs = [.agg [.int .i64 locs, v]]) (hv : ThrR L v ps) (hf : Few ps) (q : W Q B A S L (K (.int .i64 (checkP locs ps)))) : W Q B A S (L) fun h => J.call (F (m + 8)) (.fn (.func 13) [] []) vs R h K := by
  subst hvs
  refine W.callE (d := d13) (c := c13) (by kernel_rfl) rfl (by rfl) ?_
  unfold c13
  have hone := hv.one
  have hbx : allOne (V.agg [.int .i64 locs, v]).cells = true := by show (Bool.rec false true v.one : Bool) = true; rw [hone]
  have q3 : (locs < 1 ∨ 4 < locs ∨ ps.length = 0) → W Q B A S L (K (.int .i64 3)) := fun h => by unfold checkP at q; rw [if_pos h] at q; exact q
  by_cases hc : locs < 1 ∨ 4 < locs ∨ ps.length = 0
  · (refine .hd ?_; refine .en ?_; refine .box bx_ fun b hb => ?_; refine .fl ?_; refine .lssC (fun c => ?_) (fun c => ?_); (iterate 3 refine .whenTF ?_); refine .pickT ?_; (iterate 4 refine .whenTF ?_); refine .pickT ?_; refine .condT ?_; rotate_left; refine .whenFF ?_; refine .fldP ?_; refine .whenFF ?_; refine .load1P mm_ _ rf_ ?_; refine .whenFF ?_; refine .gtrC (fun c => ?_) (fun c => ?_); refine .pickF ?_; (iterate 4 refine .whenTF ?_); refine .pickT ?_; refine .condT ?_; rotate_left; refine .pickF ?_; refine .whenFF ?_; refine .fldP ?_; refine .whenFF ?_; refine .load1P mm_ _ rf_ ?_; refine .whenFF ?_; refine ThrR.len (by repeat (first | assumption | apply ThrR.cons)) ?_; refine .whenFF ?_; refine .eqlT om_ ?_; refine .pickF ?_; refine .condT ?_; rotate_right; rotate_right)
    all_goals (first | exact W.drop (q3 om_) | (exfalso; omega))
  have hc' : 1 ≤ locs ∧ locs ≤ 4 ∧ 0 < ps.length := by omega
  have hf6 := hf.1
  have qb : ∀ t ∈ ps, okT locs t = false → W Q B A S L (K (.int .i64 3)) := fun t ht h => by
    unfold checkP at q
    rw [if_neg hc, if_pos (by rw [List.all_eq_false]; exact ⟨t, ht, by rw [h]; exact Bool.false_ne_true⟩)] at q; exact q
  have qe : ps.all (okT locs) = true → W Q B A S L (K (.int .i64 (if (decide (4 < ps.length) || ps.any bigT) = true ∨ 40 < locs + evP ps then 4 else 0))) := fun h => by
    unfold checkP at q; rw [if_neg hc, if_neg (by rw [h]; exact Bool.noConfusion)] at q; exact q
  (refine .hd ?_; refine .en ?_; refine .box bx_ fun b hb => ?_; refine .fl ?_; refine .lssF om_ ?_; refine .whenFF ?_; refine .fldP ?_; refine .whenFF ?_; refine .load1P mm_ _ rf_ ?_; refine .whenFF ?_; refine .gtrF om_ ?_; refine .pickF ?_; refine .whenFF ?_; refine .fldP ?_; refine .whenFF ?_; refine .load1P mm_ _ rf_ ?_; refine .whenFF ?_; refine ThrR.len (by repeat (first | assumption | apply ThrR.cons)) ?_; refine .whenFF ?_; refine .eqlF om_ ?_; refine .pickF ?_; refine .condF ?_; refine .fl ?_; refine ThrR.len (by repeat (first | assumption | apply ThrR.cons)) ?_)
  refine W.gtr ?_
  have e4 : decide ((4 : Int) < (ps.length : Int)) = decide (4 < ps.length) := decide_eq_decide.2 om_
  rw [e4]
  (refine .fl ?_; refine .fl ?_; refine ThrR.len (by repeat (first | assumption | apply ThrR.cons)) ?_)
  refine W.loop6 (I := fun d x1 x2 x3 x4 x5 x6 L' => ∃ i : Nat, ps.length ≤ i + d ∧ i ≤ ps.length ∧ x1 = .ptr b 0 ∧ x2 = .bool (decide (4 < ps.length) || (ps.take i).any bigT) ∧ x3 = .int .i64 (locs + evP (ps.take i)) ∧ v = x4 ∧ x5 = .int .i64 ps.length ∧ x6 = .int .i64 i ∧ L' = (b, .cells [.int .i64 locs, v] true 0) :: L ∧ ∀ t ∈ ps.take i, okT locs t = true) ?_ ps.length om_
    ⟨0, by omega, by omega, rfl, by simp, by simp [evP], rfl, rfl, rfl, rfl, by simp⟩
  rintro d k x1 x2 x3 x4 x5 x6 L' ⟨i, e1, e2, rfl, rfl, rfl, rfl, rfl, rfl, rfl, hok⟩ hk
  have hle := evP_le hf i
  rw [List.length_take] at hle
  rcases Nat.lt_or_ge i ps.length with hi | hi
  · obtain ⟨t, ht, _⟩ := drop_at hi
    have htm : t ∈ ps := List.mem_of_getElem? ht
    have ht16 := (hf.2 t htm).1
    (refine .lssT om_ ?_; refine .condT ?_)
    refine ThrR.idx hv.cons i t rfl ht fun p vt r hvt hp => ?_
    (refine .load1A hp _ rf_ ?_; refine InsR.len (by repeat (first | assumption | apply InsR.cons)) ?_)
    refine W.loop10 (I := fun d x1 x2 x3 x4 x5 x6 x7 x8 x9 x10 L' => ∃ j : Nat, t.length ≤ j + d ∧ j ≤ t.length ∧ x1 = .ptr b 0 ∧ x2 = .bool (decide (4 < ps.length) || (ps.take i).any bigT) ∧ x3 = .int .i64 (locs + evP (ps.take i)) ∧ vt = x4 ∧ v = x5 ∧ x6 = .int .i64 ps.length ∧ x7 = .int .i64 i ∧ vt = x8 ∧ x9 = .int .i64 t.length ∧ x10 = .int .i64 j ∧ L' = (b, .cells [.int .i64 locs, v] true 0) :: L ∧ okT locs t = okT locs (t.drop j)) ?_ t.length om_
      ⟨0, by omega, by omega, rfl, rfl, rfl, rfl, rfl, rfl, rfl, rfl, rfl, rfl, rfl, rfl⟩
    rintro d2 k2 x1 x2 x3 x4 x5 x6 x7 x8 x9 x10 L' ⟨j, f1, f2, rfl, rfl, rfl, rfl, rfl, rfl, rfl, rfl, rfl, rfl, rfl, hoj⟩ hk2
    rcases Nat.lt_or_ge j t.length with hj | hj
    · obtain ⟨x, hx, hd⟩ := drop_at hj
      rw [okT_drop hx hd] at hoj
      have hxl := (hf.2 t htm).2 x (List.mem_of_getElem? hx)
      (refine .lssT om_ ?_; refine .condT ?_)
      refine InsR.idx hvt j x rfl hx fun p ve r hve hp => ?_
      refine loadIns hp ?_
      have hbx : allOne (V.agg (insC x ve)).cells = true := ins_one hve.one x
      (refine .newT fun b hb => ?_; (refine .storeN om_ rf_ sd_ bx_ ?_); refine .loadNP mm_ nl_ ?_; refine .fl ?_; refine InsR.len (by repeat (first | assumption | apply InsR.cons)) ?_; (iterate 2 refine .sub om_ om_ ?_); refine instrS_c rf_ hve.cons hxl om_ om_ (fun c => ?_) (fun c => ?_); refine .notT ?_; refine .condF ?_; refine .add om_ om_ ?_; rotate_left; refine .notF ?_; refine .condT ?_; rotate_right)
      · rw [c, Bool.true_and] at hoj
        refine W.drop ?_
        exact hk2 (d2 - 1) _ _ _ _ _ _ _ _ _ _ _ om_ ⟨j + 1, by omega, by omega, rfl, rfl, rfl, rfl, rfl, rfl, rfl, rfl, rfl, by rw [Int.natCast_add]; rfl, rfl, hoj⟩
      · rw [c, Bool.false_and] at hoj
        exact W.drop (W.drop (qb t htm hoj))
    · have hot : okT locs t = true := by rw [hoj, List.drop_of_length_le hj]; rfl
      have hev := evs_le t
      have hany := any_take ht
      have hevp := evP_take ht
      have go : ∀ b' : Bool, ((decide (4 < ps.length) || (ps.take i).any bigT) || bigT t) = b' → ∀ n : Int, n = locs + evP (ps.take i) + evs t → W Q B A S ((b, .cells [.int .i64 locs, v] true 0) :: L) (k (.ptr b 0) (.bool b') (.int .i64 n) v (.int .i64 ps.length) (.int .i64 ((i : Int) + 1))) := fun b' hb n hn =>
        hk (d - 1) _ _ _ _ _ _ _ om_ ⟨i + 1, by omega, by omega, rfl, by rw [hany, ← hb, Bool.or_assoc], by rw [hn, hevp, Int.add_assoc], rfl, rfl, by rw [Int.natCast_add]; rfl, rfl, fun t' ht' => by
          rw [List.take_add_one, ht] at ht'
          rcases List.mem_append.1 ht' with h | h
          · exact hok t' h
          · simp at h; rw [h]; exact hot⟩
      (refine .lssF om_ ?_; refine .condF ?_; refine events_c rf_ (by repeat (first | assumption | apply InsR.cons)) om_ ?_; refine .add om_ om_ ?_)
      generalize hbv : (decide (4 < ps.length) || (ps.take i).any bigT) = bv at go
      cases bv
      · (refine .whenFF ?_; refine .pure ?_; refine .whenFF ?_; refine InsR.len (by repeat (first | assumption | apply InsR.cons)) ?_; refine .whenFF ?_; refine .gtrC (fun c => ?_) (fun c => ?_); refine .pickF ?_; (iterate 3 refine .whenTF ?_); refine .pickT ?_; refine .add om_ om_ ?_; rotate_left; refine .pickF ?_; refine .whenFF ?_; refine .pure ?_; refine .whenFF ?_; refine paths_c rf_ (by repeat (first | assumption | apply InsR.cons)) om_ ?_; refine .whenFF ?_; refine .gtrC (fun c => ?_) (fun c => ?_); refine .pickF ?_; refine .add om_ om_ ?_; rotate_left; refine .pickF ?_; refine .add om_ om_ ?_; rotate_right; rotate_right)
        · exact go true (by unfold bigT; simp; omega) _ rfl
        · exact go true (by unfold bigT; simp; omega) _ rfl
        · exact go false (by unfold bigT; simp; omega) _ rfl
      · ((iterate 3 refine .whenTF ?_); refine .pickT ?_; (iterate 3 refine .whenTF ?_); refine .pickT ?_; refine .add om_ om_ ?_)
        exact go true rfl _ rfl
  · (refine .lssF om_ ?_; refine .condF ?_)
    rw [List.take_of_length_le hi] at hok ⊢
    have qe' := qe (List.all_eq_true.2 hok)
    rw [List.take_of_length_le hi] at hle
    generalize hbv : (decide (4 < ps.length) || ps.any bigT) = bv at qe'
    cases bv
    · (refine .whenFF ?_; refine .pure ?_; refine .whenFF ?_; refine .gtrC (fun c => ?_) (fun c => ?_); refine .pickF ?_; refine .condT ?_; rotate_left; refine .pickF ?_; refine .condF ?_; rotate_right)
      · rw [if_pos (.inr (by assumption))] at qe'; exact W.drop qe'
      · rw [if_neg (by simp; omega)] at qe'; exact W.drop qe'
    · ((iterate 2 refine .whenTF ?_); refine .pickT ?_; refine .condT ?_)
      rw [if_pos (.inl rfl)] at qe'; exact W.drop qe'
end
end Go.Proofs.Ythkipncmnefomaa.XCodeL
