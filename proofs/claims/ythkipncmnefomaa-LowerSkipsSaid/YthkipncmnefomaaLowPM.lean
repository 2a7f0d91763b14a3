/- A text of the verified executor, of contracts, or of this law; joined and trimmed by a program of mine (wip/gen). -/
import Derived.Test.YthkipncmnefomaaLowO
import Derived.Test.YthkipncmnefomaaLowH
set_option linter.unusedVariables false
set_option linter.unusedSimpArgs false
set_option linter.unusedSectionVars false
set_option maxRecDepth 100000
set_option maxHeartbeats 4000000
namespace Go.Proofs.Ythkipncmnefomaa.XCodeL
open Go Go.X
noncomputable section
variable [Nu] {R : Type} {Q : Option R → Prop} {B : Nat} {A : Nat → Prop} {S : Nat} {L : Kn}
def szs (is : List Ins) : List Int := is.map fun x => ((lowOne x).length : Int)
theorem szs_len (is : List Ins) : (szs is).length = is.length := List.length_map ..
theorem szs_take {is : List Ins} {i : Nat} {x : Ins} (h : is[i]? = some x) : szs (is.take (i + 1)) = szs (is.take i) ++ [((lowOne x).length : Int)] := by
  unfold szs; rw [List.take_add_one, h, List.map_append]; rfl
theorem lowOne_le (x : Ins) : (lowOne x).length ≤ 5 := by
  unfold lowOne; repeat' split
  all_goals simp
def Fine (is : List Ins) : Prop := is.length ≤ 16 ∧ ∀ x ∈ is, x.e.length ≤ 12 ∧ 1 ≤ x.k ∧ x.k ≤ 6
theorem ints_one1 (l : List Int) (z : Int) : allOne (intsC l ++ [V.int .i64 z]) = true := by rw [allOne_app, intsC_one]; rfl
theorem sizes_c {K : V → H → Option R} {m : Nat} {vs : List V} {is : List Ins} {v : V} (hvs : vs = [v]) (hv : InsR L v is) (hf : Fine is) (q : ∀ x p, Own B 1 4 x (intsC (szs is)) p → W Q B A S (p ++ L) (K x)) : W Q B A S (L) fun h => J.call (F (m + 8)) (.fn (.func 12) [] []) vs R h K := by
  subst hvs
  refine W.callE (d := d12) (c := c12) (by kernel_rfl) rfl (by rfl) ?_
  unfold c12
  have hf16 := hf.1
  refine W.hd (W.en (InsR.len hv ?_))
  refine W.loop4 (I := fun d x1 x2 x3 x4 L' => ∃ (i : Nat) (pk : Kn), is.length ≤ i + d ∧ i ≤ is.length ∧ Own B 1 4 x1 (intsC (szs (is.take i))) pk ∧ v = x2 ∧ x3 = .int .i64 is.length ∧ x4 = .int .i64 i ∧ L' = pk ++ L) ?_ is.length om_
    ⟨0, [], by omega, by omega, Own.nil, rfl, rfl, rfl, rfl⟩
  rintro d k x1 x2 x3 x4 L' ⟨i, pk, e1, e2, hown, rfl, rfl, rfl, rfl⟩ hk
  rcases Nat.lt_or_ge i is.length with hi | hi
  · obtain ⟨x, hx, _⟩ := drop_at hi
    have hxf := hf.2 x (List.mem_of_getElem? hx)
    have hle := lowOne_le x
    (refine .lssT om_ ?_; refine .condT ?_)
    refine InsR.idx (hv.app pk) i x rfl hx fun p ve r hve hp => ?_
    have hbx : allOne (V.agg (insC x ve)).cells = true := ins_one hve.one x
    ((refine .loadNA rc_ sd_ ?_); refine .newT fun b hb => ?_; (refine .storeN om_ rf_ sd_ bx_ ?_); refine .loadNP mm_ nl_ ?_)
    refine one_c rf_ (by repeat (first | assumption | apply Rd.cons)) (fun q hq => hq) hxf.1 hxf.2 fun b c y' N cells hb hc hN hpc => ?_
    refine W.lenS (W.drop (W.dropN N (W.drop ?_)))
    have hpl : (intsC (szs (is.take i))).length = i * 1 := by rw [intsC_len, szs_len, List.length_take]; omega
    refine W.push (v := .int .i64 ((lowOne x).length : Int)) hown (by decide) hpl rfl rfl rfl (ints_one1 _ _) om_ fun x' p' ho => ?_
    refine W.add om_ om_ ?_
    exact hk (d - 1) _ _ _ _ _ om_ ⟨i + 1, p', by omega, by omega, by rw [szs_take hx]; unfold intsC; rw [List.map_append]; exact ho, rfl, rfl, by rw [Int.natCast_add]; rfl, rfl⟩
  · rw [List.take_of_length_le hi] at hown
    (refine .lssF om_ ?_; refine .condF ?_)
    exact q _ _ hown
end
end Go.Proofs.Ythkipncmnefomaa.XCodeL
set_option maxRecDepth 100000
set_option maxHeartbeats 4000000
namespace Go.Proofs.Ythkipncmnefomaa.XCodeL
open Go Go.X
noncomputable section
variable [Nu] {R : Type} {Q : Option R → Prop} {B : Nat} {A : Nat → Prop} {S : Nat} {L : Kn}
theorem InsCells.sub {L L' : Kn} (hs : ∀ q ∈ L, q ∈ L') : ∀ {is : List Ins} {l : List V}, InsCells L is l → InsCells L' is l
  | [], l, h => h
  | i :: is, l, ⟨v, r, h1, h2, h3⟩ => ⟨v, r, h1, h2.sub hs, InsCells.sub hs h3⟩
theorem InsR.sub {L L' : Kn} {v : V} {is : List Ins} (hs : ∀ q ∈ L, q ∈ L') (h : InsR L v is) : InsR L' v is := by
  obtain ⟨l, h1, h2⟩ := h; exact ⟨l, h1.sub hs, h2.sub hs⟩
theorem ThrCells.sub {L L' : Kn} (hs : ∀ q ∈ L, q ∈ L') : ∀ {is : List (List Ins)} {l : List V}, ThrCells L is l → ThrCells L' is l
  | [], l, h => h
  | i :: is, l, ⟨v, r, h1, h2, h3⟩ => ⟨v, r, h1, h2.sub hs, ThrCells.sub hs h3⟩
theorem ThrR.sub {L L' : Kn} {v : V} {ps : List (List Ins)} (hs : ∀ q ∈ L, q ∈ L') (h : ThrR L v ps) : ThrR L' v ps := by
  obtain ⟨l, h1, h2⟩ := h; exact ⟨l, h1.sub hs, h2.sub hs⟩
theorem InsR.idxM {M : Kn} {v : V} {is : List Ins} {a : Int} {K : V → H → Option R} (h : InsR M v is) (hs : ∀ q ∈ M, q ∈ L) (i : Nat) (x : Ins) (ha : a = (i : Int)) (hx : is[i]? = some x) (q : ∀ p ve r, Tk M ve x.e → Pl L p (insC x ve ++ r) → W Q B A S L (K p)) : W Q B A S L fun h => J.idxL 7 v (.int .i64 a) R h K := by
  obtain ⟨l, h1, h2⟩ := h
  refine W.idxM h1 i ha (List.getElem?_eq_some_iff.1 hx).1 fun p hp => ?_
  obtain ⟨ve, r, h3, h4⟩ := InsCells.at' i x h2 hx
  exact q p ve r h4 (h3 ▸ hp.sub hs)
theorem ThrR.idxM {M : Kn} {v : V} {ps : List (List Ins)} {a : Int} {K : V → H → Option R} (h : ThrR M v ps) (hs : ∀ q ∈ M, q ∈ L) (i : Nat) (x : List Ins) (ha : a = (i : Int)) (hx : ps[i]? = some x) (q : ∀ p vt r, InsR M vt x → Pl L p (vt :: r) → W Q B A S L (K p)) : W Q B A S L fun h => J.idxL 1 v (.int .i64 a) R h K := by
  obtain ⟨l, h1, h2⟩ := h
  refine W.idxM h1 i ha (List.getElem?_eq_some_iff.1 hx).1 fun p hp => ?_
  obtain ⟨ve, r, h3, h4⟩ := ThrCells.at' i x h2 hx
  exact q p ve r h4 (h3 ▸ hp.sub hs)
theorem PR.idxM {M : Kn} {v : V} {is : List PIn} {a : Int} {K : V → H → Option R} (h : PR M v is) (hs : ∀ q ∈ M, q ∈ L) (i : Nat) (x : PIn) (ha : a = (i : Int)) (hx : is[i]? = some x) (q : ∀ p ve r, Tk M ve x.e → Pl L p (pinC x ve ++ r) → W Q B A S L (K p)) : W Q B A S L fun h => J.idxL 5 v (.int .i64 a) R h K := by
  obtain ⟨l, h1, h2⟩ := h
  refine W.idxM h1 i ha (List.getElem?_eq_some_iff.1 hx).1 fun p hp => ?_
  obtain ⟨ve, r, h3, h4⟩ := PC.at' i x h2 hx
  exact q p ve r h4 (h3 ▸ hp.sub hs)
theorem loadPin {p : V} {x : PIn} {ve : V} {r : List V} {K : V → H → Option R} (hp : Pl L p (pinC x ve ++ r)) (q : W Q B A S L (K (.agg (pinC x ve)))) : W Q B A S L fun h => J.loadN 5 p R h K := W.loadNA hp (by simp) q
theorem pin_one {v : V} (h : v.one = true) (x : PIn) : allOne (pinC x v) = true := by
  show (Bool.rec false true v.one : Bool) = true
  rw [h]
def PT (L : Kn) : List (List PIn) → List V → Prop
  | [], l => l = []
  | t :: ts, l => ∃ v r, l = v :: r ∧ PR L v t ∧ PT L ts r
def PThr (L : Kn) (v : V) (ps : List (List PIn)) : Prop := ∃ l, Rd L 1 v ps.length l ∧ PT L ps l
theorem PR.sub {L L' : Kn} {v : V} {is : List PIn} (hs : ∀ q ∈ L, q ∈ L') (h : PR L v is) : PR L' v is := by
  obtain ⟨l, h1, h2⟩ := h; exact ⟨l, h1.sub hs, h2.sub hs⟩
theorem PT.sub {L L' : Kn} (hs : ∀ q ∈ L, q ∈ L') : ∀ {is : List (List PIn)} {l : List V}, PT L is l → PT L' is l
  | [], l, h => h
  | i :: is, l, ⟨v, r, h1, h2, h3⟩ => ⟨v, r, h1, h2.sub hs, PT.sub hs h3⟩
theorem PT.len {L : Kn} : ∀ {ps : List (List PIn)} {l : List V}, PT L ps l → l.length = ps.length * 1
  | [], l, h => by rw [h]; rfl
  | p :: ps, l, ⟨v, r, h1, h2, h3⟩ => by rw [h1, List.length_cons, PT.len h3, List.length_cons]; omega
theorem PT.one {L : Kn} : ∀ {ps : List (List PIn)} {l : List V}, PT L ps l → allOne l = true
  | [], l, h => by rw [h]; rfl
  | p :: ps, l, ⟨v, r, h1, ⟨_, h2, _⟩, h3⟩ => by rw [h1]; exact allOne_c h2.one (PT.one h3)
theorem PT.snoc {L : Kn} {t : List PIn} {v : V} (h : PR L v t) : ∀ {ps : List (List PIn)} {l : List V}, PT L ps l → PT L (ps ++ [t]) (l ++ [v])
  | [], l, e => by subst e; exact ⟨v, [], rfl, h, rfl⟩
  | p :: ps, l, ⟨u, r, h1, h2, h3⟩ => ⟨u, r ++ [v], by rw [h1]; rfl, h2, PT.snoc h h3⟩
theorem PThr.sub {L L' : Kn} {v : V} {ps : List (List PIn)} (hs : ∀ q ∈ L, q ∈ L') (h : PThr L v ps) : PThr L' v ps := by
  obtain ⟨l, h1, h2⟩ := h; exact ⟨l, h1.sub hs, h2.sub hs⟩
def lowI (x : Ins) (r : List Ins) : List PIn := if x.k = 6 then [⟨9, 0, 0, x.e, (szs (r.take x.n.toNat)).sum⟩] else lowOne x
def lowT : List Ins → List PIn
  | [] => []
  | x :: r => lowI x r ++ lowT r
theorem lowT_drop {t : List Ins} {j : Nat} {x : Ins} (hx : t[j]? = some x) : lowT (t.drop j) = lowI x (t.drop (j + 1)) ++ lowT (t.drop (j + 1)) := by
  rw [List.drop_eq_getElem_cons (List.getElem?_eq_some_iff.1 hx).1, (List.getElem?_eq_some_iff.1 hx).2]; rfl
theorem insOK_fine {x : Ins} {locs left : Int} (h : insOK x locs left = true) : 1 ≤ x.k ∧ x.k ≤ 6 ∧ (x.k = 6 → 0 ≤ x.n ∧ x.n ≤ left) := by
  unfold insOK at h
  repeat' split at h
  all_goals (first | (exact absurd h Bool.false_ne_true) | (simp only [decide_eq_true_eq] at h; omega))
theorem okT_at {locs : Int} : ∀ {t : List Ins} {j : Nat} {x : Ins}, okT locs t = true → t[j]? = some x → insOK x locs ((t.length : Int) - 1 - j) = true
  | [], j, x, h, e => nomatch e
  | y :: t, 0, x, h, e => by
    simp only [List.getElem?_cons_zero, Option.some.injEq] at e
    subst e
    have h1 : (insOK y locs t.length && okT locs t) = true := h
    rw [Bool.and_eq_true] at h1
    rw [List.length_cons, show ((t.length + 1 : Nat) : Int) - 1 - (0 : Nat) = t.length by omega]; exact h1.1
  | y :: t, j + 1, x, h, e => by
    have h1 : (insOK y locs t.length && okT locs t) = true := h
    rw [Bool.and_eq_true] at h1
    have := okT_at h1.2 (x := x) (j := j) e
    rw [List.length_cons, show ((t.length + 1 : Nat) : Int) - 1 - ((j + 1 : Nat) : Int) = (t.length : Int) - 1 - j by omega]; exact this
theorem check_ok {locs : Int} {ps : List (List Ins)} (h : checkP locs ps = 0) : ∀ t ∈ ps, okT locs t = true := by
  unfold checkP at h
  by_cases c1 : locs < 1 ∨ 4 < locs ∨ ps.length = 0
  · rw [if_pos c1] at h; exact absurd h (by decide)
  rw [if_neg c1] at h
  by_cases c2 : ps.all (okT locs) = false
  · rw [if_pos c2] at h; exact absurd h (by decide)
  exact List.all_eq_true.1 (by simpa using c2)
theorem lowI_len (x : Ins) (r : List Ins) : (lowI x r).length ≤ 5 := by
  unfold lowI; split
  · simp
  · exact lowOne_le x
theorem lowT_len : ∀ t : List Ins, (lowT t).length ≤ 5 * t.length
  | [] => by simp [lowT]
  | x :: r => by
    have h1 := lowI_len x r
    have h2 := lowT_len r
    show (lowI x r ++ lowT r).length ≤ _
    rw [List.length_append, List.length_cons]; omega
def allE : List PIn → Bool
  | [] => true
  | z :: l => decide (z.e.length ≤ 14) && allE l
theorem allE_mem : ∀ {l : List PIn}, allE l = true → ∀ z ∈ l, z.e.length ≤ 14
  | [], _, z, hz => nomatch hz
  | y :: l, h, z, hz => by
    have h' : (decide (y.e.length ≤ 14) && allE l) = true := h
    rw [Bool.and_eq_true] at h'
    rcases List.mem_cons.1 hz with rfl | hz
    · exact of_decide_eq_true h'.1
    · exact allE_mem h'.2 z hz
theorem lowOne_e {x : Ins} (h : x.e.length ≤ 12) : ∀ z ∈ lowOne x, z.e.length ≤ 14 := by
  apply allE_mem
  unfold lowOne
  repeat' split
  all_goals simp [allE]
  all_goals omega
theorem lowT_e : ∀ {t : List Ins}, (∀ x ∈ t, x.e.length ≤ 12) → ∀ z ∈ lowT t, z.e.length ≤ 14
  | [], _, z, hz => nomatch hz
  | x :: r, h, z, hz => by
    have hz' : z ∈ lowI x r ++ lowT r := hz
    rcases List.mem_append.1 hz' with hz | hz
    · have hx := h x List.mem_cons_self
      unfold lowI at hz
      split at hz
      · simp at hz; subst hz; simp; omega
      · exact lowOne_e hx z hz
    · exact lowT_e (fun x hx => h x (List.mem_cons_of_mem _ hx)) z hz
theorem szs_sum (is : List Ins) : 0 ≤ (szs is).sum ∧ (szs is).sum ≤ 5 * is.length := by
  induction is with
  | nil => exact ⟨Int.le_refl _, Int.le_refl _⟩
  | cons x is ih =>
    have h1 := lowOne_le x
    have h2 : (szs (x :: is)).sum = ((lowOne x).length : Int) + (szs is).sum := by unfold szs; rw [List.map_cons, List.sum_cons]
    rw [h2, List.length_cons]; omega
end
end Go.Proofs.Ythkipncmnefomaa.XCodeL
