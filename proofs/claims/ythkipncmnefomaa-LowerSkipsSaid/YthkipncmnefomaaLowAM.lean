/- A text of the verified executor, of contracts, or of this law; joined and trimmed by a program of mine (wip/gen). -/
import Derived.Test.YthkipncmnefomaaXCodeL
import Derived.Test.YthkipncmnefomaaXSep3M
set_option linter.unusedVariables false
set_option linter.unusedSimpArgs false
set_option linter.unusedSectionVars false
set_option maxRecDepth 100000
set_option maxHeartbeats 4000000
namespace Go.Proofs.Ythkipncmnefomaa.XCodeL
open Go Go.X
noncomputable section
variable [Nu] {R : Type} {Q : Option R → Prop} {B : Nat} {A : Nat → Prop} {S : Nat} {L : Kn}
abbrev F (m : Nat) : CallF := callD (rowsOrc [⟨6, [], .bool true⟩] [] []) code m
def tokCells (ts : List (Int × Int)) : List V := ts.flatMap fun p => [V.int .i64 p.1, V.int .i64 p.2]
theorem tokCells_len : ∀ ts : List (Int × Int), (tokCells ts).length = ts.length * 2
  | [] => rfl
  | p :: ts => by show ([V.int .i64 p.1, V.int .i64 p.2] ++ tokCells ts).length = _; rw [List.length_append, tokCells_len ts]; simp; omega
theorem tokCells_at : ∀ (ts : List (Int × Int)) (i : Nat) (p : Int × Int), ts[i]? = some p → (tokCells ts).drop (i * 2) = .int .i64 p.1 :: .int .i64 p.2 :: tokCells (ts.drop (i + 1))
  | [], i, p, h => nomatch h
  | x :: ts, 0, p, h => by
    simp only [List.getElem?_cons_zero, Option.some.injEq] at h
    subst h; rfl
  | x :: ts, i + 1, p, h => by
    rw [show (i + 1) * 2 = i * 2 + 1 + 1 by omega]
    exact tokCells_at ts i p h
abbrev Tk (L : Kn) (v : V) (ts : List (Int × Int)) : Prop := Rd L 2 v ts.length (tokCells ts)
theorem drop_at {α : Type} {l : List α} {i : Nat} (h : i < l.length) : ∃ x, l[i]? = some x ∧ l.drop i = x :: l.drop (i + 1) := ⟨l[i], List.getElem?_eq_getElem h, List.drop_eq_getElem_cons h⟩
def mayT (k v : Int) : Bool := if k = 1 then decide (-2147483648 ≤ v) && decide (v < 2147483648) else if k = 2 then decide (0 ≤ v) && decide (v < 8) else decide (k = 3) && decide (1 ≤ v) && decide (v ≤ 6)
def checkStep (t : Int × Int) (n : Int) : Option Int := if mayT t.1 t.2 then (if t.1 = 3 then (if n < 2 then none else some (n - 1)) else some (n + 1)) else none
def checkG : List (Int × Int) → Int → Option Int
  | [], n => some n
  | t :: ts, n => (checkStep t n).bind (checkG ts)
def checkE (ts : List (Int × Int)) : Bool := match checkG ts 0 with
  | some n => decide (n = 1) && decide (ts.length ≤ 9)
  | none => false
theorem may_c {K : V → H → Option R} {m : Nat} {vs : List V} {k v : Int} (hvs : vs = [.agg [.int .i64 k, .int .i64 v]])  (q : W Q B A S L (K (.bool (mayT k v)))) : W Q B A S (L) fun h => J.call (F (m + 1)) (.fn (.func 53) [] []) vs R h K := by
  subst hvs
  refine W.callE (d := d53) (c := c53) (by kernel_rfl) rfl (by rfl) ?_
  unfold c53
  (refine .hd ?_; refine .en ?_; refine .box bx_ fun b hb => ?_; refine .fl ?_)
  have q' : ∀ x b, mayT k v = b → W Q B A S (x :: L) (K (.bool b)) := fun x b e => e ▸ W.drop q
  (refine .eqlC (fun c => ?_) (fun c => ?_); refine .condT ?_; refine .fl ?_; refine .geqC (fun c => ?_) (fun c => ?_); refine .whenTT ?_; refine .fldP ?_; refine .whenTT ?_; refine .load1P mm_ _ rf_ ?_; refine .whenTT ?_; refine .lssC (fun c => ?_) (fun c => ?_); refine .pickT ?_; rotate_left; refine .pickT ?_; rotate_right; rotate_left 2; refine .wp3 ?_; rotate_right 2; rotate_left 3; refine .condF ?_; refine .eqlC (fun c => ?_) (fun c => ?_); refine .condT ?_; refine .fl ?_; refine .geqC (fun c => ?_) (fun c => ?_); refine .whenTT ?_; refine .fldP ?_; refine .whenTT ?_; refine .load1P mm_ _ rf_ ?_; refine .whenTT ?_; refine .lssC (fun c => ?_) (fun c => ?_); refine .pickT ?_; rotate_left; refine .pickT ?_; rotate_right; rotate_left 2; refine .wp3 ?_; rotate_right 2; rotate_left 3; refine .condF ?_; refine .fl ?_; refine .eqlC (fun c => ?_) (fun c => ?_); refine .whenTT ?_; refine .fldP ?_; refine .whenTT ?_; refine .load1P mm_ _ rf_ ?_; refine .whenTT ?_; refine .geqC (fun c => ?_) (fun c => ?_); refine .pickT ?_; refine .whenTT ?_; refine .fldP ?_; refine .whenTT ?_; refine .load1P mm_ _ rf_ ?_; refine .whenTT ?_; refine .leqC (fun c => ?_) (fun c => ?_); refine .pickT ?_; rotate_left; refine .pickT ?_; rotate_right; rotate_left 2; refine .pickT ?_; refine .wp3 ?_; rotate_right 2; rotate_left 3; refine .wp3 ?_; refine .wp3 ?_; rotate_right 3; rotate_right 3; rotate_right 3)
  all_goals exact q' _ _ (by unfold mayT; ((repeat' split) <;> (first | omega | (simp; done) | (simp; omega) | (simp_all; done) | (simp_all; omega))))
theorem check_c {K : V → H → Option R} {m : Nat} {vs : List V} {ts : List (Int × Int)} {v : V} (hvs : vs = [v]) (hv : Tk L v ts) (hl : ts.length < 100000) (q : W Q B A S L (K (.bool (checkE ts)))) : W Q B A S (L) fun h => J.call (F (m + 2)) (.fn (.func 45) [] []) vs R h K := by
  subst hvs
  refine W.callE (d := d45) (c := c45) (by kernel_rfl) rfl (by rfl) ?_
  unfold c45
  (refine .hd ?_; refine .en ?_; refine .lenR rc_ ?_)
  refine W.loop5 (I := fun d x1 x2 x3 x4 x5 L' => ∃ (i : Nat) (n : Int), i + d = ts.length ∧ v = x1 ∧ x2 = .int .i64 n ∧ v = x3 ∧ x4 = .int .i64 ts.length ∧ x5 = .int .i64 i ∧ L = L' ∧ checkG ts 0 = checkG (ts.drop i) n ∧ 0 ≤ n ∧ n ≤ i) ?_ ts.length om_
    ⟨0, 0, Nat.zero_add _, rfl, rfl, rfl, rfl, rfl, rfl, rfl, by omega, by omega⟩
  rintro d k x1 x2 x3 x4 x5 L' ⟨i, n, e1, rfl, rfl, rfl, rfl, rfl, rfl, hg, hn0, hni⟩ hk
  rcases Nat.lt_or_ge i ts.length with hi | hi
  · obtain ⟨t, ht, hd⟩ := drop_at hi
    rw [hd, checkG] at hg
    (refine .lssT om_ ?_; refine .condT ?_)
    refine W.idxR hv i rfl hi fun p hp => ?_
    rw [tokCells_at ts i t ht] at hp
    have hbad : checkStep t n = none → W Q B A S L (K (.bool false)) := fun h => by
      have e : checkE ts = false := by unfold checkE; rw [hg, h]; rfl
      rw [e] at q; exact q
    have hgo : ∀ n', checkStep t n = some n' → checkG ts 0 = checkG (ts.drop (i + 1)) n' := fun n' h => by rw [hg, h]; rfl
    ((refine .loadNA rc_ sd_ ?_); refine .newT fun b hb => ?_; (refine .storeN om_ rf_ sd_ bx_ ?_); refine .loadNP mm_ nl_ ?_; refine may_c rf_ ?_)
    have hst : mayT t.1 t.2 = true → checkStep t n = (if t.1 = 3 then (if n < 2 then none else some (n - 1)) else some (n + 1)) := fun h => by unfold checkStep; rw [h, if_pos rfl]
    cases hm : mayT t.1 t.2
    · (refine .notF ?_; (iterate 4 refine .whenTF ?_); (iterate 2 refine .whenU ?_); refine .whenTF ?_; refine .pickT ?_; refine .condT ?_)
      exact W.drop (hbad (by unfold checkStep; rw [hm]; rfl))
    · have hst := hst hm
      (refine .notT ?_; refine .whenFF ?_; refine .fldP ?_; refine .whenFF ?_; refine .load1P mm_ _ rf_ ?_; refine .whenFF ?_; refine .eqlC (fun c => ?_) (fun c => ?_); refine .whenFF ?_; refine .pure ?_; refine .whenTT ?_; refine .pure ?_; refine .whenTT ?_; refine .lssC (fun c => ?_) (fun c => ?_); refine .whenFF ?_; refine .pickT ?_; refine .pickF ?_; refine .condT ?_; rotate_left; refine .whenFF ?_; refine .pickT ?_; refine .pickF ?_; refine .condF ?_; refine .fl ?_; refine .ejT ?_; refine .sub om_ om_ ?_; refine .add om_ om_ ?_; rotate_right; rotate_left 2; refine .whenFF ?_; refine .pure ?_; (iterate 2 refine .whenFT ?_); refine .whenFF ?_; (iterate 2 refine .pickF ?_); refine .condF ?_; refine .fl ?_; refine .ejF ?_; (iterate 2 refine .add om_ om_ ?_); rotate_right 2)
      all_goals (first | exact W.drop (hbad (by rw [hst]; ((repeat' split) <;> (first | omega | rfl | (simp; done) | (simp; omega))))) | (refine W.drop (hk (d - 1) _ _ _ _ _ _ om_ ⟨i + 1, _, by omega, rfl, rfl, rfl, rfl, by rw [Int.natCast_add]; rfl, rfl, hgo _ (by rw [hst]; ((repeat' split) <;> (first | omega | rfl | (simp; done) | (simp; omega)))), by omega, by omega⟩)))
  · have hie : i = ts.length := by omega
    rw [hie, List.drop_length, checkG] at hg
    have he : checkE ts = (decide (n = 1) && decide (ts.length ≤ 9)) := by unfold checkE; rw [hg]
    rw [he] at q
    have q' : ∀ b, (decide (n = 1) && decide (ts.length ≤ 9)) = b → W Q B A S L (K (.bool b)) := fun b e => e ▸ q
    (refine .lssF om_ ?_; refine .condF ?_; refine .eqlC (fun c => ?_) (fun c => ?_); refine .whenTT ?_; refine .pure ?_; refine .whenTT ?_; refine .lenR rc_ ?_; refine .whenTT ?_; refine .leqC (fun c => ?_) (fun c => ?_); refine .pickT ?_; rotate_left; refine .pickT ?_; rotate_right; rotate_left 2; refine .wp3 ?_; rotate_right 2)
    all_goals exact q' _ (by ((repeat' split) <;> (first | omega | (simp; done) | (simp; omega) | (simp_all; done) | (simp_all; omega))))
end
end Go.Proofs.Ythkipncmnefomaa.XCodeL
set_option maxRecDepth 100000
set_option maxHeartbeats 4000000
namespace Go.Proofs.Ythkipncmnefomaa.XCodeL
open Go Go.X
noncomputable section
variable [Nu] {R : Type} {Q : Option R → Prop} {B : Nat} {A : Nat → Prop} {S : Nat} {L : Kn}
def intsC (l : List Int) : List V := l.map fun x => V.int .i64 x
theorem intsC_len (l : List Int) : (intsC l).length = l.length := List.length_map ..
theorem intsC_at {l : List Int} {i : Nat} {x : Int} (h : l[i]? = some x) : (intsC l)[0 + i * 1]? = some (.int .i64 x) := by unfold intsC; rw [Nat.zero_add, Nat.mul_one, List.getElem?_map, h]; rfl
theorem intsC_set (l : List Int) (i : Nat) (x : Int) : (intsC l).set (0 + i * 1) (.int .i64 x) = intsC (l.set i x) := by unfold intsC; rw [Nat.zero_add, Nat.mul_one, List.map_set]
theorem intsC_one : ∀ l : List Int, allOne (intsC l) = true
  | [] => rfl
  | x :: l => intsC_one l
abbrev Iv (L : Kn) (v : V) (l : List Int) : Prop := Rd L 1 v l.length (intsC l)
theorem swap_perm {l : List Int} {i : Nat} {x y : Int} (hx : l[i]? = some x) (hy : l[i + 1]? = some y) : ((l.set (i + 1) x).set i y).Perm l := by
  induction l generalizing i with
  | nil => exact nomatch hx
  | cons a l ih =>
    cases i with
    | zero =>
      simp only [List.getElem?_cons_zero, Option.some.injEq] at hx
      subst hx
      cases l with
      | nil => exact nomatch hy
      | cons c l =>
        simp only [List.getElem?_cons_succ, List.getElem?_cons_zero, Option.some.injEq] at hy
        subst hy
        exact List.Perm.swap _ _ _
    | succ i => exact (ih (i := i) hx hy).cons a
theorem isnan_c {K : V → H → Option R} {m : Nat} {vs : List V} {a : Int} (hvs : vs = [.int .i64 a])  (q : W Q B A S L (K (.bool false))) : W Q B A S (L) fun h => J.call (F (m + 1)) (.fn (.func 74) [] []) vs R h K := by
  subst hvs
  refine W.callE (d := d74) (c := c74) (by kernel_rfl) rfl (by rfl) ?_
  unfold c74
  (refine .hd ?_; refine .en ?_; refine .neqF om_ ?_)
  exact q
theorem less_c {K : V → H → Option R} {m : Nat} {vs : List V} {a c : Int} (hvs : vs = [.int .i64 a, .int .i64 c])  (q : W Q B A S L (K (.bool (decide (a < c))))) : W Q B A S (L) fun h => J.call (F (m + 2)) (.fn (.func 64) [] []) vs R h K := by
  subst hvs
  refine W.callE (d := d64) (c := c64) (by kernel_rfl) rfl (by rfl) ?_
  unfold c64
  (refine .hd ?_; refine .hd ?_; refine .en ?_; refine isnan_c rf_ ?_; refine .wp3 ?_; refine .whenFF ?_; refine .pure ?_; refine .whenFF ?_; refine .pure ?_; refine .whenFF ?_; refine .lssC (fun c => ?_) (fun c => ?_); refine .pickF ?_; rotate_left; refine .pickF ?_; rotate_right)
  · rw [decide_eq_true (by assumption)] at q; exact q
  · rw [decide_eq_false om_] at q; exact q
theorem isort_c {K : V → H → Option R} {m : Nat} {vs : List V} {b y n : Nat} {c : Option Nat} {l : List Int} (hvs : vs = [.slice b 0 n 1 c, .int .i64 0, .int .i64 n]) (hl : l.length = n) (hn : n < 100000) (hB : B ≤ b) (q : ∀ l', l'.Perm l → W Q B A S ((b, .cells (intsC l') true y) :: L) (K (.tup []))) : W Q B A S ((b, .cells (intsC l) true y) :: L) fun h => J.call (F (m + 3)) (.fn (.func 58) [] []) vs R h K := by
  subst hvs
  refine W.callE (d := d58) (c := c58) (by kernel_rfl) rfl (by rfl) ?_
  unfold c58
  ((iterate 3 refine .hd ?_); refine .en ?_; refine .add om_ om_ ?_)
  refine W.loop4 (I := fun d x1 x2 x3 x4 L' => ∃ (i : Nat) (l' : List Int), l'.Perm l ∧ n ≤ i + d ∧ 1 ≤ i ∧ x1 = .slice b 0 n 1 c ∧ x2 = .int .i64 0 ∧ x3 = .int .i64 n ∧ x4 = .int .i64 i ∧ L' = (b, .cells (intsC l') true y) :: L) ?_ n om_
    ⟨1, l, List.Perm.refl _, by omega, Nat.le_refl _, rfl, rfl, rfl, rfl, rfl⟩
  rintro d k x1 x2 x3 x4 L' ⟨i, l1, hp1, hd, hi1, rfl, rfl, rfl, rfl, rfl⟩ hk
  rcases Nat.lt_or_ge i n with hi | hi
  · (refine .lssT om_ ?_; refine .condT ?_)
    refine W.loop5 (I := fun d x1 x2 x3 x4 x5 L' => ∃ (j : Nat) (l' : List Int), l'.Perm l ∧ d = j ∧ j ≤ i ∧ x1 = .slice b 0 n 1 c ∧ x2 = .int .i64 0 ∧ x3 = .int .i64 n ∧ x4 = .int .i64 i ∧ x5 = .int .i64 j ∧ L' = (b, .cells (intsC l') true y) :: L) ?_ i om_
      ⟨i, l1, hp1, rfl, Nat.le_refl _, rfl, rfl, rfl, rfl, rfl, rfl⟩
    rintro d2 k2 x1 x2 x3 x4 x5 L' ⟨j, l2, hp2, rfl, hj, rfl, rfl, rfl, rfl, rfl, rfl⟩ hk2
    have hlen : l2.length = n := hp2.length_eq.trans hl
    have out : W Q B A S ((b, .cells (intsC l2) true y) :: L) (k (.slice b 0 n 1 c) (.int .i64 0) (.int .i64 n) (.int .i64 ((i : Int) + 1))) :=
      hk (d - 1) _ _ _ _ _ om_ ⟨i + 1, l2, hp2, by omega, by omega, rfl, rfl, rfl, by rw [Int.natCast_add]; rfl, rfl⟩
    rcases Nat.eq_zero_or_pos d2 with h0 | h0
    · (refine .nextOf fun n0 hn0 hids => ?_; refine .gtrF om_ ?_; (iterate 3 refine .whenFT ?_); (refine .lwhenFT fun B1 hi1 hS1 ro1 hh1 => ?_; dsimp only); (iterate 4 refine .whenFT ?_); (refine .lwhenFT fun B1 hi1 hS1 ro1 hh1 => ?_; dsimp only); (refine .lwhenFT fun B1 hi1 hS1 ro1 hh1 => ?_; dsimp only); refine .pickF ?_; refine .ok S ?_; refine .condF ?_; refine .add om_ om_ ?_)
      exact out
    · obtain ⟨j, rfl⟩ : ∃ j, d2 = j + 1 := ⟨d2 - 1, by omega⟩
      obtain ⟨x, hx⟩ : ∃ x, l2[j]? = some x := ⟨_, List.getElem?_eq_getElem om_⟩
      obtain ⟨z, hz⟩ : ∃ x, l2[j + 1]? = some x := ⟨_, List.getElem?_eq_getElem om_⟩
      have hs : ∀ r, r ∈ ([(b, Blk.cells (intsC l2) true y)] : Kn) → r ∈ ((b, Blk.cells (intsC l2) true y) :: L) := fun r hr => List.mem_cons.2 (.inl (List.mem_singleton.1 hr))
      (refine .nextOf fun n0 hn0 hids => ?_; refine .gtrT om_ ?_; refine .whenTT ?_; refine .pure ?_; refine .whenTT ?_; refine .pure ?_; refine .whenTT ?_; refine .idxS (j + 1) om_ om_ ?_; refine .lwhenTT ?_; refine .logged fun B1 hB1 hS1 K1 hK0 hK1 => ?_; refine .load1P List.mem_cons_self _ (intsC_at hz) ?_; (refine hK0 _ (fun lgs1 hi1 ro1 hh1 => ?_); clear hK0 hK1; dsimp only); refine .whenTT ?_; refine .pure ?_; refine .whenTT ?_; refine .pure ?_; refine .whenTT ?_; refine .sub om_ om_ ?_; refine .whenTT ?_; refine .idxS j om_ om_ ?_; refine .lwhenTT ?_; refine .logged fun B1 hB1 hS1 K1 hK0 hK1 => ?_; refine .load1P List.mem_cons_self _ (intsC_at hx) ?_; (refine hK0 _ (fun lgs1 hi1 ro1 hh1 => ?_); clear hK0 hK1; dsimp only); refine .lwhenTT ?_; refine .logged fun B1 hB1 hS1 K1 hK0 hK1 => ?_; refine less_c rf_ ?_; (refine hK0 _ (fun lgs1 hi1 ro1 hh1 => ?_); clear hK0 hK1; dsimp only); refine .pickT ?_; refine .ok S ?_)
      refine W.condB (fun c => ?_) (fun c => ?_)
      · (refine .nextOf fun n0 hn0 hids => ?_; (iterate 2 refine .sub om_ om_ ?_); refine .idxS j om_ om_ ?_; refine .logged fun B1 hB1 hS1 K1 hK0 hK1 => ?_; refine .load1P List.mem_cons_self _ (intsC_at hx) ?_; (refine hK0 _ (fun lgs1 hi1 ro1 hh1 => ?_); clear hK0 hK1; dsimp only); refine .idxS (j + 1) om_ om_ ?_; refine .logged fun B1 hB1 hS1 K1 hK0 hK1 => ?_; refine .load1P List.mem_cons_self _ (intsC_at hz) ?_; (refine hK0 _ (fun lgs1 hi1 ro1 hh1 => ?_); clear hK0 hK1; dsimp only); refine .idxS (j + 1) om_ om_ ?_; (refine .lstore1 hB (by simp [intsC_len]; omega) rf_ fun lgs1 hi1 hh1 => ?_; dsimp only); refine .idxS j om_ om_ ?_; (refine .lstore1 hB (by simp [intsC_len]; omega) rf_ fun lgs1 hi1 hh1 => ?_; dsimp only); refine .ok S ?_; refine .sub om_ om_ ?_)
        rw [intsC_set, intsC_set]
        exact hk2 j _ _ _ _ _ _ om_ ⟨j, _, (swap_perm hx hz).trans hp2, rfl, by omega, rfl, rfl, rfl, rfl, by rw [Int.natCast_add]; simp, rfl⟩
      · (refine .add om_ om_ ?_)
        exact out
  · (refine .lssF om_ ?_; refine .condF ?_)
    exact q _ hp1
theorem quicksort_c {K : V → H → Option R} {m : Nat} {vs : List V} {b y n : Nat} {c : Option Nat} {l : List Int} {lim : Int} (hvs : vs = [.slice b 0 n 1 c, .int .i64 0, .int .i64 n, .int .i64 lim]) (hl : l.length = n) (hn : n ≤ 12) (hB : B ≤ b) (q : ∀ l', l'.Perm l → W Q B A S ((b, .cells (intsC l') true y) :: L) (K (.tup []))) : W Q B A S ((b, .cells (intsC l) true y) :: L) fun h => J.call (F (m + 4)) (.fn (.func 56) [] []) vs R h K := by
  subst hvs
  refine W.callE (d := d56) (c := c56) (by kernel_rfl) rfl (by rfl) ?_
  unfold c56
  refine W.hd (W.hd (W.hd (W.hd (W.en ?_))))
  refine W.loop6 (I := fun d x1 x2 x3 x4 x5 x6 L' => x1 = .slice b 0 n 1 c ∧ x2 = .int .i64 0 ∧ x3 = .int .i64 n ∧ L' = (b, .cells (intsC l) true y) :: L) ?_ 0 om_ ⟨rfl, rfl, rfl, rfl⟩
  rintro d k x1 x2 x3 x4 x5 x6 L' ⟨rfl, rfl, rfl, rfl⟩ hk
  (refine .sub om_ om_ ?_; refine .leqT om_ ?_; refine .condT ?_)
  with_reducible refine isort_c rf_ hl om_ hB fun l' hp => ?_
  exact q l' hp
end
end Go.Proofs.Ythkipncmnefomaa.XCodeL
set_option maxRecDepth 100000
set_option maxHeartbeats 4000000
namespace Go.Proofs.Ythkipncmnefomaa.XCodeL
open Go Go.X
noncomputable section
variable [Nu] {R : Type} {Q : Option R → Prop} {B : Nat} {A : Nat → Prop} {S : Nat} {L : Kn}
theorem bits_small (m n : Nat) (hn : n ≤ 12) : ∃ r : Int, ∀ (R : Type) (h : H) (K : V → H → Option R), J.call (F (m + 2)) (.fn (.func 57) [] []) [.int .u64 (n : Int)] R h K = K (.int .i64 r) h := by
  have h : n = 0 ∨ n = 1 ∨ n = 2 ∨ n = 3 ∨ n = 4 ∨ n = 5 ∨ n = 6 ∨ n = 7 ∨ n = 8 ∨ n = 9 ∨ n = 10 ∨ n = 11 ∨ n = 12 := by omega
  rcases h with rfl | rfl | rfl | rfl | rfl | rfl | rfl | rfl | rfl | rfl | rfl | rfl | rfl
  · exact ⟨0, fun R h K => by kernel_rfl⟩
  · exact ⟨1, fun R h K => by kernel_rfl⟩
  · exact ⟨2, fun R h K => by kernel_rfl⟩
  · exact ⟨2, fun R h K => by kernel_rfl⟩
  · exact ⟨3, fun R h K => by kernel_rfl⟩
  · exact ⟨3, fun R h K => by kernel_rfl⟩
  · exact ⟨3, fun R h K => by kernel_rfl⟩
  · exact ⟨3, fun R h K => by kernel_rfl⟩
  · exact ⟨4, fun R h K => by kernel_rfl⟩
  · exact ⟨4, fun R h K => by kernel_rfl⟩
  · exact ⟨4, fun R h K => by kernel_rfl⟩
  · exact ⟨4, fun R h K => by kernel_rfl⟩
  · exact ⟨4, fun R h K => by kernel_rfl⟩
theorem bits_c {m n : Nat} {K : V → H → Option R} (hn : n ≤ 12) (q : ∀ r : Int, W Q B A S L (K (.int .i64 r))) : W Q B A S L fun h => J.call (F (m + 2)) (.fn (.func 57) [] []) [.int .u64 (n : Int)] R h K := by
  obtain ⟨r, hr⟩ := bits_small m n hn
  intro h mm
  show Q (J.call (F (m + 2)) (.fn (.func 57) [] []) [.int .u64 (n : Int)] R h K)
  rw [hr]; exact q r h mm
theorem u64_small {n : Nat} (hn : n ≤ 12) : intV .u64 (n : Int) = some (.int .u64 (n : Int)) := by
  have h : n = 0 ∨ n = 1 ∨ n = 2 ∨ n = 3 ∨ n = 4 ∨ n = 5 ∨ n = 6 ∨ n = 7 ∨ n = 8 ∨ n = 9 ∨ n = 10 ∨ n = 11 ∨ n = 12 := by omega
  rcases h with rfl | rfl | rfl | rfl | rfl | rfl | rfl | rfl | rfl | rfl | rfl | rfl | rfl <;> rfl
theorem sort_c {K : V → H → Option R} {m : Nat} {vs : List V} {b y n : Nat} {c : Option Nat} {l : List Int} (hvs : vs = [.slice b 0 n 1 c]) (hl : l.length = n) (hn : n ≤ 12) (hB : B ≤ b) (q : ∀ l', l'.Perm l → W Q B A S ((b, .cells (intsC l') true y) :: L) (K (.tup []))) : W Q B A S ((b, .cells (intsC l) true y) :: L) fun h => J.call (F (m + 5)) (.fn (.func 51) [] []) vs R h K := by
  subst hvs
  refine W.callE (d := d51) (c := c51) (by kernel_rfl) rfl (by rfl) ?_
  unfold c51
  refine W.hd (W.en (W.lenS (W.conv (u64_small hn) ?_)))
  refine bits_c hn fun r => ?_
  (skip)
  with_reducible refine quicksort_c rf_ hl hn hB fun l' hp => ?_
  exact q l' hp
theorem isort0_c {K : V → H → Option R} {m : Nat} {vs : List V}  (hvs : vs = [.nils, .int .i64 0, .int .i64 0])  (q : W Q B A S L (K (.tup []))) : W Q B A S (L) fun h => J.call (F (m + 3)) (.fn (.func 58) [] []) vs R h K := by
  subst hvs
  refine W.callE (d := d58) (c := c58) (by kernel_rfl) rfl (by rfl) ?_
  unfold c58
  ((iterate 3 refine .hd ?_); refine .en ?_; refine .add om_ om_ ?_)
  refine W.loop4 (I := fun d x1 x2 x3 x4 L' => x3 = .int .i64 0 ∧ x4 = .int .i64 (0 + 1) ∧ L' = L) ?_ 0 om_ ⟨rfl, rfl, rfl⟩
  rintro d k x1 x2 x3 x4 L' ⟨rfl, rfl, rfl⟩ hk
  (refine .lssF om_ ?_; refine .condF ?_)
  exact q
theorem quicksort0_c {K : V → H → Option R} {m : Nat} {vs : List V} {lim : Int} (hvs : vs = [.nils, .int .i64 0, .int .i64 0, .int .i64 lim])  (q : W Q B A S L (K (.tup []))) : W Q B A S (L) fun h => J.call (F (m + 4)) (.fn (.func 56) [] []) vs R h K := by
  subst hvs
  refine W.callE (d := d56) (c := c56) (by kernel_rfl) rfl (by rfl) ?_
  unfold c56
  refine W.hd (W.hd (W.hd (W.hd (W.en ?_))))
  refine W.loop6 (I := fun d x1 x2 x3 x4 x5 x6 L' => x1 = .nils ∧ x2 = .int .i64 0 ∧ x3 = .int .i64 0 ∧ L' = L) ?_ 0 om_ ⟨rfl, rfl, rfl, rfl⟩
  rintro d k x1 x2 x3 x4 x5 x6 L' ⟨rfl, rfl, rfl, rfl⟩ hk
  (refine .sub om_ om_ ?_; refine .leqT om_ ?_; refine .condT ?_; refine isort0_c rf_ ?_)
  exact q
theorem sort0_c {K : V → H → Option R} {m : Nat} {vs : List V}  (hvs : vs = [.nils])  (q : W Q B A S L (K (.tup []))) : W Q B A S (L) fun h => J.call (F (m + 5)) (.fn (.func 51) [] []) vs R h K := by
  subst hvs
  refine W.callE (d := d51) (c := c51) (by kernel_rfl) rfl (by rfl) ?_
  unfold c51
  refine W.hd (W.en (W.lenN (W.conv (u64_small (n := 0) om_) ?_)))
  refine bits_c (n := 0) om_ fun r => ?_
  (skip)
  with_reducible refine quicksort0_c rf_ ?_
  exact q
theorem take_succ_mem {l : List Int} {p : Nat} {x z : Int} (hx : l[p]? = some x) : z ∈ l.take (p + 1) ↔ z ∈ l.take p ∨ z = x := by
  rw [List.take_add_one, hx]; simp
theorem intsC_drop (l : List Int) (n : Nat) : (intsC l).drop n = intsC (l.drop n) := by unfold intsC; rw [List.map_drop]
theorem intsC_take (l : List Int) (n : Nat) : (intsC l).take n = intsC (l.take n) := by unfold intsC; rw [List.map_take]
theorem intsC_app (l l' : List Int) : intsC (l ++ l') = intsC l ++ intsC l' := by unfold intsC; rw [List.map_append]
theorem intsC_zeros (n : Nat) : List.replicate n (V.int .i64 0) = intsC (List.replicate n 0) := by unfold intsC; rw [List.map_replicate]
theorem compact_c {K : V → H → Option R} {m : Nat} {vs : List V} {b y n : Nat} {c : Option Nat} {l : List Int} (hvs : vs = [.slice b 0 n 1 c]) (hl : l.length = n) (hn : n < 100000) (hB : B ≤ b) (hcap : ∀ q, c = some q → n ≤ q) (q : ∀ v l' l2, (∀ x, x ∈ l' ↔ x ∈ l) → l'.length ≤ n → Iv ((b, .cells (intsC l2) true y) :: L) v l' → W Q B A S ((b, .cells (intsC l2) true y) :: L) (K v)) : W Q B A S ((b, .cells (intsC l) true y) :: L) fun h => J.call (F (m + 1)) (.fn (.func 52) [] []) vs R h K := by
  subst hvs
  refine W.callE (d := d52) (c := c52) (by kernel_rfl) rfl (by rfl) ?_
  unfold c52
  have iv : ∀ (l2 : List Int) (k : Nat) (c' : Option Nat), l2.length = n → k ≤ n → (∀ q, c' = some q → k ≤ q) → Iv ((b, .cells (intsC l2) true y) :: L) (.slice b 0 k 1 c') (l2.take k) := fun l2 k c' h2 hk hc' => by
    have ht : (l2.take k).length = k := by rw [List.length_take]; omega
    refine ⟨Nat.le_refl _, by rw [intsC_len, Nat.mul_one], .inr (.inl ⟨b, 0, c', intsC l2, true, y, by rw [ht], List.mem_cons_self, by rw [List.drop_zero, Nat.mul_one, intsC_take, ht], by rw [ht]; exact hc'⟩)⟩
  refine W.hd (W.en (W.lenS ?_))
  rcases Nat.lt_or_ge n 2 with h2 | h2
  · (refine .lssT om_ ?_; refine .condT ?_)
    exact q _ l l (fun _ => Iff.rfl) (Nat.le_of_eq hl) (by have := iv l n c hl (Nat.le_refl _) hcap; rw [← hl, List.take_length] at this; rw [← hl]; exact this)
  · (refine .lssF om_ ?_; refine .condF ?_)
    refine W.loop2 (I := fun d x1 x2 L' => ∃ i : Nat, x1 = .slice b 0 n 1 c ∧ x2 = .int .i64 i ∧ L' = (b, .cells (intsC l) true y) :: L ∧ 1 ≤ i ∧ i ≤ n ∧ n ≤ i + d) ?_ n om_ ⟨1, rfl, rfl, rfl, Nat.le_refl _, by omega, by omega⟩
    rintro d k x1 x2 L' ⟨i, rfl, rfl, rfl, hi1, hin, hid⟩ hk
    rcases Nat.lt_or_ge i n with hi | hi
    · obtain ⟨i, rfl⟩ : ∃ j, i = j + 1 := ⟨i - 1, by omega⟩
      obtain ⟨x, hx⟩ : ∃ x, l[i]? = some x := ⟨_, List.getElem?_eq_getElem om_⟩
      obtain ⟨z, hz⟩ : ∃ x, l[i + 1]? = some x := ⟨_, List.getElem?_eq_getElem om_⟩
      (refine .lenS ?_; refine .lssT om_ ?_; refine .condT ?_; refine .nextOf fun n0 hn0 hids => ?_; refine .idxS (i + 1) om_ om_ ?_; refine .logged fun B1 hB1 hS1 K1 hK0 hK1 => ?_; refine .load1P List.mem_cons_self _ (intsC_at hz) ?_; (refine hK0 _ (fun lgs1 hi1 ro1 hh1 => ?_); clear hK0 hK1; dsimp only); refine .sub om_ om_ ?_; refine .idxS i om_ om_ ?_; refine .logged fun B1 hB1 hS1 K1 hK0 hK1 => ?_; refine .load1P List.mem_cons_self _ (intsC_at hx) ?_; (refine hK0 _ (fun lgs1 hi1 ro1 hh1 => ?_); clear hK0 hK1; dsimp only))
      refine W.eqlC (fun e => ?_) (fun e => ?_)
      · (refine .ok S ?_; refine .condT ?_)
        subst e
        refine W.cutS (.inr rfl) (.inl ⟨rfl, rfl⟩) om_ (Nat.le_refl _) hcap ?_
        obtain ⟨c2, hc2⟩ : ∃ c2, W.cutV 1 b 0 n c (i + 1) n = .slice b (0 + (i + 1) * 1) (n - (i + 1)) 1 c2 := by
          cases c with
          | none => exact ⟨none, by show (if i + 1 < n then _ else _) = _; rw [if_pos hi]⟩
          | some c => exact ⟨some (c - (i + 1)), by show V.slice b (if i + 1 = c then 0 else 0 + (i + 1) * 1) _ 1 _ = _; rw [if_neg (by have := hcap c rfl; omega)]⟩
        rw [hc2]
        refine W.loop4 (I := fun d x1 x2 x3 x4 L' => ∃ (w k2 : Nat) (l1 : List Int), x1 = .slice b 0 n 1 c ∧ x2 = .int .i64 w ∧ x3 = .slice b (0 + (i + 1) * 1) (n - (i + 1)) 1 c2 ∧ x4 = .int .i64 k2 ∧ L' = (b, .cells (intsC l1) true y) :: L ∧ l1.length = n ∧
          (∀ x, x ∈ l1.take w ↔ x ∈ l.take (i + 1 + k2)) ∧ (∀ j, i + k2 ≤ j → l1[j]? = l[j]?) ∧ w ≤ i + k2 ∧ 1 ≤ w ∧ 1 ≤ k2 ∧ i + 1 + k2 ≤ n ∧ n ≤ k2 + d) ?_ n om_
          ⟨i + 1, 1, l, rfl, rfl, rfl, rfl, rfl, hl, fun t => by
            rw [take_succ_mem (l := l) (p := i + 1) hz, take_succ_mem hx]
            constructor
            · intro h; exact .inl h
            · rintro (h | h)
              · exact h
              · exact .inr h, fun _ _ => rfl, by omega, by omega, Nat.le_refl _, by omega, by omega⟩
        rintro d k x1 x2 x3 x4 L' ⟨w, k2, l1, rfl, rfl, rfl, rfl, rfl, h1, hmem, hrest, hw, hw1, hk1, hk2, hd⟩ hk
        rcases Nat.lt_or_ge (i + 1 + k2) n with hi2 | hi2
        · obtain ⟨k2, rfl⟩ : ∃ j, k2 = j + 1 := ⟨k2 - 1, by omega⟩
          obtain ⟨x', hx'⟩ : ∃ x, l[i + 1 + k2]? = some x := ⟨_, List.getElem?_eq_getElem om_⟩
          obtain ⟨z', hz'⟩ : ∃ x, l[i + 1 + (k2 + 1)]? = some x := ⟨_, List.getElem?_eq_getElem om_⟩
          have hcx : (intsC l1)[0 + (i + 1) * 1 + k2 * 1]? = some (.int .i64 x') := by
            have := intsC_at (l := l1) (i := i + 1 + k2) (by rw [hrest _ om_]; exact hx')
            rw [show 0 + (i + 1) * 1 + k2 * 1 = 0 + (i + 1 + k2) * 1 by omega]; exact this
          have hcz : (intsC l1)[0 + (i + 1) * 1 + (k2 + 1) * 1]? = some (.int .i64 z') := by
            have := intsC_at (l := l1) (i := i + 1 + (k2 + 1)) (by rw [hrest _ om_]; exact hz')
            rw [show 0 + (i + 1) * 1 + (k2 + 1) * 1 = 0 + (i + 1 + (k2 + 1)) * 1 by omega]; exact this
          (refine .lenS ?_; refine .lssT om_ ?_; refine .condT ?_; refine .nextOf fun n0 hn0 hids => ?_; refine .idxS (k2 + 1) om_ om_ ?_; refine .logged fun B1 hB1 hS1 K1 hK0 hK1 => ?_; refine .load1P List.mem_cons_self _ hcz ?_; (refine hK0 _ (fun lgs1 hi1 ro1 hh1 => ?_); clear hK0 hK1; dsimp only); refine .sub om_ om_ ?_; refine .idxS k2 om_ om_ ?_; refine .logged fun B1 hB1 hS1 K1 hK0 hK1 => ?_; refine .load1P List.mem_cons_self _ hcx ?_; (refine hK0 _ (fun lgs1 hi1 ro1 hh1 => ?_); clear hK0 hK1; dsimp only))
          refine W.neqC (fun e => ?_) (fun e => ?_)
          · (refine .ok S ?_; refine .join ?_; refine .condT ?_; refine .idxS (k2 + 1) om_ om_ ?_; refine .load1P List.mem_cons_self _ hcz ?_; refine .idxS w om_ om_ ?_; (refine .store1 hB (by rw [intsC_len]; omega) rf_ ?_); (iterate 2 refine .add om_ om_ ?_))
            rw [intsC_set]
            refine hk (d - 1) _ _ _ _ _ om_ ⟨w + 1, k2 + 1 + 1, l1.set w z', rfl, by rw [Int.natCast_add]; rfl, rfl, by rw [Int.natCast_add]; rfl, rfl, by rw [List.length_set]; exact h1, fun t => ?_, fun j hj => ?_, by omega, by omega, by omega, by omega, by omega⟩
            · rw [← Nat.add_assoc, take_succ_mem (p := i + 1 + (k2 + 1)) hz', ← hmem, take_succ_mem (p := w) (x := z') (by rw [List.getElem?_set_self om_])]
              rw [List.take_set_of_le (Nat.le_refl _)]
            · rw [List.getElem?_set_ne om_]; exact hrest j om_
          · (refine .ok S ?_; refine .join ?_; refine .condF ?_; refine .add om_ om_ ?_)
            subst e
            refine hk (d - 1) _ _ _ _ _ om_ ⟨w, k2 + 1 + 1, l1, rfl, rfl, rfl, by rw [Int.natCast_add]; rfl, rfl, h1, fun t => ?_, fun j hj => hrest j om_, by omega, by omega, by omega, by omega, by omega⟩
            rw [← Nat.add_assoc, take_succ_mem (p := i + 1 + (k2 + 1)) hz', hmem, show i + 1 + (k2 + 1) = i + 1 + k2 + 1 by omega, take_succ_mem hx']
            constructor
            · intro h; exact .inl h
            · rintro (h | h)
              · exact h
              · exact .inr h
        · have hke : i + 1 + k2 = n := by omega
          (refine .lenS ?_; refine .lssF om_ ?_; refine .condF ?_)
          refine W.cutS (.inr rfl) (.inl ⟨rfl, rfl⟩) om_ (Nat.le_refl _) hcap ?_
          have fin : ∀ l2 : List Int, l2.length = n → l2.take w = l1.take w → W Q B A S ((b, .cells (intsC l2) true y) :: L) fun h => J.cutL 1 none (some (.int .i64 (w : Int))) (.slice b 0 n 1 c) R h K := fun l2 h2 ht => by
            refine W.cutS (.inl ⟨rfl, rfl⟩) (.inr rfl) (Nat.zero_le _) om_ hcap ?_
            obtain ⟨c3, hc3, hq⟩ : ∃ c3, W.cutV 1 b 0 n c 0 w = .slice b 0 w 1 c3 ∧ ∀ q, c3 = some q → w ≤ q := by
              cases c with
              | none => exact ⟨none, by show (if 0 < n then _ else _) = _; rw [if_pos om_]; rfl, fun _ h => nomatch h⟩
              | some c =>
                refine ⟨some c, ?_, fun q hq => by have := hcap c rfl; simp at hq; omega⟩
                show V.slice b (if 0 = c then 0 else 0 + 0 * 1) (w - 0) 1 (some (c - 0)) = _
                split <;> simp
            rw [hc3]
            refine q _ (l2.take w) l2 (fun t => ?_) (by rw [List.length_take]; omega) (iv l2 w c3 h2 om_ hq)
            rw [ht, hmem, hke, ← hl, List.take_length]
          have clr : ∀ (o k : Nat) (cap : Option Nat), (o = w ∨ k = 0) → o + k ≤ n → W Q B A S ((b, .cells (intsC l1) true y) :: L) fun h => J.clear [(.int .i64 0)] (.slice b o k 1 cap) R h fun _ h => J.cutL 1 none (some (.int .i64 (w : Int))) (.slice b 0 n 1 c) R h K := fun o k cap ho hk => by
            refine W.clearS (K := fun _ h => J.cutL 1 none (some (.int .i64 (w : Int))) (.slice b 0 n 1 c) R h K) hB rfl (by rw [intsC_len]; omega) ?_
            rw [intsC_zeros, intsC_take, intsC_drop, ← intsC_app, ← intsC_app]
            refine fin _ (by simp; omega) ?_
            rcases ho with rfl | rfl
            · rw [List.take_append_of_le_length (by simp; omega), List.take_take, Nat.min_self]
            · simp
          cases c with
          | none =>
            show W Q B A S _ fun h => J.clear [(.int .i64 0)] (if w < n then .slice b (0 + w * 1) (n - w) 1 none else if w = 0 then .slice b 0 (n - w) 1 none else .emp) R h fun _ h => J.cutL 1 none (some (.int .i64 (w : Int))) (.slice b 0 n 1 none) R h K
            rw [if_pos om_]
            exact clr _ _ _ (.inl om_) om_
          | some c =>
            refine clr (if w = c then 0 else 0 + w * 1) (n - w) (some (c - w)) ?_ ?_
            · split
              · right; have := hcap c rfl; omega
              · left; omega
            · split <;> omega
      · (refine .ok S ?_; refine .condF ?_; refine .add om_ om_ ?_)
        exact hk (d - 1) _ _ _ om_ ⟨i + 1 + 1, rfl, by rw [Int.natCast_add]; rfl, rfl, by omega, by omega, by omega⟩
    · (refine .lenS ?_; refine .lssF om_ ?_; refine .condF ?_)
      exact q _ l l (fun _ => Iff.rfl) (Nat.le_of_eq hl) (by have := iv l n c hl (Nat.le_refl _) hcap; rw [← hl, List.take_length] at this; rw [← hl]; exact this)
end
end Go.Proofs.Ythkipncmnefomaa.XCodeL
set_option maxRecDepth 100000
set_option maxHeartbeats 4000000
namespace Go.Proofs.Ythkipncmnefomaa.XCodeL
open Go Go.X
noncomputable section
variable [Nu] {R : Type} {Q : Option R → Prop} {B : Nat} {A : Nat → Prop} {S : Nat} {L : Kn}
def regL (ts : List (Int × Int)) : List Int := (ts.filter fun t => t.1 = 2).map (·.2)
theorem regL_take {ts : List (Int × Int)} {i : Nat} {t : Int × Int} (h : ts[i]? = some t) : regL (ts.take (i + 1)) = regL (ts.take i) ++ (if t.1 = 2 then [t.2] else []) := by
  unfold regL
  rw [List.take_add_one, h, List.filter_append, List.map_append]
  by_cases c : t.1 = 2 <;> simp [c]
theorem regL_len (ts : List (Int × Int)) : (regL ts).length ≤ ts.length := by
  unfold regL; rw [List.length_map]; exact List.length_filter_le _ _
theorem allOne_app : ∀ l l' : List V, allOne (l ++ l') = (allOne l && allOne l')
  | [], l' => by simp [allOne]
  | v :: l, l' => by
    show (Bool.rec false (allOne (l ++ l')) v.one : Bool) = ((Bool.rec false (allOne l) v.one : Bool) && allOne l')
    cases v.one
    · rfl
    · exact allOne_app l l'
theorem own_ints {x : V} {l : List Int} {p : Kn} (h : Own B 1 4 x (intsC l) p) : (x = .nils ∧ l = [] ∧ p = []) ∨ ∃ b c y', x = .slice b 0 l.length 1 c ∧ (∀ q, c = some q → l.length ≤ q) ∧ 1 ≤ l.length ∧ p = [(b, .cells (intsC l) true y')] ∧ B ≤ b := by
  rcases h with ⟨h1, h2, h3⟩ | ⟨b, n, c, y', h1, h2, h3, h4, h5, h6⟩
  · exact .inl ⟨h1, List.map_eq_nil_iff.1 h2, h3⟩
  · rw [intsC_len, Nat.mul_one] at h3
    subst h3
    exact .inr ⟨b, c, y', h1, fun q hq => by rcases h2 with rfl | rfl <;> simp at hq; omega, h4, h5, h6⟩
theorem compact0_c {K : V → H → Option R} {m : Nat} {vs : List V}  (hvs : vs = [.nils])  (q : W Q B A S L (K .nils)) : W Q B A S (L) fun h => J.call (F (m + 1)) (.fn (.func 52) [] []) vs R h K := by
  subst hvs
  refine W.callE (d := d52) (c := c52) (by kernel_rfl) rfl (by rfl) ?_
  unfold c52
  refine W.hd (W.en (W.lenN ?_))
  (refine .lssT om_ ?_; refine .condT ?_)
  exact q
theorem regs_c {K : V → H → Option R} {m : Nat} {vs : List V} {ts : List (Int × Int)} {v : V} (hvs : vs = [v]) (hv : Tk L v ts) (hl : ts.length ≤ 12) (q : ∀ v l' N, (∀ x, x ∈ l' ↔ x ∈ regL ts) → l'.length ≤ ts.length → (∀ p ∈ N, B ≤ p.1) → Iv (N ++ L) v l' → W Q B A S (N ++ L) (K v)) : W Q B A S (L) fun h => J.call (F (m + 6)) (.fn (.func 44) [] []) vs R h K := by
  subst hvs
  refine W.callE (d := d44) (c := c44) (by kernel_rfl) rfl (by rfl) ?_
  unfold c44
  (refine .hd ?_; refine .en ?_; refine .lenR rc_ ?_)
  refine W.loop4 (I := fun d x1 x2 x3 x4 L' => ∃ (i : Nat) (p : Kn), i + d = ts.length ∧ Own B 1 4 x1 (intsC (regL (ts.take i))) p ∧ v = x2 ∧ x3 = .int .i64 ts.length ∧ x4 = .int .i64 i ∧ L' = p ++ L) ?_ ts.length om_
    ⟨0, [], Nat.zero_add _, Own.nil, rfl, rfl, rfl, rfl⟩
  rintro d k x1 x2 x3 x4 L' ⟨i, p, e1, hown, rfl, rfl, rfl, rfl⟩ hk
  have hv : Tk (p ++ L) v ts := hv.app p
  rcases Nat.lt_or_ge i ts.length with hi | hi
  · obtain ⟨t, ht, hd⟩ := drop_at hi
    (refine .lssT om_ ?_; refine .condT ?_)
    refine W.idxR hv i rfl hi fun a hp => ?_
    rw [tokCells_at ts i t ht] at hp
    have hl := regL_len (ts.take i)
    rw [List.length_take] at hl
    have hrt := regL_take ht
    ((refine .loadNA rc_ sd_ ?_); refine .newT fun b hb => ?_; (refine .storeN om_ rf_ sd_ bx_ ?_); refine .fl ?_)
    refine W.eqlC (fun c => ?_) (fun c => ?_)
    · rw [if_pos c] at hrt
      (refine .join ?_; refine .condT ?_; refine .fl ?_)
      refine W.swap (N := [_]) (L := L) ?_
      refine W.push (n := (regL (ts.take i)).length) hown (Nat.le_refl _) (by rw [intsC_len, Nat.mul_one]) rfl rfl rfl (by rw [allOne_app, intsC_one]; rfl) om_ fun x' p' hown' => ?_
      have hown2 : Own B 1 4 x' (intsC (regL (ts.take (i + 1)))) p' := by rw [hrt, intsC_app]; exact hown'
      refine W.drop2 ?_
      (refine .add om_ om_ ?_)
      exact hk (d - 1) _ _ _ _ _ om_ ⟨i + 1, p', by omega, hown2, rfl, rfl, by rw [Int.natCast_add]; rfl, rfl⟩
    · rw [if_neg c, List.append_nil] at hrt
      refine W.drop ?_
      (refine .join ?_; refine .condF ?_; refine .add om_ om_ ?_)
      exact hk (d - 1) _ _ _ _ _ om_ ⟨i + 1, p, by omega, by rw [hrt]; exact hown, rfl, rfl, by rw [Int.natCast_add]; rfl, rfl⟩
  · rw [List.take_of_length_le hi] at hown
    rcases own_ints hown with ⟨rfl, h0, rfl⟩ | ⟨b, c, y', rfl, hc, hn1, rfl, hb⟩
    · (refine .lssF om_ ?_; refine .condF ?_; refine sort0_c rf_ ?_; refine compact0_c rf_ ?_)
      exact q .nils [] [] (by rw [h0]; exact fun _ => Iff.rfl) (Nat.zero_le _) (fun _ h => nomatch h) (Rd.nils (Nat.le_refl _))
    · have hll := regL_len ts
      show W Q B A S ((b, .cells (intsC (regL ts)) true y') :: L) _
      (refine .lssF om_ ?_; refine .condF ?_)
      with_reducible refine sort_c rf_ rfl om_ hb fun l1 hp1 => ?_
      with_reducible refine compact_c rf_ hp1.length_eq om_ hb hc fun v l2 l3 hm hl2 hiv => ?_
      exact q v l2 [(b, .cells (intsC l3) true y')] (fun x => (hm x).trans hp1.mem_iff) om_ (fun p hp => by rw [List.mem_singleton.1 hp]; exact hb) hiv
theorem index_c {K : V → H → Option R} {m : Nat} {vs : List V} {l : List Int} {v : V} {x : Int} (hvs : vs = [v, .int .i64 x]) (hv : Iv L v l) (hl : l.length < 100000) (q : ∀ r : Int, (0 ≤ r ↔ x ∈ l) → W Q B A S L (K (.int .i64 r))) : W Q B A S (L) fun h => J.call (F (m + 1)) (.fn (.func 50) [] []) vs R h K := by
  subst hvs
  refine W.callE (d := d50) (c := c50) (by kernel_rfl) rfl (by rfl) ?_
  unfold c50
  (refine .hd ?_; refine .hd ?_; refine .en ?_; refine .lenR rc_ ?_)
  refine W.loop4 (I := fun d x1 x2 x3 x4 L' => ∃ i : Nat, i + d = l.length ∧ v = x1 ∧ x2 = .int .i64 x ∧ x3 = .int .i64 l.length ∧ x4 = .int .i64 i ∧ L = L' ∧ x ∉ l.take i) ?_ l.length om_
    ⟨0, Nat.zero_add _, rfl, rfl, rfl, rfl, rfl, by simp⟩
  rintro d k x1 x2 x3 x4 L' ⟨i, e1, rfl, rfl, rfl, rfl, rfl, hno⟩ hk
  rcases Nat.lt_or_ge i l.length with hi | hi
  · obtain ⟨z, hz, hd⟩ := drop_at hi
    (refine .lssT om_ ?_; refine .condT ?_)
    refine W.idxR hv i rfl hi fun a hp => ?_
    have hp : Pl L a (.int .i64 z :: intsC (l.drop (i + 1))) := by
      rw [Nat.mul_one, intsC_drop, hd] at hp; exact hp
    (refine .load1A hp _ rf_ ?_)
    refine W.eqlC (fun c => ?_) (fun c => ?_)
    · (refine .condT ?_)
      exact q i ⟨fun _ => (by rw [c]; exact List.mem_of_getElem? hz), fun _ => om_⟩
    · (refine .condF ?_; refine .add om_ om_ ?_)
      refine hk (d - 1) _ _ _ _ _ om_ ⟨i + 1, by omega, rfl, rfl, rfl, by rw [Int.natCast_add]; rfl, rfl, ?_⟩
      rw [take_succ_mem hz]; rintro (h | h)
      · exact hno h
      · exact c h
  · (refine .lssF om_ ?_; refine .condF ?_)
    rw [List.take_of_length_le hi] at hno
    exact q (-1) ⟨fun h => by omega, fun h => absurd h hno⟩
theorem contains_c {K : V → H → Option R} {m : Nat} {vs : List V} {l : List Int} {v : V} {x : Int} (hvs : vs = [v, .int .i64 x]) (hv : Iv L v l) (hl : l.length < 100000) (q : ∀ r : Bool, (r = true ↔ x ∈ l) → W Q B A S L (K (.bool r))) : W Q B A S (L) fun h => J.call (F (m + 2)) (.fn (.func 43) [] []) vs R h K := by
  subst hvs
  refine W.callE (d := d43) (c := c43) (by kernel_rfl) rfl (by rfl) ?_
  unfold c43
  (refine .hd ?_; refine .hd ?_; refine .en ?_)
  with_reducible refine index_c rf_ hv hl fun r hr => ?_
  (refine .geqC (fun c => ?_) (fun c => ?_); rotate_left; rotate_right)
  · exact q true ⟨fun _ => hr.1 (by assumption), fun _ => rfl⟩
  · exact q false ⟨fun h => (nomatch h), fun h => absurd (hr.2 h) om_⟩
end
end Go.Proofs.Ythkipncmnefomaa.XCodeL
set_option maxRecDepth 100000
set_option maxHeartbeats 4000000
namespace Go.Proofs.Ythkipncmnefomaa.XCodeL
open Go Go.X
noncomputable section
variable [Nu] {R : Type} {Q : Option R → Prop} {B : Nat} {A : Nat → Prop} {S : Nat} {L : Kn}
structure Ins where
  k : Int
  m : Int
  m2 : Int
  r : Int
  l : Int
  e : List (Int × Int)
  n : Int
abbrev insC (i : Ins) (v : V) : List V := [.int .i64 i.k, .int .i64 i.m, .int .i64 i.m2, .int .i64 i.r, .int .i64 i.l, v, .int .i64 i.n]
def insOK (i : Ins) (locs left : Int) : Bool :=
  if i.k = 1 then decide (0 ≤ i.r ∧ i.r ≤ 7 ∧ 0 ≤ i.l ∧ i.l ≤ locs - 1 ∧ (i.m = 0 ∨ i.m = 1) ∧ i.m2 = 0 ∧ i.e.length = 0 ∧ i.n = 0)
  else if i.k = 2 then decide (i.r = 0 ∧ 0 ≤ i.l ∧ i.l ≤ locs - 1 ∧ (i.m = 0 ∨ i.m = 2) ∧ i.m2 = 0 ∧ checkE i.e = true ∧ i.n = 0)
  else if i.k = 3 then decide (i.r = 0 ∧ i.l = 0 ∧ (i.m = 1 ∨ i.m = 2 ∨ i.m = 3 ∨ i.m = 4) ∧ i.m2 = 0 ∧ i.e.length = 0 ∧ i.n = 0)
  else if i.k = 4 then decide (0 ≤ i.r ∧ i.r ≤ 7 ∧ 0 ≤ i.l ∧ i.l ≤ locs - 1 ∧ (i.m = 0 ∨ i.m = 1) ∧ (i.m2 = 0 ∨ i.m2 = 2) ∧ i.n = 0 ∧ i.e.length ≤ 7 ∧ i.r ∉ regL i.e ∧ checkE i.e = true)
  else if i.k = 5 then decide (0 ≤ i.r ∧ i.r ≤ 7 ∧ i.l = 0 ∧ i.m = 0 ∧ i.m2 = 0 ∧ i.n = 0 ∧ checkE i.e = true)
  else if i.k = 6 then decide (i.r = 0 ∧ i.l = 0 ∧ i.m = 0 ∧ i.m2 = 0 ∧ 0 ≤ i.n ∧ i.n ≤ left ∧ checkE i.e = true)
  else false
def kindT (k : Int) : Int × Int × Int × Int := if k = 1 then (3, 3, 1, 1) else if k = 2 then (6, 5, 1, 1) else if k = 3 then (0, 30, 1, 1) else if k = 4 then (7, 3, 5, 2) else if k = 5 then (5, 1, 1, 0) else if k = 6 then (12, 1, 1, 0) else (0, 0, 0, 0)
abbrev kindV (t : Int × Int × Int × Int) : V := .agg [.int .i64 t.1, .int .i64 t.2.1, .int .i64 t.2.2.1, .int .i64 t.2.2.2]
theorem kind_cases (k : Int) : k = 1 ∨ k = 2 ∨ k = 3 ∨ k = 4 ∨ k = 5 ∨ k = 6 ∨ (k < 1 ∨ 6 < k) := by omega
theorem kindT_no {k : Int} (h : k < 1 ∨ 6 < k) : kindT k = (0, 0, 0, 0) := by
  unfold kindT
  rw [if_neg om_, if_neg om_, if_neg om_, if_neg om_, if_neg om_, if_neg om_]
theorem kinds_c {K : V → H → Option R} {m : Nat} {vs : List V}  (hvs : vs = [])  (q : ∀ b, W Q B A S ((b, .cells [.int .i64 0, .int .i64 0, .int .i64 0, .int .i64 0, .int .i64 3, .int .i64 3, .int .i64 1, .int .i64 1, .int .i64 6, .int .i64 5, .int .i64 1, .int .i64 1, .int .i64 0, .int .i64 30, .int .i64 1, .int .i64 1, .int .i64 7, .int .i64 3, .int .i64 5, .int .i64 2, .int .i64 5, .int .i64 1, .int .i64 1, .int .i64 0, .int .i64 12, .int .i64 1, .int .i64 1, .int .i64 0] true 0) :: L) (K (.slice b 0 7 4 (some 7)))) : W Q B A S (L) fun h => J.call (F (m + 1)) (.fn (.func 49) [] []) vs R h K := by
  subst hvs
  refine W.callE (d := d49) (c := c49) (by kernel_rfl) rfl (by rfl) ?_
  unfold c49
  (refine .en ?_; refine .build0 ?_; (iterate 6 refine .buildL rg_ ?_); refine .slitL rg_ rf_ fun b hb => ?_)
  exact q _
theorem of_c {K : V → H → Option R} {m : Nat} {vs : List V} {k : Int} (hvs : vs = [.int .i64 k])  (q : W Q B A S L (K (kindV (kindT k)))) : W Q B A S (L) fun h => J.call (F (m + 2)) (.fn (.func 39) [] []) vs R h K := by
  subst hvs
  refine W.callE (d := d39) (c := c39) (by kernel_rfl) rfl (by rfl) ?_
  unfold c39
  (refine .hd ?_; refine .en ?_; refine .newT fun b hb => ?_)
  with_reducible refine kinds_c rf_ fun b1 => ?_
  rcases kind_cases k with rfl | rfl | rfl | rfl | rfl | rfl | hk
  · (refine .lssF om_ ?_; refine .whenFF ?_; refine .pure ?_; refine .whenFF ?_; refine .pure ?_; refine .whenFF ?_; refine .lenS ?_; refine .whenFF ?_; refine .geqF om_ ?_; refine .pickF ?_; refine .condF ?_; refine .idxS 1 om_ om_ ?_; refine .loadNP mm_ nl_ ?_; (refine .front1 ?_; refine .storeN om_ rf_ sd_ bx_ ?_); refine .rdCNP mm_ nl_ ?_)
    exact W.drop (W.drop q)
  · (refine .lssF om_ ?_; refine .whenFF ?_; refine .pure ?_; refine .whenFF ?_; refine .pure ?_; refine .whenFF ?_; refine .lenS ?_; refine .whenFF ?_; refine .geqF om_ ?_; refine .pickF ?_; refine .condF ?_; refine .idxS 2 om_ om_ ?_; refine .loadNP mm_ nl_ ?_; (refine .front1 ?_; refine .storeN om_ rf_ sd_ bx_ ?_); refine .rdCNP mm_ nl_ ?_)
    exact W.drop (W.drop q)
  · (refine .lssF om_ ?_; refine .whenFF ?_; refine .pure ?_; refine .whenFF ?_; refine .pure ?_; refine .whenFF ?_; refine .lenS ?_; refine .whenFF ?_; refine .geqF om_ ?_; refine .pickF ?_; refine .condF ?_; refine .idxS 3 om_ om_ ?_; refine .loadNP mm_ nl_ ?_; (refine .front1 ?_; refine .storeN om_ rf_ sd_ bx_ ?_); refine .rdCNP mm_ nl_ ?_)
    exact W.drop (W.drop q)
  · (refine .lssF om_ ?_; refine .whenFF ?_; refine .pure ?_; refine .whenFF ?_; refine .pure ?_; refine .whenFF ?_; refine .lenS ?_; refine .whenFF ?_; refine .geqF om_ ?_; refine .pickF ?_; refine .condF ?_; refine .idxS 4 om_ om_ ?_; refine .loadNP mm_ nl_ ?_; (refine .front1 ?_; refine .storeN om_ rf_ sd_ bx_ ?_); refine .rdCNP mm_ nl_ ?_)
    exact W.drop (W.drop q)
  · (refine .lssF om_ ?_; refine .whenFF ?_; refine .pure ?_; refine .whenFF ?_; refine .pure ?_; refine .whenFF ?_; refine .lenS ?_; refine .whenFF ?_; refine .geqF om_ ?_; refine .pickF ?_; refine .condF ?_; refine .idxS 5 om_ om_ ?_; refine .loadNP mm_ nl_ ?_; (refine .front1 ?_; refine .storeN om_ rf_ sd_ bx_ ?_); refine .rdCNP mm_ nl_ ?_)
    exact W.drop (W.drop q)
  · (refine .lssF om_ ?_; refine .whenFF ?_; refine .pure ?_; refine .whenFF ?_; refine .pure ?_; refine .whenFF ?_; refine .lenS ?_; refine .whenFF ?_; refine .geqF om_ ?_; refine .pickF ?_; refine .condF ?_; refine .idxS 6 om_ om_ ?_; refine .loadNP mm_ nl_ ?_; (refine .front1 ?_; refine .storeN om_ rf_ sd_ bx_ ?_); refine .rdCNP mm_ nl_ ?_)
    exact W.drop (W.drop q)
  · rw [kindT_no hk] at q
    (refine .lssC (fun c => ?_) (fun c => ?_); (iterate 4 refine .whenTF ?_); refine .pickT ?_; refine .condT ?_; refine .build0 ?_; (refine .front1 ?_; refine .storeN om_ rf_ sd_ bx_ ?_); refine .rdCNP mm_ nl_ ?_; rotate_left; refine .whenFF ?_; refine .pure ?_; refine .whenFF ?_; refine .pure ?_; refine .whenFF ?_; refine .lenS ?_; refine .whenFF ?_; refine .geqC (fun c => ?_) (fun c => ?_); refine .pickF ?_; refine .condT ?_; refine .build0 ?_; (refine .front1 ?_; refine .storeN om_ rf_ sd_ bx_ ?_); refine .rdCNP mm_ nl_ ?_; rotate_left; refine .pickF ?_; refine .condF ?_; refine .idxS 0 om_ om_ ?_; refine .loadNP mm_ nl_ ?_; (refine .front1 ?_; refine .storeN om_ rf_ sd_ bx_ ?_); refine .rdCNP mm_ nl_ ?_; rotate_right; rotate_right)
    all_goals (first | (exact W.drop (W.drop q)) | (exfalso; omega) | (exact W.weak (by simp) q))
theorem part_c {K : V → H → Option R} {m : Nat} {vs : List V} {has : Bool} {v most : Int} (hvs : vs = [.bool has, .int .i64 v, .int .i64 most])  (q : W Q B A S L (K (.bool (decide (0 ≤ v ∧ v ≤ (if has then most else 0)))))) : W Q B A S (L) fun h => J.call (F (m + 1)) (.fn (.func 42) [] []) vs R h K := by
  subst hvs
  refine W.callE (d := d42) (c := c42) (by kernel_rfl) rfl (by rfl) ?_
  unfold c42
  have q' : ∀ b, decide (0 ≤ v ∧ v ≤ (if has then most else 0)) = b → W Q B A S L (K (.bool b)) := fun b e => e ▸ q
  cases has
  all_goals ((first | ((iterate 3 refine .hd ?_); refine .en ?_; refine .notF ?_; refine .join ?_; refine .condT ?_; refine .geqC (fun c => ?_) (fun c => ?_); refine .whenTT ?_; refine .pure ?_; refine .whenTT ?_; refine .pure ?_; refine .whenTT ?_; refine .leqC (fun c => ?_) (fun c => ?_); refine .pickT ?_; rotate_left; refine .pickT ?_; rotate_right; rotate_left 2; refine .wp3 ?_; rotate_right 2) | ((iterate 3 refine .hd ?_); refine .en ?_; refine .notT ?_; refine .join ?_; refine .condF ?_; refine .geqC (fun c => ?_) (fun c => ?_); refine .whenTT ?_; refine .pure ?_; refine .whenTT ?_; refine .pure ?_; refine .whenTT ?_; refine .leqC (fun c => ?_) (fun c => ?_); refine .pickT ?_; rotate_left; refine .pickT ?_; rotate_right; rotate_left 2; refine .wp3 ?_; rotate_right 2)))
  all_goals exact q' _ (by simp; omega)
theorem mode_c {K : V → H → Option R} {m : Nat} {vs : List V} {v modes : Int} (hvs : vs = [.int .i64 v, .int .i64 modes]) (hm : modes = 3 ∨ modes = 5 ∨ modes = 30 ∨ modes = 1) (q : W Q B A S L (K (.bool (if modes = 3 then decide (v = 0 ∨ v = 1) else if modes = 5 then decide (v = 0 ∨ v = 2) else if modes = 30 then decide (v = 1 ∨ v = 2 ∨ v = 3 ∨ v = 4) else decide (v = 0))))) : W Q B A S (L) fun h => J.call (F (m + 1)) (.fn (.func 41) [] []) vs R h K := by
  subst hvs
  refine W.callE (d := d41) (c := c41) (by kernel_rfl) rfl (by rfl) ?_
  unfold c41
  have q' : ∀ b, (if modes = 3 then decide (v = 0 ∨ v = 1) else if modes = 5 then decide (v = 0 ∨ v = 2) else if modes = 30 then decide (v = 1 ∨ v = 2 ∨ v = 3 ∨ v = 4) else decide (v = 0)) = b → W Q B A S L (K (.bool b)) := fun b e => e ▸ q
  have hv : v = 0 ∨ v = 1 ∨ v = 2 ∨ v = 3 ∨ v = 4 ∨ v < 0 ∨ 4 < v := by omega
  rcases hv with rfl | rfl | rfl | rfl | rfl | hv | hv
  all_goals (first
    | (rcases hm with rfl | rfl | rfl | rfl <;> ((refine .hd ?_; refine .hd ?_; refine .en ?_; refine .geqT om_ ?_; refine .whenTT ?_; refine .pure ?_; refine .whenTT ?_; refine .leqT om_ ?_; refine .pickT ?_; refine .whenTT ?_; refine .pure ?_; refine .whenTT ?_; refine .pure ?_; refine .whenTT ?_; refine .bin rf_ ?_; refine .whenTT ?_; refine .bin rf_ ?_; refine .whenTT ?_; refine .bin rf_ ?_; refine .pickT ?_)) <;> exact q' _ (by decide))
    | ((first | (refine .hd ?_; refine .hd ?_; refine .en ?_; refine .geqF om_ ?_; (iterate 2 refine .whenFT ?_); refine .pickF ?_; (iterate 2 refine .whenFT ?_); refine .wp3 ?_) | (refine .hd ?_; refine .hd ?_; refine .en ?_; refine .geqT om_ ?_; refine .whenTT ?_; refine .pure ?_; refine .whenTT ?_; refine .leqF om_ ?_; refine .pickT ?_; (iterate 2 refine .whenFT ?_); refine .wp3 ?_)); exact q' _ (by rcases hm with rfl | rfl | rfl | rfl <;> simp <;> omega)))
end
end Go.Proofs.Ythkipncmnefomaa.XCodeL
set_option maxRecDepth 100000
set_option maxHeartbeats 4000000
namespace Go.Proofs.Ythkipncmnefomaa.XCodeL
open Go Go.X
noncomputable section
variable [Nu] {R : Type} {Q : Option R → Prop} {B : Nat} {A : Nat → Prop} {S : Nat} {L : Kn}
def InsCells (L : Kn) : List Ins → List V → Prop
  | [], l => l = []
  | i :: is, l => ∃ v r, l = insC i v ++ r ∧ Tk L v i.e ∧ InsCells L is r
def InsR (L : Kn) (v : V) (is : List Ins) : Prop := ∃ l, Rd L 7 v is.length l ∧ InsCells L is l
theorem InsCells.cons {L : Kn} {x : Nat × Blk} : ∀ {is : List Ins} {l : List V}, InsCells L is l → InsCells (x :: L) is l
  | [], l, h => h
  | i :: is, l, ⟨v, r, h1, h2, h3⟩ => ⟨v, r, h1, h2.cons, InsCells.cons h3⟩
theorem InsR.cons {L : Kn} {x : Nat × Blk} {v : V} {is : List Ins} (h : InsR L v is) : InsR (x :: L) v is := by
  obtain ⟨l, h1, h2⟩ := h; exact ⟨l, h1.cons, h2.cons⟩
theorem InsR.app {L : Kn} {v : V} {is : List Ins} (N : Kn) (h : InsR L v is) : InsR (N ++ L) v is := by
  induction N with
  | nil => exact h
  | cons x N ih => exact InsR.cons ih
theorem InsCells.at' {L : Kn} : ∀ {is : List Ins} {l : List V} (i : Nat) (x : Ins), InsCells L is l → is[i]? = some x → ∃ v r, l.drop (i * 7) = insC x v ++ r ∧ Tk L v x.e
  | [], l, i, x, h, e => nomatch e
  | y :: is, l, 0, x, ⟨v, r, h1, h2, h3⟩, e => by
    simp only [List.getElem?_cons_zero, Option.some.injEq] at e
    subst e; exact ⟨v, r, by rw [Nat.zero_mul, List.drop_zero, h1], h2⟩
  | y :: is, l, i + 1, x, ⟨v, r, h1, h2, h3⟩, e => by
    obtain ⟨v', r', h4, h5⟩ := InsCells.at' i x h3 e
    refine ⟨v', r', ?_, h5⟩
    rw [h1, show (i + 1) * 7 = 7 + i * 7 by omega, ← List.drop_drop]
    exact h4
theorem InsR.idx {v : V} {is : List Ins} {a : Int} {K : V → H → Option R} (h : InsR L v is) (i : Nat) (x : Ins) (ha : a = (i : Int)) (hx : is[i]? = some x) (q : ∀ p ve r, Tk L ve x.e → Pl L p (insC x ve ++ r) → W Q B A S L (K p)) : W Q B A S L fun h => J.idxL 7 v (.int .i64 a) R h K := by
  obtain ⟨l, h1, h2⟩ := h
  refine W.idxR h1 i ha (List.getElem?_eq_some_iff.1 hx).1 fun p hp => ?_
  obtain ⟨ve, r, h3, h4⟩ := InsCells.at' i x h2 hx
  exact q p ve r h4 (h3 ▸ hp)
theorem InsR.len {v : V} {is : List Ins} {K : V → H → Option R} (h : InsR L v is) (q : W Q B A S L (K (.int .i64 is.length))) : W Q B A S L fun h => J.lenL v R h K := by
  obtain ⟨l, h1, h2⟩ := h; exact W.lenR h1 q
def evs (is : List Ins) : Int := (is.map fun i => (kindT i.k).2.2.2).sum
theorem evs_take {is : List Ins} {i : Nat} {x : Ins} (h : is[i]? = some x) : evs (is.take (i + 1)) = evs (is.take i) + (kindT x.k).2.2.2 := by
  unfold evs; rw [List.take_add_one, h]; simp
theorem ev_le (k : Int) : 0 ≤ (kindT k).2.2.2 ∧ (kindT k).2.2.2 ≤ 2 := by
  unfold kindT; repeat' split
  all_goals decide
theorem evs_le : ∀ is : List Ins, 0 ≤ evs is ∧ evs is ≤ 2 * is.length
  | [] => by decide
  | x :: is => by
    have h1 := ev_le x.k
    have h2 := evs_le is
    have h3 : evs (x :: is) = (kindT x.k).2.2.2 + evs is := by unfold evs; rw [List.map_cons, List.sum_cons]
    rw [h3, List.length_cons]; omega
def pathStep (k n : Int) : Int := if k = 6 then (if 1000000 < 2 * n then 1000000 else 2 * n) else n
def paths (is : List Ins) : Int := is.foldl (fun n i => pathStep i.k n) 1
theorem paths_take {is : List Ins} {i : Nat} {x : Ins} (h : is[i]? = some x) : paths (is.take (i + 1)) = pathStep x.k (paths (is.take i)) := by
  unfold paths; rw [List.take_add_one, h, List.foldl_append]; rfl
theorem paths_le (is : List Ins) : 1 ≤ paths is ∧ paths is ≤ 1000000 := by
  have : ∀ (is : List Ins) (n : Int), 1 ≤ n ∧ n ≤ 1000000 → 1 ≤ is.foldl (fun n i => pathStep i.k n) n ∧ is.foldl (fun n i => pathStep i.k n) n ≤ 1000000 := by
    intro is
    induction is with
    | nil => intro n h; exact h
    | cons x is ih =>
      intro n h
      refine ih _ ?_
      show 1 ≤ pathStep x.k n ∧ pathStep x.k n ≤ 1000000
      unfold pathStep; repeat' split
      all_goals omega
  exact this is 1 om_
theorem ins_one {v : V} (h : v.one = true) (i : Ins) : allOne (V.agg (insC i v)).cells = true := by
  show (Bool.rec false true v.one : Bool) = true
  rw [h]
theorem loadIns {p : V} {x : Ins} {ve : V} {r : List V} {K : V → H → Option R} (hp : Pl L p (insC x ve ++ r)) (q : W Q B A S L (K (.agg (insC x ve)))) : W Q B A S L fun h => J.loadN 7 p R h K := W.loadNA hp (by simp) q
theorem mulL {a b : Int} {F : CallF} {K : V → H → Option R} (h1 : -9223372036854775808 ≤ a * b) (h2 : a * b ≤ 9223372036854775807) (q : W Q B A S L (K (.int .i64 (a * b)))) : W Q B A S L fun h => J.bin F .mul (.int .i64 a) (.int .i64 b) R h K := by
  refine W.bin (r := .int .i64 (a * b)) ?_ q
  show some (V.int .i64 (wrap64 (imul a b))) = _
  rw [wrap64_eq, imul_eq]
  have : IntKind.i64.wrap (a * b) = a * b := by rw [IntKind.wrap_i64]; omega
  rw [this]
theorem events_c {K : V → H → Option R} {m : Nat} {vs : List V} {is : List Ins} {v : V} (hvs : vs = [v]) (hv : InsR L v is) (hl : is.length < 100000) (q : W Q B A S L (K (.int .i64 (evs is)))) : W Q B A S (L) fun h => J.call (F (m + 3)) (.fn (.func 22) [] []) vs R h K := by
  subst hvs
  refine W.callE (d := d22) (c := c22) (by kernel_rfl) rfl (by rfl) ?_
  unfold c22
  (refine .hd ?_; refine .en ?_; refine InsR.len hv ?_)
  refine W.loop4 (I := fun d x1 x2 x3 x4 L' => ∃ i : Nat, is.length ≤ i + d ∧ i ≤ is.length ∧ x1 = .int .i64 (evs (is.take i)) ∧ v = x2 ∧ x3 = .int .i64 is.length ∧ x4 = .int .i64 i ∧ L = L') ?_ is.length om_
    ⟨0, by omega, by omega, rfl, rfl, rfl, rfl, rfl⟩
  rintro d k x1 x2 x3 x4 L' ⟨i, e1, e2, rfl, rfl, rfl, rfl, rfl⟩ hk
  rcases Nat.lt_or_ge i is.length with hi | hi
  · obtain ⟨x, hx, _⟩ := drop_at hi
    (refine .lssT om_ ?_; refine .condT ?_)
    refine InsR.idx hv i x rfl hx fun p ve r hve hp => ?_
    have hev := evs_le (is.take i)
    have hke := ev_le x.k
    have ht := evs_take hx
    rw [List.length_take] at hev
    have hbx : allOne (V.agg (insC x ve)).cells = true := ins_one hve.one x
    ((refine .loadNA rc_ sd_ ?_); refine .newT fun b hb => ?_; (refine .storeN om_ rf_ sd_ bx_ ?_); refine .fl ?_; refine of_c rf_ ?_; refine .part1 _ rf_ ?_; (iterate 2 refine .add om_ om_ ?_))
    refine W.drop ?_
    exact hk (d - 1) _ _ _ _ _ om_ ⟨i + 1, by omega, by omega, by rw [ht], rfl, rfl, by rw [Int.natCast_add]; rfl, rfl⟩
  · (refine .lssF om_ ?_; refine .condF ?_)
    rw [List.take_of_length_le hi]; exact q
theorem paths_c {K : V → H → Option R} {m : Nat} {vs : List V} {is : List Ins} {v : V} (hvs : vs = [v]) (hv : InsR L v is) (hl : is.length < 100000) (q : W Q B A S L (K (.int .i64 (paths is)))) : W Q B A S (L) fun h => J.call (F (m + 3)) (.fn (.func 23) [] []) vs R h K := by
  subst hvs
  refine W.callE (d := d23) (c := c23) (by kernel_rfl) rfl (by rfl) ?_
  unfold c23
  (refine .hd ?_; refine .en ?_; refine InsR.len hv ?_)
  refine W.loop4 (I := fun d x1 x2 x3 x4 L' => ∃ i : Nat, is.length ≤ i + d ∧ i ≤ is.length ∧ x1 = .int .i64 (paths (is.take i)) ∧ v = x2 ∧ x3 = .int .i64 is.length ∧ x4 = .int .i64 i ∧ L = L') ?_ is.length om_
    ⟨0, by omega, by omega, rfl, rfl, rfl, rfl, rfl⟩
  rintro d k x1 x2 x3 x4 L' ⟨i, e1, e2, rfl, rfl, rfl, rfl, rfl⟩ hk
  rcases Nat.lt_or_ge i is.length with hi | hi
  · obtain ⟨x, hx, _⟩ := drop_at hi
    (refine .lssT om_ ?_; refine .condT ?_)
    refine InsR.idx hv i x rfl hx fun p ve r hve hp => ?_
    have hpl := paths_le (is.take i)
    have ht := paths_take hx
    have hbx : allOne (V.agg (insC x ve)).cells = true := ins_one hve.one x
    ((refine .loadNA rc_ sd_ ?_); refine .newT fun b hb => ?_; (refine .storeN om_ rf_ sd_ bx_ ?_); refine .fl ?_)
    have go : ∀ n' : Int, n' = paths (is.take (i + 1)) → W Q B A S L (k (.int .i64 n') v (.int .i64 is.length) (.int .i64 ((i : Int) + 1))) := fun n' hn => hk (d - 1) _ _ _ _ _ om_ ⟨i + 1, by omega, by omega, by rw [hn], rfl, rfl, by rw [Int.natCast_add]; rfl, rfl⟩
    (refine .eqlC (fun c => ?_) (fun c => ?_); refine .join ?_; refine .condT ?_; refine mulL om_ om_ ?_; refine .min ?_; refine .add om_ om_ ?_; rotate_left; refine .join ?_; refine .condF ?_; refine .add om_ om_ ?_; rotate_right)
    all_goals refine W.drop (go _ ?_)
    all_goals (rw [ht]; unfold pathStep)
    all_goals (first | rw [if_pos (show x.k = 6 by assumption)] | rw [if_neg (show ¬ x.k = 6 by assumption)])
  · (refine .lssF om_ ?_; refine .condF ?_)
    rw [List.take_of_length_le hi]; exact q
end
end Go.Proofs.Ythkipncmnefomaa.XCodeL
