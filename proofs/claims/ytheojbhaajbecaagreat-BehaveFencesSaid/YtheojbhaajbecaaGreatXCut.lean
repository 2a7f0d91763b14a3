/- A verified executor: long calls, cut off: each by itself, told by its arguments and by what it comes to. -/
import Derived.Test.YtheojbhaajbecaaGreatXSnap2
set_option linter.unusedVariables false
set_option linter.unusedSimpArgs false
set_option linter.unusedSectionVars false
namespace Go.X
open Go.RowKit
noncomputable section

/-! sameness -/
def natEq? : Option Nat → Option Nat → Bool := Option.rec (fun b => Option.rec true (fun _ => false) b) (fun x b => Option.rec false (fun y => Nat.beq x y) b)
def boolEq : Bool → Bool → Bool := Bool.rec (fun b => Bool.rec true false b) (fun b => Bool.rec false true b)
mutual
def vEq : V → V → Bool
  | .int k n, .int k' n' => Bool.rec false (ieq n n') (kindEq k k')
  | .bool a, .bool b => boolEq a b
  | .str s, .str t => sEq s t
  | .ptr b o, .ptr b' o' => Bool.rec false (Nat.beq o o') (Nat.beq b b')
  | .nilp, .nilp => true
  | .slice b o n es c, .slice b' o' n' es' c' => Bool.rec false (Bool.rec false (Bool.rec false (Bool.rec false (natEq? c c') (Nat.beq es es')) (Nat.beq n n')) (Nat.beq o o')) (Nat.beq b b')
  | .nils, .nils => true
  | .emp, .emp => true
  | .map b, .map b' => Nat.beq b b'
  | .nilmap, .nilmap => true
  | .fn (.func f) a c, .fn (.func f') a' c' => Bool.rec false (Bool.rec false (vsEq c c') (vsEq a a')) (Nat.beq f f')
  | .nilfn, .nilfn => true
  | .iface t v, .iface t' v' => Bool.rec false (vEq v v') (Nat.beq t t')
  | .nili, .nili => true
  | .agg l, .agg l' => vsEq l l'
  | .tup l, .tup l' => vsEq l l'
  | .yld b, .yld b' => Nat.beq b b'
  | .sym .i64 i, .sym .i64 j => Nat.beq i j
  | .bigs es l n, .bigs es' l' n' => Bool.rec false (Bool.rec false (vEq n n') (vsEq l l')) (Nat.beq es es')
  | .view l, .view l' => vsEq l l'
  | _, _ => false
def vsEq : List V → List V → Bool
  | [], [] => true
  | x :: l, y :: m => Bool.rec false (vsEq l m) (vEq x y)
  | _, _ => false
end
theorem ff {p : Prop} (h : false = true) : p := nomatch h
theorem boolAnd {a b : Bool} (h : (Bool.rec false a b : Bool) = true) : b = true ∧ a = true := by cases b with | false => exact ff h | true => exact ⟨rfl, h⟩
theorem boolEq_true {a b : Bool} (h : boolEq a b = true) : a = b := by cases a <;> cases b <;> first | rfl | exact nomatch h
section
variable [Nu]
theorem natEq?_true {a b : Option Nat} (h : natEq? a b = true) : a = b := by
  cases a <;> cases b <;> first | rfl | exact ff h | exact congrArg some (beq_true.1 h)
mutual
theorem vEq_true : ∀ (a b : V), vEq a b = true → a = b
  | .int k n, b, h => by cases b <;> first | exact ff h | skip
                         rename_i k' n'; rw [vEq] at h; obtain ⟨h1, h2⟩ := boolAnd h; rw [kindEq_eq h1, ieq_true h2]
  | .bool a, b, h => by cases b <;> first | exact ff h | skip
                        rw [vEq] at h; rw [boolEq_true h]
  | .str s, b, h => by cases b <;> first | exact ff h | skip
                       rw [vEq, sEq_eq] at h; rw [of_decide_eq_true h]
  | .ptr x o, b, h => by cases b <;> first | exact ff h | skip
                         rw [vEq] at h; obtain ⟨h1, h2⟩ := boolAnd h; rw [beq_true.1 h1, beq_true.1 h2]
  | .nilp, b, h => by cases b <;> first | exact ff h | rfl
  | .slice x o n es c, b, h => by
    cases b <;> first | exact ff h | skip
    rw [vEq] at h; obtain ⟨h1, h⟩ := boolAnd h; obtain ⟨h2, h⟩ := boolAnd h; obtain ⟨h3, h⟩ := boolAnd h; obtain ⟨h4, h5⟩ := boolAnd h
    rw [beq_true.1 h1, beq_true.1 h2, beq_true.1 h3, beq_true.1 h4, natEq?_true h5]
  | .nils, b, h => by cases b <;> first | exact ff h | rfl
  | .emp, b, h => by cases b <;> first | exact ff h | rfl
  | .map x, b, h => by cases b <;> first | exact ff h | skip
                       rw [vEq] at h; rw [beq_true.1 h]
  | .nilmap, b, h => by cases b <;> first | exact ff h | rfl
  | .fn f a c, b, h => by
    cases b <;> first | (cases f <;> exact ff h) | skip
    rename_i f' a' c'
    cases f <;> cases f' <;> first | exact ff h | skip
    rw [vEq] at h; obtain ⟨h1, h⟩ := boolAnd h; obtain ⟨h2, h3⟩ := boolAnd h
    rw [beq_true.1 h1, vsEq_true _ _ h2, vsEq_true _ _ h3]
  | .nilfn, b, h => by cases b <;> first | exact ff h | rfl
  | .iface t v, b, h => by
    cases b <;> first | exact ff h | skip
    rw [vEq] at h; obtain ⟨h1, h2⟩ := boolAnd h; rw [beq_true.1 h1, vEq_true _ _ h2]
  | .nili, b, h => by cases b <;> first | exact ff h | rfl
  | .agg l, b, h => by cases b <;> first | exact ff h | skip
                       rw [vEq] at h; rw [vsEq_true _ _ h]
  | .tup l, b, h => by cases b <;> first | exact ff h | skip
                       rw [vEq] at h; rw [vsEq_true _ _ h]
  | .yld x, b, h => by cases b <;> first | exact ff h | skip
                       rw [vEq] at h; rw [beq_true.1 h]
  | .sym k i, b, h => by
    cases b <;> first | (cases k <;> exact ff h) | skip
    rename_i k' i'
    cases k <;> cases k' <;> first | exact ff h | skip
    rw [vEq] at h; rw [beq_true.1 h]
  | .bigs es l n, b, h => by
    cases b <;> first | exact ff h | skip
    rw [vEq] at h; obtain ⟨h1, h⟩ := boolAnd h; obtain ⟨h2, h3⟩ := boolAnd h
    rw [beq_true.1 h1, vsEq_true _ _ h2, vEq_true _ _ h3]
  | .view l, b, h => by cases b <;> first | exact ff h | skip
                        rw [vEq] at h; rw [vsEq_true _ _ h]
theorem vsEq_true : ∀ (a b : List V), vsEq a b = true → a = b
  | [], b, h => by cases b <;> first | exact ff h | rfl
  | x :: l, b, h => by
    cases b <;> first | exact ff h | skip
    rw [vsEq] at h; obtain ⟨h1, h2⟩ := boolAnd h; rw [vEq_true _ _ h1, vsEq_true _ _ h2]
end
end
def esEq : List (V × V) → List (V × V) → Bool
  | [], [] => true
  | p :: l, q :: m => Bool.rec false (Bool.rec false (esEq l m) (vEq p.2 q.2)) (vEq p.1 q.1)
  | _, _ => false
theorem esEq_true [Nu] : ∀ (a b : List (V × V)), esEq a b = true → a = b
  | [], b, h => by cases b <;> first | exact ff h | rfl
  | x :: l, b, h => by
    cases b <;> first | exact ff h | skip
    rw [esEq] at h; obtain ⟨h1, h⟩ := boolAnd h; obtain ⟨h2, h3⟩ := boolAnd h
    rw [esEq_true _ _ h3, Prod.ext (vEq_true _ _ h1) (vEq_true _ _ h2)]
def blkEq : Blk → Blk → Bool
  | .cells c w y, .cells c' w' y' => Bool.rec false (Bool.rec false (vsEq c c') (boolEq w w')) (Nat.beq y y')
  | .map es, .map es' => esEq es es'
  | .dead, .dead => true
  | _, _ => false
theorem blkEq_true [Nu] {a b : Blk} (h : blkEq a b = true) : a = b := by
  cases a <;> cases b <;> first | exact ff h | rfl | skip
  · rw [blkEq] at h; obtain ⟨h1, h⟩ := boolAnd h; obtain ⟨h2, h3⟩ := boolAnd h
    rw [beq_true.1 h1, boolEq_true h2, vsEq_true _ _ h3]
  · rw [blkEq] at h; rw [esEq_true _ _ h]


/-- A call, cut off: its arguments; what it comes to; the numbers that its blocks have when it runs by itself. -/
structure Cut where
  ts : List V
  r : Res
  c : List Nat
def nthD0 (l : List Nat) : Nat → Nat := List.rec (fun _ => 0) (fun x _ ih n => Nat.rec x (fun m _ => ih m) n) l
def isDead : Blk → Bool
  | .dead => true
  | _ => false
def oneN : List Nat → Bool
  | [] => true
  | x :: l => Bool.rec (oneN l) false (l.any (Nat.beq x))
def blksOK (h : H) (c : Nat → Nat) : List Blk → List Nat → Bool
  | [], [] => true
  | k :: l, n :: m => Bool.rec false (blksOK h c l m) (Bool.rec (Option.rec false (fun q => blkEq (renB c k) q) (h.at n)) true (isDead k))
  | _, _ => false
def cutOK (m : Cut) (o : Option (V × H)) : Bool := Option.rec false (fun q => Bool.rec false (Bool.rec false (Bool.rec false (blksOK q.2 (nthD0 m.c) m.r.blks m.c) (vEq q.1 (ren (nthD0 m.c) m.r.v))) (oneN m.c)) (okRes m.r)) o
theorem nthD0_get : ∀ {l : List Nat} {i : Nat}, i < l.length → l[i]? = some (nthD0 l i)
  | [], i, h => absurd h (Nat.not_lt_zero _)
  | x :: l, 0, h => rfl
  | x :: l, i + 1, h => by
    rw [List.getElem?_cons_succ, nthD0_get (l := l) (i := i) (by simpa using h)]
    rfl
theorem oneN_inj [Nu] : ∀ {l : List Nat}, oneN l = true → ∀ i j, i < l.length → j < l.length → nthD0 l i = nthD0 l j → i = j
  | [], _, i, j, hi, _, _ => absurd hi (Nat.not_lt_zero _)
  | x :: l, h, i, j, hi, hj, e => by
    rw [oneN] at h
    have hx : l.any (Nat.beq x) = false := by
      cases c : l.any (Nat.beq x) with
      | false => rfl
      | true => rw [c] at h; exact nomatch h
    rw [hx] at h
    have hno : ∀ k, k < l.length → x ≠ nthD0 l k := fun k hk e => by
      have := List.any_eq_false.1 hx (nthD0 l k) (List.mem_of_getElem? (nthD0_get hk))
      rw [← e] at this
      exact this (by simp)
    cases i with
    | zero =>
      cases j with
      | zero => rfl
      | succ j => exact absurd e (hno j (by simpa using hj))
    | succ i =>
      cases j with
      | zero => exact absurd e.symm (hno i (by simpa using hi))
      | succ j => rw [oneN_inj (l := l) h i j (by simpa using hi) (by simpa using hj) e]
theorem blksOK_get [Nu] {h : H} {c : Nat → Nat} : ∀ {l : List Blk} {m : List Nat}, blksOK h c l m = true → l.length = m.length ∧ ∀ (j : Nat) (k : Blk), l[j]? = some k → k = .dead ∨ ∃ n, m[j]? = some n ∧ h.at n = some (renB c k)
  | [], [], _ => ⟨rfl, fun j k e => by simp at e⟩
  | [], n :: m, h => by rw [blksOK] at h <;> first | exact nomatch h | simp
  | k :: l, [], h => by rw [blksOK] at h <;> first | exact nomatch h | simp
  | k :: l, n :: m, h' => by
    rw [blksOK] at h'
    obtain ⟨h1, h2⟩ := boolAnd h'
    obtain ⟨q1, q2⟩ := blksOK_get h2
    refine ⟨by simp [q1], fun j k' e => ?_⟩
    cases j with
    | zero =>
      simp only [List.getElem?_cons_zero, Option.some.injEq] at e
      subst e
      cases k with
      | dead => exact .inl rfl
      | cells cs q y =>
        refine .inr ⟨n, rfl, ?_⟩
        have h3 : (Option.rec false (fun q' => blkEq (renB c (.cells cs q y)) q') (h.at n) : Bool) = true := h1
        cases e : h.at n with
        | none => rw [e] at h3; exact nomatch h3
        | some b => rw [e] at h3; rw [blkEq_true h3]
      | map es =>
        refine .inr ⟨n, rfl, ?_⟩
        have h3 : (Option.rec false (fun q' => blkEq (renB c (.map es)) q') (h.at n) : Bool) = true := h1
        cases e : h.at n with
        | none => rw [e] at h3; exact nomatch h3
        | some b => rw [e] at h3; rw [blkEq_true h3]
      | loop g j st p tm =>
        have h3 : (Option.rec false (fun q' => blkEq (renB c (.loop g j st p tm)) q') (h.at n) : Bool) = true := h1
        cases e : h.at n with
        | none => rw [e] at h3; exact nomatch h3
        | some b => rw [e] at h3; cases b <;> exact nomatch h3
    | succ j =>
      rw [List.getElem?_cons_succ] at e
      rcases q2 j k' e with q | ⟨n', q, q'⟩
      · exact .inl q
      · exact .inr ⟨n', by rw [List.getElem?_cons_succ]; exact q, q'⟩
theorem cut_self [Nu] {P : Program} {l : List (Nat × FnD)} {Θ : Orc} (hΘ : OrcOK P Θ) {n g : Nat} {m : Cut} (h : cutOK m (run ((callD Θ (tabOf l) n).call g m.ts) h0) = true) : SelfOK P l g m.ts m.r := by
  cases e : run ((callD Θ (tabOf l) n).call g m.ts) h0 with
  | none => rw [e] at h; exact nomatch h
  | some q =>
    obtain ⟨v, h2⟩ := q
    rw [e] at h
    obtain ⟨c1, h⟩ := boolAnd h
    obtain ⟨c2, h⟩ := boolAnd h
    obtain ⟨c3, c4⟩ := boolAnd h
    obtain ⟨q1, q2⟩ := blksOK_get c4
    refine ⟨c1, Θ, n, v, h2, nthD0 m.c, hΘ, e, vEq_true _ _ c3, fun i j hi hj e => oneN_inj c2 i j (by omega) (by omega) e, fun j k hj => ?_⟩
    rcases q2 j k hj with q | ⟨n', z1, z2⟩
    · exact .inl q
    · refine .inr ?_
      have : j < m.c.length := (List.getElem?_eq_some_iff.1 z1).1
      rw [nthD0_get this] at z1
      simp only [Option.some.injEq] at z1
      rw [z1]; exact z2
def cutRes (l : List Cut) (ts : List V) : Option Res := List.rec none (fun m _ ih => Bool.rec ih (some m.r) (vsEq m.ts ts)) l
theorem cutRes_mem [Nu] : ∀ {l : List Cut} {ts : List V} {r : Res}, cutRes l ts = some r → ∃ m ∈ l, m.ts = ts ∧ m.r = r
  | [], ts, r, h => nomatch h
  | m :: l, ts, r, h => by
    have h' : (Bool.rec (cutRes l ts) (some m.r) (vsEq m.ts ts) : Option Res) = some r := h
    cases c : vsEq m.ts ts with
    | false => rw [c] at h'; obtain ⟨m', q1, q2⟩ := cutRes_mem (l := l) h'; exact ⟨m', List.mem_cons_of_mem _ q1, q2⟩
    | true =>
      rw [c] at h'
      have h2 : some m.r = some r := h'
      simp only [Option.some.injEq] at h2
      exact ⟨m, List.mem_cons_self, vsEq_true _ _ c, h2⟩
/-- Calls of a function that are cut off. -/
def cutRow (g fuel : Nat) (l : List Cut) : KRow := snapRow g fuel (cutRes l)
theorem cutRow_ok [N : Nu] {Γ : Cx} (hm : Γ.P.follows .mixedOrders = true) {l : List (Nat × FnD)} (hΓ : ∀ M : Nu, Γ.P = M.prog → @Cx.Ok M Γ) (hl : AllD Γ l) (hN : Γ.P = N.prog) {g : Nat} {fn : Func} (h1 : Γ.P.funcs[g]? = some fn) (h2 : (fn.name == "runtime.NumGoroutine") = false) (h3 : fn.body.isNone = false)
    {fuel : Nat} {cs : List Cut} (hc : ∀ m ∈ cs, ∀ M : Nu, Γ.P = M.prog → M.val = N.val → @SelfOK M Γ.P l g m.ts m.r) : KRow.OK Γ.P (cutRow g fuel cs) :=
  snapRow_ok hm hΓ hl hN h1 h2 h3 fun ts r h M hM hv => by
    obtain ⟨m, q1, rfl, rfl⟩ := cutRes_mem h
    exact hc m q1 M hM hv
end
end Go.X
