/- A verified executor, part 27: what is told from without, by rows. -/
import Derived.Test.YtojfkhhebedeoaaGreatDoorXTable
set_option linter.unusedVariables false
set_option linter.unusedSimpArgs false
set_option linter.unusedSectionVars false
namespace Go.X
open Go.RowKit
universe u
variable [Nu]

/-- A whole number, by its name or outright. -/
inductive Nm where
  | s (i : Nat)
  | n (z : Int)
def Nm.val : Nm → Int
  | .s i => Nu.v i
  | .n z => z
theorem ieq_true {a b : Int} (h : ieq a b = true) : a = b := by rw [ieq_eq] at h; simpa using h
noncomputable def Nm.is (m : Nm) (v : V) : Bool := match m, v with
  | .s i, .sym .i64 j => Nat.beq i j
  | .n z, .int .i64 y => ieq z y
  | _, _ => false
theorem Nm.is_val {m : Nm} {v : V} (h : m.is v = true) {E : En} {x : Value} (hx : RV E v x) : x = .int .i64 m.val := by
  cases m with
  | s i =>
    cases v with
    | sym k j =>
      cases k with
      | i64 => have : i = j := beq_true.1 h; subst this; rw [RV] at hx; exact hx
      | _ => exact nomatch h
    | _ => exact nomatch h
  | n z =>
    cases v with
    | int k y =>
      cases k with
      | i64 => have := ieq_true h; subst this; rw [RV] at hx; exact hx
      | _ => exact nomatch h
    | _ => exact nomatch h

def opEq : BinOp → BinOp → Bool
  | .add, .add => true
  | .sub, .sub => true
  | .mul, .mul => true
  | .quo, .quo => true
  | .rem, .rem => true
  | .and, .and => true
  | .or, .or => true
  | .xor, .xor => true
  | .shl, .shl => true
  | .shr, .shr => true
  | .eql, .eql => true
  | .neq, .neq => true
  | .lss, .lss => true
  | .leq, .leq => true
  | .gtr, .gtr => true
  | .geq, .geq => true
  | _, _ => false
omit [Nu] in
theorem opEq_true {a b : BinOp} (h : opEq a b = true) : a = b := by cases a <;> cases b <;> first | rfl | exact nomatch h

/-- What an operator comes to. -/
structure ARow where
  op : BinOp
  a : Nm
  b : Nm
  r : V
noncomputable def askRows (l : List ARow) (op : BinOp) (v u : V) : Option V := List.rec none (fun p _ ih => Bool.rec ih (Bool.rec ih (Bool.rec ih (some p.r) (p.b.is u)) (p.a.is v)) (opEq p.op op)) l
/-- It does. -/
def ARow.OK (p : ARow) : Prop := ∀ (P : Program) (E : En) (t : TypeId) (w : World), ∃ z, RV E p.r z ∧ (binOp p.op t (.int .i64 p.a.val) (.int .i64 p.b.val)).run P w = .ok z w
theorem askRows_ok {P : Program} : ∀ {l : List ARow}, (∀ p ∈ l, p.OK) → ∀ (op : BinOp) (v u r : V), askRows l op v u = some r → ∀ (E : En) (x y : Value), RV E v x → RV E u y → ∀ (t : TypeId) (w : World), ∃ z, RV E r z ∧ (∃ k n, x = .int k n) ∧ (binOp op t x y).run P w = .ok z w
  | [], hl, op, v, u, r, h, E, x, y, hx, hy, t, w => nomatch h
  | p :: l, hl, op, v, u, r, h, E, x, y, hx, hy, t, w => by
    have h' : (Bool.rec (askRows l op v u) (Bool.rec (askRows l op v u) (Bool.rec (askRows l op v u) (some p.r) (p.b.is u)) (p.a.is v)) (opEq p.op op) : Option V) = some r := h
    have rest : askRows l op v u = some r → _ := fun q => askRows_ok (P := P) (fun p hp => hl p (List.mem_cons_of_mem _ hp)) op v u r q E x y hx hy t w
    cases e1 : opEq p.op op with
    | false => rw [e1] at h'; exact rest h'
    | true =>
      rw [e1] at h'
      cases e2 : p.a.is v with
      | false => rw [e2] at h'; exact rest h'
      | true =>
        rw [e2] at h'
        cases e3 : p.b.is u with
        | false => rw [e3] at h'; exact rest h'
        | true =>
          rw [e3] at h'
          have h2 : some p.r = some r := h'
          simp only [Option.some.injEq] at h2
          subst h2
          have hop := opEq_true e1
          subst hop
          have hxx := Nm.is_val e2 hx
          have hyy := Nm.is_val e3 hy
          subst hxx
          subst hyy
          obtain ⟨z, q1, q2⟩ := hl p List.mem_cons_self P E t w
          exact ⟨z, q1, ⟨_, _, rfl⟩, q2⟩

/-- What a call comes to. -/
structure CRow where
  g : Nat
  args : List Nm
  r : V
noncomputable def areNm (l : List Nm) : List V → Bool := List.rec (fun vs => List.rec true (fun _ _ _ => false) vs) (fun m _ ih vs => List.rec false (fun v vs _ => Bool.rec false (ih vs) (m.is v)) vs) l
theorem areNm_val {E : En} : ∀ {l : List Nm} {vs : List V}, areNm l vs = true → ∀ {args : List Value}, RVs E vs args → args = l.map fun m => Value.int .i64 m.val
  | [], [], _, args, ha => RVs_nil.1 ha
  | [], v :: vs, h, args, ha => nomatch h
  | m :: l, [], h, args, ha => nomatch h
  | m :: l, v :: vs, h, args, ha => by
    have h' : (Bool.rec false (areNm l vs) (m.is v) : Bool) = true := h
    obtain ⟨y, r, rfl, h1, h2⟩ := RVs_cons.1 ha
    cases e : m.is v with
    | false => rw [e] at h'; exact nomatch h'
    | true =>
      rw [e] at h'
      rw [Nm.is_val e h1, areNm_val h' h2]
      rfl
noncomputable def callRows (l : List CRow) (g : Nat) (vs : List V) : Option V := List.rec none (fun p _ ih => Bool.rec ih (Bool.rec ih (some p.r) (areNm p.args vs)) (Nat.beq p.g g)) l
structure CRow.OK (P : Program) (p : CRow) : Prop where
  fn : ∃ fn, P.funcs[p.g]? = some fn ∧ (fn.name == "runtime.NumGoroutine") = false ∧ fn.body.isNone = false
  call : ∀ (E : En) (w : World), Calls P p.g (p.args.map fun m => Value.int .i64 m.val).toArray w fun e w' => ∃ x, e = .returned x ∧ Below w.heap.size w w' ∧ RV E p.r x
theorem callRows_ok {P : Program} : ∀ {l : List CRow}, (∀ p ∈ l, p.OK P) → ∀ (g : Nat) (vs : List V) (r : V), callRows l g vs = some r → (∃ fn, P.funcs[g]? = some fn ∧ (fn.name == "runtime.NumGoroutine") = false ∧ fn.body.isNone = false) ∧
    ∀ (E : En) (args : List Value) (w : World), RVs E vs args → Calls P g args.toArray w fun e w' => ∃ x, e = .returned x ∧ Below w.heap.size w w' ∧ RV E r x
  | [], hl, g, vs, r, h => nomatch h
  | p :: l, hl, g, vs, r, h => by
    have h' : (Bool.rec (callRows l g vs) (Bool.rec (callRows l g vs) (some p.r) (areNm p.args vs)) (Nat.beq p.g g) : Option V) = some r := h
    have rest : callRows l g vs = some r → _ := fun q => callRows_ok (P := P) (fun p hp => hl p (List.mem_cons_of_mem _ hp)) g vs r q
    cases e1 : Nat.beq p.g g with
    | false => rw [e1] at h'; exact rest h'
    | true =>
      rw [e1] at h'
      cases e2 : areNm p.args vs with
      | false => rw [e2] at h'; exact rest h'
      | true =>
        rw [e2] at h'
        have h2 : some p.r = some r := h'
        simp only [Option.some.injEq] at h2
        subst h2
        have hg := beq_true.1 e1
        subst hg
        obtain ⟨q1, q2⟩ := hl p List.mem_cons_self
        refine ⟨q1, fun E args w ha => ?_⟩
        rw [areNm_val e2 ha]
        exact q2 E w

/-- What a call comes to, reckoned, perhaps out of memory. -/
structure KRow where
  g : Nat
  k : List V → Kal V
structure KRow.OK (P : Program) (p : KRow) : Prop where
  fn : ∃ fn, P.funcs[p.g]? = some fn ∧ (fn.name == "runtime.NumGoroutine") = false ∧ fn.body.isNone = false
  good : ∀ vs, Good (p.k vs)
  call : ∀ (vs : List V) (h : H) (v : V) (h' : H) (w0 : World) (E : En) (wd : World) (args : List Value), run (p.k vs) h = some (v, h') → Sim w0 E h wd → RVs E vs args →
      Calls P p.g args.toArray wd fun e w' => ∃ x E', e = .returned x ∧ E.le E' ∧ Sim w0 E' h' w' ∧ RV E' v x
noncomputable def callKs (l : List KRow) (g : Nat) (vs : List V) : Option (Kal V) := List.rec none (fun p _ ih => Bool.rec ih (some (p.k vs)) (Nat.beq p.g g)) l
theorem callKs_ok {P : Program} : ∀ {l : List KRow}, (∀ p ∈ l, p.OK P) → ∀ (g : Nat) (vs : List V) (k : Kal V), callKs l g vs = some k → (∃ fn, P.funcs[g]? = some fn ∧ (fn.name == "runtime.NumGoroutine") = false ∧ fn.body.isNone = false) ∧ Good k ∧
    ∀ (h : H) (v : V) (h' : H) (w0 : World) (E : En) (wd : World) (args : List Value), run k h = some (v, h') → Sim w0 E h wd → RVs E vs args →
      Calls P g args.toArray wd fun e w' => ∃ x E', e = .returned x ∧ E.le E' ∧ Sim w0 E' h' w' ∧ RV E' v x
  | [], hl, g, vs, k, h => nomatch h
  | p :: l, hl, g, vs, k, h => by
    have h' : (Bool.rec (callKs l g vs) (some (p.k vs)) (Nat.beq p.g g) : Option (Kal V)) = some k := h
    cases e1 : Nat.beq p.g g with
    | false => rw [e1] at h'; exact callKs_ok (fun p hp => hl p (List.mem_cons_of_mem _ hp)) g vs k h'
    | true =>
      rw [e1] at h'
      have h2 : some (p.k vs) = some k := h'
      simp only [Option.some.injEq] at h2
      subst h2
      have hg := beq_true.1 e1
      subst hg
      obtain ⟨q1, q2, q3⟩ := hl p List.mem_cons_self
      exact ⟨q1, q2 vs, q3 vs⟩
noncomputable def callAll (c : List CRow) (l : List KRow) (g : Nat) (vs : List V) : Option (Kal V) := Option.rec (callKs l g vs) (fun r => some (fun _ h K => K r h)) (callRows c g vs)
theorem callAll_ok {P : Program} {c : List CRow} {l : List KRow} (hc : ∀ p ∈ c, p.OK P) (hl : ∀ p ∈ l, p.OK P) (g : Nat) (vs : List V) (k : Kal V) (h : callAll c l g vs = some k) : (∃ fn, P.funcs[g]? = some fn ∧ (fn.name == "runtime.NumGoroutine") = false ∧ fn.body.isNone = false) ∧ Good k ∧
    ∀ (h : H) (v : V) (h' : H) (w0 : World) (E : En) (wd : World) (args : List Value), run k h = some (v, h') → Sim w0 E h wd → RVs E vs args →
      Calls P g args.toArray wd fun e w' => ∃ x E', e = .returned x ∧ E.le E' ∧ Sim w0 E' h' w' ∧ RV E' v x := by
  unfold callAll at h
  cases e : callRows c g vs with
  | none => rw [e] at h; exact callKs_ok hl g vs k h
  | some r =>
    rw [e] at h
    have h2 : some (fun _ h K => K r h : Kal V) = some k := h
    simp only [Option.some.injEq] at h2
    subst h2
    obtain ⟨p1, p2⟩ := callRows_ok hc g vs r e
    refine ⟨p1, Good.pure r, fun h v h' w0 E wd args hr hs ha => ?_⟩
    obtain ⟨q1, q2⟩ := run_pure.1 hr
    subst q1
    subst q2
    exact Calls.mono (p2 E args wd ha) fun e w' ⟨x, h1, h2, h3⟩ => ⟨x, E, h1, En.le_refl E, hs.beside h2, h3⟩
noncomputable def rowsOrc (c : List CRow) (l : List KRow) (a : List ARow) : Orc := ⟨callAll c l, askRows a⟩
theorem rowsOrc_ok {P : Program} {c : List CRow} {l : List KRow} {a : List ARow} (hc : ∀ p ∈ c, p.OK P) (hl : ∀ p ∈ l, p.OK P) (ha : ∀ p ∈ a, p.OK) : OrcOK P (rowsOrc c l a) := ⟨askRows_ok ha, callAll_ok hc hl⟩
noncomputable def rowOrc (c : List CRow) (a : List ARow) : Orc := rowsOrc c [] a
theorem rowOrc_ok {P : Program} {c : List CRow} {a : List ARow} (hc : ∀ p ∈ c, p.OK P) (ha : ∀ p ∈ a, p.OK) : OrcOK P (rowOrc c a) := rowsOrc_ok hc (fun p hp => nomatch hp) ha

/-- A law that says yes, told as a row. -/
theorem CRow.yes {P : Program} {g : Nat} {l : List Nm} {fn : Func} (h1 : P.funcs[g]? = some fn) (h2 : (fn.name == "runtime.NumGoroutine") = false) (h3 : fn.body.isNone = false)
    (h : ∀ w : World, Calls P g (l.map fun m => Value.int .i64 m.val).toArray w fun e w' => e = .returned (.bool true) ∧ Below w.heap.size w w') : CRow.OK P ⟨g, l, .bool true⟩ :=
  ⟨⟨fn, h1, h2, h3⟩, fun E w => (h w).mono fun e w' ⟨q1, q2⟩ => ⟨_, q1, q2, by rw [RV]⟩⟩
/-- A whole number, told as a row. -/
theorem CRow.num {P : Program} {g : Nat} {l : List Nm} {fn : Func} {m : Int} (h1 : P.funcs[g]? = some fn) (h2 : (fn.name == "runtime.NumGoroutine") = false) (h3 : fn.body.isNone = false)
    (h : ∀ w : World, Calls P g (l.map fun m => Value.int .i64 m.val).toArray w fun e w' => e = .returned (.int .i64 m) ∧ Below w.heap.size w w') : CRow.OK P ⟨g, l, .int .i64 m⟩ :=
  ⟨⟨fn, h1, h2, h3⟩, fun E w => (h w).mono fun e w' ⟨q1, q2⟩ => ⟨_, q1, q2, by rw [RV]⟩⟩
/-- One whole number's operator. -/
theorem ARow.num {op : BinOp} {a b : Nm} {m : Int} (h : ∀ (P : Program) (t : TypeId) (w : World), (binOp op t (.int .i64 a.val) (.int .i64 b.val)).run P w = .ok (.int .i64 m) w) : ARow.OK ⟨op, a, b, .int .i64 m⟩ :=
  fun P E t w => ⟨_, by rw [RV], h P t w⟩
theorem ARow.yesno {op : BinOp} {a b : Nm} {m : Bool} (h : ∀ (P : Program) (t : TypeId) (w : World), (binOp op t (.int .i64 a.val) (.int .i64 b.val)).run P w = .ok (.bool m) w) : ARow.OK ⟨op, a, b, .bool m⟩ :=
  fun P E t w => ⟨_, by rw [RV], h P t w⟩
theorem ARow.named {op : BinOp} {a b : Nm} {i : Nat} (h : ∀ (P : Program) (t : TypeId) (w : World), (binOp op t (.int .i64 a.val) (.int .i64 b.val)).run P w = .ok (.int .i64 (Nu.v i)) w) : ARow.OK ⟨op, a, b, .sym .i64 i⟩ :=
  fun P E t w => ⟨_, by rw [RV], h P t w⟩

/-- A call that comes to a whole number that has a name. -/
def symOf (o : Option (V × H)) : Option Nat := match o with
  | some (v, _) => (match v with | .sym .i64 i => some i | _ => none)
  | none => none
theorem calls_sym {Γ : Cx} (hΓ : Γ.Ok) (hm : Γ.P.follows .mixedOrders = true) {T : Uh FnC} (hT : TableOK Γ T) {Θ : Orc} (hΘ : OrcOK Γ.P Θ) {n g i : Nat} {vs : List V} {args : List Value} (hr : symOf (run ((callN Θ T n).call g vs) h0) = some i) (w : World) (ho : Below Nu.old.heap.size Nu.old w)
    (ha : RVs ⟨fun _ => .none, fun _ => 0, []⟩ vs args) : Calls Γ.P g args.toArray w fun e w' => e = .returned (.int .i64 (Nu.v i)) ∧ Below w.heap.size w w' := by
  cases e : run ((callN Θ T n).call g vs) h0 with
  | none => rw [e] at hr; exact nomatch hr
  | some q =>
    obtain ⟨v, h'⟩ := q
    rw [e] at hr
    cases v with
    | sym k j =>
      cases k with
      | i64 =>
        have hj : some j = some i := hr
        simp only [Option.some.injEq] at hj
        subst hj
        refine Calls.mono (calls_of_run hΓ hm hT hΘ e w ho ha) fun e w' ⟨x, E', h1, h2, h3⟩ => ?_
        rw [RV] at h3
        exact ⟨by rw [h1, h3], h2.kept⟩
      | _ => exact nomatch hr
    | _ => exact nomatch hr

/-- An operator's row, by the executor's own reckoning. -/
theorem ARow.ofI {op : BinOp} {a b : Nm} {m : Int} (h : arith op .i64 a.val b.val = some (.int .i64 m)) : ∀ (P : Program) (t : TypeId) (w : World), (binOp op t (.int .i64 a.val) (.int .i64 b.val)).run P w = .ok (.int .i64 m) w := by
  intro P t w
  obtain ⟨x, h1, h2⟩ := arith_ok (P := P) h ⟨fun _ => .none, fun _ => 0, []⟩ t w
  rw [RV] at h1
  rw [h2, h1]
theorem ARow.ofB {op : BinOp} {a b : Nm} {m : Bool} (h : arith op .i64 a.val b.val = some (.bool m)) : ∀ (P : Program) (t : TypeId) (w : World), (binOp op t (.int .i64 a.val) (.int .i64 b.val)).run P w = .ok (.bool m) w := by
  intro P t w
  obtain ⟨x, h1, h2⟩ := arith_ok (P := P) h ⟨fun _ => .none, fun _ => 0, []⟩ t w
  rw [RV] at h1
  rw [h2, h1]
theorem all1 {α : Type u} {p : α → Prop} {a : α} (h : p a) : ∀ x ∈ [a], p x := fun x hx => by rw [List.mem_singleton] at hx; rw [hx]; exact h
theorem all0 {α : Type u} {p : α → Prop} : ∀ x ∈ ([] : List α), p x := fun x hx => nomatch hx
theorem allC {α : Type u} {p : α → Prop} {a : α} {l : List α} (h : p a) (hl : ∀ x ∈ l, p x) : ∀ x ∈ a :: l, p x := fun x hx => (List.mem_cons.1 hx).elim (fun e => e ▸ h) (hl x)
theorem arith_rem {a b : Int} (h : b ≠ 0) : arith .rem .i64 a b = some (.int .i64 (Int.tmod a b)) := by
  show (Bool.rec (some (V.int .i64 (imod a b))) none (ieq b 0) : Option V) = _
  have : ieq b 0 = false := by rw [ieq_eq]; simpa using h
  rw [this, imod_eq]
theorem arith_lss (a b : Int) : arith .lss .i64 a b = some (.bool (decide (a < b))) := by
  show some (V.bool (ilt a b)) = _
  rw [ilt_eq]
theorem arith_eql (a b : Int) : arith .eql .i64 a b = some (.bool (decide (a = b))) := by
  show some (V.bool (ieq a b)) = _
  rw [ieq_eq]; rfl
theorem arith_add (a b : Int) : arith .add .i64 a b = some (.int .i64 (IntKind.i64.wrap (a + b))) := by
  show some (V.int .i64 (wrap64 (iadd a b))) = _
  rw [wrap64_eq, iadd_eq]
theorem arith_sub (a b : Int) : arith .sub .i64 a b = some (.int .i64 (IntKind.i64.wrap (a - b))) := by
  show some (V.int .i64 (wrap64 (isub a b))) = _
  rw [wrap64_eq, isub_eq]
theorem wrap_of_wf {n : Int} (h : (Lit.int .i64 n).wf = true) : IntKind.i64.wrap n = n := by
  simp only [Lit.wf, Bool.and_eq_true, decide_eq_true_eq] at h
  have h1 : -9223372036854775808 ≤ n := h.1
  have h2 : n ≤ 9223372036854775807 := h.2
  rw [IntKind.wrap_i64]
  omega
end Go.X
