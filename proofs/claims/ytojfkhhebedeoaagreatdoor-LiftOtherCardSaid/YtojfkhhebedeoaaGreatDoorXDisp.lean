/- A verified executor, part 17: every operation that is told, told rightly. -/
import Derived.Test.YtojfkhhebedeoaaGreatDoorXOpJ
import Derived.Orders
import Derived.OrdersIn
import Derived.RangeFuncRecord
set_option linter.unusedVariables false
set_option linter.unusedSimpArgs false
set_option linter.unusedSectionVars false
namespace Go.X
open Go.RowKit
variable [Nu]

/-- All functions, as deep as may be; the frames are of such a round. -/
def FC (rd : Option Nat) : Fence := { Fence.wide with round := rd }
theorem calls_in {n : Nat} {P : Program} {f : FuncId} {args : Array Value} {w : World} {R : Ending → World → Prop} (rd : Option Nat) (h : Calls P f args w R) : CallsIn (FC rd) n P f args w R := callsIn_wide.2 h
theorem calls_out {n : Nat} {P : Program} {f : FuncId} {args : Array Value} {w : World} {R : Ending → World → Prop} {rd : Option Nat} (h : CallsIn (FC rd) n P f args w R) : Calls P f args w R := callsIn_wide.1 h
theorem exec_no_defer {P : Program} {o : Oper} {ρ : Operand → Value} {w w' : World} {x : Next} (h : (execOp ρ o).run P w = .ok x w') (hx : ∀ d, x ≠ .defer d) : ∀ c, o.op ≠ .defer c := by
  intro c hc
  unfold execOp at h
  rw [hc] at h
  simp only [Sem.run_bind] at h
  cases hr : (resolve ρ c o.type).run P w with
  | ok d w1 =>
    rw [hr] at h
    simp only [Result.andThen_ok, Sem.run_pure, Result.ok.injEq] at h
    exact hx d h.1.symm
  | halt e w1 => rw [hr] at h; exact nomatch h

/-- A call of the abstract side tells the model's. -/
structure CallOK (P : Program) (F : CallF) : Prop where
  ask : AskOK P F
  call : ∀ (g : Nat) (vs : List V) (h : H) (v : V) (h' : H) (w0 : World) (E : En) (wd : World) (args : List Value), run (F.call g vs) h = some (v, h') → Sim w0 E h wd → RVs E vs args →
    (∃ fn, P.funcs[g]? = some fn ∧ (fn.name == "runtime.NumGoroutine") = false ∧ fn.body.isNone = false) ∧
    Calls P g args.toArray wd fun e w' => ∃ x E', e = .returned x ∧ E.le E' ∧ Sim w0 E' h' w' ∧ RV E' v x
  round : ∀ (b : Nat) (vs : List V) (h : H) (v : V) (h' : H) (w0 : World) (E : En) (wd : World) (args : List Value), run (F.round b vs) h = some (v, h') → Sim w0 E h wd → RVs E vs args →
    ∀ r, E.mu b = some r → ∃ f tmps asg body, (Instr.yield r args.toArray).run P wd = .ok (.round r f tmps asg body) wd ∧
      RoundIn Fence.wide 0 P r f tmps asg body wd fun e w' => ∃ x E', e = .returned x ∧ E.le E' ∧ Sim w0 E' h' w' ∧ RV E' v x

/-- The instruction does what the operation does, be it a call. -/
def OpWp (Γ : Cx) (w : Nat) (o : Oper) (i : I) : Prop :=
  ∀ (F : CallF), CallOK Γ.P F → ∀ (rd : Option Nat) (tm : Tm) (h : H) (v : V) (h' : H) (w0 : World) (E : En) (wd : World) (a : Act), run (i F tm) h = some (v, h') → Sim w0 E h wd → TR E w tm a.tmps →
    ∀ (K : Act → World → Prop) (Q : Exit → Act → World → Prop), (∀ E' w' x, E.le E' → Sim w0 E' h' w' → RV E' v x → K (a.put o.dst x) w') → o.wpIn (FC rd) 0 Γ.P a wd K Q

/-- The temporaries that the operation looks at are alike. -/
def Alike (w : Nat) (o : Oper) (tm tm' : Tm) : Prop := ∀ t, Operand.tmp t ∈ o.op.operands → t < lim w → tm.get (path w t) = tm'.get (path w t)

/-- One caller tells no more than another one. -/
structure CallF.le (F F' : CallF) : Prop where
  call : ∀ g vs, KLe (F.call g vs) (F'.call g vs)
  round : ∀ b vs, KLe (F.round b vs) (F'.round b vs)
  ask : F.ask = F'.ask
  rnd : F.rnd = F'.rnd
structure IOK (Γ : Cx) (w : Nat) (o : Oper) (i : I) : Prop where
  wp : OpWp Γ w o i
  mono : ∀ (F F' : CallF), F.le F' → GoodF F' → ∀ tm, KLe (i F tm) (i F' tm)
  good : ∀ (F : CallF), GoodF F → ∀ tm, Good (i F tm)
  cong : ∀ tm tm', Alike w o tm tm' → ∀ (F : CallF), i F tm = i F tm'
  calm : touches o.op = false → ∀ (F : CallF) tm, Calm (i F tm)

theorem OpOK.wp {Γ : Cx} {w : Nat} {o : Oper} {i : I} (h : OpOK Γ w o i) : OpWp Γ w o i := by
  intro F hF rd tm h0 v h' w0 E wd a hr hs ht K Q hk
  obtain ⟨E', w', x, h1, h2, h3, h4⟩ := h F hF.ask tm h0 v h' w0 E wd a.tmps a.defers hr hs ht
  refine ⟨fun _ _ => trivial, ?_⟩
  rcases h4 with h4 | ⟨h4, rfl⟩
  · have h4' : (execOp a.eval o).run Γ.P wd = .ok (.value x) w' := h4
    rw [Oper.semAt_eq _ _ _ (exec_no_defer h4' (fun d e => nomatch e)), h4', Oper.uponIn_value]
    exact hk E' w' x h1 h2 h3
  · have h4' : (execOp a.eval o).run Γ.P wd = .ok .skip w' := h4
    rw [Oper.semAt_eq _ _ _ (exec_no_defer h4' (fun d e => nomatch e)), h4', Oper.uponIn_skip]
    exact hk E' w' _ h1 h2 h3
theorem IOK.quiet {Γ : Cx} {w : Nat} {o : Oper} {i : I} (h : OpOK Γ w o i) (c : ∀ (F : CallF) tm, Calm (i F tm)) (g : ∀ tm tm', Alike w o tm tm' → ∀ (F : CallF), i F tm = i F tm')
    (f : ∀ (F F' : CallF) tm, F.ask = F'.ask → i F tm = i F' tm := by first | (intro F F' tm e; rfl) | (intro F F' tm e; funext R h K; simp only [I.bin, J.bin, binF, e])) : IOK Γ w o i :=
  ⟨h.wp, fun F F' hF _ tm => by rw [f F F' tm hF.ask]; exact (c F' tm).good.kle, fun F _ tm => (c F tm).good, g, fun _ => c⟩
theorem IOK.loud {Γ : Cx} {w : Nat} {o : Oper} {i : I} (ht : touches o.op = true) (h : OpOK Γ w o i) (c : ∀ (F : CallF) tm, Good (i F tm)) (g : ∀ tm tm', Alike w o tm tm' → ∀ (F : CallF), i F tm = i F tm')
    (f : ∀ (F F' : CallF) tm, F.ask = F'.ask → i F tm = i F' tm := by first | (intro F F' tm e; rfl) | (intro F F' tm e; funext R h K; simp only [I.bin, J.bin, binF, e])) : IOK Γ w o i :=
  ⟨h.wp, fun F F' hF _ tm => by rw [f F F' tm hF.ask]; exact (c F' tm).kle, fun F _ tm => c F tm, g, fun h' => by rw [ht] at h'; exact nomatch h'⟩

section
variable {Γ : Cx} (hΓ : Γ.Ok) {w : Nat}
include hΓ
theorem ev_cong {x : Operand} {a : A} (hc : cA Γ w x = some a) {tm tm' : Tm} (h : ∀ t, x = .tmp t → t < lim w → tm.get (path w t) = tm'.get (path w t)) {R : Type} (K : V → Option R) : evK tm K a = evK tm' K a := by
  rw [evK_eq, evK_eq]
  congr 1
  cases x with
  | tmp t =>
    rw [cA] at hc
    by_cases hl : t < lim w
    · rw [if_pos hl, hΓ.path] at hc
      simp only [Option.some.injEq] at hc
      subst hc
      exact h t rfl hl
    · rw [if_neg hl] at hc; exact nomatch hc
  | const c =>
    rw [cA] at hc
    cases ho : ofV c with
    | none => rw [ho] at hc; exact nomatch hc
    | some u => rw [ho] at hc; simp only [Option.some.injEq] at hc; subst hc; rfl
  | func f => simp only [cA, Option.some.injEq] at hc; subst hc; rfl
  | global g =>
    simp only [cA, Option.some.injEq] at hc
    subst hc
    rfl
theorem evs_cong {tm tm' : Tm} : ∀ {xs : List Operand} {l : List A}, allSome (cA Γ w) xs = some l → (∀ t, Operand.tmp t ∈ xs → t < lim w → tm.get (path w t) = tm'.get (path w t)) → ∀ {R : Type} (K : List V → Option R), evsK tm l K = evsK tm' l K
  | [], l, hc, h, R, K => by simp only [allSome, Option.some.injEq] at hc; subst hc; rfl
  | x :: xs, l, hc, h, R, K => by
    obtain ⟨a, b, h1, h2, rfl⟩ := (allSome_cons _ _ _ _).1 hc
    rw [evsK_cons, evsK_cons, ev_cong hΓ h1 (fun t e => h t (by rw [e]; exact List.mem_cons_self))]
    congr 1
    funext v
    exact evs_cong h2 (fun t ht => h t (List.mem_cons_of_mem _ ht)) _
theorem bound_cong {x : Option Operand} {a : Option A} (hc : cO Γ w x = some a) {tm tm' : Tm} (h : ∀ t, x = some (.tmp t) → t < lim w → tm.get (path w t) = tm'.get (path w t)) {R : Type} (K : Option Nat → Option R) : boundK tm a K = boundK tm' a K := by
  cases x with
  | none => simp only [cO, Option.some.injEq] at hc; subst hc; rfl
  | some o =>
    rw [cO] at hc
    cases ha : cA Γ w o with
    | none => rw [ha] at hc; exact nomatch hc
    | some b =>
      rw [ha] at hc
      simp only [Option.some.injEq] at hc
      subst hc
      exact ev_cong hΓ ha (fun t e => h t (by rw [e])) _
theorem fill_cong {place : Nat → Option (Nat × Nat)} {tm tm' : Tm} : ∀ {ps : List (Nat × Operand)} {l : List (Nat × Nat × A)}, cParts Γ w place ps = some l → (∀ t, Operand.tmp t ∈ ps.map (·.2) → t < lim w → tm.get (path w t) = tm'.get (path w t)) →
    ∀ (z : List V) {R : Type} (K : List V → Option R), fillK tm l z K = fillK tm' l z K
  | [], l, hc, h, z, R, K => by
    have : l = [] := by simpa [cParts, allSome] using hc.symm
    subst this; rfl
  | p :: ps, l, hc, h, z, R, K => by
    obtain ⟨o, n, a, l', h1, h2, h3, rfl⟩ := cParts_cons hc
    show evK tm (fun v => (Bool.rec none (putAtK v.cells (fun z => fillK tm l' z K) z o) (Nat.beq n (len v.cells)) : Option R)) a =
      evK tm' (fun v => (Bool.rec none (putAtK v.cells (fun z => fillK tm' l' z K) z o) (Nat.beq n (len v.cells)) : Option R)) a
    rw [ev_cong hΓ h2 (fun t e => h t (by rw [List.map_cons, e]; exact List.mem_cons_self))]
    congr 1
    funext v
    congr 2
    funext z'
    exact fill_cong h3 (fun t ht => h t (by rw [List.map_cons]; exact List.mem_cons_of_mem _ ht)) z' K
omit hΓ in
theorem c1_some {f : A → I} {x : Operand} {i : I} (h : c1 Γ w f x = some i) : ∃ a, cA Γ w x = some a ∧ i = f a := by
  unfold c1 at h
  cases ha : cA Γ w x with
  | none => rw [ha] at h; exact nomatch h
  | some a => rw [ha] at h; simp only [Option.some.injEq] at h; exact ⟨a, rfl, h.symm⟩
omit hΓ in
theorem c2_some {f : A → A → Option I} {x y : Operand} {i : I} (h : c2 Γ w f x y = some i) : ∃ a b, cA Γ w x = some a ∧ cA Γ w y = some b ∧ f a b = some i := by
  unfold c2 at h
  cases ha : cA Γ w x with
  | none => rw [ha] at h; exact nomatch h
  | some a =>
    cases hb : cA Γ w y with
    | none => rw [ha, hb] at h; exact nomatch h
    | some b => rw [ha, hb] at h; exact ⟨a, b, rfl, rfl, h⟩
omit hΓ in
theorem c3_some {f : A → A → A → Option I} {x y z : Operand} {i : I} (h : c3 Γ w f x y z = some i) : ∃ a b c, cA Γ w x = some a ∧ cA Γ w y = some b ∧ cA Γ w z = some c ∧ f a b c = some i := by
  unfold c3 at h
  cases ha : cA Γ w x with
  | none => rw [ha] at h; exact nomatch h
  | some a =>
    cases hb : cA Γ w y with
    | none => rw [ha, hb] at h; exact nomatch h
    | some b =>
      cases hc : cA Γ w z with
      | none => rw [ha, hb, hc] at h; exact nomatch h
      | some c => rw [ha, hb, hc] at h; exact ⟨a, b, c, rfl, rfl, rfl, h⟩

omit hΓ in
theorem evK_le {R : Type} {tm : Tm} {K K' : V → Option R} (hk : ∀ v, Le (K v) (K' v)) (a : A) : Le (evK tm K a) (evK tm K' a) := fun r e => by
  obtain ⟨v, h1, h2⟩ := (evK_some tm K a r).1 e
  exact (evK_some tm K' a r).2 ⟨v, h1, hk v r h2⟩
omit hΓ in
theorem evsK_le {R : Type} {tm : Tm} {K K' : List V → Option R} (hk : ∀ v, Le (K v) (K' v)) (a : List A) : Le (evsK tm a K) (evsK tm a K') := fun r e => by
  obtain ⟨v, h1, h2⟩ := (evsK_some tm r a K).1 e
  exact (evsK_some tm r a K').2 ⟨v, h1, hk v r h2⟩
omit hΓ in
theorem callG_mono {F F' : CallF} (hF : F.le F') (v : V) (l : List V) : KLe (I.callG F v l) (I.callG F' v l) := by
  intro R h K K' hk
  rw [I.callG_def, I.callG_def]
  cases v with
  | fn f a c => cases f with
    | func g => exact hF.call g _ R h K K' hk
    | _ => exact Le.none _
  | yld b => exact hF.round b l R h K K' hk
  | _ => exact Le.none _
omit hΓ in
theorem call_mono {F F' : CallF} (hF : F.le F') (hG : GoodF F') (tm : Tm) (f : A) (xs : List A) : KLe (I.call f xs F tm) (I.call f xs F' tm) := by
  intro R h K K' hk
  exact evK_le (fun v => evsK_le (fun l => callG_mono hF v l R h K K' hk) xs) f

/-- A call of a function value. -/
theorem call_ok {dst : Option Tmp} {ty : TypeId} {pos : String} {after : Array Edge} {guard : Option (Nat × Bool)} {x : Operand} {xs : Array Operand} {ts : Array TypeId} {a : A} {l : List A} (hx : cA Γ w x = some a) (hl : allSome (cA Γ w) xs.toList = some l) :
    OpWp Γ w ⟨dst, .call ⟨.value x, xs, ts⟩, ty, pos, after, guard⟩ (I.call a l) := by
  intro F hF rd tm h v h' w0 E wd ac hr hs ht K Q hk
  obtain ⟨u, hu, e1⟩ := (evK_some tm _ a _).1 hr
  obtain ⟨us, hus, e2⟩ := (evsK_some tm _ l _).1 e1
  have hxv := cA_ok (ds := ac.defers) hΓ hx ht hu
  have hlv := cAs_ok (ds := ac.defers) hΓ ht hl hus
  cases u with
  | fn f first cap =>
    cases f with
    | func g =>
      rw [RV] at hxv
      obtain ⟨lf, lc, h1, h2, h3⟩ := hxv
      obtain ⟨⟨fn, hf1, hf2, hf3⟩, hc⟩ := hF.call g (first ++ (us ++ cap)) h v h' w0 E wd _ (by rw [← cat_eq us cap, ← cat_eq first]; exact e2) hs (RVs_append h2 (RVs_append hlv h3))
      have h1' : ac.eval x = .func (.func g) lf.toArray lc.toArray := h1
      have hargs : lf.toArray ++ xs.map ac.eval ++ lc.toArray = (lf ++ (xs.toList.map (Act.eval ⟨ac.tmps, ac.defers⟩) ++ lc)).toArray := by
        apply Array.ext'
        simp only [Array.toList_append, Array.toList_map, List.append_assoc]
      have hex : (execOp ac.eval ⟨dst, .call ⟨.value x, xs, ts⟩, ty, pos, after, guard⟩).run Γ.P wd = .ok (.enter g (lf ++ (xs.toList.map (Act.eval ⟨ac.tmps, ac.defers⟩) ++ lc)).toArray) wd := by
        rw [← hargs]
        have hcf : ∀ q, (callFunc g q).run Γ.P wd = .ok (.enter g q) wd := fun q => by
          simp only [callFunc, Sem.run_bind, run_program, Result.andThen_ok, hf1, hf2, hf3, Bool.false_eq_true, if_false, Sem.run_pure]
        simp only [execOp, resolve, h1', Deferred.ofValue, Sem.run_bind, Sem.run_pure, Result.andThen_ok, invoke, hcf]
      refine ⟨fun _ _ => trivial, ?_⟩
      rw [Oper.semAt_eq _ _ _ (exec_no_defer hex (fun d e => nomatch e)), hex, Oper.uponIn_enter]
      refine ⟨(fun h => nomatch h), CallsIn.mono (calls_in rd hc) fun e w' he => ?_⟩
      obtain ⟨xv, E', rfl, q1, q2, q3⟩ := he
      exact hk E' w' xv q1 q2 q3
    | _ => exact nomatch e2
  | yld b =>
    rw [RV] at hxv
    obtain ⟨r, hr, h1⟩ := hxv
    have h1' : ac.eval x = .func (.yield r) #[] #[] := h1
    obtain ⟨f, tmps, asg, body, hy, hrd⟩ := hF.round b us h v h' w0 E wd _ e2 hs hlv r hr
    have hargs : xs.map ac.eval = (xs.toList.map (Act.eval ⟨ac.tmps, ac.defers⟩)).toArray := by
      apply Array.ext'
      simp only [Array.toList_map]
    have hex : (execOp ac.eval ⟨dst, .call ⟨.value x, xs, ts⟩, ty, pos, after, guard⟩).run Γ.P wd = .ok (.round r f tmps asg body) wd := by
      simp only [execOp, resolve, h1', Deferred.ofValue, Sem.run_bind, Sem.run_pure, Result.andThen_ok, invoke, Array.empty_append, hargs, hy]
    refine ⟨fun _ _ => trivial, ?_⟩
    rw [Oper.semAt_eq _ _ _ (exec_no_defer hex (fun d e => nomatch e)), hex, Oper.uponIn_round]
    refine ⟨(fun h => nomatch h), RoundIn.mono (F := FC rd) hrd fun e w' he => ?_⟩
    obtain ⟨xv, E', rfl, q1, q2, q3⟩ := he
    exact hk E' w' xv q1 q2 q3
  | _ => exact nomatch e2
end
end Go.X
