/- A text of the verified executor, of contracts, or of this law; joined and trimmed by a program of mine (wip/gen). -/
import Derived.Test.YthkipncmnefomaaXOpJ
import Derived.Orders
import Derived.OrdersIn
import Derived.RangeFuncRecord
set_option linter.unusedVariables false
set_option linter.unusedSimpArgs false
set_option linter.unusedSectionVars false
namespace Go.X
open Go.RowKit
variable [Nu]
def FC (rd : Option Nat) : Fence := { Fence.wide with round := rd }
theorem calls_in {n : Nat} {P : Program} {f : FuncId} {args : Array Value} {w : World} {R : Ending → World → Prop} (rd : Option Nat) (h : Calls P f args w R) : CallsIn (FC rd) n P f args w R := callsIn_wide.2 h
theorem calls_out {n : Nat} {P : Program} {f : FuncId} {args : Array Value} {w : World} {R : Ending → World → Prop} {rd : Option Nat} (h : CallsIn (FC rd) n P f args w R) : Calls P f args w R := callsIn_wide.1 h
theorem exec_no_defer {P : Program} {o : Oper} {ρ : Operand → Value} {w w' : World} {x : Next} (h : (execOp ρ o).run P w = .ok x w') (hx : ∀ d, x ≠ .defer d) : ∀ c, o.op ≠ .defer c := by
  intro c hc
  unfold execOp at h
  rw [hc] at h
  simp only [Sem.run_bind] at h
  cases hr : (resolve ρ c o.type).run P w with
  | ok d w1 =>
    rw [hr] at h
    simp only [Result.andThen_ok, Sem.run_pure, Result.ok.injEq] at h
    exact hx d h.1.symm
  | halt e w1 => rw [hr] at h; exact nomatch h
structure CallOK (P : Program) (F : CallF) : Prop where
  ask : AskOK P F
  call : ∀ (g : Nat) (vs : List V) (h : H) (v : V) (h' : H) (w0 : World) (E : En) (wd : World) (args : List Value), run (F.call g vs) h = some (v, h') → Sim w0 E h wd → RVs E vs args →
    (∃ fn, P.funcs[g]? = some fn ∧ (fn.name == "runtime.NumGoroutine") = false ∧ fn.body.isNone = false) ∧
    Calls P g args.toArray wd fun e w' => ∃ x E', e = .returned x ∧ E.le E' ∧ Sim w0 E' h' w' ∧ RV E' v x
  round : ∀ (b : Nat) (vs : List V) (h : H) (v : V) (h' : H) (w0 : World) (E : En) (wd : World) (args : List Value), run (F.round b vs) h = some (v, h') → Sim w0 E h wd → RVs E vs args →
    ∀ r, E.mu b = some r → ∃ f tmps asg body, (Instr.yield r args.toArray).run P wd = .ok (.round r f tmps asg body) wd ∧
      RoundIn Fence.wide 0 P r f tmps asg body wd fun e w' => ∃ x E', e = .returned x ∧ E.le E' ∧ Sim w0 E' h' w' ∧ RV E' v x
def OpWp (Γ : Cx) (w : Nat) (o : Oper) (i : I) : Prop :=
  ∀ (F : CallF), CallOK Γ.P F → ∀ (rd : Option Nat) (tm : Tm) (h : H) (v : V) (h' : H) (w0 : World) (E : En) (wd : World) (a : Act), run (i F tm) h = some (v, h') → Sim w0 E h wd → TR E w tm a.tmps →
    ∀ (K : Act → World → Prop) (Q : Exit → Act → World → Prop), (∀ E' w' x, E.le E' → Sim w0 E' h' w' → RV E' v x → K (a.put o.dst x) w') → o.wpIn (FC rd) 0 Γ.P a wd K Q
def Alike (w : Nat) (o : Oper) (tm tm' : Tm) : Prop := ∀ t, Operand.tmp t ∈ o.op.operands → t < lim w → tm.get (path w t) = tm'.get (path w t)
structure CallF.le (F F' : CallF) : Prop where
  call : ∀ g vs, KLe (F.call g vs) (F'.call g vs)
  round : ∀ b vs, KLe (F.round b vs) (F'.round b vs)
  ask : F.ask = F'.ask
  rnd : F.rnd = F'.rnd
structure IOK (Γ : Cx) (w : Nat) (o : Oper) (i : I) : Prop where
  wp : OpWp Γ w o i
  mono : ∀ (F F' : CallF), F.le F' → GoodF F' → ∀ tm, KLe (i F tm) (i F' tm)
  good : ∀ (F : CallF), GoodF F → ∀ tm, Good (i F tm)
  cong : ∀ tm tm', Alike w o tm tm' → ∀ (F : CallF), i F tm = i F tm'
  calm : touches o.op = false → ∀ (F : CallF) tm, Calm (i F tm)
theorem OpOK.wp {Γ : Cx} {w : Nat} {o : Oper} {i : I} (h : OpOK Γ w o i) : OpWp Γ w o i := by
  intro F hF rd tm h0 v h' w0 E wd a hr hs ht K Q hk
  obtain ⟨E', w', x, h1, h2, h3, h4⟩ := h F hF.ask tm h0 v h' w0 E wd a.tmps a.defers hr hs ht
  refine ⟨fun _ _ => trivial, ?_⟩
  rcases h4 with h4 | ⟨h4, rfl⟩
  · have h4' : (execOp a.eval o).run Γ.P wd = .ok (.value x) w' := h4
    rw [Oper.semAt_eq _ _ _ (exec_no_defer h4' (fun d e => nomatch e)), h4', Oper.uponIn_value]
    exact hk E' w' x h1 h2 h3
  · have h4' : (execOp a.eval o).run Γ.P wd = .ok .skip w' := h4
    rw [Oper.semAt_eq _ _ _ (exec_no_defer h4' (fun d e => nomatch e)), h4', Oper.uponIn_skip]
    exact hk E' w' _ h1 h2 h3
theorem IOK.quiet {Γ : Cx} {w : Nat} {o : Oper} {i : I} (h : OpOK Γ w o i) (c : ∀ (F : CallF) tm, Calm (i F tm)) (g : ∀ tm tm', Alike w o tm tm' → ∀ (F : CallF), i F tm = i F tm')
    (f : ∀ (F F' : CallF) tm, F.ask = F'.ask → i F tm = i F' tm := by first | (intro F F' tm e; rfl) | (intro F F' tm e; funext R h K; simp only [I.bin, J.bin, binF, e])) : IOK Γ w o i :=
  ⟨h.wp, fun F F' hF _ tm => by rw [f F F' tm hF.ask]; exact (c F' tm).good.kle, fun F _ tm => (c F tm).good, g, fun _ => c⟩
theorem IOK.loud {Γ : Cx} {w : Nat} {o : Oper} {i : I} (ht : touches o.op = true) (h : OpOK Γ w o i) (c : ∀ (F : CallF) tm, Good (i F tm)) (g : ∀ tm tm', Alike w o tm tm' → ∀ (F : CallF), i F tm = i F tm')
    (f : ∀ (F F' : CallF) tm, F.ask = F'.ask → i F tm = i F' tm := by first | (intro F F' tm e; rfl) | (intro F F' tm e; funext R h K; simp only [I.bin, J.bin, binF, e])) : IOK Γ w o i :=
  ⟨h.wp, fun F F' hF _ tm => by rw [f F F' tm hF.ask]; exact (c F' tm).kle, fun F _ tm => c F tm, g, fun h' => by rw [ht] at h'; exact nomatch h'⟩
section
variable {Γ : Cx} (hΓ : Γ.Ok) {w : Nat}
include hΓ
theorem ev_cong {x : Operand} {a : A} (hc : cA Γ w x = some a) {tm tm' : Tm} (h : ∀ t, x = .tmp t → t < lim w → tm.get (path w t) = tm'.get (path w t)) {R : Type} (K : V → Option R) : evK tm K a = evK tm' K a := by
  rw [evK_eq, evK_eq]
  congr 1
  cases x with
  | tmp t =>
    rw [cA] at hc
    by_cases hl : t < lim w
    · rw [if_pos hl, hΓ.path] at hc
      simp only [Option.some.injEq] at hc
      subst hc
      exact h t rfl hl
    · rw [if_neg hl] at hc; exact nomatch hc
  | const c =>
    rw [cA] at hc
    cases ho : ofV c with
    | none => rw [ho] at hc; exact nomatch hc
    | some u => rw [ho] at hc; simp only [Option.some.injEq] at hc; subst hc; rfl
  | func f => simp only [cA, Option.some.injEq] at hc; subst hc; rfl
  | global g =>
    simp only [cA, Option.some.injEq] at hc
    subst hc
    rfl
theorem evs_cong {tm tm' : Tm} : ∀ {xs : List Operand} {l : List A}, allSome (cA Γ w) xs = some l → (∀ t, Operand.tmp t ∈ xs → t < lim w → tm.get (path w t) = tm'.get (path w t)) → ∀ {R : Type} (K : List V → Option R), evsK tm l K = evsK tm' l K
  | [], l, hc, h, R, K => by simp only [allSome, Option.some.injEq] at hc; subst hc; rfl
  | x :: xs, l, hc, h, R, K => by
    obtain ⟨a, b, h1, h2, rfl⟩ := (allSome_cons _ _ _ _).1 hc
    rw [evsK_cons, evsK_cons, ev_cong hΓ h1 (fun t e => h t (by rw [e]; exact List.mem_cons_self))]
    congr 1
    funext v
    exact evs_cong h2 (fun t ht => h t (List.mem_cons_of_mem _ ht)) _
theorem bound_cong {x : Option Operand} {a : Option A} (hc : cO Γ w x = some a) {tm tm' : Tm} (h : ∀ t, x = some (.tmp t) → t < lim w → tm.get (path w t) = tm'.get (path w t)) {R : Type} (K : Option Nat → Option R) : boundK tm a K = boundK tm' a K := by
  cases x with
  | none => simp only [cO, Option.some.injEq] at hc; subst hc; rfl
  | some o =>
    rw [cO] at hc
    cases ha : cA Γ w o with
    | none => rw [ha] at hc; exact nomatch hc
    | some b =>
      rw [ha] at hc
      simp only [Option.some.injEq] at hc
      subst hc
      exact ev_cong hΓ ha (fun t e => h t (by rw [e])) _
theorem fill_cong {place : Nat → Option (Nat × Nat)} {tm tm' : Tm} : ∀ {ps : List (Nat × Operand)} {l : List (Nat × Nat × A)}, cParts Γ w place ps = some l → (∀ t, Operand.tmp t ∈ ps.map (·.2) → t < lim w → tm.get (path w t) = tm'.get (path w t)) →
    ∀ (z : List V) {R : Type} (K : List V → Option R), fillK tm l z K = fillK tm' l z K
  | [], l, hc, h, z, R, K => by
    have : l = [] := by simpa [cParts, allSome] using hc.symm
    subst this; rfl
  | p :: ps, l, hc, h, z, R, K => by
    obtain ⟨o, n, a, l', h1, h2, h3, rfl⟩ := cParts_cons hc
    show evK tm (fun v => (Bool.rec none (putAtK v.cells (fun z => fillK tm l' z K) z o) (Nat.beq n (len v.cells)) : Option R)) a =
      evK tm' (fun v => (Bool.rec none (putAtK v.cells (fun z => fillK tm' l' z K) z o) (Nat.beq n (len v.cells)) : Option R)) a
    rw [ev_cong hΓ h2 (fun t e => h t (by rw [List.map_cons, e]; exact List.mem_cons_self))]
    congr 1
    funext v
    congr 2
    funext z'
    exact fill_cong h3 (fun t ht => h t (by rw [List.map_cons]; exact List.mem_cons_of_mem _ ht)) z' K
omit hΓ in
theorem c1_some {f : A → I} {x : Operand} {i : I} (h : c1 Γ w f x = some i) : ∃ a, cA Γ w x = some a ∧ i = f a := by
  unfold c1 at h
  cases ha : cA Γ w x with
  | none => rw [ha] at h; exact nomatch h
  | some a => rw [ha] at h; simp only [Option.some.injEq] at h; exact ⟨a, rfl, h.symm⟩
omit hΓ in
theorem c2_some {f : A → A → Option I} {x y : Operand} {i : I} (h : c2 Γ w f x y = some i) : ∃ a b, cA Γ w x = some a ∧ cA Γ w y = some b ∧ f a b = some i := by
  unfold c2 at h
  cases ha : cA Γ w x with
  | none => rw [ha] at h; exact nomatch h
  | some a =>
    cases hb : cA Γ w y with
    | none => rw [ha, hb] at h; exact nomatch h
    | some b => rw [ha, hb] at h; exact ⟨a, b, rfl, rfl, h⟩
omit hΓ in
theorem c3_some {f : A → A → A → Option I} {x y z : Operand} {i : I} (h : c3 Γ w f x y z = some i) : ∃ a b c, cA Γ w x = some a ∧ cA Γ w y = some b ∧ cA Γ w z = some c ∧ f a b c = some i := by
  unfold c3 at h
  cases ha : cA Γ w x with
  | none => rw [ha] at h; exact nomatch h
  | some a =>
    cases hb : cA Γ w y with
    | none => rw [ha, hb] at h; exact nomatch h
    | some b =>
      cases hc : cA Γ w z with
      | none => rw [ha, hb, hc] at h; exact nomatch h
      | some c => rw [ha, hb, hc] at h; exact ⟨a, b, c, rfl, rfl, rfl, h⟩
omit hΓ in
theorem evK_le {R : Type} {tm : Tm} {K K' : V → Option R} (hk : ∀ v, Le (K v) (K' v)) (a : A) : Le (evK tm K a) (evK tm K' a) := fun r e => by
  obtain ⟨v, h1, h2⟩ := (evK_some tm K a r).1 e
  exact (evK_some tm K' a r).2 ⟨v, h1, hk v r h2⟩
omit hΓ in
theorem evsK_le {R : Type} {tm : Tm} {K K' : List V → Option R} (hk : ∀ v, Le (K v) (K' v)) (a : List A) : Le (evsK tm a K) (evsK tm a K') := fun r e => by
  obtain ⟨v, h1, h2⟩ := (evsK_some tm r a K).1 e
  exact (evsK_some tm r a K').2 ⟨v, h1, hk v r h2⟩
omit hΓ in
theorem callG_mono {F F' : CallF} (hF : F.le F') (v : V) (l : List V) : KLe (I.callG F v l) (I.callG F' v l) := by
  intro R h K K' hk
  rw [I.callG_def, I.callG_def]
  cases v with
  | fn f a c => cases f with
    | func g => exact hF.call g _ R h K K' hk
    | _ => exact Le.none _
  | yld b => exact hF.round b l R h K K' hk
  | _ => exact Le.none _
omit hΓ in
theorem call_mono {F F' : CallF} (hF : F.le F') (hG : GoodF F') (tm : Tm) (f : A) (xs : List A) : KLe (I.call f xs F tm) (I.call f xs F' tm) := by
  intro R h K K' hk
  exact evK_le (fun v => evsK_le (fun l => callG_mono hF v l R h K K' hk) xs) f
theorem call_ok {dst : Option Tmp} {ty : TypeId} {pos : String} {after : Array Edge} {guard : Option (Nat × Bool)} {x : Operand} {xs : Array Operand} {ts : Array TypeId} {a : A} {l : List A} (hx : cA Γ w x = some a) (hl : allSome (cA Γ w) xs.toList = some l) :
    OpWp Γ w ⟨dst, .call ⟨.value x, xs, ts⟩, ty, pos, after, guard⟩ (I.call a l) := by
  intro F hF rd tm h v h' w0 E wd ac hr hs ht K Q hk
  obtain ⟨u, hu, e1⟩ := (evK_some tm _ a _).1 hr
  obtain ⟨us, hus, e2⟩ := (evsK_some tm _ l _).1 e1
  have hxv := cA_ok (ds := ac.defers) hΓ hx ht hu
  have hlv := cAs_ok (ds := ac.defers) hΓ ht hl hus
  cases u with
  | fn f first cap =>
    cases f with
    | func g =>
      rw [RV] at hxv
      obtain ⟨lf, lc, h1, h2, h3⟩ := hxv
      obtain ⟨⟨fn, hf1, hf2, hf3⟩, hc⟩ := hF.call g (first ++ (us ++ cap)) h v h' w0 E wd _ (by rw [← cat_eq us cap, ← cat_eq first]; exact e2) hs (RVs_append h2 (RVs_append hlv h3))
      have h1' : ac.eval x = .func (.func g) lf.toArray lc.toArray := h1
      have hargs : lf.toArray ++ xs.map ac.eval ++ lc.toArray = (lf ++ (xs.toList.map (Act.eval ⟨ac.tmps, ac.defers⟩) ++ lc)).toArray := by
        apply Array.ext'
        simp only [Array.toList_append, Array.toList_map, List.append_assoc]
      have hex : (execOp ac.eval ⟨dst, .call ⟨.value x, xs, ts⟩, ty, pos, after, guard⟩).run Γ.P wd = .ok (.enter g (lf ++ (xs.toList.map (Act.eval ⟨ac.tmps, ac.defers⟩) ++ lc)).toArray) wd := by
        rw [← hargs]
        have hcf : ∀ q, (callFunc g q).run Γ.P wd = .ok (.enter g q) wd := fun q => by
          simp only [callFunc, Sem.run_bind, run_program, Result.andThen_ok, hf1, hf2, hf3, Bool.false_eq_true, if_false, Sem.run_pure]
        simp only [execOp, resolve, h1', Deferred.ofValue, Sem.run_bind, Sem.run_pure, Result.andThen_ok, invoke, hcf]
      refine ⟨fun _ _ => trivial, ?_⟩
      rw [Oper.semAt_eq _ _ _ (exec_no_defer hex (fun d e => nomatch e)), hex, Oper.uponIn_enter]
      refine ⟨(fun h => nomatch h), CallsIn.mono (calls_in rd hc) fun e w' he => ?_⟩
      obtain ⟨xv, E', rfl, q1, q2, q3⟩ := he
      exact hk E' w' xv q1 q2 q3
    | _ => exact nomatch e2
  | yld b =>
    rw [RV] at hxv
    obtain ⟨r, hr, h1⟩ := hxv
    have h1' : ac.eval x = .func (.yield r) #[] #[] := h1
    obtain ⟨f, tmps, asg, body, hy, hrd⟩ := hF.round b us h v h' w0 E wd _ e2 hs hlv r hr
    have hargs : xs.map ac.eval = (xs.toList.map (Act.eval ⟨ac.tmps, ac.defers⟩)).toArray := by
      apply Array.ext'
      simp only [Array.toList_map]
    have hex : (execOp ac.eval ⟨dst, .call ⟨.value x, xs, ts⟩, ty, pos, after, guard⟩).run Γ.P wd = .ok (.round r f tmps asg body) wd := by
      simp only [execOp, resolve, h1', Deferred.ofValue, Sem.run_bind, Sem.run_pure, Result.andThen_ok, invoke, Array.empty_append, hargs, hy]
    refine ⟨fun _ _ => trivial, ?_⟩
    rw [Oper.semAt_eq _ _ _ (exec_no_defer hex (fun d e => nomatch e)), hex, Oper.uponIn_round]
    refine ⟨(fun h => nomatch h), RoundIn.mono (F := FC rd) hrd fun e w' he => ?_⟩
    obtain ⟨xv, E', rfl, q1, q2, q3⟩ := he
    exact hk E' w' xv q1 q2 q3
  | _ => exact nomatch e2
end
end Go.X
namespace Go.X
open Go.RowKit
variable [Nu]
section
variable {Γ : Cx} (hΓ : Γ.Ok) {w : Nat}
include hΓ
theorem cg {x : Operand} {a : A} (ha : cA Γ w x = some a) {o : Oper} (hm : x ∈ o.op.operands) {tm tm' : Tm} (hA : Alike w o tm tm') {R : Type} (K : V → Option R) : evK tm K a = evK tm' K a :=
  ev_cong hΓ ha (fun t e => hA t (e ▸ hm)) K
theorem cSame_ok {dst : Option Tmp} {ty : TypeId} {pos : String} {after : Array Edge} {guard : Option (Nat × Bool)} {op : BinOp} {t t' : TypeId} {x y : Operand} {a b : A} {d : TypeDesc} (hu : Γ.P.underlying t = some d) (hx : cA Γ w x = some a) (hy : cA Γ w y = some b) {i : I} (h : cSame Γ op d a b = some i) :
    IOK Γ w ⟨dst, .binOp op t x y t', ty, pos, after, guard⟩ i := by
  have g1 : x ∈ (Oper.mk dst (.binOp op t x y t') ty pos after guard).op.operands := by simp [Op.operands]
  have g2 : y ∈ (Oper.mk dst (.binOp op t x y t') ty pos after guard).op.operands := by simp [Op.operands]
  cases d with
  | pointer e0 =>
    unfold cSame at h
    dsimp only at h
    cases hz : sizeT Γ e0 with
    | none => rw [hz] at h; exact nomatch h
    | some n =>
      rw [hz] at h
      dsimp only at h
      cases op with
      | eql =>
        simp only [Option.some.injEq] at h
        subst h
        exact IOK.quiet (sameP_ok (neg := false) hΓ rfl hu hz hx hy) (fun F tm => sameP_calm F tm false a b) (fun tm tm' hA F => by funext R h K; simp only [I.sameP, cg hΓ hx g1 hA, cg hΓ hy g2 hA])
      | neq =>
        simp only [Option.some.injEq] at h
        subst h
        exact IOK.quiet (sameP_ok (neg := true) hΓ rfl hu hz hx hy) (fun F tm => sameP_calm F tm true a b) (fun tm tm' hA F => by funext R h K; simp only [I.sameP, cg hΓ hx g1 hA, cg hΓ hy g2 hA])
      | _ => exact nomatch h
  | _ => exact nomatch h
theorem cBin_ok {dst : Option Tmp} {ty : TypeId} {pos : String} {after : Array Edge} {guard : Option (Nat × Bool)} {op : BinOp} {t t' : TypeId} {x y : Operand} {a b : A} (hx : cA Γ w x = some a) (hy : cA Γ w y = some b) {i : I} (h : cBin Γ op t a b = some i) :
    IOK Γ w ⟨dst, .binOp op t x y t', ty, pos, after, guard⟩ i := by
  have g1 : x ∈ (Oper.mk dst (.binOp op t x y t') ty pos after guard).op.operands := by simp [Op.operands]
  have g2 : y ∈ (Oper.mk dst (.binOp op t x y t') ty pos after guard).op.operands := by simp [Op.operands]
  have hbin : IOK Γ w ⟨dst, .binOp op t x y t', ty, pos, after, guard⟩ (I.bin op a b) :=
    IOK.quiet (bin_ok hΓ hx hy) (fun F tm => bin_calm F tm op a b) (fun tm tm' hA F => by funext R h K; simp only [I.bin, cg hΓ hx g1 hA, cg hΓ hy g2 hA])
  unfold cBin at h
  cases hu : Γ.P.underlying t with
  | none => rw [hu] at h; exact nomatch h
  | some d =>
    rw [hu] at h
    cases d with
    | struct fs =>
      dsimp only at h
      by_cases he : Γ.eqs.elem t = true
      · rw [if_pos he] at h
        have he' : t ∈ Γ.eqs := by simpa using he
        cases hk : flatK Γ fs.toList 0 with
        | none => rw [hk] at h; exact nomatch h
        | some ks =>
          rw [hk] at h
          dsimp only at h
          cases op with
          | eql =>
            simp only [Option.some.injEq] at h
            subst h
            exact IOK.quiet (eqs_ok (neg := false) hΓ hu he' hk hx hy) (fun F tm => eqs_calm F tm false ks a b) (fun tm tm' hA F => by funext R h K; simp only [I.eqs, cg hΓ hx g1 hA, cg hΓ hy g2 hA])
          | neq =>
            simp only [Option.some.injEq] at h
            subst h
            exact IOK.quiet (eqs_ok (neg := true) hΓ hu he' hk hx hy) (fun F tm => eqs_calm F tm true ks a b) (fun tm tm' hA F => by funext R h K; simp only [I.eqs, cg hΓ hx g1 hA, cg hΓ hy g2 hA])
          | _ => exact nomatch h
      · rw [if_neg he] at h; exact nomatch h
    | bool =>
      simp only [Option.some.injEq] at h
      subst h
      exact IOK.quiet (binB_ok hΓ hu hx hy) (fun F tm => binB_calm F tm op a b) (fun tm tm' hA F => by funext R h K; simp only [I.binB, cg hΓ hx g1 hA, cg hΓ hy g2 hA])
    | int k => simp only [Option.some.injEq] at h; subst h; exact hbin
    | string => simp only [Option.some.injEq] at h; subst h; exact hbin
    | _ =>
      dsimp only at h
      split at h
      · rename_i f hf
        have hnil : ∀ neg, ∃ f0, f neg a = I.nilK f0 neg a := by
          intro neg
          unfold cNil at hf
          split at hf <;> first | (simp only [Option.some.injEq] at hf; subst hf; exact ⟨_, rfl⟩) | simp at hf
        cases op with
        | eql =>
          simp only [Option.some.injEq] at h
          subst h
          have hok := nil_ok (dst := dst) (ty := ty) (pos := pos) (after := after) (guard := guard) (t' := t') (op := .eql) (neg := false) hΓ rfl hu hx hy hf
          obtain ⟨f0, e0⟩ := hnil false
          rw [e0] at hok ⊢
          exact IOK.quiet hok (fun F tm => nilK_calm F tm f0 false a) (fun tm tm' hA F => by funext R h K; simp only [I.nilK, cg hΓ hx g1 hA])
        | neq =>
          simp only [Option.some.injEq] at h
          subst h
          have hok := nil_ok (dst := dst) (ty := ty) (pos := pos) (after := after) (guard := guard) (t' := t') (op := .neq) (neg := true) hΓ rfl hu hx hy hf
          obtain ⟨f0, e0⟩ := hnil true
          rw [e0] at hok ⊢
          exact IOK.quiet hok (fun F tm => nilK_calm F tm f0 true a) (fun tm tm' hA F => by funext R h K; simp only [I.nilK, cg hΓ hx g1 hA])
        | _ => exact nomatch h
      · exact cSame_ok hΓ hu hx hy h
theorem cSliceM_ok {dst : Option Tmp} {ty : TypeId} {pos : String} {after : Array Edge} {guard : Option (Nat × Bool)} {t : TypeId} {x y z : Operand} {lo : Option Operand} {a b c : A} {l : Option A} (hx : cA Γ w x = some a) (hl : cO Γ w lo = some l) (hy : cA Γ w y = some b) (hz : cA Γ w z = some c)
    {i : I} (h : cSliceM Γ t a l (some b) (some c) = some i) : IOK Γ w ⟨dst, .slice t x lo (some y) (some z), ty, pos, after, guard⟩ i := by
  have g1 : x ∈ (Oper.mk dst (.slice t x lo (some y) (some z)) ty pos after guard).op.operands := by simp [Op.operands]
  have g2 : ∀ {tm tm' : Tm}, Alike w (Oper.mk dst (.slice t x lo (some y) (some z)) ty pos after guard) tm tm' → ∀ {R : Type} (K : Option Nat → Option R), boundK tm l K = boundK tm' l K := fun hA R K =>
    bound_cong hΓ hl (fun t e => hA t (by rw [e]; simp [Op.operands])) K
  have g3 : ∀ {tm tm' : Tm}, Alike w (Oper.mk dst (.slice t x lo (some y) (some z)) ty pos after guard) tm tm' → ∀ {R : Type} (K : Option Nat → Option R), boundK tm (some b) K = boundK tm' (some b) K := fun hA R K =>
    bound_cong (x := some y) hΓ (by rw [cO, hy]) (fun t e => hA t (by cases e; simp [Op.operands])) K
  have g4 : ∀ {tm tm' : Tm}, Alike w (Oper.mk dst (.slice t x lo (some y) (some z)) ty pos after guard) tm tm' → ∀ {R : Type} (K : Option Nat → Option R), boundK tm (some c) K = boundK tm' (some c) K := fun hA R K =>
    bound_cong (x := some z) hΓ (by rw [cO, hz]) (fun t e => hA t (by cases e; simp [Op.operands])) K
  unfold cSliceM at h
  cases hu : Γ.P.underlying t with
  | none => rw [hu] at h; exact nomatch h
  | some d =>
    rw [hu] at h
    cases d with
    | slice e =>
      dsimp only at h
      cases hzz : sizeT Γ e with
      | none => rw [hzz] at h; exact nomatch h
      | some n =>
        rw [hzz] at h
        dsimp only at h
        by_cases h1 : 1 ≤ n
        · rw [if_pos h1] at h
          simp only [Option.some.injEq] at h
          subst h
          exact IOK.quiet (cutM_ok hΓ hu hzz h1 hx hl hy hz) (fun F tm => cutM_calm F tm n l (some b) (some c) a) (fun tm tm' hA F => by funext R h K; simp only [I.cutM, cg hΓ hx g1 hA, g2 hA, g3 hA, g4 hA])
        · rw [if_neg h1] at h; exact nomatch h
    | _ => exact nomatch h
theorem cSlice_ok {dst : Option Tmp} {ty : TypeId} {pos : String} {after : Array Edge} {guard : Option (Nat × Bool)} {t : TypeId} {x : Operand} {lo hi : Option Operand} {a : A} {l h' : Option A} (hx : cA Γ w x = some a) (hl : cO Γ w lo = some l) (hh : cO Γ w hi = some h')
    {i : I} (h : cSlice Γ t a l h' = some i) : IOK Γ w ⟨dst, .slice t x lo hi none, ty, pos, after, guard⟩ i := by
  have g1 : x ∈ (Oper.mk dst (.slice t x lo hi none) ty pos after guard).op.operands := by simp [Op.operands]
  have g2 : ∀ {tm tm' : Tm}, Alike w (Oper.mk dst (.slice t x lo hi none) ty pos after guard) tm tm' → ∀ {R : Type} (K : Option Nat → Option R), boundK tm l K = boundK tm' l K := fun hA R K =>
    bound_cong hΓ hl (fun t e => hA t (by rw [e]; simp [Op.operands])) K
  have g3 : ∀ {tm tm' : Tm}, Alike w (Oper.mk dst (.slice t x lo hi none) ty pos after guard) tm tm' → ∀ {R : Type} (K : Option Nat → Option R), boundK tm h' K = boundK tm' h' K := fun hA R K =>
    bound_cong hΓ hh (fun t e => hA t (by rw [e]; simp [Op.operands])) K
  unfold cSlice at h
  cases hu : Γ.P.underlying t with
  | none => rw [hu] at h; exact nomatch h
  | some d =>
    rw [hu] at h
    cases d with
    | string =>
      simp only [Option.some.injEq] at h
      subst h
      exact IOK.quiet (cutS_ok hΓ hu hx hl hh) (fun F tm => cutS_calm F tm l h' a) (fun tm tm' hA F => by funext R h K; simp only [I.cutS, cg hΓ hx g1 hA, g2 hA, g3 hA])
    | slice e =>
      dsimp only at h
      cases hz : sizeT Γ e with
      | none => rw [hz] at h; exact nomatch h
      | some n =>
        rw [hz] at h
        dsimp only at h
        by_cases h1 : 1 ≤ n
        · rw [if_pos h1] at h
          simp only [Option.some.injEq] at h
          subst h
          exact IOK.loud rfl (cutL_ok hΓ hu hz h1 hx hl hh) (fun F tm => cutL_good F tm n l h' a) (fun tm tm' hA F => by funext R h K; simp only [I.cutL, cg hΓ hx g1 hA, g2 hA, g3 hA])
        · rw [if_neg h1] at h; exact nomatch h
    | array n e =>
      dsimp only at h
      cases hz : sizeT Γ e with
      | none => rw [hz] at h; exact nomatch h
      | some s =>
        rw [hz] at h
        dsimp only at h
        by_cases h1 : 1 ≤ s
        · rw [if_pos h1] at h
          simp only [Option.some.injEq] at h
          subst h
          exact IOK.quiet (cutA_ok hΓ hu hz h1 hx hl hh) (fun F tm => cutA_calm F tm n s l h' a) (fun tm tm' hA F => by funext R h K; simp only [I.cutA, cg hΓ hx g1 hA, g2 hA, g3 hA])
        · rw [if_neg h1] at h; exact nomatch h
    | _ => exact nomatch h
omit hΓ in
theorem as1 {xs : Array Operand} {x : A} (h : allSome (cA Γ w) xs.toList = some [x]) : ∃ o, xs = #[o] ∧ cA Γ w o = some x := by
  obtain ⟨l⟩ := xs
  cases l with
  | nil => simp [allSome] at h
  | cons o l =>
    obtain ⟨a, b, h1, h2, h3⟩ := (allSome_cons _ _ _ _).1 h
    simp only [List.cons.injEq] at h3
    obtain ⟨rfl, rfl⟩ := h3
    cases l with
    | nil => exact ⟨o, rfl, h1⟩
    | cons p l => obtain ⟨a, b, _, _, h5⟩ := (allSome_cons _ _ _ _).1 h2; exact nomatch h5
omit hΓ in
theorem as2 {xs : Array Operand} {x y : A} (h : allSome (cA Γ w) xs.toList = some [x, y]) : ∃ o p, xs = #[o, p] ∧ cA Γ w o = some x ∧ cA Γ w p = some y := by
  obtain ⟨l⟩ := xs
  cases l with
  | nil => simp [allSome] at h
  | cons o l =>
    obtain ⟨a, b, h1, h2, h3⟩ := (allSome_cons _ _ _ _).1 h
    simp only [List.cons.injEq] at h3
    obtain ⟨rfl, rfl⟩ := h3
    obtain ⟨q, hq, h4⟩ := as1 (xs := ⟨l⟩) h2
    have hq' : l = [q] := congrArg Array.toList hq
    subst hq'
    exact ⟨o, q, rfl, h1, h4⟩
theorem cBuiltin_ok {dst : Option Tmp} {ty : TypeId} {pos : String} {after : Array Edge} {guard : Option (Nat × Bool)} {b : Builtin} {xs : Array Operand} {ts : Array TypeId} {l : List A} (hl : allSome (cA Γ w) xs.toList = some l) {i : I} (h : cBuiltin Γ b ts.toList l = some i) :
    IOK Γ w ⟨dst, .call ⟨.builtin b, xs, ts⟩, ty, pos, after, guard⟩ i := by
  have g : ∀ {x : Operand} {a : A}, cA Γ w x = some a → x ∈ xs → ∀ {tm tm' : Tm}, Alike w (Oper.mk dst (.call ⟨.builtin b, xs, ts⟩) ty pos after guard) tm tm' → ∀ {R : Type} (K : V → Option R), evK tm K a = evK tm' K a :=
    fun ha hm tm tm' hA R K => cg hΓ ha (by simp [Op.operands, Call.operands, hm]) hA K
  obtain ⟨tl⟩ := ts
  unfold cBuiltin at h
  dsimp only at h
  split at h
  · -- len
    rename_i t x
    obtain ⟨o, rfl, ho⟩ := as1 hl
    cases hu : Γ.P.underlying t with
    | none => rw [hu] at h; exact nomatch h
    | some d =>
      rw [hu] at h
      cases d with
      | slice e => simp only [Option.some.injEq] at h; subst h; exact IOK.quiet (lenL_ok hΓ hu ho) (fun F tm => lenL_calm F tm x) (fun tm tm' hA F => by funext R h K; simp only [I.lenL, g ho (by simp) hA])
      | string => simp only [Option.some.injEq] at h; subst h; exact IOK.quiet (lenS_ok hΓ hu ho) (fun F tm => lenS_calm F tm x) (fun tm tm' hA F => by funext R h K; simp only [I.lenS, g ho (by simp) hA])
      | array n e => simp only [Option.some.injEq] at h; subst h; exact IOK.quiet (lenA_ok hΓ hu ho) (fun F tm => lenA_calm F tm n x) (fun tm tm' hA F => rfl)
      | _ => exact nomatch h
  · -- append
    rename_i t u x y
    obtain ⟨o, p, rfl, ho, hp⟩ := as2 hl
    have key : ∀ (e : TypeId), Γ.P.underlying t = some (.slice e) → ((∃ e', Γ.P.underlying u = some (.slice e')) ∨ Γ.P.underlying u = some .string) →
        (match sizeT Γ e, bytesT Γ e, zeroL Γ e with | some n, some m, some _ => if 1 ≤ n && 1 ≤ m then some (I.appendQ (Nat.succ e) n m x y) else none | _, _, _ => none) = some i →
        IOK Γ w ⟨dst, .call ⟨.builtin .append, #[o, p], ⟨[t, u]⟩⟩, ty, pos, after, guard⟩ i := by
      intro e hu hk hh
      cases hn : sizeT Γ e with
      | none => rw [hn] at hh; exact nomatch hh
      | some n =>
        cases hm : bytesT Γ e with
        | none => rw [hn, hm] at hh; exact nomatch hh
        | some m =>
          cases hz : zeroL Γ e with
          | none => rw [hn, hm, hz] at hh; exact nomatch hh
          | some z =>
            rw [hn, hm, hz] at hh
            dsimp only at hh
            by_cases hc : (1 ≤ n && 1 ≤ m) = true
            · rw [if_pos hc] at hh
              simp only [Bool.and_eq_true, decide_eq_true_eq] at hc
              simp only [Option.some.injEq] at hh
              subst hh
              exact IOK.loud rfl (append_ok hΓ hu hk hn hm hz hc.1 hc.2 ho hp _ TyOK.own) (fun F tm => append_good F tm _ n m x y) (fun tm tm' hA F => by funext R h K; simp only [I.appendQ, g ho (by simp) hA, g hp (by simp) hA])
            · rw [if_neg hc] at hh; exact nomatch hh
    cases hu : Γ.P.underlying t with
    | none => rw [hu] at h; exact nomatch h
    | some d =>
      cases hv : Γ.P.underlying u with
      | none => rw [hu, hv] at h; cases d <;> exact nomatch h
      | some d' =>
        rw [hu, hv] at h
        cases d with
        | slice e =>
          cases d' with
          | slice e' => exact key e hu (.inl ⟨e', hv⟩) h
          | string => exact key e hu (.inr hv) h
          | _ => exact nomatch h
        | _ => exact nomatch h
  · rename_i t u x y
    obtain ⟨o, p, rfl, ho, hp⟩ := as2 hl
    simp only [Option.some.injEq] at h; subst h
    exact IOK.quiet (max_ok hΓ ho hp) (fun F tm => max_calm F tm x y) (fun tm tm' hA F => by funext R h K; simp only [I.max, g ho (by simp) hA, g hp (by simp) hA])
  · rename_i t u x y
    obtain ⟨o, p, rfl, ho, hp⟩ := as2 hl
    simp only [Option.some.injEq] at h; subst h
    exact IOK.quiet (min_ok hΓ ho hp) (fun F tm => min_calm F tm x y) (fun tm tm' hA F => by funext R h K; simp only [I.min, g ho (by simp) hA, g hp (by simp) hA])
  · rename_i t x
    obtain ⟨o, rfl, ho⟩ := as1 hl
    simp only [Option.some.injEq] at h; subst h
    exact IOK.quiet (sdata_ok hΓ ho) (fun F tm => sdata_calm F tm x) (fun tm tm' hA F => by funext R h K; simp only [I.sdata, g ho (by simp) hA])
  · rename_i t u x y
    obtain ⟨o, p, rfl, ho, hp⟩ := as2 hl
    cases hu : Γ.P.underlying t with
    | none => rw [hu] at h; exact nomatch h
    | some d =>
      rw [hu] at h
      cases d with
      | pointer e =>
        dsimp only at h
        cases hz : sizeT Γ e with
        | none => rw [hz] at h; exact nomatch h
        | some n =>
          rw [hz] at h
          dsimp only at h
          by_cases h1 : n = 1
          · rw [if_pos h1] at h
            simp only [Option.some.injEq] at h
            subst h
            subst h1
            exact IOK.loud rfl (ustr_ok hΓ hu hz ho hp) (fun F tm => ustr_good F tm _ x y) (fun tm tm' hA F => by funext R h K; simp only [I.ustr, g ho (by simp) hA, g hp (by simp) hA])
          · rw [if_neg h1] at h; exact nomatch h
      | _ => exact nomatch h
  · rename_i t x
    obtain ⟨o, rfl, ho⟩ := as1 hl
    cases hu : Γ.P.underlying t with
    | none => rw [hu] at h; exact nomatch h
    | some d =>
      rw [hu] at h
      cases d with
      | slice e =>
        dsimp only at h
        cases hz : zeroL Γ e with
        | none => rw [hz] at h; exact nomatch h
        | some z =>
          rw [hz] at h
          simp only [Option.some.injEq] at h
          subst h
          exact IOK.loud rfl (clear_ok hΓ hu hz ho) (fun F tm => clear_good F tm z x) (fun tm tm' hA F => by funext R h K; simp only [I.clear, g ho (by simp) hA])
      | _ => exact nomatch h
  · exact nomatch h
end
end Go.X
namespace Go.X
open Go.RowKit
variable [Nu]
section
variable {Γ : Cx} (hΓ : Γ.Ok) {w : Nat}
include hΓ
theorem cI0_ok {o : Oper} {i : I} (h : cI0 Γ w o = some i) : IOK Γ w o i := by
  obtain ⟨dst, op, ty, pos, after, guard⟩ := o
  have g : ∀ {x : Operand} {a : A}, cA Γ w x = some a → x ∈ op.operands → ∀ {tm tm' : Tm}, Alike w (Oper.mk dst op ty pos after guard) tm tm' → ∀ {R : Type} (K : V → Option R), evK tm K a = evK tm' K a :=
    fun ha hm tm tm' hA R K => cg hΓ ha hm hA K
  unfold cI0 at h
  cases op with
  | move x =>
    obtain ⟨a, ha, rfl⟩ := c1_some h
    exact IOK.quiet (mov_ok hΓ ha) (fun F tm => mov_calm F tm a) (fun tm tm' hA F => by funext R h K; simp only [I.mov, g ha (by simp [Op.operands]) hA])
  | assign x =>
    obtain ⟨a, ha, rfl⟩ := c1_some h
    exact IOK.quiet (assign_ok hΓ ha) (fun F tm => mov_calm F tm a) (fun tm tm' hA F => by funext R h K; simp only [I.mov, g ha (by simp [Op.operands]) hA])
  | pick c a b =>
    obtain ⟨x, y, z, hx, hy, hz, e⟩ := c3_some h
    simp only [Option.some.injEq] at e; subst e
    exact IOK.quiet (pick_ok hΓ hx hy hz) (fun F tm => pick_calm F tm x y z) (fun tm tm' hA F => by funext R h K; simp only [I.pick, g hx (by simp [Op.operands]) hA, g hy (by simp [Op.operands]) hA, g hz (by simp [Op.operands]) hA])
  | alloc t =>
    dsimp only at h
    cases hz : zeroL Γ t with
    | none => rw [hz] at h; exact nomatch h
    | some z =>
      rw [hz] at h
      dsimp only at h
      split at h
      · simp only [Option.some.injEq] at h; subst h
        exact IOK.loud rfl (new_ok hΓ hz) (fun F tm => new_good F tm _ z) (fun tm tm' hA F => rfl)
      · exact nomatch h
  | box t x =>
    obtain ⟨a, ha, rfl⟩ := c1_some h
    exact IOK.loud rfl (box_ok hΓ ha) (fun F tm => box_good F tm a) (fun tm tm' hA F => by funext R h K; simp only [I.box, g ha (by simp [Op.operands]) hA])
  | build t ps =>
    dsimp only at h
    cases hu : Γ.P.underlying t with
    | none => rw [hu] at h; exact nomatch h
    | some d =>
      cases hz : zeroL Γ t with
      | none => rw [hu, hz] at h; cases d <;> exact nomatch h
      | some z =>
        rw [hu, hz] at h
        cases d with
        | struct fs =>
          dsimp only at h
          split at h
          · rename_i hfs
            cases hc : cParts Γ w (structPlace Γ fs) ps.toList with
            | none => rw [hc] at h; exact nomatch h
            | some l =>
              rw [hc] at h
              simp only [Option.some.injEq] at h; subst h
              exact IOK.quiet (buildS_ok hΓ hu hz hfs hc) (fun F tm => build_calm F tm z l) (fun tm tm' hA F => by funext R h K; exact fill_cong hΓ hc (fun t ht => hA t (by simpa [Op.operands] using ht)) z _)
          · exact nomatch h
        | array n e =>
          dsimp only at h
          cases hs : sizeT Γ e with
          | none => rw [hs] at h; exact nomatch h
          | some s =>
            rw [hs] at h
            dsimp only at h
            cases hc : cParts Γ w (fun i => some (i * s, s)) ps.toList with
            | none => rw [hc] at h; exact nomatch h
            | some l =>
              rw [hc] at h
              simp only [Option.some.injEq] at h; subst h
              exact IOK.quiet (buildA_ok hΓ hu hz hs hc) (fun F tm => build_calm F tm z l) (fun tm tm' hA F => by funext R h K; exact fill_cong hΓ hc (fun t ht => hA t (by simpa [Op.operands] using ht)) z _)
        | _ => exact nomatch h
  | buildSlice t n ps =>
    dsimp only at h
    cases hu : Γ.P.underlying t with
    | none => rw [hu] at h; exact nomatch h
    | some d =>
      rw [hu] at h
      cases d with
      | slice e =>
        dsimp only at h
        cases hz : zeroL Γ e with
        | none => rw [hz] at h; exact nomatch h
        | some z =>
          rw [hz] at h
          dsimp only at h
          split at h
          · rename_i hcond
            cases hc : cParts Γ w (fun i => some (i * z.length, z.length)) ps.toList with
            | none => rw [hc] at h; exact nomatch h
            | some l =>
              rw [hc] at h
              simp only [Option.some.injEq] at h; subst h
              have hcond' : 1 ≤ z.length ∧ n * z.length ≤ 65536 := by simpa using hcond
              exact IOK.loud rfl (slit_ok hΓ hu hz hcond'.1 hcond'.2 hc) (fun F tm => slit_good F tm _ _ n l) (fun tm tm' hA F => by funext R h K; exact fill_cong hΓ hc (fun t ht => hA t (by simpa [Op.operands] using ht)) _ _)
          · exact nomatch h
      | _ => exact nomatch h
  | load t x =>
    dsimp only at h
    cases hg : isAggT Γ t with
    | none => rw [hg] at h; exact nomatch h
    | some b =>
      cases hs : sizeT Γ t with
      | none => rw [hg, hs] at h; cases b <;> exact nomatch h
      | some n =>
        rw [hg, hs] at h
        cases b with
        | true =>
          obtain ⟨a, ha, rfl⟩ := c1_some h
          exact IOK.loud rfl (loadN_ok hΓ hg hs ha) (fun F tm => loadN_good F tm n a) (fun tm tm' hA F => by funext R h K; simp only [I.loadN, g ha (by simp [Op.operands]) hA])
        | false =>
          obtain ⟨a, ha, rfl⟩ := c1_some h
          exact IOK.loud rfl (load1_ok hΓ hg ha) (fun F tm => load1_good F tm a) (fun tm tm' hA F => by funext R h K; simp only [I.load1, g ha (by simp [Op.operands]) hA])
  | store t x y =>
    dsimp only at h
    cases hg : isAggT Γ t with
    | none => rw [hg] at h; exact nomatch h
    | some b =>
      cases hs : sizeT Γ t with
      | none => rw [hg, hs] at h; cases b <;> exact nomatch h
      | some n =>
        rw [hg, hs] at h
        cases b with
        | true =>
          obtain ⟨a, c, ha, hc, e⟩ := c2_some h
          simp only [Option.some.injEq] at e; subst e
          exact IOK.loud rfl (storeN_ok hΓ hs ha hc) (fun F tm => storeN_good F tm n a c) (fun tm tm' hA F => by funext R h K; simp only [I.storeN, g ha (by simp [Op.operands]) hA, g hc (by simp [Op.operands]) hA])
        | false =>
          dsimp only at h
          split at h
          · rename_i hn
            subst hn
            obtain ⟨a, c, ha, hc, e⟩ := c2_some h
            simp only [Option.some.injEq] at e; subst e
            exact IOK.loud rfl (store1_ok hΓ hs ha hc) (fun F tm => store1_good F tm a c) (fun tm tm' hA F => by funext R h K; simp only [I.store1, g ha (by simp [Op.operands]) hA, g hc (by simp [Op.operands]) hA])
          · exact nomatch h
  | nilCheck x =>
    obtain ⟨a, ha, rfl⟩ := c1_some h
    exact IOK.quiet (nilck_ok hΓ ha) (fun F tm => nilck_calm F tm a) (fun tm tm' hA F => by funext R h K; simp only [I.nilck, g ha (by simp [Op.operands]) hA])
  | binOp op t x y t' =>
    obtain ⟨a, b, ha, hb, e⟩ := c2_some h
    exact cBin_ok hΓ ha hb e
  | unOp op t x =>
    dsimp only at h
    cases op with
    | not =>
      obtain ⟨a, ha, rfl⟩ := c1_some h
      exact IOK.quiet (not_ok hΓ ha) (fun F tm => not_calm F tm a) (fun tm tm' hA F => by funext R h K; simp only [I.not, g ha (by simp [Op.operands]) hA])
    | neg =>
      obtain ⟨a, ha, rfl⟩ := c1_some h
      exact IOK.quiet (neg_ok hΓ ha) (fun F tm => neg_calm F tm a) (fun tm tm' hA F => by funext R h K; simp only [I.neg, g ha (by simp [Op.operands]) hA])
    | _ => exact nomatch h
  | convert s d x =>
    dsimp only at h
    cases hs : Γ.P.underlying s with
    | none => rw [hs] at h; exact nomatch h
    | some ds =>
      cases hd : Γ.P.underlying d with
      | none => rw [hs, hd] at h; cases ds <;> exact nomatch h
      | some dd =>
        rw [hs, hd] at h
        cases ds with
        | string =>
          cases dd with
          | string =>
            obtain ⟨a, ha, rfl⟩ := c1_some h
            exact IOK.quiet (same_ok hΓ hs hd ha) (fun F tm => same_calm F tm a) (fun tm tm' hA F => by funext R h K; simp only [I.same, g ha (by simp [Op.operands]) hA])
          | _ => exact nomatch h
        | int q =>
          cases dd with
          | int k =>
            obtain ⟨a, ha, rfl⟩ := c1_some h
            exact IOK.quiet (conv_ok hΓ hs hd ha) (fun F tm => conv_calm F tm k a) (fun tm tm' hA F => by funext R h K; simp only [I.conv, g ha (by simp [Op.operands]) hA])
          | _ => exact nomatch h
        | pointer t =>
          cases dd with
          | unsafePointer =>
            dsimp only at h
            cases hz : sizeT Γ t with
            | none => rw [hz] at h; exact nomatch h
            | some n =>
              rw [hz] at h
              dsimp only at h
              by_cases h1 : 1 ≤ n
              · rw [if_pos h1] at h
                obtain ⟨a, ha, rfl⟩ := c1_some h
                exact IOK.loud rfl (toU_ok hΓ hs hd hz h1 ha) (fun F tm => toU_good F tm a) (fun tm tm' hA F => by funext R h K; simp only [I.toU, g ha (by simp [Op.operands]) hA])
              · rw [if_neg h1] at h; exact nomatch h
          | _ => exact nomatch h
        | unsafePointer =>
          cases dd with
          | pointer u =>
            dsimp only at h
            cases hz : sizeT Γ u with
            | none => rw [hz] at h; exact nomatch h
            | some n =>
              rw [hz] at h
              dsimp only at h
              by_cases h1 : 1 ≤ n
              · rw [if_pos h1] at h
                obtain ⟨a, ha, rfl⟩ := c1_some h
                exact IOK.loud rfl (ofU_ok hΓ hs hd hz h1 ha) (fun F tm => ofU_good F tm _ n a) (fun tm tm' hA F => by funext R h K; simp only [I.ofU, g ha (by simp [Op.operands]) hA])
              · rw [if_neg h1] at h; exact nomatch h
          | _ => exact nomatch h
        | _ => cases dd <;> exact nomatch h
  | makeInterface t x =>
    dsimp only at h
    cases hd : Γ.P.underlying t with
    | none => rw [hd] at h; exact nomatch h
    | some d =>
      rw [hd] at h
      have key : (∀ ms, d ≠ .interface ms) → c1 Γ w (I.iface t) x = some i → IOK Γ w ⟨dst, .makeInterface t x, ty, pos, after, guard⟩ i := by
        intro hni h
        obtain ⟨a, ha, rfl⟩ := c1_some h
        exact IOK.quiet (iface_ok hΓ hd hni ha) (fun F tm => iface_calm F tm t a) (fun tm tm' hA F => by funext R h K; simp only [I.iface, g ha (by simp [Op.operands]) hA])
      cases d with
      | interface ms => exact nomatch h
      | _ => exact key (fun ms e => nomatch e) h
  | makeFunc f a b =>
    dsimp only at h
    cases ha : allSome (cA Γ w) a.toList with
    | none => rw [ha] at h; exact nomatch h
    | some l =>
      cases hb : allSome (cA Γ w) b.toList with
      | none => rw [ha, hb] at h; exact nomatch h
      | some m =>
        rw [ha, hb] at h
        simp only [Option.some.injEq] at h; subst h
        refine IOK.quiet (fn_ok hΓ ha hb) (fun F tm => fn_calm F tm f l m) (fun tm tm' hA F => ?_)
        funext R h K
        have e1 : ∀ {R : Type} (K : List V → Option R), evsK tm l K = evsK tm' l K := fun K => evs_cong hΓ ha (fun t ht => hA t (by simp only [Op.operands, Array.mem_append]; exact .inl (by simpa using ht))) K
        have e2 : ∀ {R : Type} (K : List V → Option R), evsK tm m K = evsK tm' m K := fun K => evs_cong hΓ hb (fun t ht => hA t (by simp only [Op.operands, Array.mem_append]; exact .inr (by simpa using ht))) K
        simp only [I.fn, e1, e2]
  | makeMap t r =>
    cases r with
    | none =>
      simp only [Option.some.injEq] at h; subst h
      exact IOK.loud rfl (mkmap_ok hΓ) (fun F tm => mkmap_good F tm) (fun tm tm' hA F => rfl)
    | some r => exact nomatch h
  | makeSlice t l c =>
    dsimp only at h
    cases hu : Γ.P.underlying t with
    | none => rw [hu] at h; exact nomatch h
    | some d =>
      rw [hu] at h
      cases d with
      | slice e =>
        dsimp only at h
        cases hz : zeroL Γ e with
        | none => rw [hz] at h; exact nomatch h
        | some z =>
          cases hb : bytesT Γ e with
          | none => rw [hz, hb] at h; exact nomatch h
          | some bytes =>
            rw [hz, hb] at h
            dsimp only at h
            split at h
            · rename_i hcond
              have hcond' : 1 ≤ z.length ∧ 1 ≤ bytes := by simpa using hcond
              obtain ⟨x, y, hx, hy, e'⟩ := c2_some h
              simp only [Option.some.injEq] at e'; subst e'
              exact IOK.loud rfl (mkslice_ok hΓ hu hz hb hcond'.1 hcond'.2 hx hy) (fun F tm => mkslice_good F tm z _ bytes x y) (fun tm tm' hA F => by funext R h K; simp only [I.mkslice, g hx (by simp [Op.operands]) hA, g hy (by simp [Op.operands]) hA])
            · exact nomatch h
      | _ => exact nomatch h
  | slice t x lo hi mx =>
    cases mx with
    | some m =>
      cases hi with
      | none => exact nomatch h
      | some hi =>
        dsimp only at h
        cases hx : cA Γ w x with
        | none => rw [hx] at h; exact nomatch h
        | some a =>
          cases hl : cO Γ w lo with
          | none => rw [hx, hl] at h; exact nomatch h
          | some l =>
            cases hy : cA Γ w hi with
            | none => rw [hx, hl, hy] at h; exact nomatch h
            | some b =>
              cases hz : cA Γ w m with
              | none => rw [hx, hl, hy, hz] at h; exact nomatch h
              | some c =>
                rw [hx, hl, hy, hz] at h
                exact cSliceM_ok hΓ hx hl hy hz h
    | none =>
      dsimp only at h
      cases hx : cA Γ w x with
      | none => rw [hx] at h; exact nomatch h
      | some a =>
        cases hl : cO Γ w lo with
        | none => rw [hx, hl] at h; exact nomatch h
        | some l =>
          cases hh : cO Γ w hi with
          | none => rw [hx, hl, hh] at h; exact nomatch h
          | some m =>
            rw [hx, hl, hh] at h
            exact cSlice_ok hΓ hx hl hh h
  | fieldAddr t x f =>
    dsimp only at h
    cases hu : Γ.P.underlying t with
    | none => rw [hu] at h; exact nomatch h
    | some d =>
      rw [hu] at h
      cases d with
      | struct fs =>
        dsimp only at h
        cases hp : structPlace Γ fs f with
        | none => rw [hp] at h; exact nomatch h
        | some q =>
          obtain ⟨d, n⟩ := q
          rw [hp] at h
          dsimp only at h
          split at h
          · rename_i hn
            obtain ⟨a, ha, rfl⟩ := c1_some h
            exact IOK.quiet (fld_ok hΓ hu hp hn ha) (fun F tm => fld_calm F tm d a) (fun tm tm' hA F => by funext R h K; simp only [I.fld, g ha (by simp [Op.operands]) hA])
          · exact nomatch h
      | _ => exact nomatch h
  | field t x f =>
    dsimp only at h
    cases hu : Γ.P.underlying t with
    | none => rw [hu] at h; exact nomatch h
    | some d =>
      rw [hu] at h
      cases d with
      | struct fs =>
        dsimp only at h
        cases hf : fs[f]? with
        | none => rw [hf] at h; exact nomatch h
        | some fd =>
          rw [hf] at h
          dsimp only at h
          cases hg : isAggT Γ fd.type with
          | none => rw [hg] at h; exact nomatch h
          | some b =>
            cases hs : sizeT Γ fd.type with
            | none => rw [hg, hs] at h; cases b <;> exact nomatch h
            | some n =>
              rw [hg, hs] at h
              cases b with
              | true =>
                obtain ⟨a, ha, rfl⟩ := c1_some h
                exact IOK.quiet (partN_ok hΓ hu hf hg hs ha) (fun F tm => partN_calm F tm _ n a) (fun tm tm' hA F => by funext R h K; simp only [I.partN, g ha (by simp [Op.operands]) hA])
              | false =>
                obtain ⟨a, ha, rfl⟩ := c1_some h
                exact IOK.quiet (part1_ok hΓ hu hf hg ha) (fun F tm => part1_calm F tm _ a) (fun tm tm' hA F => by funext R h K; simp only [I.part1, g ha (by simp [Op.operands]) hA])
      | _ => exact nomatch h
  | indexAddr t x ix =>
    dsimp only at h
    cases hu : Γ.P.underlying t with
    | none => rw [hu] at h; exact nomatch h
    | some d =>
      rw [hu] at h
      cases d with
      | slice e =>
        dsimp only at h
        cases hs : sizeT Γ e with
        | none => rw [hs] at h; exact nomatch h
        | some s =>
          rw [hs] at h
          obtain ⟨a, b, ha, hb, e'⟩ := c2_some h
          simp only [Option.some.injEq] at e'; subst e'
          exact IOK.quiet (idxL_ok hΓ hu hs ha hb) (fun F tm => idxL_calm F tm s a b) (fun tm tm' hA F => by funext R h K; simp only [I.idxL, idxK, idxB, g ha (by simp [Op.operands]) hA, g hb (by simp [Op.operands]) hA])
      | array n e =>
        dsimp only at h
        cases hs : sizeT Γ e with
        | none => rw [hs] at h; exact nomatch h
        | some s =>
          rw [hs] at h
          obtain ⟨a, b, ha, hb, e'⟩ := c2_some h
          simp only [Option.some.injEq] at e'; subst e'
          exact IOK.quiet (idxA_ok hΓ hu hs ha hb) (fun F tm => idxA_calm F tm n s a b) (fun tm tm' hA F => by funext R h K; simp only [I.idxA, g ha (by simp [Op.operands]) hA, g hb (by simp [Op.operands]) hA])
      | _ => exact nomatch h
  | index t x ix =>
    dsimp only at h
    cases hu : Γ.P.underlying t with
    | none => rw [hu] at h; exact nomatch h
    | some d =>
      rw [hu] at h
      cases d with
      | string =>
        obtain ⟨a, b, ha, hb, e'⟩ := c2_some h
        simp only [Option.some.injEq] at e'; subst e'
        exact IOK.quiet (byte_ok hΓ hu ha hb) (fun F tm => byte_calm F tm a b) (fun tm tm' hA F => by funext R h K; simp only [I.byte, g ha (by simp [Op.operands]) hA, g hb (by simp [Op.operands]) hA])
      | array n e =>
        dsimp only at h
        cases hg : isAggT Γ e with
        | none => rw [hg] at h; exact nomatch h
        | some q =>
          cases hs : sizeT Γ e with
          | none => rw [hg, hs] at h; cases q <;> exact nomatch h
          | some s =>
            rw [hg, hs] at h
            cases q with
            | true =>
              obtain ⟨a, b, ha, hb, e'⟩ := c2_some h
              simp only [Option.some.injEq] at e'; subst e'
              exact IOK.quiet (atN_ok hΓ hu hg hs ha hb) (fun F tm => atN_calm F tm n s a b) (fun tm tm' hA F => by funext R h K; simp only [I.atN, g ha (by simp [Op.operands]) hA, g hb (by simp [Op.operands]) hA])
            | false =>
              dsimp only at h
              split at h
              · rename_i hs1
                subst hs1
                obtain ⟨a, b, ha, hb, e'⟩ := c2_some h
                simp only [Option.some.injEq] at e'; subst e'
                exact IOK.quiet (at1_ok hΓ hu hg hs ha hb) (fun F tm => at1_calm F tm n a b) (fun tm tm' hA F => by funext R h K; simp only [I.at1, g ha (by simp [Op.operands]) hA, g hb (by simp [Op.operands]) hA])
              · exact nomatch h
      | _ => exact nomatch h
  | lookup t m k ok =>
    dsimp only at h
    cases hu : Γ.P.underlying t with
    | none => rw [hu] at h; exact nomatch h
    | some d =>
      rw [hu] at h
      cases d with
      | map kt e =>
        dsimp only at h
        cases hk : Γ.P.underlying kt with
        | none => rw [hk] at h; exact nomatch h
        | some dk =>
          cases hi : Γ.P.info? e with
          | none => rw [hk, hi] at h; cases dk <;> exact nomatch h
          | some inf =>
            rw [hk, hi] at h
            have key : ∀ str, KeyT str dk → (match inf.zero with | some z => (match ofV z with | some z => c2 Γ w (fun a b => some (I.look str ok z a b)) m k | none => none) | none => none) = some i →
                IOK Γ w ⟨dst, .lookup t m k ok, ty, pos, after, guard⟩ i := by
              intro str hstr h
              cases hz : inf.zero with
              | none => rw [hz] at h; exact nomatch h
              | some z =>
                rw [hz] at h
                dsimp only at h
                cases hz' : ofV z with
                | none => rw [hz'] at h; exact nomatch h
                | some zv =>
                  rw [hz'] at h
                  obtain ⟨a, b, ha, hb, e'⟩ := c2_some h
                  simp only [Option.some.injEq] at e'; subst e'
                  exact IOK.loud rfl (look_ok hΓ hu hk hstr hi hz hz' ha hb) (fun F tm => look_good F tm str ok zv a b) (fun tm tm' hA F => by funext R h K; simp only [I.look, g ha (by simp [Op.operands]) hA, g hb (by simp [Op.operands]) hA])
            cases dk with
            | int q => exact key false ⟨q, rfl⟩ h
            | string => exact key true rfl h
            | _ => exact nomatch h
      | _ => exact nomatch h
  | insert t m k x =>
    dsimp only at h
    cases hu : Γ.P.underlying t with
    | none => rw [hu] at h; exact nomatch h
    | some d =>
      rw [hu] at h
      cases d with
      | map kt e =>
        dsimp only at h
        cases hk : Γ.P.underlying kt with
        | none => rw [hk] at h; exact nomatch h
        | some dk =>
          rw [hk] at h
          have key : ∀ str, KeyT str dk → c3 Γ w (fun a b c => some (I.insert str a b c)) m k x = some i → IOK Γ w ⟨dst, .insert t m k x, ty, pos, after, guard⟩ i := by
            intro str hstr h
            obtain ⟨a, b, c, ha, hb, hc, e'⟩ := c3_some h
            simp only [Option.some.injEq] at e'; subst e'
            exact IOK.loud rfl (insert_ok hΓ hu hk hstr ha hb hc) (fun F tm => insert_good F tm str a b c) (fun tm tm' hA F => by funext R h K; simp only [I.insert, g ha (by simp [Op.operands]) hA, g hb (by simp [Op.operands]) hA, g hc (by simp [Op.operands]) hA])
          cases dk with
          | int q => exact key false ⟨q, rfl⟩ h
          | string => exact key true rfl h
          | _ => exact nomatch h
      | _ => exact nomatch h
  | typeAssert x xt t ok =>
    dsimp only at h
    cases hd : Γ.P.underlying t with
    | none => rw [hd] at h; exact nomatch h
    | some d =>
      rw [hd] at h
      have key : (∀ ms, d ≠ .interface ms) → (match Γ.P.info? t with | some i => c1 Γ w (I.assert t ok (match i.zero with | some z => ofV z | none => none)) x | none => none) = some i →
          IOK Γ w ⟨dst, .typeAssert x xt t ok, ty, pos, after, guard⟩ i := by
        intro hni h
        cases hi : Γ.P.info? t with
        | none => rw [hi] at h; exact nomatch h
        | some inf =>
          rw [hi] at h
          obtain ⟨a, ha, rfl⟩ := c1_some h
          exact IOK.quiet (assert_ok hΓ hd hni hi ha) (fun F tm => assert_calm F tm t ok _ a) (fun tm tm' hA F => by funext R h K; simp only [I.assert, g ha (by simp [Op.operands]) hA])
      cases d with
      | interface ms => exact nomatch h
      | _ => exact key (fun ms e => nomatch e) h
  | extract x n =>
    obtain ⟨a, ha, rfl⟩ := c1_some h
    exact IOK.quiet (ext_ok hΓ ha) (fun F tm => ext_calm F tm n a) (fun tm tm' hA F => by funext R h K; simp only [I.ext, g ha (by simp [Op.operands]) hA])
  | call c =>
    obtain ⟨callee, xs, ts⟩ := c
    cases callee with
    | builtin b =>
      dsimp only at h
      cases hl : allSome (cA Γ w) xs.toList with
      | none => rw [hl] at h; exact nomatch h
      | some l => rw [hl] at h; exact cBuiltin_ok hΓ hl h
    | value f =>
      dsimp only at h
      cases hne : noEsc Γ f with
      | true =>
        rw [hne] at h
        dsimp only at h
        obtain ⟨xl⟩ := xs
        cases xl with
        | nil => exact nomatch h
        | cons x xl =>
          cases xl with
          | cons _ _ => exact nomatch h
          | nil =>
            obtain ⟨a, ha, rfl⟩ := c1_some h
            exact IOK.quiet (noEsc_ok hΓ hne ha) (fun F tm => mov_calm F tm a) (fun tm tm' hA F => by funext R h K; simp only [I.mov, g ha (by simp [Op.operands, Call.operands]) hA])
      | false =>
      rw [hne] at h
      dsimp only at h
      cases hf : cA Γ w f with
      | none => rw [hf] at h; exact nomatch h
      | some a =>
        cases hl : allSome (cA Γ w) xs.toList with
        | none => rw [hf, hl] at h; exact nomatch h
        | some l =>
          rw [hf, hl] at h
          simp only [Option.some.injEq] at h; subst h
          refine ⟨call_ok hΓ hf hl, fun F F' hF hG tm => call_mono hF hG tm a l, fun F hF tm => call_good F tm hF a l, fun tm tm' hA F => ?_, fun ht => nomatch ht⟩
          funext R h K
          have e2 : ∀ {R : Type} (K : List V → Option R), evsK tm l K = evsK tm' l K := fun K => evs_cong hΓ hl (fun t ht => hA t (by simp only [Op.operands, Call.operands, Array.mem_append]; exact .inr (by simpa using ht))) K
          simp only [I.call, g hf (by simp [Op.operands, Call.operands]) hA, e2]
    | invoke r m => exact nomatch h
  | _ => exact nomatch h
theorem stop_ok {o : Oper} : IOK Γ w o I.stop :=
  IOK.quiet (fun _ _ _ _ _ _ _ _ _ _ _ hr => (nomatch hr)) (fun _ _ => Calm.fail) (fun _ _ _ _ => rfl)
theorem cI_ok {o : Oper} {i : I} (h : cI Γ w o = some i) : IOK Γ w o i := by
  unfold cI at h
  cases h0 : cI0 Γ w o with
  | none => rw [h0] at h; simp only [Option.some.injEq] at h; subst h; exact stop_ok hΓ
  | some j => rw [h0] at h; simp only [Option.some.injEq] at h; subst h; exact cI0_ok hΓ h0
end
end Go.X
