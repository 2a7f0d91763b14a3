/- A verified executor, part 24: code and calls. -/
import Derived.Test.YtojfkhhebedeoaaGreatDoorXSound
import Derived.Scope
set_option linter.unusedVariables false
set_option linter.unusedSimpArgs false
set_option linter.unusedSectionVars false
namespace Go.X
open Go.RowKit
variable [Nu]

theorem loopN_succ (a : C) (F : CallF) (n : Nat) (tm : Tm) : C.loopN a F (n + 1) tm = (fun R h K => a F tm R h fun r h => match r.1 with | .normal => C.loopN a F n r.2 R h K | o => K (o, r.2) h : Kal (Out × Tm)) := by
  funext R h K
  show a F tm R h _ = a F tm R h _
  congr 1
  funext r h
  obtain ⟨o, t⟩ := r
  cases o <;> rfl
theorem resK_cell1 (tm : Tm) (p : Path) (l : List RC) : resK tm (.cell1 p :: l) = (fun R h K => evK tm (fun v => match v with | .ptr b o => ld1 b o R h fun v h => resK tm l R h fun l h => K (v :: l) h | _ => none) (.t p) : Kal (List V)) := by
  funext R h K
  exact evK_same tm (.t p) fun v => by cases v <;> rfl
theorem resK_cellN (tm : Tm) (n : Nat) (p : Path) (l : List RC) : resK tm (.cellN n p :: l) = (fun R h K => evK tm (fun v => match v with | .ptr b o => ldN n b o R h fun v h => resK tm l R h fun l h => K (.agg v :: l) h | _ => none) (.t p) : Kal (List V)) := by
  funext R h K
  exact evK_same tm (.t p) fun v => by cases v <;> rfl
theorem loopN_good {F : CallF} {a : C} (ha : ∀ tm, Good (a F tm)) : ∀ n tm, Good (C.loopN a F n tm)
  | 0, tm => Good.fail
  | n + 1, tm => by
    rw [loopN_succ]
    refine Good.bind (ha tm) (k := fun r R h K => match r.1 with | .normal => C.loopN a F n r.2 R h K | o => K (o, r.2) h) fun r => ?_
    obtain ⟨o, tm'⟩ := r
    cases o with
    | normal => exact loopN_good ha n tm'
    | exit id => exact Good.pure (Out.exit id, tm')
    | ret => exact Good.pure (Out.ret, tm')

section
variable {P : Program} {Fd : Fence} {n : Nat} {Q : Exit → Act → World → Prop} {a : Act} {wd : World} {b : Frame} {k : List Item} {cs : List Frame} {c : Code}
theorem stepR_scope : step P (lone (b.atR a (.code (.scope c) :: k)) cs wd) = .next (lone (b.atR a (.code c :: .inScope c :: k)) cs wd) :=
  step_lone_go (by simp [stepG, stepG.exec, Frame.atR])
theorem stepR_inScope : step P (lone (b.atR a (.inScope c :: k)) cs wd) = .next (lone (b.atR a k) cs wd) :=
  step_lone_go (by simp [stepG, stepG.exec, Frame.atR])
theorem wpIn_scope_straight (h : c.wpIn Fd n P (Exit.noGoto Q) a wd) : (Code.scope c).wpIn Fd n P Q a wd := by
  intro b k cs hro hb hr
  have h0 : (lone (b.atR a (.code (.scope c) :: k)) cs wd).fenced P Fd := fenced_calm hb hr rfl
  obtain ⟨e, a₁, w₁, hq, harr⟩ := h b (.inScope c :: k) cs hro hb hr
  cases e with
  | normal => exact ⟨.normal, a₁, w₁, hq, .head h0 stepR_scope (StepsIn.trans harr (.one (fenced_calm hb hr rfl) stepR_inScope))⟩
  | exit id => exact ⟨.exit id, a₁, w₁, hq, fun k' hk => .head h0 stepR_scope (harr.1 k' (by simp [exitTo, hk])),
      fun hr' hk => let ⟨k₁, h1, h2⟩ := harr.2 hr' (by simp [exitTo, hk]); ⟨k₁, h1, .head h0 stepR_scope h2⟩⟩
  | goto l => exact hq.elim
  | ret => exact ⟨_, a₁, w₁, hq, .of_steps (.one h0 stepR_scope) harr⟩
  | panic ch => exact ⟨_, a₁, w₁, hq, .of_steps (.one h0 stepR_scope) harr⟩
  | outgrown => exact ⟨_, a₁, w₁, hq, .of_steps (.one h0 stepR_scope) harr⟩
end

/-! the loops of a piece of code -/
theorem nLoops_eq : ∀ c : Code, nLoops c = (loopsOf c).length
  | .seq x y => by rw [nLoops, loopsOf, List.length_append, nLoops_eq x, nLoops_eq y]
  | .cond c x y => by rw [nLoops, loopsOf, List.length_append, nLoops_eq x, nLoops_eq y]
  | .block id x => by rw [nLoops, loopsOf, nLoops_eq x]
  | .loop x => by rw [nLoops, loopsOf, nLoops_eq x]
  | .scope x => by rw [nLoops, loopsOf, nLoops_eq x]
  | .rangeFunc f ps x y => by rw [nLoops, loopsOf, List.length_cons, List.length_append, nLoops_eq x, nLoops_eq y]
  | .skip => rfl
  | .label _ => rfl
  | .region _ _ _ => rfl
  | .exit _ => rfl
  | .ret => rfl
  | .goto _ => rfl
  | .refuse _ => rfl
/-- From j on these are the loops of function g. -/
def At (g j nt : Nat) (c : Code) : Prop := ∀ i x, (loopsOf c)[i]? = some x → rngOf Nu.prog g (j + i) = some (nt, x)
theorem At.left {g j nt : Nat} {x y : Code} (h : At g j nt (.seq x y)) : At g j nt x := fun i z hz => h i z (by
  have hi : i < (loopsOf x).length := (List.getElem?_eq_some_iff.1 hz).1
  show (loopsOf x ++ loopsOf y)[i]? = _
  rw [List.getElem?_append_left hi]; exact hz)
theorem At.right {g j nt : Nat} {x y : Code} (h : At g j nt (.seq x y)) : At g (j + nLoops x) nt y := fun i z hz => by
  have := h (nLoops x + i) z (by
    show (loopsOf x ++ loopsOf y)[nLoops x + i]? = _
    rw [nLoops_eq, List.getElem?_append_right (by omega), Nat.add_sub_cancel_left]; exact hz)
  rw [Nat.add_assoc]; exact this
theorem At.head {g j nt : Nat} {f : Operand} {ps : Array Tmp} {x y : Code} (h : At g j nt (.rangeFunc f ps x y)) : rngOf Nu.prog g j = some (nt, ps, x, y) := h 0 _ rfl
theorem At.tail {g j nt : Nat} {f : Operand} {ps : Array Tmp} {x y : Code} (h : At g j nt (.rangeFunc f ps x y)) : At g (j + 1) nt (.seq x y) := fun i z hz => by
  have := h (i + 1) z (by
    show ((ps, x, y) :: (loopsOf x ++ loopsOf y))[i + 1]? = _
    rw [List.getElem?_cons_succ]; exact hz)
  rw [show j + 1 + i = j + (i + 1) from by omega]; exact this

/-! the record of a loop -/
theorem loopAt_some {R : Type} (b : Nat) (h : H) (K : Nat × Nat × Nat × Out × Tm → H → Option R) (r : R) : loopAt b R h K = some r ↔ ∃ g j st pend tm, h.at b = some (.loop g j st pend tm) ∧ b < h.nx ∧ K (g, j, st, pend, tm) (h.note b) = some r := by
  unfold loopAt
  rw [read_some]
  constructor
  · rintro ⟨k, h1, h2, h3⟩
    cases k with
    | loop g j st pend tm => exact ⟨g, j, st, pend, tm, h1, h2, h3⟩
    | cells c q y => exact nomatch h3
    | map es => exact nomatch h3
    | dead => exact nomatch h3
  · rintro ⟨g, j, st, pend, tm, h1, h2, h3⟩; exact ⟨_, h1, h2, h3⟩
theorem loopAt_good (b : Nat) : Good (loopAt b) := by
  have e : loopAt b = fun R h K => read b R h fun k h => (match k with | .loop g j st pend tm => (fun R h K => K (g, j, st, pend, tm) h : Kal (Nat × Nat × Nat × Out × Tm)) | _ => fun _ _ _ => none) R h K := by
    funext R h K
    unfold loopAt
    congr 1
    funext k h
    cases k <;> rfl
  rw [e]
  refine Good.bind (Good.read b) (k := fun k => (match k with | .loop g j st pend tm => (fun R h K => K (g, j, st, pend, tm) h : Kal (Nat × Nat × Nat × Out × Tm)) | _ => fun _ _ _ => none)) fun k => ?_
  cases k with
  | loop g j st pend tm => exact Good.pure _
  | cells c q y => exact Good.fail
  | map es => exact Good.fail
  | dead => exact Good.fail
theorem run_loopAt {b : Nat} {h : H} {q : Nat × Nat × Nat × Out × Tm} {h' : H} : run (loopAt b) h = some (q, h') ↔ h.at b = some (.loop q.1 q.2.1 q.2.2.1 q.2.2.2.1 q.2.2.2.2) ∧ b < h.nx ∧ h' = h.note b := by
  refine (loopAt_some b h _ _).trans ?_
  constructor
  · rintro ⟨g, j, st, pend, tm, h1, h2, h3⟩
    simp only [Option.some.injEq, Prod.mk.injEq] at h3
    obtain ⟨rfl, rfl⟩ := h3
    exact ⟨h1, h2, rfl⟩
  · rintro ⟨h1, h2, rfl⟩; exact ⟨_, _, _, _, _, h1, h2, rfl⟩
theorem callV_good {F : CallF} (hG : GoodF F) (v : V) (l : List V) : Good (callV F v l) := by
  rw [callV_def]
  cases v with
  | fn f a c => cases f with
    | func g => exact hG.call g _
    | _ => exact Good.fail
  | _ => exact Good.fail
theorem rangeE_good (b : Nat) (tm : Tm) : Good (C.rangeE b tm) :=
  Good.bind (loopAt_good b) (k := fun q R h K => (Bool.rec (write b .dead R h fun _ h => K (q.2.2.2.1, tm) h) none (Nat.beq q.2.2.1 1) : Option R)) fun q => by
    cases Nat.beq q.2.2.1 1 with
    | false => exact Good.bind (Good.write b .dead) (k := fun _ _ h K => K (q.2.2.2.1, tm) h) fun _ => Good.pure _
    | true => exact Good.fail
theorem keep_get : ∀ {l : List Nat} {tm tl : Tm}, tm.keep l = some tl → ∀ p v, tl.get p = some v → tm.get p = some v
  | [], tm, tl, h, p, v, hv => by
    have h' : some ([] : Tm) = some tl := h
    simp only [Option.some.injEq] at h'
    subst h'
    exact nomatch hv
  | q :: l, tm, tl, h, p, v, hv => by
    have h' : (Option.rec none (fun v => Option.rec none (fun r => some ((q, v) :: r)) (tm.keep l)) (tm.get q) : Option Tm) = some tl := h
    obtain ⟨u, hu, h2⟩ := (optRec_some _ _ _).1 h'
    obtain ⟨r, hr, h3⟩ := (optRec_some _ _ _).1 h2
    simp only [Option.some.injEq] at h3
    subst h3
    rw [Tp.get_cons] at hv
    by_cases e : p = q
    · subst e
      rw [if_pos rfl] at hv
      simp only [Option.some.injEq] at hv
      rw [hu, hv]
    · rw [if_neg e] at hv
      exact keep_get hr p v hv
theorem rangeG_good {F : CallF} (hG : GoodF F) (g j : Nat) (l : List Nat) (x : A) (tm : Tm) : Good (C.rangeG F g j l x tm) :=
  Good.opt _ (f := fun tl R h K => evK tm (fun v => newB (.loop g j 0 .normal tl) R h fun b h => callV F v [.yld b] R h fun _ h => C.rangeE b tm R h K) x) fun tl =>
  Good.ev (f := fun v R h K => newB (.loop g j 0 .normal tl) R h fun b h => callV F v [.yld b] R h fun _ h => C.rangeE b tm R h K) fun v =>
    Good.bind (Good.new _) (k := fun b R h K => callV F v [.yld b] R h fun _ h => C.rangeE b tm R h K) fun b => Good.bind (callV_good hG v [.yld b]) (k := fun _ => C.rangeE b tm) fun _ => rangeE_good b tm
theorem rangeF_good {F : CallF} (hG : GoodF F) (g j : Nat) (l : List Nat) (x : A) (tm : Tm) : Good (C.rangeF g j l x F tm) := by
  unfold C.rangeF
  cases F.rnd with
  | none => exact rangeG_good hG g j l x tm
  | some b => exact Good.bind (loopAt_good b) (k := fun _ => C.rangeG F g j l x tm) fun _ => rangeG_good hG g j l x tm

/-- The block for rounds' deferred calls. -/
theorem Sim.mark {w0 : World} {E : En} {h : H} {w : World} (s : Sim w0 E h w) : Sim w0 ⟨E.mu, E.sz, w.heap.size :: E.df⟩ h (w.alloc (.deferred (some []))) := by
  have hM : E.leM ⟨E.mu, E.sz, w.heap.size :: E.df⟩ := fun b r hb => ⟨hb, rfl⟩
  have hold : ∀ r, r < w.heap.size → (w.alloc (.deferred (some []))).heap[r]? = w.heap[r]? := fun r hr => Below.heap_alloc w _ r hr
  have hdf : ∀ r ∈ E.df, r < w.heap.size := fun r hr => by
    rcases Nat.lt_or_ge r w.heap.size with h' | h'
    · exact h'
    · have := (s.defd r hr).1; rw [Array.getElem?_eq_none h'] at this; exact nomatch this
  refine ⟨fun b k hb => BR_world (BR_monoM hM (s.blk b k hb)) fun r hl hr => hold r (BR_size (s.blk b k hb) hl hr), s.inj, s.fresh, s.dom, s.kept.alloc s.kept.size _, s.old, fun r hr => ?_, ?_⟩
  · rcases List.mem_cons.1 hr with rfl | hr
    · exact ⟨World.alloc_heap_new w _, s.kept.size, fun b k hb hl hm => by have := BR_size (s.blk b k hb) hl hm; omega⟩
    · exact ⟨(hold r (hdf r hr)).trans (s.defd r hr).1, (s.defd r hr).2.1, (s.defd r hr).2.2⟩
  · exact List.nodup_cons.2 ⟨fun hm => by have := hdf _ hm; omega, s.once⟩

theorem run_enterLoop_inner {P : Program} {w : World} {l : Nat} {r : Loop} (h : w.heap[l]? = some (.loop r)) (fn : FuncId) (tmps : Array Value) (ps : Array Tmp) (assign body : Code) :
    (Instr.enterLoop fn tmps ps assign body (some l)).run P w = .ok (w.heap.size, []) (w.alloc (.loop { state := .ready, pending := none, fn, tmps, params := ps, assign, body, defers := r.defers })) := by
  unfold Instr.enterLoop
  simp only [Sem.run_bind, run_getLoop h, run_newObj_alloc, Result.andThen, Sem.run_pure]

section
variable {Γ : Cx} (hΓ : Γ.Ok) (hm : Γ.P.follows .mixedOrders = true) {w nt : Nat} (hn : nt ≤ lim w) {F : CallF} (hF : CallOK Γ.P F) (hG : GoodF F)
include hΓ hm hn hF hG

theorem loopN_ok {c : Code} {cc : C} (hc : CodeOK Γ w nt F c cc) (rd : Option Nat) (base : List Nat) : ∀ (n : Nat) (tm : Tm) (h : H) (o : Out) (tm' : Tm) (h' : H) (w0 : World) (E : En) (a : Act) (wd : World), run (C.loopN cc F n tm) h = some ((o, tm'), h') → Sim w0 E h wd → TR E w tm a.tmps → a.tmps.size = nt → DS rd base E a → RndOK E F rd →
    ∀ (Q : Exit → Act → World → Prop), (∀ E' a' w', E.leM E' → Sim w0 E' h' w' → TR E' w tm' a'.tmps → a'.tmps.size = nt → DS rd base E' a' → Q (exOf o) a' w') → ∀ (b : Frame) (k : List Item) (cs : List Frame), b.roundOf = (FC rd).round → (FC rd).fn b.fn → (FC rd).room (cs.length + 1 + 0) →
      ∃ e a' w', Q e a' w' ∧ ArrivesIn (Machine.fenced Γ.P (FC rd)) Γ.P (lone (b.atR a (.code c :: .inLoop c :: k)) cs wd) b k cs e a' w'
  | 0, tm, h, o, tm', h', w0, E, a, wd, hr, hs, ht, hsz, hdf, hrd, Q, hQ, b, k, cs, hro, hb, hrm => nomatch hr
  | n + 1, tm, h, o, tm', h', w0, E, a, wd, hr, hs, ht, hsz, hdf, hrd, Q, hQ, b, k, cs, hro, hb, hrm => by
    rw [loopN_succ] at hr
    obtain ⟨⟨o1, tm1⟩, h1, e1, e2⟩ := (Good.run_bind (k := fun r R h K => match r.1 with | .normal => C.loopN cc F n r.2 R h K | o => K (o, r.2) h) (hc.good tm)).1 hr
    have round := hc.wp tm h o1 tm1 h1 w0 E a wd rd base e1 hs ht hsz hdf hrd (Exit.then (fun a' w' => ∃ E', E.leM E' ∧ o1 = .normal ∧ Sim w0 E' h1 w' ∧ TR E' w tm1 a'.tmps ∧ a'.tmps.size = nt ∧ DS rd base E' a') Q) (fun E' a' w' hE hs' ht' hsz' hdf' => by
      cases o1 with
      | normal => exact ⟨E', hE, rfl, hs', ht', hsz', hdf'⟩
      | exit id =>
        have e2' : some ((Out.exit id, tm1), h1) = some ((o, tm'), h') := e2
        simp only [Option.some.injEq, Prod.mk.injEq] at e2'
        obtain ⟨⟨rfl, rfl⟩, rfl⟩ := e2'
        exact hQ E' a' w' hE hs' ht' hsz' hdf'
      | ret =>
        have e2' : some ((Out.ret, tm1), h1) = some ((o, tm'), h') := e2
        simp only [Option.some.injEq, Prod.mk.injEq] at e2'
        obtain ⟨⟨rfl, rfl⟩, rfl⟩ := e2'
        exact hQ E' a' w' hE hs' ht' hsz' hdf')
    obtain ⟨e, a₁, w₁, hq, harr⟩ := round b (.inLoop c :: k) cs hro hb hrm
    cases e with
    | normal =>
      obtain ⟨E', hE, rfl, hs', ht', hsz', hdf'⟩ := hq
      have e2' : run (C.loopN cc F n tm1) h1 = some ((o, tm'), h') := e2
      obtain ⟨e₂, a₂, w₂, hq₂, harr₂⟩ := loopN_ok hc rd base n tm1 h1 o tm' h' w0 E' a₁ w₁ e2' hs' ht' hsz' hdf' (hrd.next hE) Q (fun E'' a' w' hE' => hQ E'' a' w' (En.leM_trans hE hE')) b k cs hro hb hrm
      exact ⟨e₂, a₂, w₂, hq₂, .of_steps (StepsIn.trans harr (.one (fenced_calm hb hrm rfl) stepR_inLoop)) harr₂⟩
    | exit id => exact ⟨_, a₁, w₁, hq, .pass (x := .inLoop c) rfl (fun _ _ => .inl (by simp)) harr⟩
    | goto l => exact ⟨_, a₁, w₁, hq, .pass (x := .inLoop c) rfl (fun _ _ => .inl (by simp)) harr⟩
    | ret => exact ⟨_, a₁, w₁, hq, .pass (x := .inLoop c) rfl (fun _ _ => .inl (by simp)) harr⟩
    | panic ch => exact ⟨_, a₁, w₁, hq, .pass (x := .inLoop c) rfl (fun _ _ => .inl (by simp)) harr⟩
    | outgrown => exact ⟨_, a₁, w₁, hq, .pass (x := .inLoop c) rfl (fun _ _ => .inl (by simp)) harr⟩

theorem pure_code {c : Code} {o : Out} {cc : C} (hcc : ∀ tm, cc F tm = fun _ h K => K (o, tm) h) (hw : ∀ (rd : Option Nat) (Q : Exit → Act → World → Prop) (a : Act) (wd : World), Q (exOf o) a wd → c.wpIn (FC rd) 0 Γ.P Q a wd) : CodeOK Γ w nt F c cc := by
  refine ⟨fun tm => by rw [hcc]; exact Good.pure _, fun tm h o' tm' h' w0 E a wd rd base hr hs ht hsz hdf hrd Q hQ => ?_⟩
  rw [hcc] at hr
  obtain ⟨q1, q2⟩ := run_pure.1 hr
  simp only [Prod.mk.injEq] at q1
  obtain ⟨rfl, rfl⟩ := q1
  subst q2
  exact hw rd Q a wd (hQ E a wd (En.leM_refl E) hs ht hsz hdf)

theorem stopC_ok (c : Code) : CodeOK Γ w nt F c C.stop :=
  ⟨fun _ => Good.fail, fun _ _ _ _ _ _ _ _ _ _ _ hr => (nomatch hr)⟩

theorem rangeF_ok {g j : Nat} {f : Operand} {ps : Array Tmp} {as b : Code} {cf : A} (hf : cA Γ w f = some cf) (hat : rngOf Nu.prog g j = some (nt, ps, as, b)) (kl : List Nat) : CodeOK Γ w nt F (.rangeFunc f ps as b) (C.rangeF g j kl cf) := by
  refine ⟨fun tm => rangeF_good hG g j kl cf tm, fun tm h o tm' h' w0 E a wd rd base hr hs ht hsz hdf hrd Q hQ => ?_⟩
  -- the call, from a world in which the record lies
  have key : ∀ (E1 : En) (w1 : World) (h1 : H) (rc : Loop) (fn : FuncId) (mark : List Deferred), E.leM E1 → Sim w0 E1 h1 w1 → rc.state = .ready → rc.pending = none → rc.tmps = a.tmps → rc.params = ps → rc.assign = as → rc.body = b →
      DS rd base E1 { a with defers := mark ++ a.defers } → (Instr.enterLoop fn a.tmps ps as b (FC rd).round).run Γ.P wd = .ok (w1.heap.size, mark) (w1.alloc (.loop rc)) → run (C.rangeG F g j kl cf tm) h1 = some ((o, tm'), h') →
      ∃ (l : Nat) (mark : List Deferred) (w₁ : World) (d : Deferred) (w₁' : World) (f' : FuncId) (args : Array Value) (w₂ : World),
        (Instr.enterLoop fn a.tmps ps as b (FC rd).round).run Γ.P wd = .ok (l, mark) w₁ ∧ (resolve a.eval (rangeCall f l) 0).run Γ.P w₁ = .ok d w₁' ∧
        (∀ f', Target.leads Γ.P w₁' d.target d.args = some f' → (FC rd).fn f') ∧ (invoke d.target d.args).run Γ.P w₁' = .ok (.enter f' args) w₂ ∧ ((FC rd).depth.isSome = true → 1 ≤ 0) ∧
        CallsIn (FC rd) (0 - 1) Γ.P f' args w₂ (rangePost (FC rd) 0 Γ.P l Q { a with defers := mark ++ a.defers }) := by
    intro E1 w1 h1 rc fn mark hE1 hs1 c1 c2 c3 c4 c5 c6 hd1 hen hrun
    obtain ⟨tl, htl, hrun⟩ := (optRec_some _ _ _).1 hrun
    obtain ⟨u, hu, e1⟩ := (evK_some tm (fun v => (newB (.loop g j 0 .normal tl) _ h1 fun b h => callV F v [.yld b] _ h fun _ h => C.rangeE b tm _ h fun a h' => some (a, h') : Option ((Out × Tm) × H))) cf _).1 hrun
    have hv := cA_ok (ds := a.defers) hΓ hf ht hu
    obtain ⟨hn1, e2⟩ := (new_some _ _ _ _ _).1 e1
    rw [callV_def] at e2
    cases u with
    | fn fu first cap =>
      cases fu with
      | func gf =>
        rw [RV] at hv
        obtain ⟨lf, lc, v1, v2, v3⟩ := hv
        have v1' : a.eval f = .func (.func gf) lf.toArray lc.toArray := v1
        have hbr : BR (E1.set h1.nx w1.heap.size 0) (w1.alloc (.loop rc)) h1.nx (.loop g j 0 .normal tl) := by
          refine ⟨w1.heap.size, rc, nt, En.set_mu _ _ _ _, World.alloc_heap_new w1 _, by rw [c4, c5, c6]; exact hat, ?_, by rw [c3]; exact hsz, c1, c2⟩
          rw [c3]
          exact TR_monoM (En.leM_trans hE1 (En.le_set (hs1.dom _ hn1) _ _).app) (w := 0) fun t v _ hv => ht t v (by assumption) (keep_get htl t v hv)
        have hs2 := hs1.made hn1 (.loop g j 0 .normal tl) rfl (.loop rc) 0 hbr
        have hE2 := En.le_set (hs1.dom _ hn1) w1.heap.size 0
        obtain ⟨⟨v, h3⟩, e3, e4⟩ : ∃ q : V × H, run (F.call gf (first ++ ([.yld h1.nx] ++ cap))) (h1.made (.loop g j 0 .normal tl)) = some q ∧ C.rangeE h1.nx tm _ q.2 (fun a h' => some (a, h')) = some ((o, tm'), h') := by
          obtain ⟨v, h3, q1, q2⟩ := ((hG.call gf (first ++ ([.yld h1.nx] ++ cap))).law _ _ _ _).1 e2
          exact ⟨(v, h3), q1, q2⟩
        have hargs : RVs (E1.set h1.nx w1.heap.size 0) (first ++ ([.yld h1.nx] ++ cap)) (lf ++ ([.func (.yield w1.heap.size) #[] #[]] ++ lc)) :=
          RVs_append (RVs_monoM (En.leM_trans hE1 hE2.app) _ _ v2) (RVs_append (RVs_one (by rw [RV]; exact ⟨_, En.set_mu _ _ _ _, rfl⟩)) (RVs_monoM (En.leM_trans hE1 hE2.app) _ _ v3))
        obtain ⟨⟨fnn, hf1, hf2, hf3⟩, hc⟩ := hF.call gf _ _ v h3 w0 _ (w1.alloc (.loop rc)) _ e3 hs2 hargs
        have hcf : ∀ q, (callFunc gf q).run Γ.P (w1.alloc (.loop rc)) = .ok (.enter gf q) (w1.alloc (.loop rc)) := fun q => by
          simp only [callFunc, Sem.run_bind, run_program, Result.andThen_ok, hf1, hf2, hf3, Bool.false_eq_true, if_false, Sem.run_pure]
        have hae : (lf ++ ([Value.func (.yield w1.heap.size) #[] #[]] ++ lc)).toArray = lf.toArray ++ #[Value.func (.yield w1.heap.size) #[] #[]] ++ lc.toArray := by
          apply Array.ext'
          simp
        rw [hae] at hc
        refine ⟨w1.heap.size, mark, w1.alloc (.loop rc), { target := .fn (.func gf) lc.toArray, args := lf.toArray ++ #[.func (.yield w1.heap.size) #[] #[]] }, w1.alloc (.loop rc), gf, lf.toArray ++ #[.func (.yield w1.heap.size) #[] #[]] ++ lc.toArray, w1.alloc (.loop rc), hen, ?_, fun _ _ => trivial, ?_, (fun h => nomatch h), CallsIn.mono (calls_in rd hc) fun e w' he => ?_⟩
        · simp only [resolve, rangeCall, v1', Deferred.ofValue, Sem.run_pure]
          rw [show Array.map a.eval #[Operand.const (Value.func (Fn.yield w1.heap.size) #[] #[])] = #[Value.func (Fn.yield w1.heap.size) #[] #[]] from by simp [Act.eval]]
        · simp only [invoke, hcf]
        · obtain ⟨x, E3, rfl, q1, q2, q3⟩ := he
          obtain ⟨g', j', st, pend, tm2, l1, l2, l3⟩ := (loopAt_some _ _ _ _).1 e4
          have hmu : E3.mu h1.nx = some w1.heap.size := (q1 _ _ (En.set_mu _ _ _ _)).1
          obtain ⟨r', rc3, nt3, m1, m2, m3, m4, m5, m6, m7⟩ := q2.blk _ _ l1
          rw [hmu] at m1
          simp only [Option.some.injEq] at m1
          subst m1
          dsimp only at l3
          cases hst : Nat.beq st 1 with
          | true => rw [hst] at l3; exact nomatch l3
          | false =>
            rw [hst] at l3
            obtain ⟨_, _, l4⟩ := (write_some _ _ _ _ _ _).1 l3
            simp only [Option.some.injEq, Prod.mk.injEq] at l4
            obtain ⟨⟨rfl, rfl⟩, rfl⟩ := l4
            have hnb : rc3.state ≠ .busy := by
              rw [m6]
              match st with
              | 0 => exact fun h => nomatch h
              | 1 => exact nomatch hst
              | n + 2 => exact fun h => nomatch h
            have hend := run_endLoop (P := Γ.P) m2 hnb
            have hs4 : Sim w0 E3 ((h3.note h1.nx).wrote h1.nx .dead) (w'.putObj w1.heap.size (.loop { rc3 with state := .exhausted })) :=
              (q2.note h1.nx).wrote (k := .loop g' j' st pend tm2) (by rw [H.note_at]; exact l1) rfl hmu .dead (fun hh => nomatch hh) _ trivial (fun i hi => World.putObj_heap_other hi) (by simp) rfl rfl rfl
            have hEE : E.leM E3 := En.leM_trans hE1 (En.leM_trans hE2.app q1.app)
            have hfin := hQ E3 { a with defers := mark ++ a.defers } _ hEE hs4 (TR_monoM hEE ht) hsz (hd1.next q1.df rfl)
            refine ⟨rc3.pending, _, hend, ?_⟩
            rw [m7] at hfin ⊢
            cases pend with
            | normal => exact hfin
            | exit id => exact wpIn_exit hfin
            | ret => exact wpIn_ret hfin
      | _ => exact nomatch e2
    | _ => exact nomatch e2
  refine wpIn_rangeFunc fun fn _ => ?_
  cases hrn : F.rnd with
  | none =>
    cases rd with
    | some r => unfold RndOK at hrd; rw [hrn] at hrd; exact hrd.elim
    | none =>
      have hr' : run (C.rangeG F g j kl cf tm) h = some ((o, tm'), h') := by
        have e : C.rangeF g j kl cf F tm = C.rangeG F g j kl cf tm := by unfold C.rangeF; rw [hrn]
        rw [e] at hr; exact hr
      refine key ⟨E.mu, E.sz, wd.heap.size :: E.df⟩ (wd.alloc (.deferred (some []))) h { state := .ready, pending := none, fn, tmps := a.tmps, params := ps, assign := as, body := b, defers := wd.heap.size } fn [markOf wd.heap.size] (fun b r hb => ⟨hb, rfl⟩) hs.mark rfl rfl rfl rfl rfl rfl ?_ ?_ hr'
      · obtain ⟨l, d1, d2, _⟩ := hdf
        exact ⟨wd.heap.size :: l, by rw [d1]; rfl, by rw [d2]; rfl, fun h => nomatch h⟩
      · have := run_enterLoop_outer (P := Γ.P) (w := wd) fn a.tmps ps as b
        rw [World.size_alloc]
        exact this
  | some bb =>
    cases rd with
    | none => unfold RndOK at hrd; rw [hrn] at hrd; exact hrd.elim
    | some r =>
      have hmu : E.mu bb = some r := by unfold RndOK at hrd; rw [hrn] at hrd; exact hrd
      have e : C.rangeF g j kl cf F tm = fun R h K => loopAt bb R h fun _ h => C.rangeG F g j kl cf tm R h K := by unfold C.rangeF; rw [hrn]
      rw [e] at hr
      obtain ⟨q, h1, e1, e2⟩ := (Good.run_bind (loopAt_good bb) (k := fun _ => C.rangeG F g j kl cf tm)).1 hr
      obtain ⟨l1, l2, rfl⟩ := run_loopAt.1 e1
      obtain ⟨r', rc, nt3, m1, m2, _⟩ := hs.blk _ _ l1
      rw [hmu] at m1
      simp only [Option.some.injEq] at m1
      subst m1
      refine key E wd (h.note bb) { state := .ready, pending := none, fn, tmps := a.tmps, params := ps, assign := as, body := b, defers := rc.defers } fn [] (En.leM_refl E) (hs.note bb) rfl rfl rfl rfl rfl rfl hdf ?_ e2
      exact run_enterLoop_inner m2 fn a.tmps ps as b

theorem cC_ok {g : Nat} : ∀ (j : Nat) (c : Code) (cc : C), cC Γ w nt g j c = some cc → At g j nt c → CodeOK Γ w nt F c cc
  | j, .skip, cc, h, hat => by
    simp only [cC, Option.some.injEq] at h; subst h
    exact pure_code hΓ hm hn hF hG (o := .normal) (fun _ => rfl) (fun rd Q a wd hq => wpIn_skip hq)
  | j, .label l, cc, h, hat => by
    simp only [cC, Option.some.injEq] at h; subst h
    exact pure_code hΓ hm hn hF hG (o := .normal) (fun _ => rfl) (fun rd Q a wd hq => wpIn_label hq)
  | j, .exit id, cc, h, hat => by
    simp only [cC, Option.some.injEq] at h; subst h
    exact pure_code hΓ hm hn hF hG (o := .exit id) (fun _ => rfl) (fun rd Q a wd hq => wpIn_exit hq)
  | j, .ret, cc, h, hat => by
    simp only [cC, Option.some.injEq] at h; subst h
    exact pure_code hΓ hm hn hF hG (o := .ret) (fun _ => rfl) (fun rd Q a wd hq => wpIn_ret hq)
  | j, .region id ops draw, cc, h, hat => by
    rw [cC] at h
    cases hl : allSome (cOper Γ w nt ops.toList) ops.toList with
    | none => rw [hl] at h; exact nomatch h
    | some l =>
      rw [hl] at h
      dsimp only at h
      cases draw with
      | false =>
        simp only [Bool.false_eq_true, if_false, Option.some.injEq] at h
        subst h
        exact reg_ok hΓ hn hF hG hl
      | true =>
        simp only [if_true] at h
        by_cases hd : drawOk ops.toList = true
        · rw [if_pos hd] at h
          simp only [Option.some.injEq] at h
          subst h
          exact drw_ok hΓ hm hn hF hG hl hd
        · rw [if_neg hd] at h; simp only [Option.some.injEq] at h; subst h; exact stopC_ok hΓ hm hn hF hG _
  | j, .seq x y, cc, h, hat => by
    rw [cC] at h
    cases hx : cC Γ w nt g j x with
    | none => rw [hx] at h; exact nomatch h
    | some cx =>
      cases hy : cC Γ w nt g (j + nLoops x) y with
      | none => rw [hx, hy] at h; exact nomatch h
      | some cy =>
        rw [hx, hy] at h
        simp only [Option.some.injEq] at h
        subst h
        have ix := cC_ok j x cx hx hat.left
        have iy := cC_ok (j + nLoops x) y cy hy hat.right
        have gK : ∀ r : Out × Tm, Good (C.seqK cy F r) := fun r => by
          obtain ⟨o, tm⟩ := r
          cases o with
          | normal => exact iy.good tm
          | exit id => exact Good.pure (Out.exit id, tm)
          | ret => exact Good.pure (Out.ret, tm)
        refine ⟨fun tm => (show Good (fun R h K => cx F tm R h fun r h1 => C.seqK cy F r R h1 K) from Good.bind (ix.good tm) gK), fun tm h o tm' h' w0 E a wd rd base hr hs ht hsz hdf hrd Q hQ => ?_⟩
        obtain ⟨⟨o1, tm1⟩, h1, e1, e2⟩ := (Good.run_bind (k := fun r => C.seqK cy F r) (ix.good tm)).1 hr
        refine wpIn_seq (ix.wp tm h o1 tm1 h1 w0 E a wd rd base e1 hs ht hsz hdf hrd _ (fun E' a' w' hE hs' ht' hsz' hdf' => ?_))
        cases o1 with
        | normal => exact iy.wp tm1 h1 o tm' h' w0 E' a' w' rd base e2 hs' ht' hsz' hdf' (hrd.next hE) Q (fun E'' a'' w'' hE' => hQ E'' a'' w'' (En.leM_trans hE hE'))
        | exit id =>
          have e2' : some ((Out.exit id, tm1), h1) = some ((o, tm'), h') := e2
          simp only [Option.some.injEq, Prod.mk.injEq] at e2'
          obtain ⟨⟨rfl, rfl⟩, rfl⟩ := e2'
          exact hQ E' a' w' hE hs' ht' hsz' hdf'
        | ret =>
          have e2' : some ((Out.ret, tm1), h1) = some ((o, tm'), h') := e2
          simp only [Option.some.injEq, Prod.mk.injEq] at e2'
          obtain ⟨⟨rfl, rfl⟩, rfl⟩ := e2'
          exact hQ E' a' w' hE hs' ht' hsz' hdf'
  | j, .cond c x y, cc, h, hat => by
    rw [cC] at h
    cases hc : cA Γ w c with
    | none => rw [hc] at h; exact nomatch h
    | some ca =>
      cases hx : cC Γ w nt g j x with
      | none => rw [hc, hx] at h; exact nomatch h
      | some cx =>
        cases hy : cC Γ w nt g (j + nLoops x) y with
        | none => rw [hc, hx, hy] at h; exact nomatch h
        | some cy =>
          rw [hc, hx, hy] at h
          simp only [Option.some.injEq] at h
          subst h
          have ix := cC_ok j x cx hx (show At g j nt (.seq x y) from hat).left
          have iy := cC_ok (j + nLoops x) y cy hy (show At g j nt (.seq x y) from hat).right
          refine ⟨fun tm => ?_, fun tm h o tm' h' w0 E a wd rd base hr hs ht hsz hdf hrd Q hQ => ?_⟩
          · rw [C.cond_def]
            refine Good.ev (f := fun v R h K => match v with | .bool c => Bool.rec (cy F tm R h K) (cx F tm R h K) c | _ => none) fun v => ?_
            cases v with
            | bool b => exact Good.two b (iy.good tm) (ix.good tm)
            | _ => exact Good.fail
          · rw [C.cond_def] at hr
            obtain ⟨u, hu, e⟩ := (evK_some tm _ ca _).1 hr
            have hv := cA_ok (ds := a.defers) hΓ hc ht hu
            cases u with
            | bool b =>
              rw [RV] at hv
              cases b with
              | false => exact wpIn_cond_false hv (iy.wp tm h o tm' h' w0 E a wd rd base e hs ht hsz hdf hrd Q hQ)
              | true => exact wpIn_cond_true hv (ix.wp tm h o tm' h' w0 E a wd rd base e hs ht hsz hdf hrd Q hQ)
            | _ => exact nomatch e
  | j, .block id x, cc, h, hat => by
    rw [cC] at h
    cases hx : cC Γ w nt g j x with
    | none => rw [hx] at h; exact nomatch h
    | some cx =>
      rw [hx] at h
      simp only [Option.some.injEq] at h
      subst h
      have ix := cC_ok j x cx hx hat
      have gK : ∀ r : Out × Tm, Good (C.blockK id r) := fun r => by
        obtain ⟨o, tm⟩ := r
        cases o with
        | normal => exact Good.pure (Out.normal, tm)
        | exit j => exact Good.two (Nat.beq j id) (f := fun _ h K => K (Out.exit j, tm) h) (g := fun _ h K => K (Out.normal, tm) h) (Good.pure _) (Good.pure _)
        | ret => exact Good.pure (Out.ret, tm)
      refine ⟨fun tm => (show Good (fun R h K => cx F tm R h fun r h1 => C.blockK id r R h1 K) from Good.bind (ix.good tm) gK), fun tm h o tm' h' w0 E a wd rd base hr hs ht hsz hdf hrd Q hQ => ?_⟩
      obtain ⟨⟨o1, tm1⟩, h1, e1, e2⟩ := (Good.run_bind (k := fun r => C.blockK id r) (ix.good tm)).1 hr
      refine wpIn_block (ix.wp tm h o1 tm1 h1 w0 E a wd rd base e1 hs ht hsz hdf hrd _ (fun E' a' w' hE hs' ht' hsz' hdf' => ?_))
      cases o1 with
      | normal =>
        have e2' : some ((Out.normal, tm1), h1) = some ((o, tm'), h') := e2
        simp only [Option.some.injEq, Prod.mk.injEq] at e2'
        obtain ⟨⟨rfl, rfl⟩, rfl⟩ := e2'
        exact hQ E' a' w' hE hs' ht' hsz' hdf'
      | exit j =>
        have e2' : (Bool.rec (some ((Out.exit j, tm1), h1)) (some ((Out.normal, tm1), h1)) (Nat.beq j id) : Option ((Out × Tm) × H)) = some ((o, tm'), h') := e2
        rw [boolRec_if'] at e2'
        show if j = id then Q .normal a' w' else Q (.exit j) a' w'
        by_cases hj : j = id
        · rw [if_pos (beq_true.2 hj)] at e2'
          rw [if_pos hj]
          simp only [Option.some.injEq, Prod.mk.injEq] at e2'
          obtain ⟨⟨rfl, rfl⟩, rfl⟩ := e2'
          exact hQ E' a' w' hE hs' ht' hsz' hdf'
        · rw [if_neg (fun hh => hj (beq_true.1 hh))] at e2'
          rw [if_neg hj]
          simp only [Option.some.injEq, Prod.mk.injEq] at e2'
          obtain ⟨⟨rfl, rfl⟩, rfl⟩ := e2'
          exact hQ E' a' w' hE hs' ht' hsz' hdf'
      | ret =>
        have e2' : some ((Out.ret, tm1), h1) = some ((o, tm'), h') := e2
        simp only [Option.some.injEq, Prod.mk.injEq] at e2'
        obtain ⟨⟨rfl, rfl⟩, rfl⟩ := e2'
        exact hQ E' a' w' hE hs' ht' hsz' hdf'
  | j, .loop x, cc, h, hat => by
    rw [cC] at h
    cases hx : cC Γ w nt g j x with
    | none => rw [hx] at h; exact nomatch h
    | some cx =>
      rw [hx] at h
      simp only [Option.some.injEq] at h
      subst h
      have ix := cC_ok j x cx hx hat
      refine ⟨fun tm => loopN_good ix.good _ tm, fun tm h o tm' h' w0 E a wd rd base hr hs ht hsz hdf hrd Q hQ => ?_⟩
      intro b k cs hro hb hrm
      obtain ⟨e, a', w', hq, harr⟩ := loopN_ok hΓ hm hn hF hG ix rd base _ tm h o tm' h' w0 E a wd hr hs ht hsz hdf hrd Q hQ b k cs hro hb hrm
      exact ⟨e, a', w', hq, .of_steps (.one (fenced_calm hb hrm rfl) stepR_loop) harr⟩
  | j, .rangeFunc f ps as b, cc, h, hat => by
    rw [cC] at h
    cases hf : cA Γ w f with
    | none => rw [hf] at h; exact nomatch h
    | some cf =>
      rw [hf] at h
      dsimp only at h
      split at h
      · simp only [Option.some.injEq] at h
        subst h
        exact rangeF_ok hΓ hm hn hF hG hf hat.head _
      · exact nomatch h
  | j, .scope b, cc, h, hat => by
    rw [cC] at h
    cases hx : cC Γ w nt g j b with
    | none => rw [hx] at h; exact nomatch h
    | some cx =>
      rw [hx] at h
      simp only [Option.some.injEq] at h
      subst h
      have ix := cC_ok j b cx hx hat
      refine ⟨ix.good, fun tm h o tm' h' w0 E a wd rd base hr hs ht hsz hdf hrd Q hQ => wpIn_scope_straight (ix.wp tm h o tm' h' w0 E a wd rd base hr hs ht hsz hdf hrd (Exit.noGoto Q) fun E' a' w' h1 h2 h3 h4 h5 => ?_)⟩
      have := hQ E' a' w' h1 h2 h3 h4 h5
      cases o <;> exact this
  | j, .goto l, cc, h, hat => by simp only [cC, Option.some.injEq] at h; subst h; exact stopC_ok hΓ hm hn hF hG _
  | j, .refuse s, cc, h, hat => by simp only [cC, Option.some.injEq] at h; subst h; exact stopC_ok hΓ hm hn hF hG _
end

/-! results -/
theorem resK_good (tm : Tm) : ∀ (l : List RC), Good (resK tm l)
  | [] => Good.pure []
  | r :: l => by
    have ih : ∀ v : V, Good (fun R h K => resK tm l R h fun l h => K (v :: l) h) := fun v => Good.bind (resK_good tm l) (k := fun l _ h K => K (v :: l) h) fun l => Good.pure _
    cases r with
    | t p => exact Good.ev (a := .t p) (f := fun v R h K => resK tm l R h fun l h => K (v :: l) h) ih
    | cell1 p =>
      rw [resK_cell1]
      refine Good.ev (a := .t p) (f := fun v R h K => match v with | .ptr b o => ld1 b o R h fun v h => resK tm l R h fun l h => K (v :: l) h | _ => none) fun v => ?_
      cases v with
      | ptr b o => exact Good.bind (ld1_good b o) (k := fun v R h K => resK tm l R h fun l h => K (v :: l) h) ih
      | _ => exact Good.fail
    | cellN n p =>
      rw [resK_cellN]
      refine Good.ev (a := .t p) (f := fun v R h K => match v with | .ptr b o => ldN n b o R h fun v h => resK tm l R h fun l h => K (.agg v :: l) h | _ => none) fun v => ?_
      cases v with
      | ptr b o => exact Good.bind (ldN_good n b o) (k := fun v R h K => resK tm l R h fun l h => K (V.agg v :: l) h) fun v => ih _
      | _ => exact Good.fail

/-- One result. -/
def resOne (tmps : Array Value) : ResultVar → Sem Value
  | .tmp t => pure (tmps.getD t Go.undef)
  | .cell a t => do loadVar t (← asAddr (tmps.getD a Go.undef))

section
variable {Γ : Cx} (hΓ : Γ.Ok) {w : Nat}
include hΓ
theorem resK_ok {E : En} {w0 : World} {tm : Tm} {a : Array Value} {wd : World} (ht : TR E w tm a) : ∀ (rs : List ResultVar) (l : List RC) (h h' : H) (vs : List V), allSome (cR Γ w) rs = some l → run (resK tm l) h = some (vs, h') → Sim w0 E h wd →
    ∃ ys, (rs.mapM (resOne a)).run Γ.P wd = .ok ys wd ∧ RVs E vs ys ∧ Sim w0 E h' wd
  | [], l, h, h', vs, hc, hr, hs => by
    simp only [allSome, Option.some.injEq] at hc
    subst hc
    have hr' : some (([] : List V), h) = some (vs, h') := hr
    simp only [Option.some.injEq, Prod.mk.injEq] at hr'
    obtain ⟨rfl, rfl⟩ := hr'
    exact ⟨[], by simp, RVs_none, hs⟩
  | r :: rs, l, h, h', vs, hc, hr, hs => by
    obtain ⟨c, l', h1, h2, rfl⟩ := (allSome_cons _ _ _ _).1 hc
    have fin : ∀ (v : V) (y : Value) (hh : H), RV E v y → (resOne a r).run Γ.P wd = .ok y wd → run (fun R h K => resK tm l' R h fun l h => K (v :: l) h) hh = some (vs, h') → Sim w0 E hh wd →
        ∃ ys, ((r :: rs).mapM (resOne a)).run Γ.P wd = .ok ys wd ∧ RVs E vs ys ∧ Sim w0 E h' wd := by
      intro v y hh hv hy hr' hs'
      obtain ⟨vl, h3, e1, e2⟩ := (Good.run_bind (k := fun l _ h K => K (v :: l) h) (resK_good tm l')).1 hr'
      obtain ⟨q1, q2⟩ := run_pure.1 e2
      subst q1
      subst q2
      obtain ⟨ys, i1, i2, i3⟩ := resK_ok ht rs l' hh h' vl h2 e1 hs'
      exact ⟨y :: ys, by simp [List.mapM_cons, hy, i1], RVs_mk hv i2, i3⟩
    cases r with
    | tmp t =>
      rw [cR] at h1
      by_cases hl : t < lim w
      · rw [if_pos hl, hΓ.path] at h1
        simp only [Option.some.injEq] at h1
        subst h1
        obtain ⟨v, hv, e⟩ := (evK_some tm (fun v => resK tm l' _ h fun l h => some (v :: l, h)) (.t (path w t)) _).1 hr
        exact fin v _ h (ht t v hl hv) (by simp [resOne]; rfl) e hs
      · rw [if_neg hl] at h1; exact nomatch h1
    | cell p t =>
      rw [cR] at h1
      by_cases hl : p < lim w
      · rw [if_pos hl, hΓ.path] at h1
        cases hg : isAggT Γ t with
        | none => rw [hg] at h1; exact nomatch h1
        | some b =>
          cases hz : sizeT Γ t with
          | none => rw [hg, hz] at h1; cases b <;> exact nomatch h1
          | some n =>
            rw [hg, hz] at h1
            obtain ⟨d, hd, hd1⟩ := isAggT_some hg
            obtain ⟨i0, hi0, hi1⟩ := sizeT_some hz
            cases b with
            | true =>
              simp only [Option.some.injEq] at h1
              subst h1
              rw [resK_cellN] at hr
              obtain ⟨u, hu, e⟩ := (evK_some tm (fun v => match v with | .ptr b o => ldN n b o _ h fun v h => resK tm l' _ h fun l h => some (V.agg v :: l, h) | _ => none) (.t (path w p)) _).1 hr
              have hrv := ht p u hl hu
              cases u with
              | ptr b o =>
                obtain ⟨c, q, y1, g1, g2, g3⟩ := ldN_some _ _ _ _ _ _ _ e
                rw [RV] at hrv
                obtain ⟨r0, hr0, hp⟩ := hrv
                obtain ⟨us, u1, u2, u3⟩ := hs.loads g1 hr0 g2
                refine fin (.agg ((c.drop o).take n)) (.agg us.toArray) _ (by rw [RV]; exact ⟨us, rfl, u2⟩) ?_ g3 (hs.note b)
                have hp' : a.getD p Go.undef = .pointer (some ⟨r0, o, none⟩) := hp
                simp only [resOne, hp', asAddr, Sem.run_bind, Sem.run_pure, Result.andThen_ok]
                exact r_loadN wd hd hd1 hi0 (by omega) (fun j u hu => by rw [Addr.add_lit]; exact u3 j u hu)
              | _ => exact nomatch e
            | false =>
              simp only [Option.some.injEq] at h1
              subst h1
              rw [resK_cell1] at hr
              obtain ⟨u, hu, e⟩ := (evK_some tm (fun v => match v with | .ptr b o => ld1 b o _ h fun v h => resK tm l' _ h fun l h => some (v :: l, h) | _ => none) (.t (path w p)) _).1 hr
              have hrv := ht p u hl hu
              cases u with
              | ptr b o =>
                obtain ⟨c, q, y1, v1, g1, g2, g3⟩ := ld1_some _ _ _ _ _ _ e
                rw [RV] at hrv
                obtain ⟨r0, hr0, hp⟩ := hrv
                obtain ⟨ys, zs, el, fz, k1, k2, k3, k4⟩ := hs.cells g1 hr0
                obtain ⟨y, hy, hy2⟩ := RVs_get k2 g2
                have hlt : o < ys.length := by
                  rcases Nat.lt_or_ge o ys.length with hh | hh
                  · exact hh
                  · rw [List.getElem?_eq_none hh] at hy; exact nomatch hy
                refine fin v1 y _ hy2 ?_ g3 (hs.note b)
                have hp' : a.getD p Go.undef = .pointer (some ⟨r0, o, none⟩) := hp
                simp only [resOne, hp', asAddr, Sem.run_bind, Sem.run_pure, Result.andThen_ok]
                exact r_load1 wd hd hd1 (by rw [cell_of wd k1, List.getElem?_append_left hlt]; exact hy)
              | _ => exact nomatch e
      · rw [if_neg hl] at h1; exact nomatch h1
end
end Go.X
