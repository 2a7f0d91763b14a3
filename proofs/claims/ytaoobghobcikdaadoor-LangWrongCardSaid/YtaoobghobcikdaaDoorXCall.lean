/- A verified executor, part 24: code and calls. -/
import Derived.Test.YtaoobghobcikdaaDoorXSound
import Derived.Scope
set_option linter.unusedVariables false
set_option linter.unusedSimpArgs false
set_option linter.unusedSectionVars false
namespace Go.X
open Go.RowKit
variable [Nu]

theorem loopN_succ (a : C) (F : CallF) (n : Nat) (tm : Tm) : C.loopN a F (n + 1) tm = (fun R h K => a F tm R h fun r h => match r.1 with | .normal => C.loopN a F n r.2 R h K | o => K (o, r.2) h : Kal (Out × Tm)) := by
  funext R h K
  show a F tm R h _ = a F tm R h _
  congr 1
  funext r h
  obtain ⟨o, t⟩ := r
  cases o <;> rfl
theorem resK_cell1 (tm : Tm) (p : Path) (l : List RC) : resK tm (.cell1 p :: l) = (fun R h K => evK tm (fun v => match v with | .ptr b o => ld1 b o R h fun v h => resK tm l R h fun l h => K (v :: l) h | _ => none) (.t p) : Kal (List V)) := by
  funext R h K
  exact evK_same tm (.t p) fun v => by cases v <;> rfl
theorem resK_cellN (tm : Tm) (n : Nat) (p : Path) (l : List RC) : resK tm (.cellN n p :: l) = (fun R h K => evK tm (fun v => match v with | .ptr b o => ldN n b o R h fun v h => resK tm l R h fun l h => K (.agg v :: l) h | _ => none) (.t p) : Kal (List V)) := by
  funext R h K
  exact evK_same tm (.t p) fun v => by cases v <;> rfl
theorem loopN_good {F : CallF} {a : C} (ha : ∀ tm, Good (a F tm)) : ∀ n tm, Good (C.loopN a F n tm)
  | 0, tm => Good.fail
  | n + 1, tm => by
    rw [loopN_succ]
    refine Good.bind (ha tm) (k := fun r R h K => match r.1 with | .normal => C.loopN a F n r.2 R h K | o => K (o, r.2) h) fun r => ?_
    obtain ⟨o, tm'⟩ := r
    cases o with
    | normal => exact loopN_good ha n tm'
    | exit id => exact Good.pure (Out.exit id, tm')
    | ret => exact Good.pure (Out.ret, tm')

section
variable {Γ : Cx} (hΓ : Γ.Ok) (hm : Γ.P.follows .mixedOrders = true) {w nt : Nat} (hn : nt ≤ 2 ^ w) {F : CallF} (hF : CallOK Γ.P F) (hG : ∀ g vs, Good (F.call g vs))
include hΓ hm hn hF hG

theorem loopN_ok {c : Code} {cc : C} (hc : CodeOK Γ w nt F c cc) : ∀ (n : Nat) (tm : Tm) (h : H) (o : Out) (tm' : Tm) (h' : H) (w0 : World) (E : En) (a : Act) (wd : World), run (C.loopN cc F n tm) h = some ((o, tm'), h') → Sim w0 E h wd → TR E w tm a.tmps → a.tmps.size = nt → a.defers = [] →
    ∀ (Q : Exit → Act → World → Prop), (∀ E' a' w', E.le E' → Sim w0 E' h' w' → TR E' w tm' a'.tmps → a'.tmps.size = nt → a'.defers = [] → Q (exOf o) a' w') → ∀ (b : Frame) (k : List Item) (cs : List Frame),
      ∃ e a' w', Q e a' w' ∧ Arrives Γ.P (lone (b.at a (.code c :: .inLoop c :: k)) cs wd) b k cs e a' w'
  | 0, tm, h, o, tm', h', w0, E, a, wd, hr, hs, ht, hsz, hdf, Q, hQ, b, k, cs => nomatch hr
  | n + 1, tm, h, o, tm', h', w0, E, a, wd, hr, hs, ht, hsz, hdf, Q, hQ, b, k, cs => by
    rw [loopN_succ] at hr
    obtain ⟨⟨o1, tm1⟩, h1, e1, e2⟩ := (Good.run_bind (k := fun r R h K => match r.1 with | .normal => C.loopN cc F n r.2 R h K | o => K (o, r.2) h) (hc.good tm)).1 hr
    have round := hc.wp tm h o1 tm1 h1 w0 E a wd e1 hs ht hsz hdf (Exit.then (fun a' w' => ∃ E', E.le E' ∧ o1 = .normal ∧ Sim w0 E' h1 w' ∧ TR E' w tm1 a'.tmps ∧ a'.tmps.size = nt ∧ a'.defers = []) Q) (fun E' a' w' hE hs' ht' hsz' hdf' => by
      cases o1 with
      | normal => exact ⟨E', hE, rfl, hs', ht', hsz', hdf'⟩
      | exit id =>
        have e2' : some ((Out.exit id, tm1), h1) = some ((o, tm'), h') := e2
        simp only [Option.some.injEq, Prod.mk.injEq] at e2'
        obtain ⟨⟨rfl, rfl⟩, rfl⟩ := e2'
        exact hQ E' a' w' hE hs' ht' hsz' hdf'
      | ret =>
        have e2' : some ((Out.ret, tm1), h1) = some ((o, tm'), h') := e2
        simp only [Option.some.injEq, Prod.mk.injEq] at e2'
        obtain ⟨⟨rfl, rfl⟩, rfl⟩ := e2'
        exact hQ E' a' w' hE hs' ht' hsz' hdf')
    obtain ⟨e, a₁, w₁, hq, harr⟩ := round b (.inLoop c :: k) cs
    cases e with
    | normal =>
      obtain ⟨E', hE, rfl, hs', ht', hsz', hdf'⟩ := hq
      have e2' : run (C.loopN cc F n tm1) h1 = some ((o, tm'), h') := e2
      obtain ⟨e₂, a₂, w₂, hq₂, harr₂⟩ := loopN_ok hc n tm1 h1 o tm' h' w0 E' a₁ w₁ e2' hs' ht' hsz' hdf' Q (fun E'' a' w' hE' => hQ E'' a' w' (En.le_trans hE hE')) b k cs
      exact ⟨e₂, a₂, w₂, hq₂, .of_steps (Steps.trans harr (.one step_inLoop)) harr₂⟩
    | exit id => exact ⟨_, a₁, w₁, hq, .pass (x := .inLoop c) rfl (fun _ _ => .inl (by simp)) harr⟩
    | goto l => exact ⟨_, a₁, w₁, hq, .pass (x := .inLoop c) rfl (fun _ _ => .inl (by simp)) harr⟩
    | ret => exact ⟨_, a₁, w₁, hq, .pass (x := .inLoop c) rfl (fun _ _ => .inl (by simp)) harr⟩
    | panic ch => exact ⟨_, a₁, w₁, hq, .pass (x := .inLoop c) rfl (fun _ _ => .inl (by simp)) harr⟩
    | outgrown => exact ⟨_, a₁, w₁, hq, .pass (x := .inLoop c) rfl (fun _ _ => .inl (by simp)) harr⟩

theorem pure_code {c : Code} {o : Out} {cc : C} (hcc : ∀ tm, cc F tm = fun _ h K => K (o, tm) h) (hw : ∀ (Q : Exit → Act → World → Prop) (a : Act) (wd : World), Q (exOf o) a wd → c.wp Γ.P Q a wd) : CodeOK Γ w nt F c cc := by
  refine ⟨fun tm => by rw [hcc]; exact Good.pure _, fun tm h o' tm' h' w0 E a wd hr hs ht hsz hdf Q hQ => ?_⟩
  rw [hcc] at hr
  obtain ⟨q1, q2⟩ := run_pure.1 hr
  simp only [Prod.mk.injEq] at q1
  obtain ⟨rfl, rfl⟩ := q1
  subst q2
  exact hw Q a wd (hQ E a wd (En.le_refl E) hs ht hsz hdf)

theorem stopC_ok (c : Code) : CodeOK Γ w nt F c C.stop :=
  ⟨fun _ => Good.fail, fun _ _ _ _ _ _ _ _ _ hr => (nomatch hr)⟩

theorem cC_ok : ∀ (c : Code) (cc : C), cC Γ w nt c = some cc → CodeOK Γ w nt F c cc
  | .skip, cc, h => by
    simp only [cC, Option.some.injEq] at h; subst h
    exact pure_code hΓ hm hn hF hG (o := .normal) (fun _ => rfl) (fun Q a wd hq => wp_skip hq)
  | .label l, cc, h => by
    simp only [cC, Option.some.injEq] at h; subst h
    exact pure_code hΓ hm hn hF hG (o := .normal) (fun _ => rfl) (fun Q a wd hq => wp_label hq)
  | .exit id, cc, h => by
    simp only [cC, Option.some.injEq] at h; subst h
    exact pure_code hΓ hm hn hF hG (o := .exit id) (fun _ => rfl) (fun Q a wd hq => wp_exit hq)
  | .ret, cc, h => by
    simp only [cC, Option.some.injEq] at h; subst h
    exact pure_code hΓ hm hn hF hG (o := .ret) (fun _ => rfl) (fun Q a wd hq => wp_ret hq)
  | .region id ops draw, cc, h => by
    rw [cC] at h
    cases hl : allSome (cOper Γ w nt ops.toList) ops.toList with
    | none => rw [hl] at h; exact nomatch h
    | some l =>
      rw [hl] at h
      dsimp only at h
      cases draw with
      | false =>
        simp only [Bool.false_eq_true, if_false, Option.some.injEq] at h
        subst h
        exact reg_ok hΓ hn hF hG hl
      | true =>
        simp only [if_true] at h
        by_cases hd : drawOk ops.toList = true
        · rw [if_pos hd] at h
          simp only [Option.some.injEq] at h
          subst h
          exact drw_ok hΓ hm hn hF hG hl hd
        · rw [if_neg hd] at h; simp only [Option.some.injEq] at h; subst h; exact stopC_ok hΓ hm hn hF hG _
  | .seq x y, cc, h => by
    rw [cC] at h
    cases hx : cC Γ w nt x with
    | none => rw [hx] at h; exact nomatch h
    | some cx =>
      cases hy : cC Γ w nt y with
      | none => rw [hx, hy] at h; exact nomatch h
      | some cy =>
        rw [hx, hy] at h
        simp only [Option.some.injEq] at h
        subst h
        have ix := cC_ok x cx hx
        have iy := cC_ok y cy hy
        have gK : ∀ r : Out × Tm, Good (C.seqK cy F r) := fun r => by
          obtain ⟨o, tm⟩ := r
          cases o with
          | normal => exact iy.good tm
          | exit id => exact Good.pure (Out.exit id, tm)
          | ret => exact Good.pure (Out.ret, tm)
        refine ⟨fun tm => (show Good (fun R h K => cx F tm R h fun r h1 => C.seqK cy F r R h1 K) from Good.bind (ix.good tm) gK), fun tm h o tm' h' w0 E a wd hr hs ht hsz hdf Q hQ => ?_⟩
        obtain ⟨⟨o1, tm1⟩, h1, e1, e2⟩ := (Good.run_bind (k := fun r => C.seqK cy F r) (ix.good tm)).1 hr
        refine wp_seq (ix.wp tm h o1 tm1 h1 w0 E a wd e1 hs ht hsz hdf _ (fun E' a' w' hE hs' ht' hsz' hdf' => ?_))
        cases o1 with
        | normal => exact iy.wp tm1 h1 o tm' h' w0 E' a' w' e2 hs' ht' hsz' hdf' Q (fun E'' a'' w'' hE' => hQ E'' a'' w'' (En.le_trans hE hE'))
        | exit id =>
          have e2' : some ((Out.exit id, tm1), h1) = some ((o, tm'), h') := e2
          simp only [Option.some.injEq, Prod.mk.injEq] at e2'
          obtain ⟨⟨rfl, rfl⟩, rfl⟩ := e2'
          exact hQ E' a' w' hE hs' ht' hsz' hdf'
        | ret =>
          have e2' : some ((Out.ret, tm1), h1) = some ((o, tm'), h') := e2
          simp only [Option.some.injEq, Prod.mk.injEq] at e2'
          obtain ⟨⟨rfl, rfl⟩, rfl⟩ := e2'
          exact hQ E' a' w' hE hs' ht' hsz' hdf'
  | .cond c x y, cc, h => by
    rw [cC] at h
    cases hc : cA Γ w c with
    | none => rw [hc] at h; exact nomatch h
    | some ca =>
      cases hx : cC Γ w nt x with
      | none => rw [hc, hx] at h; exact nomatch h
      | some cx =>
        cases hy : cC Γ w nt y with
        | none => rw [hc, hx, hy] at h; exact nomatch h
        | some cy =>
          rw [hc, hx, hy] at h
          simp only [Option.some.injEq] at h
          subst h
          have ix := cC_ok x cx hx
          have iy := cC_ok y cy hy
          refine ⟨fun tm => ?_, fun tm h o tm' h' w0 E a wd hr hs ht hsz hdf Q hQ => ?_⟩
          · rw [C.cond_def]
            refine Good.ev (f := fun v R h K => match v with | .bool c => Bool.rec (cy F tm R h K) (cx F tm R h K) c | _ => none) fun v => ?_
            cases v with
            | bool b => exact Good.two b (iy.good tm) (ix.good tm)
            | _ => exact Good.fail
          · rw [C.cond_def] at hr
            obtain ⟨u, hu, e⟩ := (evK_some tm _ ca _).1 hr
            have hv := cA_ok (ds := a.defers) hΓ hc ht hu
            cases u with
            | bool b =>
              rw [RV] at hv
              cases b with
              | false => exact wp_cond_false hv (iy.wp tm h o tm' h' w0 E a wd e hs ht hsz hdf Q hQ)
              | true => exact wp_cond_true hv (ix.wp tm h o tm' h' w0 E a wd e hs ht hsz hdf Q hQ)
            | _ => exact nomatch e
  | .block id x, cc, h => by
    rw [cC] at h
    cases hx : cC Γ w nt x with
    | none => rw [hx] at h; exact nomatch h
    | some cx =>
      rw [hx] at h
      simp only [Option.some.injEq] at h
      subst h
      have ix := cC_ok x cx hx
      have gK : ∀ r : Out × Tm, Good (C.blockK id r) := fun r => by
        obtain ⟨o, tm⟩ := r
        cases o with
        | normal => exact Good.pure (Out.normal, tm)
        | exit j => exact Good.two (Nat.beq j id) (f := fun _ h K => K (Out.exit j, tm) h) (g := fun _ h K => K (Out.normal, tm) h) (Good.pure _) (Good.pure _)
        | ret => exact Good.pure (Out.ret, tm)
      refine ⟨fun tm => (show Good (fun R h K => cx F tm R h fun r h1 => C.blockK id r R h1 K) from Good.bind (ix.good tm) gK), fun tm h o tm' h' w0 E a wd hr hs ht hsz hdf Q hQ => ?_⟩
      obtain ⟨⟨o1, tm1⟩, h1, e1, e2⟩ := (Good.run_bind (k := fun r => C.blockK id r) (ix.good tm)).1 hr
      refine wp_block (ix.wp tm h o1 tm1 h1 w0 E a wd e1 hs ht hsz hdf _ (fun E' a' w' hE hs' ht' hsz' hdf' => ?_))
      cases o1 with
      | normal =>
        have e2' : some ((Out.normal, tm1), h1) = some ((o, tm'), h') := e2
        simp only [Option.some.injEq, Prod.mk.injEq] at e2'
        obtain ⟨⟨rfl, rfl⟩, rfl⟩ := e2'
        exact hQ E' a' w' hE hs' ht' hsz' hdf'
      | exit j =>
        have e2' : (Bool.rec (some ((Out.exit j, tm1), h1)) (some ((Out.normal, tm1), h1)) (Nat.beq j id) : Option ((Out × Tm) × H)) = some ((o, tm'), h') := e2
        rw [boolRec_if'] at e2'
        show if j = id then Q .normal a' w' else Q (.exit j) a' w'
        by_cases hj : j = id
        · rw [if_pos (beq_true.2 hj)] at e2'
          rw [if_pos hj]
          simp only [Option.some.injEq, Prod.mk.injEq] at e2'
          obtain ⟨⟨rfl, rfl⟩, rfl⟩ := e2'
          exact hQ E' a' w' hE hs' ht' hsz' hdf'
        · rw [if_neg (fun hh => hj (beq_true.1 hh))] at e2'
          rw [if_neg hj]
          simp only [Option.some.injEq, Prod.mk.injEq] at e2'
          obtain ⟨⟨rfl, rfl⟩, rfl⟩ := e2'
          exact hQ E' a' w' hE hs' ht' hsz' hdf'
      | ret =>
        have e2' : some ((Out.ret, tm1), h1) = some ((o, tm'), h') := e2
        simp only [Option.some.injEq, Prod.mk.injEq] at e2'
        obtain ⟨⟨rfl, rfl⟩, rfl⟩ := e2'
        exact hQ E' a' w' hE hs' ht' hsz' hdf'
  | .loop x, cc, h => by
    rw [cC] at h
    cases hx : cC Γ w nt x with
    | none => rw [hx] at h; exact nomatch h
    | some cx =>
      rw [hx] at h
      simp only [Option.some.injEq] at h
      subst h
      have ix := cC_ok x cx hx
      refine ⟨fun tm => loopN_good ix.good _ tm, fun tm h o tm' h' w0 E a wd hr hs ht hsz hdf Q hQ => ?_⟩
      intro b k cs
      obtain ⟨e, a', w', hq, harr⟩ := loopN_ok hΓ hm hn hF hG ix _ tm h o tm' h' w0 E a wd hr hs ht hsz hdf Q hQ b k cs
      exact ⟨e, a', w', hq, .of_steps (.one step_loop) harr⟩
  | .rangeFunc f ps as b, cc, h => by
    rw [cC] at h
    cases hf : cA Γ w f with
    | none => rw [hf] at h; exact nomatch h
    | some cf =>
      cases hx : cC Γ w nt as with
      | none => rw [hf, hx] at h; exact nomatch h
      | some cx =>
        cases hy : cC Γ w nt b with
        | none => rw [hf, hx, hy] at h; exact nomatch h
        | some cy =>
          rw [hf, hx, hy] at h
          dsimp only at h
          split at h
          · simp only [Option.some.injEq] at h; subst h; exact stopC_ok hΓ hm hn hF hG _
          · exact nomatch h
  | .scope b, cc, h => by
    rw [cC] at h
    cases hx : cC Γ w nt b with
    | none => rw [hx] at h; exact nomatch h
    | some cx =>
      rw [hx] at h
      simp only [Option.some.injEq] at h
      subst h
      have ix := cC_ok b cx hx
      refine ⟨ix.good, fun tm h o tm' h' w0 E a wd hr hs ht hsz hdf Q hQ => wp_scope_straight (ix.wp tm h o tm' h' w0 E a wd hr hs ht hsz hdf (Exit.noGoto Q) fun E' a' w' h1 h2 h3 h4 h5 => ?_)⟩
      have := hQ E' a' w' h1 h2 h3 h4 h5
      cases o <;> exact this
  | .goto l, cc, h => by simp only [cC, Option.some.injEq] at h; subst h; exact stopC_ok hΓ hm hn hF hG _
  | .refuse s, cc, h => by simp only [cC, Option.some.injEq] at h; subst h; exact stopC_ok hΓ hm hn hF hG _
end

/-! results -/
theorem resK_good (tm : Tm) : ∀ (l : List RC), Good (resK tm l)
  | [] => Good.pure []
  | r :: l => by
    have ih : ∀ v : V, Good (fun R h K => resK tm l R h fun l h => K (v :: l) h) := fun v => Good.bind (resK_good tm l) (k := fun l _ h K => K (v :: l) h) fun l => Good.pure _
    cases r with
    | t p => exact Good.ev (a := .t p) (f := fun v R h K => resK tm l R h fun l h => K (v :: l) h) ih
    | cell1 p =>
      rw [resK_cell1]
      refine Good.ev (a := .t p) (f := fun v R h K => match v with | .ptr b o => ld1 b o R h fun v h => resK tm l R h fun l h => K (v :: l) h | _ => none) fun v => ?_
      cases v with
      | ptr b o => exact Good.bind (ld1_good b o) (k := fun v R h K => resK tm l R h fun l h => K (v :: l) h) ih
      | _ => exact Good.fail
    | cellN n p =>
      rw [resK_cellN]
      refine Good.ev (a := .t p) (f := fun v R h K => match v with | .ptr b o => ldN n b o R h fun v h => resK tm l R h fun l h => K (.agg v :: l) h | _ => none) fun v => ?_
      cases v with
      | ptr b o => exact Good.bind (ldN_good n b o) (k := fun v R h K => resK tm l R h fun l h => K (V.agg v :: l) h) fun v => ih _
      | _ => exact Good.fail

/-- One result. -/
def resOne (tmps : Array Value) : ResultVar → Sem Value
  | .tmp t => pure (tmps.getD t Go.undef)
  | .cell a t => do loadVar t (← asAddr (tmps.getD a Go.undef))

section
variable {Γ : Cx} (hΓ : Γ.Ok) {w : Nat}
include hΓ
theorem resK_ok {E : En} {w0 : World} {tm : Tm} {a : Array Value} {wd : World} (ht : TR E w tm a) : ∀ (rs : List ResultVar) (l : List RC) (h h' : H) (vs : List V), allSome (cR Γ w) rs = some l → run (resK tm l) h = some (vs, h') → Sim w0 E h wd →
    ∃ ys, (rs.mapM (resOne a)).run Γ.P wd = .ok ys wd ∧ RVs E vs ys ∧ Sim w0 E h' wd
  | [], l, h, h', vs, hc, hr, hs => by
    simp only [allSome, Option.some.injEq] at hc
    subst hc
    have hr' : some (([] : List V), h) = some (vs, h') := hr
    simp only [Option.some.injEq, Prod.mk.injEq] at hr'
    obtain ⟨rfl, rfl⟩ := hr'
    exact ⟨[], by simp, RVs_none, hs⟩
  | r :: rs, l, h, h', vs, hc, hr, hs => by
    obtain ⟨c, l', h1, h2, rfl⟩ := (allSome_cons _ _ _ _).1 hc
    have fin : ∀ (v : V) (y : Value) (hh : H), RV E v y → (resOne a r).run Γ.P wd = .ok y wd → run (fun R h K => resK tm l' R h fun l h => K (v :: l) h) hh = some (vs, h') → Sim w0 E hh wd →
        ∃ ys, ((r :: rs).mapM (resOne a)).run Γ.P wd = .ok ys wd ∧ RVs E vs ys ∧ Sim w0 E h' wd := by
      intro v y hh hv hy hr' hs'
      obtain ⟨vl, h3, e1, e2⟩ := (Good.run_bind (k := fun l _ h K => K (v :: l) h) (resK_good tm l')).1 hr'
      obtain ⟨q1, q2⟩ := run_pure.1 e2
      subst q1
      subst q2
      obtain ⟨ys, i1, i2, i3⟩ := resK_ok ht rs l' hh h' vl h2 e1 hs'
      exact ⟨y :: ys, by simp [List.mapM_cons, hy, i1], RVs_mk hv i2, i3⟩
    cases r with
    | tmp t =>
      rw [cR] at h1
      by_cases hl : t < 2 ^ w
      · rw [if_pos hl, hΓ.path] at h1
        simp only [Option.some.injEq] at h1
        subst h1
        obtain ⟨v, hv, e⟩ := (evK_some tm (fun v => resK tm l' _ h fun l h => some (v :: l, h)) (.t (path w t)) _).1 hr
        exact fin v _ h (ht t v hl hv) (by simp [resOne]; rfl) e hs
      · rw [if_neg hl] at h1; exact nomatch h1
    | cell p t =>
      rw [cR] at h1
      by_cases hl : p < 2 ^ w
      · rw [if_pos hl, hΓ.path] at h1
        cases hg : isAggT Γ t with
        | none => rw [hg] at h1; exact nomatch h1
        | some b =>
          cases hz : sizeT Γ t with
          | none => rw [hg, hz] at h1; cases b <;> exact nomatch h1
          | some n =>
            rw [hg, hz] at h1
            obtain ⟨d, hd, hd1⟩ := isAggT_some hg
            obtain ⟨i0, hi0, hi1⟩ := sizeT_some hz
            cases b with
            | true =>
              simp only [Option.some.injEq] at h1
              subst h1
              rw [resK_cellN] at hr
              obtain ⟨u, hu, e⟩ := (evK_some tm (fun v => match v with | .ptr b o => ldN n b o _ h fun v h => resK tm l' _ h fun l h => some (V.agg v :: l, h) | _ => none) (.t (path w p)) _).1 hr
              have hrv := ht p u hl hu
              cases u with
              | ptr b o =>
                obtain ⟨c, q, g1, g2, g3⟩ := ldN_some _ _ _ _ _ _ _ e
                rw [RV] at hrv
                obtain ⟨r0, hr0, hp⟩ := hrv
                obtain ⟨us, u1, u2, u3⟩ := hs.loads g1 hr0 g2
                refine fin (.agg ((c.drop o).take n)) (.agg us.toArray) _ (by rw [RV]; exact ⟨us, rfl, u2⟩) ?_ g3 (hs.note b)
                have hp' : a.getD p Go.undef = .pointer (some ⟨r0, o, none⟩) := hp
                simp only [resOne, hp', asAddr, Sem.run_bind, Sem.run_pure, Result.andThen_ok]
                exact r_loadN wd hd hd1 hi0 (by omega) (fun j u hu => by rw [Addr.add_lit]; exact u3 j u hu)
              | _ => exact nomatch e
            | false =>
              simp only [Option.some.injEq] at h1
              subst h1
              rw [resK_cell1] at hr
              obtain ⟨u, hu, e⟩ := (evK_some tm (fun v => match v with | .ptr b o => ld1 b o _ h fun v h => resK tm l' _ h fun l h => some (v :: l, h) | _ => none) (.t (path w p)) _).1 hr
              have hrv := ht p u hl hu
              cases u with
              | ptr b o =>
                obtain ⟨c, q, v1, g1, g2, g3⟩ := ld1_some _ _ _ _ _ _ e
                rw [RV] at hrv
                obtain ⟨r0, hr0, hp⟩ := hrv
                obtain ⟨ys, zs, el, fz, k1, k2, k3, k4⟩ := hs.cells g1 hr0
                obtain ⟨y, hy, hy2⟩ := RVs_get k2 g2
                have hlt : o < ys.length := by
                  rcases Nat.lt_or_ge o ys.length with hh | hh
                  · exact hh
                  · rw [List.getElem?_eq_none hh] at hy; exact nomatch hy
                refine fin v1 y _ hy2 ?_ g3 (hs.note b)
                have hp' : a.getD p Go.undef = .pointer (some ⟨r0, o, none⟩) := hp
                simp only [resOne, hp', asAddr, Sem.run_bind, Sem.run_pure, Result.andThen_ok]
                exact r_load1 wd hd hd1 (by rw [cell_of wd k1, List.getElem?_append_left hlt]; exact hy)
              | _ => exact nomatch e
      · rw [if_neg hl] at h1; exact nomatch h1
end
end Go.X
