/- A verified executor, part 20: guards; regions in order. -/
import Derived.Test.YtojfkhhebedeoaaGreatDoorXDisp3
set_option linter.unusedVariables false
set_option linter.unusedSimpArgs false
set_option linter.unusedSectionVars false
namespace Go.X
open Go.RowKit
variable [Nu]

/-- What a piece of code at hand does with an operation, be it wanted or not. -/
structure OperOK (Γ : Cx) (w nt : Nat) (ops : Array Oper) (o : Oper) (io : Ins) : Prop where
  wp : ∀ (F : CallF), CallOK Γ.P F → ∀ (rd : Option Nat) (tm : Tm) (h : H) (v : V) (h' : H) (w0 : World) (E : En) (wd : World) (a : Act), run (io.i F tm) h = some (v, h') → Sim w0 E h wd → TR E w tm a.tmps →
    ∀ (K : Act → World → Prop) (Q : Exit → Act → World → Prop), (∀ E' w' x, E.le E' → Sim w0 E' h' w' → RV E' v x → K (a.put o.dst x) w') →
      if Region.wanted o (yielded ops a.tmps) = true then o.wpIn (FC rd) 0 Γ.P a wd K Q else K (a.put o.dst Go.undef) wd
  mono : ∀ (F F' : CallF), F.le F' → GoodF F' → ∀ tm, KLe (io.i F tm) (io.i F' tm)
  good : ∀ (F : CallF), GoodF F → ∀ tm, Good (io.i F tm)
  cong : ∀ tm tm', (∀ t, t ∈ usesOf ops.toList o → t < lim w → tm.get (path w t) = tm'.get (path w t)) → ∀ (F : CallF), io.i F tm = io.i F tm'
  calm : touches o.op = false → ∀ (F : CallF) tm, Calm (io.i F tm)
  dst : io.dst = o.dst.map (path w)
  low : ∀ d, o.dst = some d → d < nt

theorem RV_bool {E : En} {u : V} {b : Bool} (h : RV E u (.bool b)) : u = .bool b := by
  cases u with
  | bool c => rw [RV] at h; simp only [Value.bool.injEq] at h; rw [h]
  | int k n => rw [RV] at h; exact nomatch h
  | sym k i => rw [RV] at h; exact nomatch h
  | bigs es l n => rw [RV] at h; obtain ⟨a, L, c, ys, h, _⟩ := h; exact nomatch h
  | view l => rw [RV] at h; obtain ⟨a, ys, h, _⟩ := h; exact nomatch h
  | str s => rw [RV] at h; obtain ⟨t, h, _⟩ := h; exact nomatch h
  | ptr b o => rw [RV] at h; obtain ⟨r, _, h⟩ := h; exact nomatch h
  | nilp => rw [RV] at h; exact nomatch h
  | slice b o n es cap => rw [RV] at h; obtain ⟨_, r, c, _, h, _⟩ := h; exact nomatch h
  | nils => rw [RV] at h; exact nomatch h
  | emp => rw [RV] at h; obtain ⟨a, c, h⟩ := h; exact nomatch h
  | map b => rw [RV] at h; obtain ⟨r, _, h⟩ := h; exact nomatch h
  | nilmap => rw [RV] at h; exact nomatch h
  | fn f a c => rw [RV] at h; obtain ⟨l, m, h, _⟩ := h; exact nomatch h
  | nilfn => rw [RV] at h; exact nomatch h
  | iface t v => rw [RV] at h; obtain ⟨y, h, _⟩ := h; exact nomatch h
  | yld b => rw [RV] at h; obtain ⟨r, _, h⟩ := h; exact nomatch h
  | nili => rw [RV] at h; exact nomatch h
  | agg l => rw [RV] at h; obtain ⟨ys, h, _⟩ := h; exact nomatch h
  | tup l => rw [RV] at h; obtain ⟨ys, h, _⟩ := h; exact nomatch h

theorem undef_ok (E : En) : RV E undef Go.undef := by rw [undef, RV]; exact ⟨[], rfl, RVs_none⟩

/-- The instruction under a guard: is it wanted? -/
noncomputable def guardV (want : Bool) (u : V) : Bool := match u with
  | .bool b => Bool.rec (Bool.not b) b want
  | _ => false
theorem when_eq (p : Path) (want : Bool) (i : I) (F : CallF) (tm : Tm) : I.when p want i F tm = fun R h K => evK tm (fun v => (Bool.rec (K undef h) (i F tm R h K) (guardV want v) : Option R)) (.t p) := by
  funext R h K
  have e : (fun v : V => runK (whenK v want (i F tm)) R h K) = fun v => (Bool.rec (K undef h) (i F tm R h K) (guardV want v) : Option R) := by
    funext v
    cases v <;> rfl
  exact congrArg (fun f => Tp.getK f p tm) e

theorem mem_uses_op {ops : List Oper} {o : Oper} {t : Nat} (h : Operand.tmp t ∈ o.op.operands) : t ∈ usesOf ops o := by
  unfold usesOf
  refine List.mem_append_left _ (List.mem_filterMap.2 ⟨.tmp t, by simpa using h, rfl⟩)

theorem cOper_ok {Γ : Cx} (hΓ : Γ.Ok) {w nt : Nat} {ops : Array Oper} {o : Oper} {io : Ins} (hc : cOper Γ w nt ops.toList o = some io) : OperOK Γ w nt ops o io := by
  unfold cOper at hc
  cases hi : cI Γ w o with
  | none =>
    rw [hi] at hc
    split at hc
    · rename_i h; exact nomatch h
    · rename_i h; exact nomatch h
    · exact nomatch hc
  | some i =>
    rw [hi] at hc
    have hok := cI_ok hΓ hi
    have hdst : ∀ d, (match o.dst with | none => some none | some d => if d < nt then some (some (Γ.pathOf w d)) else none : Option (Option Path)) = some d → d = o.dst.map (path w) ∧ ∀ d, o.dst = some d → d < nt := by
      intro d hd
      cases ho : o.dst with
      | none => rw [ho] at hd; simp only [Option.some.injEq] at hd; exact ⟨hd.symm, fun d h => nomatch h⟩
      | some e =>
        rw [ho] at hd
        dsimp only at hd
        by_cases he : e < nt
        · rw [if_pos he, hΓ.path] at hd
          simp only [Option.some.injEq] at hd
          exact ⟨hd.symm, fun d h => by simp only [Option.some.injEq] at h; rw [← h]; exact he⟩
        · rw [if_neg he] at hd; exact nomatch hd
    split at hc
    · -- no guard
      rename_i d i' hd hg hi'
      simp only [Option.some.injEq] at hc hi'
      subst hc
      subst hi'
      obtain ⟨hd1, hd2⟩ := hdst _ hd
      have hng : o.guard = none := by
        cases hgu : o.guard with
        | none => rfl
        | some q =>
          rw [hgu] at hg
          obtain ⟨j, want⟩ := q
          dsimp only at hg
          split at hg
          · split at hg
            · split at hg
              · exact nomatch hg
              · exact nomatch hg
            · exact nomatch hg
          · exact nomatch hg
      refine ⟨fun F hF rd tm h v h' w0 E wd a hr hs ht K Q hk => ?_, hok.mono, hok.good, fun tm tm' hA F => hok.cong tm tm' (fun t ht hl => hA t (mem_uses_op ht) hl) F, hok.calm, hd1, hd2⟩
      have hw : Region.wanted o (yielded ops a.tmps) = true := by unfold Region.wanted; rw [hng]
      rw [if_pos hw]
      exact hok.wp F hF rd tm h v h' w0 E wd a hr hs ht K Q hk
    · -- a guard
      rename_i d g i' hd hg hi'
      simp only [Option.some.injEq] at hc hi'
      subst hc
      subst hi'
      obtain ⟨hd1, hd2⟩ := hdst _ hd
      obtain ⟨j, want, p, t, hgu, hp, hpd, hlt, hge⟩ : ∃ j want p t, o.guard = some (j, want) ∧ ops.toList[j]? = some p ∧ p.dst = some t ∧ t < lim w ∧ g = (path w t, want) := by
        cases hgu : o.guard with
        | none => rw [hgu] at hg; exact nomatch hg
        | some q =>
          rw [hgu] at hg
          obtain ⟨j, want⟩ := q
          dsimp only at hg
          cases hp : ops.toList[j]? with
          | none => rw [hp] at hg; exact nomatch hg
          | some p =>
            rw [hp] at hg
            dsimp only at hg
            cases ht : p.dst with
            | none => rw [ht] at hg; exact nomatch hg
            | some t =>
              rw [ht] at hg
              dsimp only at hg
              by_cases hl : t < lim w
              · rw [if_pos hl, hΓ.path] at hg
                simp only [Option.some.injEq] at hg
                exact ⟨j, want, p, t, rfl, hp, ht, hl, hg.symm⟩
              · rw [if_neg hl] at hg; exact nomatch hg
      subst hge
      have huse : t ∈ usesOf ops.toList o := by
        unfold usesOf
        refine List.mem_append_right _ ?_
        rw [hgu]
        dsimp only
        rw [hp]
        dsimp only
        rw [hpd]
        simp
      refine ⟨fun F hF rd tm h v h' w0 E wd a hr hs ht K Q hk => ?_, fun F F' hF hG tm R h K K' hk => ?_, fun F hF tm => ?_, fun tm tm' hA F => ?_, fun hT F tm => ?_, hd1, hd2⟩
      · dsimp only at hr
        rw [when_eq] at hr
        have hr' : evK tm (fun v => (Bool.rec (some (undef, h)) (i F tm (V × H) h fun a h' => some (a, h')) (guardV want v) : Option (V × H))) (.t (path w t)) = some (v, h') := hr
        obtain ⟨u, hu, e⟩ := (evK_some tm _ (.t (path w t)) _).1 hr'
        have hu' : tm.get (path w t) = some u := hu
        have hrv := ht t u hlt hu'
        have hp' : ops[j]? = some p := by rw [← hp]; simp
        rw [boolRec_if'] at e
        by_cases hgv : guardV want u = true
        · rw [if_pos hgv] at e
          have hub : u = .bool want := by
            cases u with
            | bool b => cases want <;> cases b <;> first | rfl | exact nomatch hgv
            | _ => exact nomatch hgv
          subst hub
          rw [RV] at hrv
          have hlt2 : t < a.tmps.size := by
            rcases Nat.lt_or_ge t a.tmps.size with hh | hh
            · exact hh
            · have : a.tmps.getD t TR.undef' = TR.undef' := by simp [Array.getD, Nat.not_lt.2 hh]
              rw [this] at hrv; exact nomatch hrv
          have htm : a.tmps[t]? = some (.bool want) := by
            rw [← hrv]; simp [Array.getD, hlt2]
          have hw : Region.wanted o (yielded ops a.tmps) = true := by
            unfold Region.wanted; rw [hgu]; dsimp only
            have : yielded ops a.tmps j = some want := by
              unfold yielded; rw [hp', Option.bind_some, hpd, Option.bind_some, htm]
            rw [this]; simp
          rw [if_pos hw]
          exact hok.wp F hF rd tm h v h' w0 E wd a e hs ht K Q hk
        · rw [if_neg hgv] at e
          simp only [Option.some.injEq, Prod.mk.injEq] at e
          obtain ⟨rfl, rfl⟩ := e
          have hw : ¬ Region.wanted o (yielded ops a.tmps) = true := by
            unfold Region.wanted; rw [hgu]; dsimp only
            intro hh
            have hy : yielded ops a.tmps j = some want := by simpa using hh
            unfold yielded at hy
            rw [hp', Option.bind_some, hpd, Option.bind_some] at hy
            have hx : a.tmps[t]? = some (.bool want) := by
              cases hx : a.tmps[t]? with
              | none => rw [hx] at hy; exact nomatch hy
              | some x =>
                rw [hx] at hy
                cases x with
                | bool c => simp only [Option.some.injEq] at hy; rw [hy]
                | _ => exact nomatch hy
            have hg2 : a.tmps.getD t TR.undef' = .bool want := by
              simp only [Array.getD_eq_getD_getElem?, hx, Option.getD_some]
            rw [hg2] at hrv
            have := RV_bool hrv
            subst this
            apply hgv
            cases want <;> rfl
          rw [if_neg hw]
          exact hk E wd _ (En.le_refl E) hs (undef_ok E)
      · dsimp only
        rw [when_eq, when_eq]
        refine evK_le (fun v => ?_) _
        cases guardV want v with
        | false => exact hk undef h
        | true => exact hok.mono F F' hF hG tm R h K K' hk
      · dsimp only
        rw [when_eq]
        exact Good.ev (f := fun v R h K => (Bool.rec (K undef h) (i F tm R h K) (guardV want v) : Option R)) fun v => Good.two (guardV want v) (f := fun _ h K => K undef h) (Good.pure _) (hok.good F hF tm)
      · dsimp only
        rw [when_eq, when_eq]
        funext R h K
        have e1 : i F tm = i F tm' := hok.cong tm tm' (fun t ht hl => hA t (mem_uses_op ht) hl) F
        rw [evK_eq, evK_eq, e1]
        show (tm.get (path w t)).bind _ = (tm'.get (path w t)).bind _
        rw [hA t huse hlt]
      · dsimp only
        rw [when_eq]
        refine Calm.ev (f := fun v R h K => (Bool.rec (K undef h) (i F tm R h K) (guardV want v) : Option R)) fun v => ?_
        cases guardV want v with
        | false => exact Calm.pure undef
        | true => exact hok.calm hT F tm
    · exact nomatch hc

/-- The temporaries after an operation. -/
theorem TR_putD {E : En} {w nt : Nat} {tm : Tm} {a : Act} (h : TR E w tm a.tmps) (hn : nt ≤ lim w) (hs : a.tmps.size = nt) {o : Oper} {io : Ins} (hd : io.dst = o.dst.map (path w)) (hl : ∀ d, o.dst = some d → d < nt) {v : V} {x : Value} (hv : RV E v x) :
    TR E w (putD tm io.dst v) (a.put o.dst x).tmps ∧ (a.put o.dst x).tmps.size = nt ∧ (a.put o.dst x).defers = a.defers := by
  rw [hd]
  cases ho : o.dst with
  | none => exact ⟨h, hs, rfl⟩
  | some d =>
    have := hl d ho
    refine ⟨TR_put h (Nat.lt_of_lt_of_le this hn) (by rw [hs]; exact this) hv, ?_, rfl⟩
    simp [Act.put, hs]

/-- A region, in order. -/
theorem regionN_ok {Γ : Cx} (hΓ : Γ.Ok) {w nt : Nat} (hn : nt ≤ lim w) {F : CallF} (hF : CallOK Γ.P F) (hG : GoodF F) {ops : Array Oper} {Q : Exit → Act → World → Prop} {w0 : World} {ds : List Deferred} (rd : Option Nat) : ∀ (rest : List Oper) (l : List Ins) (k : Nat),
    (∀ i, rest[i]? = ops[k + i]?) → allSome (cOper Γ w nt ops.toList) rest = some l → ∀ (tm tm' : Tm) (h h' : H) (E : En) (a : Act) (wd : World), run (regionN F l tm) h = some (tm', h') → Sim w0 E h wd → TR E w tm a.tmps → a.tmps.size = nt → a.defers = ds →
      (∀ E' a' w', E.le E' → Sim w0 E' h' w' → TR E' w tm' a'.tmps → a'.tmps.size = nt → a'.defers = ds → Q .normal a' w') → wpOpsIn (FC rd) 0 Γ.P ops Q (List.range' k rest.length) a wd
  | [], l, k, hrest, hc, tm, tm', h, h', E, a, wd, hr, hs, ht, hsz, hdf, hQ => by
    simp only [allSome, Option.some.injEq] at hc
    subst hc
    have hr' : some (tm, h) = some (tm', h') := hr
    simp only [Option.some.injEq, Prod.mk.injEq] at hr'
    obtain ⟨rfl, rfl⟩ := hr'
    exact hQ E a wd (En.le_refl E) hs ht hsz hdf
  | o :: rest, l, k, hrest, hc, tm, tm', h, h', E, a, wd, hr, hs, ht, hsz, hdf, hQ => by
    obtain ⟨io, l', h1, h2, rfl⟩ := (allSome_cons _ _ _ _).1 hc
    have hok := cOper_ok hΓ h1
    obtain ⟨v, hm, e1, e2⟩ := (Good.run_bind (f := io.i F tm) (k := fun v => regionN F l' (putD tm io.dst v)) (hok.good F hG tm)).1 hr
    have hop : ops[k]? = some o := by have := hrest 0; simpa using this.symm
    rw [List.length_cons, List.range'_succ, wpOpsIn_cons]
    unfold wpOpIn
    rw [hop]
    dsimp only
    have key := hok.wp F hF rd tm h v hm w0 E wd a e1 hs ht (wpOpsIn (FC rd) 0 Γ.P ops Q (List.range' (k + 1) rest.length)) Q (fun E' w' x hE hs' hv => by
      obtain ⟨q1, q2, q3⟩ := TR_putD (TR_mono hE ht) hn hsz hok.dst hok.low hv
      exact regionN_ok hΓ hn hF hG rd rest l' (k + 1) (fun i => by have := hrest (i + 1); rw [show k + 1 + i = k + (i + 1) from by omega]; simpa using this) h2 _ tm' hm h' E' _ w' e2 hs' q1 q2 (by rw [q3, hdf])
        (fun E'' a' w'' hE' => hQ E'' a' w'' (En.le_trans hE hE')))
    split
    · rename_i hw
      rw [if_pos hw] at key
      exact key
    · rename_i hw
      rw [if_neg hw] at key
      exact ⟨fun _ _ => trivial, key⟩
end Go.X
