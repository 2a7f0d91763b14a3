/- A verified executor, part 25: a call that runs tells the model's call. -/
import Derived.Test.YtaoobghobcikdaaDoorXCall
set_option linter.unusedVariables false
set_option linter.unusedSimpArgs false
set_option linter.unusedSectionVars false
namespace Go.X
open Go.RowKit
variable [Nu]

theorem setPars_ok {w : Nat} : ∀ (m k : Nat) (vs : List V) (tm tm' : Tm), k + m ≤ 2 ^ w → setPars ((List.range' k m).map (path w)) vs tm = some tm' → vs.length = m ∧ ∀ t, t < 2 ^ w → tm'.get (path w t) = if k ≤ t ∧ t < k + m then vs[t - k]? else tm.get (path w t)
  | 0, k, vs, tm, tm', hk, h => by
    cases vs with
    | nil =>
      have h' : some tm = some tm' := h
      simp only [Option.some.injEq] at h'
      subst h'
      exact ⟨rfl, fun t _ => by rw [if_neg (by omega)]⟩
    | cons v vs => exact nomatch h
  | m + 1, k, vs, tm, tm', hk, h => by
    cases vs with
    | nil => exact nomatch h
    | cons v vs =>
      have h' : setPars ((List.range' (k + 1) m).map (path w)) vs (Tp.put v (path w k) tm) = some tm' := h
      obtain ⟨h1, h2⟩ := setPars_ok m (k + 1) vs _ tm' (by omega) h'
      refine ⟨by simp [h1], fun t ht => ?_⟩
      rw [h2 t ht]
      by_cases c1 : k + 1 ≤ t ∧ t < k + 1 + m
      · rw [if_pos c1, if_pos (by omega), show t - k = (t - (k + 1)) + 1 from by omega, List.getElem?_cons_succ]
      · rw [if_neg c1, Tp.get_put _ _ _ _ (by rw [path_length, path_length])]
        by_cases c2 : t = k
        · subst c2
          rw [if_pos rfl, if_pos (by omega), Nat.sub_self]; rfl
        · rw [if_neg (fun e => c2 (path_inj w t k ht (by omega) e)), if_neg (by omega)]

theorem RVs_at {E : En} : ∀ {vs : List V} {args : List Value} {i : Nat} {v : V}, RVs E vs args → vs[i]? = some v → ∃ y, args[i]? = some y ∧ RV E v y := fun h hv => RVs_get h hv

theorem oneOf_ok {E : En} {vs : List V} {ys : List Value} (h : RVs E vs ys) : RV E (oneOf vs) (if h : ys.toArray.size = 1 then ys.toArray[0] else .tuple ys.toArray) := by
  cases vs with
  | nil => rw [RVs_nil.1 h]; show RV E (.tup []) _; rw [RV]; exact ⟨[], rfl, RVs_none⟩
  | cons v vs =>
    obtain ⟨y, r, rfl, h1, h2⟩ := RVs_cons.1 h
    cases vs with
    | nil => rw [RVs_nil.1 h2]; exact h1
    | cons u vs =>
      obtain ⟨y2, r2, rfl, h3, h4⟩ := RVs_cons.1 h2
      show RV E (.tup (v :: u :: vs)) _
      rw [dif_neg (by simp), RV]
      exact ⟨_, rfl, RVs_mk h1 (RVs_mk h3 h4)⟩

theorem callRet_good (fc : FnC) (r : Out × Tm) : Good (callRet fc r) := by
  obtain ⟨o, tm⟩ := r
  have k : Good (fun R h K => resK tm fc.res R h fun l h => K (oneOf l) h) := Good.bind (resK_good tm fc.res) (k := fun l _ h K => K (oneOf l) h) fun l => Good.pure _
  cases o with
  | normal => exact k
  | exit id => exact Good.fail
  | ret => exact k

section
variable {Γ : Cx} (hΓ : Γ.Ok) (hm : Γ.P.follows .mixedOrders = true) {F : CallF} (hF : CallOK Γ.P F) (hG : ∀ g vs, Good (F.call g vs))
include hΓ hm hF hG

theorem cF_some {w : Nat} {fn : Func} {fc : FnC} (h : cF Γ w fn = some fc) : ∃ b c r, fn.body = some b ∧ cC Γ w fn.ntmps b = some c ∧ allSome (cR Γ w) fn.results.toList = some r ∧ fn.ntmps ≤ 2 ^ w ∧ fn.params.size + fn.nfree ≤ fn.ntmps ∧ (fn.name == "runtime.NumGoroutine") = false ∧
    fc = ⟨(List.range' 0 (fn.params.size + fn.nfree)).map (path w), c, r⟩ := by
  unfold cF at h
  cases hb : fn.body with
  | none => rw [hb] at h; exact nomatch h
  | some b =>
    rw [hb] at h
    dsimp only at h
    cases hc : cC Γ w fn.ntmps b with
    | none => rw [hc] at h; exact nomatch h
    | some c =>
      cases hr : allSome (cR Γ w) fn.results.toList with
      | none => rw [hc, hr] at h; exact nomatch h
      | some r =>
        rw [hc, hr] at h
        dsimp only at h
        split at h
        · rename_i hcond
          simp only [Option.some.injEq] at h
          rw [Bool.and_eq_true, Bool.and_eq_true] at hcond
          obtain ⟨⟨h1, h2⟩, h3⟩ := hcond
          refine ⟨b, c, r, rfl, hc, rfl, of_decide_eq_true h1, of_decide_eq_true h2, by simpa [bne] using h3, ?_⟩
          rw [← h, hΓ.path, List.range_eq_range']
        · exact nomatch h

theorem callFn_good {w : Nat} {fn : Func} {fc : FnC} (h : cF Γ w fn = some fc) (args : List V) : Good (callFn F fc args) := by
  obtain ⟨b, c, r, h1, h2, h3, h4, h5, h6, rfl⟩ := cF_some hΓ hm hF hG h
  have hc := cC_ok hΓ hm h4 hF hG b c h2
  exact Good.opt _ (f := fun tm R h K => c F tm R h fun r' h => callRet ⟨(List.range' 0 (fn.params.size + fn.nfree)).map (path w), c, r⟩ r' R h K) fun tm => Good.bind (hc.good tm) fun r' => callRet_good _ r'

theorem callFn_ok {w : Nat} {fn : Func} {fc : FnC} (h : cF Γ w fn = some fc) {g : Nat} (hg : Γ.P.funcs[g]? = some fn) {vs : List V} {h0 : H} {v : V} {h' : H} {w0 : World} {E : En} {wd : World} {args : List Value}
    (hr : run (callFn F fc vs) h0 = some (v, h')) (hs : Sim w0 E h0 wd) (ha : RVs E vs args) :
    (∃ fn, Γ.P.funcs[g]? = some fn ∧ (fn.name == "runtime.NumGoroutine") = false ∧ fn.body.isNone = false) ∧
    Calls Γ.P g args.toArray wd fun e w' => ∃ x E', e = .returned x ∧ E.le E' ∧ Sim w0 E' h' w' ∧ RV E' v x := by
  obtain ⟨b, c, r, h1, h2, h3, h4, h5, h6, rfl⟩ := cF_some hΓ hm hF hG h
  have hc := cC_ok hΓ hm h4 hF hG b c h2
  refine ⟨⟨fn, hg, h6, by rw [h1]; rfl⟩, ?_⟩
  obtain ⟨tm, e1, e2⟩ := (optRec_some _ _ _).1 hr
  obtain ⟨⟨o, tm1⟩, h1', e3, e4⟩ := (Good.run_bind (k := fun r' => callRet ⟨(List.range' 0 (fn.params.size + fn.nfree)).map (path w), c, r⟩ r') (hc.good tm)).1 e2
  obtain ⟨hlen, hget⟩ := setPars_ok (w := w) _ 0 vs .nil tm (by omega) e1
  have hal := RVs_length ha
  have hsz : (args.toArray ++ Array.replicate (fn.ntmps - args.toArray.size) Go.undef).size = fn.ntmps := by simp; omega
  have htr : TR E w tm (args.toArray ++ Array.replicate (fn.ntmps - args.toArray.size) Go.undef) := by
    intro t u ht hu
    rw [hget t ht] at hu
    by_cases hc' : 0 ≤ t ∧ t < 0 + (fn.params.size + fn.nfree)
    · rw [if_pos hc', Nat.sub_zero] at hu
      obtain ⟨y, hy, hy2⟩ := RVs_get ha hu
      have htl : t < args.length := by omega
      have : (args.toArray ++ Array.replicate (fn.ntmps - args.toArray.size) Go.undef).getD t TR.undef' = y := by
        rw [Array.getD_eq_getD_getElem?, Array.getElem?_append_left (by simpa using htl), List.getElem?_toArray, hy]; rfl
      rw [this]; exact hy2
    · rw [if_neg hc', Tp.get_nilT] at hu; exact nomatch hu
  refine calls_of_wp hg h1 (hc.wp tm h0 o tm1 h1' w0 E ⟨_, []⟩ wd e3 hs htr hsz rfl _ (fun E' a' w' hE hs' ht' hsz' hdf' => ?_))
  have key : ∀ (e : run (fun R h K => resK tm1 r R h fun l h => K (oneOf l) h) h1' = some (v, h')), ∃ x, (results fn a'.tmps).run Γ.P w' = .ok x w' ∧ ∃ x' E'', Ending.returned x = .returned x' ∧ E.le E'' ∧ Sim w0 E'' h' w' ∧ RV E'' v x' := by
    intro e
    obtain ⟨l, h2', e5, e6⟩ := (Good.run_bind (k := fun l _ h K => K (oneOf l) h) (resK_good tm1 r)).1 e
    obtain ⟨q1, q2⟩ := run_pure.1 e6
    subst q1
    subst q2
    obtain ⟨ys, i1, i2, i3⟩ := resK_ok hΓ (w0 := w0) ht' fn.results.toList r h1' h' l h3 e5 hs'
    refine ⟨if h : ys.toArray.size = 1 then ys.toArray[0] else .tuple ys.toArray, ?_, _, E', rfl, hE, i3, oneOf_ok i2⟩
    have hres : (fn.results.mapM (resOne a'.tmps)).run Γ.P w' = .ok ys.toArray w' := by
      rw [Array.mapM_eq_mapM_toList]
      simp [i1]
    have : results fn a'.tmps = (do let vs ← fn.results.mapM (resOne a'.tmps); pure (if h : vs.size = 1 then vs[0] else .tuple vs)) := by
      unfold results
      congr 2
    rw [this, Sem.run_bind, hres]
    rfl
  cases o with
  | normal => obtain ⟨x, k1, k2⟩ := key e4; exact ⟨hdf', x, k1, k2⟩
  | ret => obtain ⟨x, k1, k2⟩ := key e4; exact ⟨hdf', x, k1, k2⟩
  | exit id => exact nomatch e4
end

/-- The table tells functions of the program. -/
def TableOK (Γ : Cx) (T : Tr FnC) : Prop := ∀ g fc, T.get g = some fc → ∃ fn w, Γ.P.funcs[g]? = some fn ∧ cF Γ w fn = some fc

/-- What is told from without is right. -/
structure OrcOK (P : Program) (Θ : Orc) : Prop where
  ask : ∀ (op : BinOp) (v u r : V), Θ.ask op v u = some r → ∀ (E : En) (x y : Value), RV E v x → RV E u y → ∀ (t : TypeId) (w : World), ∃ z, RV E r z ∧ (∃ k n, x = .int k n) ∧ (binOp op t x y).run P w = .ok z w
  call : ∀ (g : Nat) (vs : List V) (k : Kal V), Θ.call g vs = some k → (∃ fn, P.funcs[g]? = some fn ∧ (fn.name == "runtime.NumGoroutine") = false ∧ fn.body.isNone = false) ∧ Good k ∧
    ∀ (h : H) (v : V) (h' : H) (w0 : World) (E : En) (wd : World) (args : List Value), run k h = some (v, h') → Sim w0 E h wd → RVs E vs args →
      Calls P g args.toArray wd fun e w' => ∃ x E', e = .returned x ∧ E.le E' ∧ Sim w0 E' h' w' ∧ RV E' v x

/-- What comes besides turns nothing. -/
theorem Sim.beside {w0 : World} {E : En} {h : H} {w w' : World} (s : Sim w0 E h w) (hb : Below w.heap.size w w') : Sim w0 E h w' :=
  ⟨fun b k hk => BR_world (s.blk b k hk) fun r hl hr => hb.block r (BR_size (s.blk b k hk) hl hr), s.inj, s.fresh, s.dom, s.kept.trans (hb.mono s.kept.size), s.old⟩

theorem callN_ok {Γ : Cx} (hΓ : Γ.Ok) (hm : Γ.P.follows .mixedOrders = true) {T : Tr FnC} (hT : TableOK Γ T) {Θ : Orc} (hΘ : OrcOK Γ.P Θ) : ∀ n, CallOK Γ.P (callN Θ T n) ∧ ∀ g vs, Good ((callN Θ T n).call g vs)
  | 0 => ⟨⟨hΘ.ask, fun g vs h v h' w0 E wd args hr _ _ => (nomatch hr)⟩, fun g vs => Good.fail⟩
  | n + 1 => by
    obtain ⟨i1, i2⟩ := callN_ok hΓ hm hT hΘ n
    have heq : ∀ g vs, (callN Θ T (n + 1)).call g vs = (match Θ.call g vs with | some k => k | none => match T.get g with | some fc => callFn (callN Θ T n) fc vs | none => fun _ _ _ => none) := by
      intro g vs
      funext R h K
      show (Option.rec (Tr.getK (fun fc => callFn (callN Θ T n) fc vs R h K) T g) (fun k => k R h K) (Θ.call g vs) : Option R) = _
      cases Θ.call g vs with
      | some r => rfl
      | none =>
        show Tr.getK _ T g = _
        rw [Tr.getK_get]
        cases T.get g <;> rfl
    refine ⟨⟨hΘ.ask, fun g vs h v h' w0 E wd args hr hs ha => ?_⟩, fun g vs => ?_⟩
    · rw [heq] at hr
      cases ho : Θ.call g vs with
      | some r =>
        rw [ho] at hr
        obtain ⟨p1, _, p2⟩ := hΘ.call g vs r ho
        exact ⟨p1, p2 h v h' w0 E wd args hr hs ha⟩
      | none =>
        rw [ho] at hr
        cases hg : T.get g with
        | none => rw [hg] at hr; exact nomatch hr
        | some fc =>
          rw [hg] at hr
          obtain ⟨fn, w, h1, h2⟩ := hT g fc hg
          exact callFn_ok hΓ hm i1 i2 h2 h1 hr hs ha
    · rw [heq]
      cases ho : Θ.call g vs with
      | some r => exact (hΘ.call g vs r ho).2.1
      | none =>
        cases hg : T.get g with
        | none => exact Good.fail
        | some fc =>
          obtain ⟨fn, w, h1, h2⟩ := hT g fc hg
          exact callFn_good hΓ hm i1 i2 h2 vs

theorem noOrc_ok (P : Program) : OrcOK P noOrc := ⟨fun op v u r h => (nomatch h), fun g vs r h => (nomatch h)⟩

/-- Nothing is known of the memory. -/
theorem Sim.none (w : World) (ho : Below Nu.old.heap.size Nu.old w) : Sim w ⟨fun _ => none, fun _ => 0⟩ h0 w :=
  ⟨fun b k h => (nomatch h), fun b b' k k' r h => (nomatch h), fun b k r h => (nomatch h), fun b _ => rfl, Below.refl _ _, ho⟩

/-- A call whose arguments hold no addresses. -/
theorem calls_of_run {Γ : Cx} (hΓ : Γ.Ok) (hm : Γ.P.follows .mixedOrders = true) {T : Tr FnC} (hT : TableOK Γ T) {Θ : Orc} (hΘ : OrcOK Γ.P Θ) {n g : Nat} {vs : List V} {v : V} {h' : H} {args : List Value} (hr : run ((callN Θ T n).call g vs) h0 = some (v, h')) (w : World) (ho : Below Nu.old.heap.size Nu.old w)
    (ha : RVs ⟨fun _ => .none, fun _ => 0⟩ vs args) : Calls Γ.P g args.toArray w fun e w' => ∃ x E', e = .returned x ∧ Sim w E' h' w' ∧ RV E' v x :=
  Calls.mono ((callN_ok hΓ hm hT hΘ n).1.call g vs h0 v h' w _ w args hr (Sim.none w ho) ha).2 fun e w' ⟨x, E', h1, _, h2, h3⟩ => ⟨x, E', h1, h2, h3⟩

/-- A call that says yes. -/
theorem calls_true {Γ : Cx} (hΓ : Γ.Ok) (hm : Γ.P.follows .mixedOrders = true) {T : Tr FnC} (hT : TableOK Γ T) {Θ : Orc} (hΘ : OrcOK Γ.P Θ) {n g : Nat} {vs : List V} {args : List Value} (hr : isTrue (run ((callN Θ T n).call g vs) h0) = true) (w : World) (ho : Below Nu.old.heap.size Nu.old w)
    (ha : RVs ⟨fun _ => .none, fun _ => 0⟩ vs args) : Calls Γ.P g args.toArray w fun e w' => e = .returned (.bool true) ∧ Below w.heap.size w w' := by
  cases e : run ((callN Θ T n).call g vs) h0 with
  | none => rw [e] at hr; exact nomatch hr
  | some q =>
    obtain ⟨v, h'⟩ := q
    rw [e] at hr
    cases v with
    | bool b =>
      have hb : b = true := hr
      subst hb
      refine Calls.mono (calls_of_run hΓ hm hT hΘ e w ho ha) fun e w' ⟨x, E', h1, h2, h3⟩ => ?_
      rw [RV] at h3
      exact ⟨by rw [h1, h3], h2.kept⟩
    | _ => exact nomatch hr
end Go.X
