/- A verified executor, part 25: a call that runs tells the model's call. -/
import Derived.Test.YtojfkhhebedeoaaGreatDoorXCall
set_option linter.unusedVariables false
set_option linter.unusedSimpArgs false
set_option linter.unusedSectionVars false
namespace Go.X
open Go.RowKit
variable [Nu]

theorem setPars_ok {w : Nat} : ∀ (m k : Nat) (vs : List V) (tm tm' : Tm), k + m ≤ lim w → setPars ((List.range' k m).map (path w)) vs tm = some tm' → vs.length = m ∧ ∀ t, t < lim w → tm'.get (path w t) = if k ≤ t ∧ t < k + m then vs[t - k]? else tm.get (path w t)
  | 0, k, vs, tm, tm', hk, h => by
    cases vs with
    | nil =>
      have h' : some tm = some tm' := h
      simp only [Option.some.injEq] at h'
      subst h'
      exact ⟨rfl, fun t _ => by rw [if_neg (by omega)]⟩
    | cons v vs => exact nomatch h
  | m + 1, k, vs, tm, tm', hk, h => by
    cases vs with
    | nil => exact nomatch h
    | cons v vs =>
      have h' : setPars ((List.range' (k + 1) m).map (path w)) vs (Tp.put v (path w k) tm) = some tm' := h
      obtain ⟨h1, h2⟩ := setPars_ok m (k + 1) vs _ tm' (by omega) h'
      refine ⟨by simp [h1], fun t ht => ?_⟩
      rw [h2 t ht]
      by_cases c1 : k + 1 ≤ t ∧ t < k + 1 + m
      · rw [if_pos c1, if_pos (by omega), show t - k = (t - (k + 1)) + 1 from by omega, List.getElem?_cons_succ]
      · rw [if_neg c1, Tp.get_put _ _ _ _]
        by_cases c2 : t = k
        · subst c2
          rw [if_pos rfl, if_pos (by omega), Nat.sub_self]; rfl
        · rw [if_neg (fun e => c2 (path_inj w t k ht (by omega) e)), if_neg (by omega)]

theorem RVs_at {E : En} : ∀ {vs : List V} {args : List Value} {i : Nat} {v : V}, RVs E vs args → vs[i]? = some v → ∃ y, args[i]? = some y ∧ RV E v y := fun h hv => RVs_get h hv

theorem oneOf_ok {E : En} {vs : List V} {ys : List Value} (h : RVs E vs ys) : RV E (oneOf vs) (if h : ys.toArray.size = 1 then ys.toArray[0] else .tuple ys.toArray) := by
  cases vs with
  | nil => rw [RVs_nil.1 h]; show RV E (.tup []) _; rw [RV]; exact ⟨[], rfl, RVs_none⟩
  | cons v vs =>
    obtain ⟨y, r, rfl, h1, h2⟩ := RVs_cons.1 h
    cases vs with
    | nil => rw [RVs_nil.1 h2]; exact h1
    | cons u vs =>
      obtain ⟨y2, r2, rfl, h3, h4⟩ := RVs_cons.1 h2
      show RV E (.tup (v :: u :: vs)) _
      rw [dif_neg (by simp), RV]
      exact ⟨_, rfl, RVs_mk h1 (RVs_mk h3 h4)⟩

theorem callRet_good (fc : FnC) (r : Out × Tm) : Good (callRet fc r) := by
  obtain ⟨o, tm⟩ := r
  have k : Good (fun R h K => resK tm fc.res R h fun l h => K (oneOf l) h) := Good.bind (resK_good tm fc.res) (k := fun l _ h K => K (oneOf l) h) fun l => Good.pure _
  cases o with
  | normal => exact k
  | exit id => exact Good.fail
  | ret => exact k

/-- A mark's block is shut. -/
theorem Sim.shut {w0 : World} {E : En} {h : H} {w : World} {r : Nat} {base : List Nat} (s : Sim w0 E h w) (hd : E.df = r :: base) : Sim w0 ⟨E.mu, E.sz, base⟩ h (w.putObj r (.deferred none)) := by
  have hM : E.leM ⟨E.mu, E.sz, base⟩ := fun b r hb => ⟨hb, rfl⟩
  have hr : r ∈ E.df := by rw [hd]; exact List.mem_cons_self
  have hno := s.once
  rw [hd] at hno
  obtain ⟨n1, n2⟩ := List.nodup_cons.1 hno
  refine ⟨fun b k hb => BR_world (BR_monoM hM (s.blk b k hb)) fun r' hl hr' => World.putObj_heap_other fun e => (s.defd r hr).2.2 b k hb hl (by rw [← e]; exact hr'), s.inj, s.fresh, s.dom,
    s.kept.trans ⟨rfl, rfl, rfl, by simp, fun i hi => World.putObj_heap_other fun e => ?_⟩, s.old, fun r' hr' => ⟨(World.putObj_heap_other fun e => n1 (by rw [← e]; exact hr')).trans (s.defd r' (by rw [hd]; exact List.mem_cons_of_mem _ hr')).1, (s.defd r' (by rw [hd]; exact List.mem_cons_of_mem _ hr')).2⟩, n2⟩
  have := (s.defd r hr).2.1
  omega
theorem leaves_marks {P : Program} {w0 : World} {h : H} {base : List Nat} {fn : Func} {tmps : Array Value} {R : Ending → World → Prop} : ∀ (l : List Nat) (E : En) (w : World), Sim w0 E h w → E.df = l ++ base →
    (∀ w'', Sim w0 ⟨E.mu, E.sz, base⟩ h w'' → LeavesIn (FC none) 0 P fn tmps R [] .returning w'') → LeavesInM (FC none) 0 P fn tmps R (l.map markOf) .returning w
  | [], E, w, s, hd, hk => hk w (by rw [← show E.df = base from hd]; exact s)
  | r :: l, E, w, s, hd, hk => by
    refine ⟨fun h => (nomatch h), .inl ⟨r, _, rfl, run_takeDeferred (s.defd r (by rw [hd]; exact List.mem_cons_self)).1, ?_⟩⟩
    exact leaves_marks l ⟨E.mu, E.sz, l ++ base⟩ _ (s.shut (base := l ++ base) hd) rfl hk

/-! a round -/
theorem nthR_eq : ∀ (l : List RngC) (n : Nat), nthR l n = l[n]?
  | [], n => rfl
  | x :: l, 0 => rfl
  | x :: l, n + 1 => nthR_eq l n
theorem setPars_put {w nt : Nat} (hn : nt ≤ lim w) {E : En} : ∀ (ps : List Tmp) (vs : List V) (tm tm' : Tm) (args : List Value) (tmps : Array Value), setPars (ps.map (path w)) vs tm = some tm' → RVs E vs args → (∀ t ∈ ps, t < nt) → tmps.size = nt → TR E w tm tmps →
    vs.length = ps.length ∧ TR E w tm' ((ps.zip args).foldl (fun t p => t.setIfInBounds p.1 p.2) tmps) ∧ ((ps.zip args).foldl (fun t p => t.setIfInBounds p.1 p.2) tmps).size = nt
  | [], vs, tm, tm', args, tmps, h, ha, hl, hs, ht => by
    cases vs with
    | nil =>
      have h' : some tm = some tm' := h
      simp only [Option.some.injEq] at h'
      subst h'
      exact ⟨rfl, ht, hs⟩
    | cons v vs => exact nomatch h
  | p :: ps, vs, tm, tm', args, tmps, h, ha, hl, hs, ht => by
    cases vs with
    | nil => exact nomatch h
    | cons v vs =>
      have h' : setPars (ps.map (path w)) vs (Tp.put v (path w p) tm) = some tm' := h
      obtain ⟨y, r, rfl, a1, a2⟩ := RVs_cons.1 ha
      have hp := hl p List.mem_cons_self
      obtain ⟨i1, i2, i3⟩ := setPars_put hn ps vs _ tm' r (tmps.setIfInBounds p y) h' a2 (fun t ht => hl t (List.mem_cons_of_mem _ ht)) (by simpa using hs) (TR_put ht (Nat.lt_of_lt_of_le hp hn) (by rw [hs]; exact hp) a1)
      exact ⟨by simp [i1], i2, i3⟩

section
variable {Γ : Cx} {w nt g : Nat}
theorem cLs_len : ∀ (j : Nat) (c : Code) (L : List RngC), cLs Γ w nt g j c = some L → L.length = (loopsOf c).length
  | j, .seq x y, L, h => by
    rw [cLs] at h
    cases hx : cLs Γ w nt g j x with
    | none => rw [hx] at h; exact nomatch h
    | some a =>
      cases hy : cLs Γ w nt g (j + nLoops x) y with
      | none => rw [hx, hy] at h; exact nomatch h
      | some b =>
        rw [hx, hy] at h
        simp only [Option.some.injEq] at h
        rw [← h, loopsOf, List.length_append, List.length_append, cLs_len j x a hx, cLs_len _ y b hy]
  | j, .cond c x y, L, h => by
    rw [cLs] at h
    cases hx : cLs Γ w nt g j x with
    | none => rw [hx] at h; exact nomatch h
    | some a =>
      cases hy : cLs Γ w nt g (j + nLoops x) y with
      | none => rw [hx, hy] at h; exact nomatch h
      | some b =>
        rw [hx, hy] at h
        simp only [Option.some.injEq] at h
        rw [← h, loopsOf, List.length_append, List.length_append, cLs_len j x a hx, cLs_len _ y b hy]
  | j, .block id x, L, h => by rw [cLs] at h; rw [loopsOf]; exact cLs_len j x L h
  | j, .loop x, L, h => by rw [cLs] at h; rw [loopsOf]; exact cLs_len j x L h
  | j, .scope x, L, h => by rw [cLs] at h; rw [loopsOf]; exact cLs_len j x L h
  | j, .rangeFunc f ps x y, L, h => by
    rw [cLs] at h
    cases ha : cC Γ w nt g (j + 1) x with
    | none => rw [ha] at h; exact nomatch h
    | some ca =>
      cases hb : cC Γ w nt g (j + 1 + nLoops x) y with
      | none => rw [ha, hb] at h; exact nomatch h
      | some cb =>
        cases hx : cLs Γ w nt g (j + 1) x with
        | none => rw [ha, hb, hx] at h; exact nomatch h
        | some a =>
          cases hy : cLs Γ w nt g (j + 1 + nLoops x) y with
          | none => rw [ha, hb, hx, hy] at h; exact nomatch h
          | some b =>
            rw [ha, hb, hx, hy] at h
            dsimp only at h
            split at h
            · simp only [Option.some.injEq] at h
              rw [← h, loopsOf, List.length_cons, List.length_cons, List.length_append, List.length_append, cLs_len _ x a hx, cLs_len _ y b hy]
            · exact nomatch h
  | j, .skip, L, h => by simp only [cLs, Option.some.injEq] at h; rw [← h]; rfl
  | j, .label _, L, h => by simp only [cLs, Option.some.injEq] at h; rw [← h]; rfl
  | j, .region _ _ _, L, h => by simp only [cLs, Option.some.injEq] at h; rw [← h]; rfl
  | j, .exit _, L, h => by simp only [cLs, Option.some.injEq] at h; rw [← h]; rfl
  | j, .ret, L, h => by simp only [cLs, Option.some.injEq] at h; rw [← h]; rfl
  | j, .goto _, L, h => by simp only [cLs, Option.some.injEq] at h; rw [← h]; rfl
  | j, .refuse _, L, h => by simp only [cLs, Option.some.injEq] at h; rw [← h]; rfl

/-- What is told of a loop. -/
def LoopOK (Γ : Cx) (w nt g : Nat) (x : Array Tmp × Code × Code) (rc : RngC) : Prop :=
  rc.ps = x.1.toList.map (Γ.pathOf w) ∧ (∀ t ∈ x.1.toList, t < nt) ∧ ∃ j1 j2, cC Γ w nt g j1 x.2.1 = some rc.asg ∧ At g j1 nt x.2.1 ∧ cC Γ w nt g j2 x.2.2 = some rc.body ∧ At g j2 nt x.2.2
theorem cLs_two {j : Nat} {x y : Code} {a b : List RngC} (hx : cLs Γ w nt g j x = some a) (ih1 : ∀ (i : Nat) (rc : RngC), a[i]? = some rc → ∃ z, (loopsOf x)[i]? = some z ∧ LoopOK Γ w nt g z rc) (ih2 : ∀ (i : Nat) (rc : RngC), b[i]? = some rc → ∃ z, (loopsOf y)[i]? = some z ∧ LoopOK Γ w nt g z rc)
    {i : Nat} {rc : RngC} (hi : (a ++ b)[i]? = some rc) : ∃ z, (loopsOf x ++ loopsOf y)[i]? = some z ∧ LoopOK Γ w nt g z rc := by
  have hlen := cLs_len j x a hx
  rcases Nat.lt_or_ge i a.length with hlt | hge
  · rw [List.getElem?_append_left hlt] at hi
    obtain ⟨z, z1, z2⟩ := ih1 i rc hi
    exact ⟨z, by rw [List.getElem?_append_left (by omega)]; exact z1, z2⟩
  · rw [List.getElem?_append_right hge] at hi
    obtain ⟨z, z1, z2⟩ := ih2 _ rc hi
    exact ⟨z, by rw [List.getElem?_append_right (by omega), ← hlen]; exact z1, z2⟩
theorem cLs_get : ∀ (j : Nat) (c : Code) (L : List RngC), cLs Γ w nt g j c = some L → At g j nt c → ∀ (i : Nat) (rc : RngC), L[i]? = some rc → ∃ z, (loopsOf c)[i]? = some z ∧ LoopOK Γ w nt g z rc
  | j, .seq x y, L, h, hat, i, rc, hi => by
    rw [cLs] at h
    cases hx : cLs Γ w nt g j x with
    | none => rw [hx] at h; exact nomatch h
    | some a =>
      cases hy : cLs Γ w nt g (j + nLoops x) y with
      | none => rw [hx, hy] at h; exact nomatch h
      | some b =>
        rw [hx, hy] at h
        simp only [Option.some.injEq] at h
        subst h
        rw [loopsOf]
        exact cLs_two hx (cLs_get j x a hx hat.left) (cLs_get _ y b hy hat.right) hi
  | j, .cond c x y, L, h, hat, i, rc, hi => by
    rw [cLs] at h
    cases hx : cLs Γ w nt g j x with
    | none => rw [hx] at h; exact nomatch h
    | some a =>
      cases hy : cLs Γ w nt g (j + nLoops x) y with
      | none => rw [hx, hy] at h; exact nomatch h
      | some b =>
        rw [hx, hy] at h
        simp only [Option.some.injEq] at h
        subst h
        rw [loopsOf]
        exact cLs_two hx (cLs_get j x a hx (show At g j nt (.seq x y) from hat).left) (cLs_get _ y b hy (show At g j nt (.seq x y) from hat).right) hi
  | j, .block id x, L, h, hat, i, rc, hi => by rw [cLs] at h; rw [loopsOf]; exact cLs_get j x L h hat i rc hi
  | j, .loop x, L, h, hat, i, rc, hi => by rw [cLs] at h; rw [loopsOf]; exact cLs_get j x L h hat i rc hi
  | j, .scope x, L, h, hat, i, rc, hi => by rw [cLs] at h; rw [loopsOf]; exact cLs_get j x L h hat i rc hi
  | j, .rangeFunc f ps x y, L, h, hat, i, rc, hi => by
    rw [cLs] at h
    cases ha : cC Γ w nt g (j + 1) x with
    | none => rw [ha] at h; exact nomatch h
    | some ca =>
      cases hb : cC Γ w nt g (j + 1 + nLoops x) y with
      | none => rw [ha, hb] at h; exact nomatch h
      | some cb =>
        cases hx : cLs Γ w nt g (j + 1) x with
        | none => rw [ha, hb, hx] at h; exact nomatch h
        | some a =>
          cases hy : cLs Γ w nt g (j + 1 + nLoops x) y with
          | none => rw [ha, hb, hx, hy] at h; exact nomatch h
          | some b =>
            rw [ha, hb, hx, hy] at h
            dsimp only at h
            split at h
            · rename_i hps
              simp only [Option.some.injEq] at h
              subst h
              rw [loopsOf]
              cases i with
              | zero =>
                simp only [List.getElem?_cons_zero, Option.some.injEq] at hi
                subst hi
                exact ⟨(ps, x, y), rfl, rfl, fun t ht => of_decide_eq_true (List.all_eq_true.1 hps t ht), j + 1, j + 1 + nLoops x, ha, hat.tail.left, hb, hat.tail.right⟩
              | succ i =>
                rw [List.getElem?_cons_succ] at hi ⊢
                exact cLs_two hx (cLs_get _ x a hx hat.tail.left) (cLs_get _ y b hy hat.tail.right) hi
            · exact nomatch h
  | j, .skip, L, h, hat, i, rc, hi => by simp only [cLs, Option.some.injEq] at h; subst h; simp at hi
  | j, .label _, L, h, hat, i, rc, hi => by simp only [cLs, Option.some.injEq] at h; subst h; simp at hi
  | j, .region _ _ _, L, h, hat, i, rc, hi => by simp only [cLs, Option.some.injEq] at h; subst h; simp at hi
  | j, .exit _, L, h, hat, i, rc, hi => by simp only [cLs, Option.some.injEq] at h; subst h; simp at hi
  | j, .ret, L, h, hat, i, rc, hi => by simp only [cLs, Option.some.injEq] at h; subst h; simp at hi
  | j, .goto _, L, h, hat, i, rc, hi => by simp only [cLs, Option.some.injEq] at h; subst h; simp at hi
  | j, .refuse _, L, h, hat, i, rc, hi => by simp only [cLs, Option.some.injEq] at h; subst h; simp at hi
end

theorem roundE_good (b : Nat) (o : Out) : Good (roundE b o) := by
  have key : ∀ q : Nat × Nat × Nat × Out × Tm, Good (fun R h K => write b (.loop q.1 q.2.1 o.st o q.2.2.2.2) R h fun _ h => K (V.bool o.on) h : Kal V) := fun q =>
    Good.bind (Good.write b (.loop q.1 q.2.1 o.st o q.2.2.2.2)) (k := fun _ _ h K => K (V.bool o.on) h) fun _ => Good.pure _
  exact Good.bind (f := loopAt b) (k := fun (q : Nat × Nat × Nat × Out × Tm) => (fun R h K => write b (.loop q.1 q.2.1 o.st o q.2.2.2.2) R h fun _ h => K (V.bool o.on) h : Kal V)) (loopAt_good b) key
theorem roundB_good {rc : RngC} {F : CallF} (hb : ∀ tm, Good (rc.body F tm)) (b : Nat) (tm : Tm) : Good (roundB rc F b tm) :=
  Good.bind (loopAt_good b) (k := fun q R h K => (Bool.rec none (write b (.loop q.1 q.2.1 1 q.2.2.2.1 q.2.2.2.2) R h fun _ h => rc.body F tm R h fun r h => roundE b r.1 R h K) (Nat.beq q.2.2.1 0) : Option R)) fun q =>
    Good.bool _ (f := fun R h K => write b (.loop q.1 q.2.1 1 q.2.2.2.1 q.2.2.2.2) R h fun _ h => rc.body F tm R h fun r h => roundE b r.1 R h K)
      (Good.bind (Good.write b _) (k := fun _ R h K => rc.body F tm R h fun r h => roundE b r.1 R h K) fun _ => Good.bind (hb tm) (k := fun r => roundE b r.1) fun r => roundE_good b r.1)
theorem roundA_eq (rc : RngC) (F : CallF) (b : Nat) (tm : Tm) : roundA rc F b tm = fun R h K => rc.asg F tm R h fun r h => (match r.1 with | .normal => roundB rc F b r.2 | _ => fun _ _ _ => none) R h K := by
  funext R h K
  unfold roundA
  congr 1
  funext r h
  obtain ⟨o, t⟩ := r
  cases o <;> rfl
theorem roundA_good {rc : RngC} {F : CallF} (ha : ∀ tm, Good (rc.asg F tm)) (hb : ∀ tm, Good (rc.body F tm)) (b : Nat) (tm : Tm) : Good (roundA rc F b tm) := by
  rw [roundA_eq]
  refine Good.bind (ha tm) (k := fun r => (match r.1 with | .normal => roundB rc F b r.2 | _ => fun _ _ _ => none)) fun r => ?_
  obtain ⟨o, t⟩ := r
  cases o with
  | normal => exact roundB_good hb b t
  | exit id => exact Good.fail
  | ret => exact Good.fail

section
variable {Γ : Cx} (hΓ : Γ.Ok) (hm : Γ.P.follows .mixedOrders = true) {F : CallF} (hF : CallOK Γ.P F) (hG : GoodF F)
include hΓ hm hF hG

theorem cF_some {w g : Nat} {fn : Func} {fc : FnC} (h : cF Γ w g fn = some fc) : ∃ b c r l, fn.body = some b ∧ cC Γ w fn.ntmps g 0 b = some c ∧ allSome (cR Γ w) fn.results.toList = some r ∧ fn.ntmps ≤ lim w ∧ fn.params.size + fn.nfree ≤ fn.ntmps ∧ (fn.name == "runtime.NumGoroutine") = false ∧
    cLs Γ w fn.ntmps g 0 b = some l ∧ fc = ⟨(List.range' 0 (fn.params.size + fn.nfree)).map (path w), c, r, l⟩ := by
  unfold cF at h
  cases hb : fn.body with
  | none => rw [hb] at h; exact nomatch h
  | some b =>
    rw [hb] at h
    dsimp only at h
    cases hc : cC Γ w fn.ntmps g 0 b with
    | none => rw [hc] at h; exact nomatch h
    | some c =>
      cases hr : allSome (cR Γ w) fn.results.toList with
      | none => rw [hc, hr] at h; exact nomatch h
      | some r =>
        cases hl : cLs Γ w fn.ntmps g 0 b with
        | none => rw [hc, hr, hl] at h; exact nomatch h
        | some l =>
          rw [hc, hr, hl] at h
          dsimp only at h
          split at h
          · rename_i hcond
            simp only [Option.some.injEq] at h
            rw [Bool.and_eq_true, Bool.and_eq_true] at hcond
            obtain ⟨⟨h1, h2⟩, h3⟩ := hcond
            refine ⟨b, c, r, l, rfl, hc, rfl, of_decide_eq_true h1, of_decide_eq_true h2, by simpa [bne] using h3, hl, ?_⟩
            rw [← h, hΓ.path, List.range_eq_range']
          · exact nomatch h

omit hm hF hG in
theorem at_body {g : Nat} {fn : Func} {b : Code} (hg : Γ.P.funcs[g]? = some fn) (hb : fn.body = some b) : At g 0 fn.ntmps b := fun i x hx => by
  rw [← hΓ.prog, rngOf, hg]
  dsimp only
  rw [hb]
  dsimp only
  rw [Nat.zero_add, hx]

theorem callFn_good {w g : Nat} {fn : Func} {fc : FnC} (h : cF Γ w g fn = some fc) (hg : Γ.P.funcs[g]? = some fn) (args : List V) : Good (callFn F fc args) := by
  obtain ⟨b, c, r, l, h1, h2, h3, h4, h5, h6, _, rfl⟩ := cF_some hΓ hm hF hG h
  have hc := cC_ok hΓ hm h4 hF hG 0 b c h2 (at_body hΓ hg h1)
  exact Good.opt _ (f := fun tm R h K => c F tm R h fun r' h => callRet ⟨(List.range' 0 (fn.params.size + fn.nfree)).map (path w), c, r, l⟩ r' R h K) fun tm => Good.bind (hc.good tm) fun r' => callRet_good _ r'

theorem callFn_ok (hrn : F.rnd = none) {w g : Nat} {fn : Func} {fc : FnC} (h : cF Γ w g fn = some fc) (hg : Γ.P.funcs[g]? = some fn) {vs : List V} {h0 : H} {v : V} {h' : H} {w0 : World} {E : En} {wd : World} {args : List Value}
    (hr : run (callFn F fc vs) h0 = some (v, h')) (hs : Sim w0 E h0 wd) (ha : RVs E vs args) :
    (∃ fn, Γ.P.funcs[g]? = some fn ∧ (fn.name == "runtime.NumGoroutine") = false ∧ fn.body.isNone = false) ∧
    Calls Γ.P g args.toArray wd fun e w' => ∃ x E', e = .returned x ∧ E.le E' ∧ Sim w0 E' h' w' ∧ RV E' v x := by
  obtain ⟨b, c, r, l, h1, h2, h3, h4, h5, h6, _, rfl⟩ := cF_some hΓ hm hF hG h
  have hc := cC_ok hΓ hm h4 hF hG 0 b c h2 (at_body hΓ hg h1)
  refine ⟨⟨fn, hg, h6, by rw [h1]; rfl⟩, ?_⟩
  obtain ⟨tm, e1, e2⟩ := (optRec_some _ _ _).1 hr
  obtain ⟨⟨o, tm1⟩, h1', e3, e4⟩ := (Good.run_bind (k := fun r' => callRet ⟨(List.range' 0 (fn.params.size + fn.nfree)).map (path w), c, r, l⟩ r') (hc.good tm)).1 e2
  obtain ⟨hlen, hget⟩ := setPars_ok (w := w) _ 0 vs [] tm (by omega) e1
  have hal := RVs_length ha
  have hsz : (args.toArray ++ Array.replicate (fn.ntmps - args.toArray.size) Go.undef).size = fn.ntmps := by simp; omega
  have htr : TR E w tm (args.toArray ++ Array.replicate (fn.ntmps - args.toArray.size) Go.undef) := by
    intro t u ht hu
    rw [hget t ht] at hu
    by_cases hc' : 0 ≤ t ∧ t < 0 + (fn.params.size + fn.nfree)
    · rw [if_pos hc', Nat.sub_zero] at hu
      obtain ⟨y, hy, hy2⟩ := RVs_get ha hu
      have htl : t < args.length := by omega
      have : (args.toArray ++ Array.replicate (fn.ntmps - args.toArray.size) Go.undef).getD t TR.undef' = y := by
        rw [Array.getD_eq_getD_getElem?, Array.getElem?_append_left (by simpa using htl), List.getElem?_toArray, hy]; rfl
      rw [this]; exact hy2
    · rw [if_neg hc'] at hu; exact nomatch hu
  have hro : RndOK E F none := by unfold RndOK; rw [hrn]; trivial
  refine calls_out (rd := none) (n := 0) (callsIn_of_wp_marks (F := FC none) hg h1 trivial (hc.wp tm h0 o tm1 h1' w0 E ⟨_, []⟩ wd none E.df e3 hs htr hsz ⟨[], rfl, rfl, fun h => nomatch h⟩ hro _ (fun E' a' w' hE hs' ht' hsz' hdf' => ?_)))
  have key : ∀ (e : run (fun R h K => resK tm1 r R h fun l h => K (oneOf l) h) h1' = some (v, h')) (w'' : World), Sim w0 ⟨E'.mu, E'.sz, E.df⟩ h1' w'' → ∃ x, (results fn a'.tmps).run Γ.P w'' = .ok x w'' ∧ ∃ x' E'', Ending.returned x = .returned x' ∧ E.le E'' ∧ Sim w0 E'' h' w'' ∧ RV E'' v x' := by
    intro e w'' hs''
    obtain ⟨l, h2', e5, e6⟩ := (Good.run_bind (k := fun l _ h K => K (oneOf l) h) (resK_good tm1 r)).1 e
    obtain ⟨q1, q2⟩ := run_pure.1 e6
    subst q1
    subst q2
    obtain ⟨ys, i1, i2, i3⟩ := resK_ok hΓ (w0 := w0) (TR_monoM (E := E') (E' := ⟨E'.mu, E'.sz, E.df⟩) (fun b r hb => ⟨hb, rfl⟩) ht') fn.results.toList r h1' h' l h3 e5 hs''
    refine ⟨if h : ys.toArray.size = 1 then ys.toArray[0] else .tuple ys.toArray, ?_, _, ⟨E'.mu, E'.sz, E.df⟩, rfl, ⟨hE, rfl⟩, i3, oneOf_ok i2⟩
    have hres : (fn.results.mapM (resOne a'.tmps)).run Γ.P w'' = .ok ys.toArray w'' := by
      rw [Array.mapM_eq_mapM_toList]
      simp [i1]
    have : results fn a'.tmps = (do let vs ← fn.results.mapM (resOne a'.tmps); pure (if h : vs.size = 1 then vs[0] else .tuple vs)) := by
      unfold results
      congr 2
    rw [this, Sem.run_bind, hres]
    rfl
  obtain ⟨lm, d1, d2, _⟩ := hdf'
  have fin : ∀ (e : run (fun R h K => resK tm1 r R h fun l h => K (oneOf l) h) h1' = some (v, h')), LeavesInM (FC none) 0 Γ.P fn a'.tmps (fun e w' => ∃ x E', e = .returned x ∧ E.le E' ∧ Sim w0 E' h' w' ∧ RV E' v x) a'.defers .returning w' := fun e => by
    rw [d1]
    refine leaves_marks lm E' w' hs' d2 fun w'' hs'' => ?_
    obtain ⟨x, k1, k2⟩ := key e w'' hs''
    exact ⟨x, k1, k2⟩
  cases o with
  | normal => exact fin e4
  | ret => exact fin e4
  | exit id => exact nomatch e4
end

/-- The table tells functions of the program. -/
def TableOK (Γ : Cx) (T : Uh FnC) : Prop := ∀ g fc, T.get g = some fc → ∃ fn w, Γ.P.funcs[g]? = some fn ∧ cF Γ w g fn = some fc

/-- What is told from without is right. -/
structure OrcOK (P : Program) (Θ : Orc) : Prop where
  ask : ∀ (op : BinOp) (v u r : V), Θ.ask op v u = some r → ∀ (E : En) (x y : Value), RV E v x → RV E u y → ∀ (t : TypeId) (w : World), ∃ z, RV E r z ∧ (∃ k n, x = .int k n) ∧ (binOp op t x y).run P w = .ok z w
  call : ∀ (g : Nat) (vs : List V) (k : Kal V), Θ.call g vs = some k → (∃ fn, P.funcs[g]? = some fn ∧ (fn.name == "runtime.NumGoroutine") = false ∧ fn.body.isNone = false) ∧ Good k ∧
    ∀ (h : H) (v : V) (h' : H) (w0 : World) (E : En) (wd : World) (args : List Value), run k h = some (v, h') → Sim w0 E h wd → RVs E vs args →
      Calls P g args.toArray wd fun e w' => ∃ x E', e = .returned x ∧ E.le E' ∧ Sim w0 E' h' w' ∧ RV E' v x

/-- What comes besides turns nothing. -/
theorem Sim.beside {w0 : World} {E : En} {h : H} {w w' : World} (s : Sim w0 E h w) (hb : Below w.heap.size w w') : Sim w0 E h w' :=
  ⟨fun b k hk => BR_world (s.blk b k hk) fun r hl hr => hb.block r (BR_size (s.blk b k hk) hl hr), s.inj, s.fresh, s.dom, s.kept.trans (hb.mono s.kept.size), s.old, fun r hr => ⟨(hb.block r (by
    rcases Nat.lt_or_ge r w.heap.size with h' | h'
    · exact h'
    · have := (s.defd r hr).1; rw [Array.getElem?_eq_none h'] at this; exact nomatch this)).trans (s.defd r hr).1, (s.defd r hr).2⟩, s.once⟩

theorem CallOK.inRound {P : Program} {F : CallF} (h : CallOK P F) (b : Nat) : CallOK P (F.inRound b) := ⟨h.ask, h.call, h.round⟩
theorem GoodF.inRound {F : CallF} (h : GoodF F) (b : Nat) : GoodF (F.inRound b) := ⟨h.call, h.round⟩
section
variable {Γ : Cx} (hΓ : Γ.Ok) (hm : Γ.P.follows .mixedOrders = true) {T : Uh FnC} (hT : TableOK Γ T) {F : CallF} (hF : CallOK Γ.P F) (hG : GoodF F)
include hΓ hm hT hF hG
theorem table_round {g j : Nat} {fc : FnC} {rc : RngC} (hg : T.get g = some fc) (hj : nthR fc.loops j = some rc) (b : Nat) : ∃ w nt ps A B, rngOf Nu.prog g j = some (nt, ps, A, B) ∧ nt ≤ lim w ∧ rc.ps = ps.toList.map (path w) ∧ (∀ t ∈ ps.toList, t < nt) ∧
    CodeOK Γ w nt (F.inRound b) A rc.asg ∧ CodeOK Γ w nt (F.inRound b) B rc.body := by
  obtain ⟨fn, w, h1, h2⟩ := hT g fc hg
  obtain ⟨bd, c, r, l, b1, b2, b3, b4, b5, b6, b7, rfl⟩ := cF_some hΓ hm hF hG h2
  rw [nthR_eq] at hj
  have hat := at_body hΓ h1 b1
  obtain ⟨⟨ps, A, B⟩, z1, z2, z3, j1, j2, z4, z5, z6, z7⟩ := cLs_get 0 bd l b7 hat j rc hj
  have hr := hat j _ z1
  rw [Nat.zero_add] at hr
  exact ⟨w, fn.ntmps, ps, A, B, hr, b4, by rw [z2, hΓ.path], z3, cC_ok hΓ hm b4 (hF.inRound b) (hG.inRound b) j1 A _ z4 z5, cC_ok hΓ hm b4 (hF.inRound b) (hG.inRound b) j2 B _ z6 z7⟩

theorem roundK_eq (b : Nat) (vs : List V) : roundK T F b vs = fun R h K => loopAt b R h fun q h => (match T.get q.1 with
    | some fc => (match nthR fc.loops q.2.1 with
      | some rc => (match setPars rc.ps vs q.2.2.2.2 with
        | some tm => roundA rc (F.inRound b) b tm
        | none => fun _ _ _ => none)
      | none => fun _ _ _ => none)
    | none => fun _ _ _ => none) R h K := by
  funext R h K
  unfold roundK
  congr 1
  funext q h
  rw [Uh.getK_get]
  cases T.get q.1 with
  | none => rfl
  | some fc =>
    dsimp only
    cases nthR fc.loops q.2.1 with
    | none => rfl
    | some rc =>
      dsimp only
      cases setPars rc.ps vs q.2.2.2.2 <;> rfl
theorem roundK_good (b : Nat) (vs : List V) : Good (roundK T F b vs) := by
  rw [roundK_eq hΓ hm hT hF hG]
  refine Good.bind (loopAt_good b) (k := fun q => (match T.get q.1 with
    | some fc => (match nthR fc.loops q.2.1 with
      | some rc => (match setPars rc.ps vs q.2.2.2.2 with
        | some tm => roundA rc (F.inRound b) b tm
        | none => fun _ _ _ => none)
      | none => fun _ _ _ => none)
    | none => fun _ _ _ => none)) fun q => ?_
  cases hg : T.get q.1 with
  | none => exact Good.fail
  | some fc =>
    dsimp only
    cases hj : nthR fc.loops q.2.1 with
    | none => exact Good.fail
    | some rc =>
      dsimp only
      cases setPars rc.ps vs q.2.2.2.2 with
      | none => exact Good.fail
      | some tm =>
        obtain ⟨w, nt, ps, A, B, _, _, _, _, hA, hB⟩ := table_round hΓ hm hT hF hG hg hj b
        exact roundA_good hA.good hB.good b tm

theorem round_ok {b : Nat} {vs : List V} {h : H} {v : V} {h' : H} {w0 : World} {E : En} {wd : World} {args : List Value} (hr : run (roundK T F b vs) h = some (v, h')) (hs : Sim w0 E h wd) (ha : RVs E vs args) {r : Nat} (hmu : E.mu b = some r) :
    ∃ f tmps asg body, (Instr.yield r args.toArray).run Γ.P wd = .ok (.round r f tmps asg body) wd ∧
      RoundIn Fence.wide 0 Γ.P r f tmps asg body wd fun e w' => ∃ x E', e = .returned x ∧ E.le E' ∧ Sim w0 E' h' w' ∧ RV E' v x := by
  rw [roundK_eq hΓ hm hT hF hG] at hr
  obtain ⟨⟨g, j, st, pend, tm0⟩, h1, e1, e2⟩ := (Good.run_bind (loopAt_good b) (k := fun q => (match T.get q.1 with
    | some fc => (match nthR fc.loops q.2.1 with
      | some rc => (match setPars rc.ps vs q.2.2.2.2 with
        | some tm => roundA rc (F.inRound b) b tm
        | none => fun _ _ _ => none)
      | none => fun _ _ _ => none)
    | none => fun _ _ _ => none))).1 hr
  obtain ⟨l1, l2, rfl⟩ := run_loopAt.1 e1
  dsimp only at e2 l1
  cases hg : T.get g with
  | none => rw [hg] at e2; exact nomatch e2
  | some fc =>
    rw [hg] at e2
    dsimp only at e2
    cases hj : nthR fc.loops j with
    | none => rw [hj] at e2; exact nomatch e2
    | some rc =>
      rw [hj] at e2
      dsimp only at e2
      cases hp : setPars rc.ps vs tm0 with
      | none => rw [hp] at e2; exact nomatch e2
      | some tm1 =>
        rw [hp] at e2
        dsimp only at e2
        obtain ⟨w, nt, ps, A, B, t1, t2, t3, t4, hA, hB⟩ := table_round hΓ hm hT hF hG hg hj b
        obtain ⟨r', rcw, nt', m1, m2, m3, m4, m5, m6, m7⟩ := hs.blk _ _ l1
        rw [hmu] at m1
        simp only [Option.some.injEq] at m1
        subst m1
        rw [t1] at m3
        simp only [Option.some.injEq, Prod.mk.injEq] at m3
        obtain ⟨rfl, rfl, rfl, rfl⟩ := m3
        rw [t3] at hp
        obtain ⟨p1, p2, p3⟩ := setPars_put (E := E) t2 rcw.params.toList vs tm0 tm1 args rcw.tmps hp ha t4 m5 m4
        have hal := RVs_length ha
        have hsz : args.toArray.size = rcw.params.size := by rw [List.size_toArray, hal, p1, Array.length_toList]
        have hy := run_yield (P := Γ.P) (args := args.toArray) m2 hsz
        have hfold : (rcw.params.zip args.toArray).foldl (fun tmps (x : Tmp × Value) => tmps.setIfInBounds x.1 x.2) rcw.tmps = (rcw.params.toList.zip args).foldl (fun t p => t.setIfInBounds p.1 p.2) rcw.tmps := by
          rw [← Array.foldl_toList]
          simp
        refine ⟨rcw.fn, _, rcw.assign, rcw.body, hy, ?_⟩
        have hfold' : (rcw.params.zip args.toArray).foldl (fun tmps (x : Tmp × Value) => match x with | (t, a) => tmps.setIfInBounds t a) rcw.tmps = (rcw.params.toList.zip args).foldl (fun t p => t.setIfInBounds p.1 p.2) rcw.tmps := hfold
        rw [hfold']
        rw [roundA_eq] at e2
        obtain ⟨⟨o1, tm2⟩, h2, e3, e4⟩ := (Good.run_bind (hA.good tm1) (k := fun r => (match r.1 with | .normal => roundB rc (F.inRound b) b r.2 | _ => fun _ _ _ => none))).1 e2
        cases o1 with
        | exit id => exact nomatch e4
        | ret => exact nomatch e4
        | normal =>
          refine roundIn_of_wpIn (F := Fence.wide) trivial (hA.wp tm1 _ .normal tm2 h2 w0 E ⟨_, []⟩ wd (some r) E.df e3 (hs.note b) p2 p3 ⟨[], rfl, rfl, fun _ => rfl⟩ hmu _ (fun E2 a2 w2 hE2 hs2 ht2 hsz2 hd2 => ?_))
          have hmu2 : E2.mu b = some r := (hE2 _ _ hmu).1
          obtain ⟨l0, d1, d2, d3⟩ := hd2
          have := d3 rfl
          subst this
          obtain ⟨g2, j2, st2, pend2, tm3, n1, n2, n3⟩ := (loopAt_some _ _ _ _).1 (show roundB rc (F.inRound b) b tm2 _ h2 (fun a h' => some (a, h')) = some (v, h') from e4)
          dsimp only at n3
          obtain ⟨n4, n5⟩ := (boolRec_some _ _ _).1 n3
          have hst : st2 = 0 := Nat.eq_of_beq_eq_true n4
          subst hst
          obtain ⟨r2, rc2, nt2, q1, q2, q3, q4, q5, q6, q7⟩ := hs2.blk _ _ n1
          rw [hmu2] at q1
          simp only [Option.some.injEq] at q1
          subst q1
          obtain ⟨_, _, n6⟩ := (write_some _ _ _ _ _ _).1 n5
          have hlt : r < w2.heap.size := (Array.getElem?_eq_some_iff.1 q2).1
          have hs3 : Sim w0 E2 ((h2.note b).wrote b (.loop g2 j2 1 pend2 tm3)) (w2.putObj r (.loop { rc2 with state := .busy })) :=
            (hs2.note b).wrote (k := .loop g2 j2 0 pend2 tm3) (by rw [H.note_at]; exact n1) rfl hmu2 (.loop g2 j2 1 pend2 tm3) (fun _ => rfl) _ ⟨r, { rc2 with state := .busy }, nt2, hmu2, World.putObj_heap_same hlt, q3, q4, q5, rfl, q7⟩ (fun i hi => World.putObj_heap_other hi) (by simp) rfl rfl rfl
          refine ⟨_, run_beginRound q2 q6, ?_⟩
          obtain ⟨⟨⟨o, tm4⟩, h4⟩, f1, f2⟩ : ∃ q : (Out × Tm) × H, run (rc.body (F.inRound b) tm2) ((h2.note b).wrote b (.loop g2 j2 1 pend2 tm3)) = some q ∧ roundE b q.1.1 _ q.2 (fun a h' => some (a, h')) = some (v, h') := by
            obtain ⟨x, y, z1, z2⟩ := ((hB.good tm2).law _ _ _ _).1 n6
            exact ⟨(x, y), z1, z2⟩
          refine hB.wp tm2 _ o tm4 h4 w0 E2 a2 _ (some r) E.df f1 hs3 ht2 hsz2 ⟨[], d1, d2, fun _ => rfl⟩ hmu2 _ (fun E3 a3 w3 hE3 hs4 ht3 hsz3 hd3 => ?_)
          have hmu3 : E3.mu b = some r := (hE3 _ _ hmu2).1
          obtain ⟨lx, d4, d5, d6⟩ := hd3
          have := d6 rfl
          subst this
          obtain ⟨g4, j4, st4, pend4, tm5, n7, n8, n9⟩ := (loopAt_some _ _ _ _).1 f2
          dsimp only at n9
          obtain ⟨_, _, n10⟩ := (write_some _ _ _ _ _ _).1 n9
          simp only [Option.some.injEq, Prod.mk.injEq] at n10
          obtain ⟨rfl, rfl⟩ := n10
          obtain ⟨r4, rc4, nt4, s1, s2, s3, s4, s5, s6, s7⟩ := hs4.blk _ _ n7
          rw [hmu3] at s1
          simp only [Option.some.injEq] at s1
          subst s1
          have hlt3 : r < w3.heap.size := (Array.getElem?_eq_some_iff.1 s2).1
          have fin : ∀ (o : Out) (q : Nat) (bb : Bool), q = o.st → bb = o.on → ∃ x w', (Instr.endRound r (jumpOf o)).run Γ.P w3 = .ok x w' ∧
              ∃ x' E', Ending.returned x = .returned x' ∧ E.le E' ∧ Sim w0 E' ((h4.note b).wrote b (.loop g4 j4 q o tm5)) w' ∧ RV E' (.bool bb) x' := by
            intro o q bb hq hbb
            refine ⟨_, _, run_endRound (P := Γ.P) (jumpOf o) s2, _, E3, rfl, ⟨En.leM_trans hE2 hE3, d5⟩, (hs4.note b).wrote (k := .loop g4 j4 st4 pend4 tm5) (by rw [H.note_at]; exact n7) rfl hmu3 (.loop g4 j4 q o tm5) (fun _ => rfl) _
              ⟨r, { rc4 with state := if (jumpOf o).isNone then .ready else .done, pending := jumpOf o }, nt4, hmu3, World.putObj_heap_same hlt3, s3, s4, s5, ?_, rfl⟩ (fun i hi => World.putObj_heap_other hi) (by simp) rfl rfl rfl, ?_⟩
            · rw [hq]; cases o <;> rfl
            · rw [RV, hbb]; cases o <;> rfl
          cases o with
          | normal => exact fin .normal _ _ rfl rfl
          | exit id => exact fin (.exit id) _ _ rfl rfl
          | ret => exact fin .ret _ _ rfl rfl
end

theorem callN_rnd (Θ : Orc) (T : Uh FnC) (n : Nat) : (callN Θ T n).rnd = none := by cases n <;> rfl
theorem callN_ok {Γ : Cx} (hΓ : Γ.Ok) (hm : Γ.P.follows .mixedOrders = true) {T : Uh FnC} (hT : TableOK Γ T) {Θ : Orc} (hΘ : OrcOK Γ.P Θ) : ∀ n, CallOK Γ.P (callN Θ T n) ∧ GoodF (callN Θ T n)
  | 0 => ⟨⟨hΘ.ask, fun g vs h v h' w0 E wd args hr _ _ => (nomatch hr), fun b vs h v h' w0 E wd args hr _ _ => (nomatch hr)⟩, ⟨fun g vs => Good.fail, fun b vs => Good.fail⟩⟩
  | n + 1 => by
    obtain ⟨i1, i2⟩ := callN_ok hΓ hm hT hΘ n
    have heq : ∀ g vs, (callN Θ T (n + 1)).call g vs = (match Θ.call g vs with | some k => k | none => match T.get g with | some fc => callFn (callN Θ T n) fc vs | none => fun _ _ _ => none) := by
      intro g vs
      funext R h K
      show (Option.rec (Uh.getK (fun fc => callFn (callN Θ T n) fc vs R h K) T g) (fun k => k R h K) (Θ.call g vs) : Option R) = _
      cases Θ.call g vs with
      | some r => rfl
      | none =>
        show Uh.getK _ T g = _
        rw [Uh.getK_get]
        cases T.get g <;> rfl
    refine ⟨⟨hΘ.ask, fun g vs h v h' w0 E wd args hr hs ha => ?_, fun b vs h v h' w0 E wd args hr hs ha r hmu => round_ok hΓ hm hT i1 i2 hr hs ha hmu⟩, ⟨fun g vs => ?_, fun b vs => roundK_good hΓ hm hT i1 i2 b vs⟩⟩
    · rw [heq] at hr
      cases ho : Θ.call g vs with
      | some r =>
        rw [ho] at hr
        obtain ⟨p1, _, p2⟩ := hΘ.call g vs r ho
        exact ⟨p1, p2 h v h' w0 E wd args hr hs ha⟩
      | none =>
        rw [ho] at hr
        cases hg : T.get g with
        | none => rw [hg] at hr; exact nomatch hr
        | some fc =>
          rw [hg] at hr
          obtain ⟨fn, w, h1, h2⟩ := hT g fc hg
          exact callFn_ok hΓ hm i1 i2 (callN_rnd Θ T n) h2 h1 hr hs ha
    · rw [heq]
      cases ho : Θ.call g vs with
      | some r => exact (hΘ.call g vs r ho).2.1
      | none =>
        cases hg : T.get g with
        | none => exact Good.fail
        | some fc =>
          obtain ⟨fn, w, h1, h2⟩ := hT g fc hg
          exact callFn_good hΓ hm i1 i2 h2 h1 vs

theorem noOrc_ok (P : Program) : OrcOK P noOrc := ⟨fun op v u r h => (nomatch h), fun g vs r h => (nomatch h)⟩

theorem h0_at (b : Nat) : h0.at b = none := Th.get_nil b
/-- Nothing is known of the memory. -/
theorem Sim.none (w : World) (ho : Below Nu.old.heap.size Nu.old w) : Sim w ⟨fun _ => none, fun _ => 0, []⟩ h0 w :=
  ⟨fun b k h => (by rw [h0_at] at h; exact nomatch h), fun b b' k k' r h => (by rw [h0_at] at h; exact nomatch h), fun b k r h => (by rw [h0_at] at h; exact nomatch h), fun b _ => rfl, Below.refl _ _, ho, fun r hr => (nomatch hr), List.nodup_nil⟩

/-- A call whose arguments hold no addresses. -/
theorem calls_of_run {Γ : Cx} (hΓ : Γ.Ok) (hm : Γ.P.follows .mixedOrders = true) {T : Uh FnC} (hT : TableOK Γ T) {Θ : Orc} (hΘ : OrcOK Γ.P Θ) {n g : Nat} {vs : List V} {v : V} {h' : H} {args : List Value} (hr : run ((callN Θ T n).call g vs) h0 = some (v, h')) (w : World) (ho : Below Nu.old.heap.size Nu.old w)
    (ha : RVs ⟨fun _ => .none, fun _ => 0, []⟩ vs args) : Calls Γ.P g args.toArray w fun e w' => ∃ x E', e = .returned x ∧ Sim w E' h' w' ∧ RV E' v x :=
  Calls.mono ((callN_ok hΓ hm hT hΘ n).1.call g vs h0 v h' w _ w args hr (Sim.none w ho) ha).2 fun e w' ⟨x, E', h1, _, h2, h3⟩ => ⟨x, E', h1, h2, h3⟩

/-- A call that says yes. -/
theorem calls_true {Γ : Cx} (hΓ : Γ.Ok) (hm : Γ.P.follows .mixedOrders = true) {T : Uh FnC} (hT : TableOK Γ T) {Θ : Orc} (hΘ : OrcOK Γ.P Θ) {n g : Nat} {vs : List V} {args : List Value} (hr : isTrue (run ((callN Θ T n).call g vs) h0) = true) (w : World) (ho : Below Nu.old.heap.size Nu.old w)
    (ha : RVs ⟨fun _ => .none, fun _ => 0, []⟩ vs args) : Calls Γ.P g args.toArray w fun e w' => e = .returned (.bool true) ∧ Below w.heap.size w w' := by
  cases e : run ((callN Θ T n).call g vs) h0 with
  | none => rw [e] at hr; exact nomatch hr
  | some q =>
    obtain ⟨v, h'⟩ := q
    rw [e] at hr
    cases v with
    | bool b =>
      have hb : b = true := hr
      subst hb
      refine Calls.mono (calls_of_run hΓ hm hT hΘ e w ho ha) fun e w' ⟨x, E', h1, h2, h3⟩ => ?_
      rw [RV] at h3
      exact ⟨by rw [h1, h3], h2.kept⟩
    | _ => exact nomatch hr
end Go.X
