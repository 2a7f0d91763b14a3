/- A verified executor: the table of direct code. -/
import Derived.Test.YtojfkhhebedeoaaGreatDoorXDir
set_option linter.unusedVariables false
set_option linter.unusedSimpArgs false
set_option linter.unusedSectionVars false
namespace Go.X
open Go.RowKit
variable [Nu]

noncomputable def nthD (l : List RndD) : Nat → Option RndD := List.rec (fun _ => none) (fun x _ ih n => Nat.rec (some x) (fun m _ => ih m) n) l
/-- A call by direct code, so many calls deep. -/
noncomputable def callD (Θ : Orc) (T : Uh FnD) : Nat → CallF := Nat.rec ⟨fun _ _ _ _ _ => none, Θ.ask, fun _ _ _ _ _ => none, none⟩ (fun _ ih => ⟨fun g args R h K =>
  Option.rec (Uh.getK (fun f => f.call ih args R h K) T g) (fun k => k R h K) (Θ.call g args), Θ.ask,
  fun b args R h K => loopAt b R h fun q h => Uh.getK (fun f => Option.rec none (fun rd => rd ih b q.2.2.2.2 args R h K) (nthD f.rounds q.2.1)) T q.1, none⟩)

/-- A round's direct code comes to no more than the compact one. -/
def RndLe (rd : RndD) (rc : RngC) : Prop := ∀ (F' F : CallF), F'.le F → GoodF F → ∀ (b : Nat) (tm0 : Tm) (args : List V), KLe (rd F' b tm0 args) (fun R h K => Option.rec none (fun tm => roundA rc (F.inRound b) b tm R h K) (setPars rc.ps args tm0))
def RndsLe : List RndD → List RngC → Prop
  | [], l => l = []
  | rd :: r, l => ∃ rc s, l = rc :: s ∧ RndLe rd rc ∧ RndsLe r s
theorem RndsLe.append : ∀ {a : List RndD} {b : List RngC} {c : List RndD} {d : List RngC}, RndsLe a b → RndsLe c d → RndsLe (a ++ c) (b ++ d)
  | [], b, c, d, h, h' => by rw [show b = [] from h]; exact h'
  | rd :: r, b, c, d, h, h' => by obtain ⟨rc, s, rfl, h1, h2⟩ := h; exact ⟨rc, s ++ d, rfl, h1, RndsLe.append h2 h'⟩
theorem RndsLe.get : ∀ {a : List RndD} {b : List RngC}, RndsLe a b → ∀ {n : Nat} {rd : RndD}, nthD a n = some rd → ∃ rc, nthR b n = some rc ∧ RndLe rd rc
  | [], b, h, n, rd, e => nomatch e
  | x :: a, b, h, 0, rd, e => by
    obtain ⟨rc, s, rfl, h1, h2⟩ := h
    have e' : some x = some rd := e
    simp only [Option.some.injEq] at e'
    subst e'
    exact ⟨rc, rfl, h1⟩
  | x :: a, b, h, n + 1, rd, e => by
    obtain ⟨rc, s, rfl, h1, h2⟩ := h
    exact RndsLe.get h2 (n := n) e

theorem unzK_some {R : Type} {r : R} : ∀ {l : List Nat} {tm : Tm} {k : Tm → Option R}, unzK l tm k = some r → k tm = some r
  | [], tm, k, h => by
    cases tm with
    | nil => exact h
    | cons q tm => exact nomatch h
  | p :: l, tm, k, h => by
    cases tm with
    | nil => exact nomatch h
    | cons q tm =>
      obtain ⟨h1, h2⟩ := (boolRec_some (Nat.beq q.1 p) (unzK l tm fun r => k ((p, q.2) :: r)) r).1 h
      have e : q.1 = p := beq_true.1 h1
      have := unzK_some (k := fun r => k ((p, q.2) :: r)) h2
      rw [← e] at this
      exact this
theorem parK_some {R : Type} {r : R} : ∀ {ps : List Nat} {args : List V} {tm : Tm} {k : Tm → Option R}, parK ps args tm k = some r → ∃ t, setPars ps args tm = some t ∧ k t = some r
  | [], args, tm, k, h => by
    cases args with
    | nil => exact ⟨tm, rfl, h⟩
    | cons v args => exact nomatch h
  | p :: ps, args, tm, k, h => by
    cases args with
    | nil => exact nomatch h
    | cons v args => exact parK_some (ps := ps) (args := args) (tm := (p, v) :: tm) h
theorem CallF.le.inRound {F' F : CallF} (h : F'.le F) (b : Nat) : (F'.inRound b).le (F.inRound b) := ⟨h.call, h.round, h.ask, rfl⟩

section
variable {Γ : Cx} (hΓ : Γ.Ok)
include hΓ
theorem paths_id {w : Nat} : ∀ (l : List Nat), l.map (Γ.pathOf w) = l
  | [] => rfl
  | x :: l => by rw [List.map_cons, paths_id l, hΓ.path]; rfl
theorem dRnd_le {w nt g j : Nat} {ps : List Nat} {x y : Code} {cx cy : C} (hx : cC Γ w nt g (j + 1) x = some cx) (hy : cC Γ w nt g (j + 1 + nLoops x) y = some cy) (a : An) : RndLe (fun F => dRnd Γ w nt g F j ps x y a) ⟨ps.map (Γ.pathOf w), cx, cy⟩ := by
  intro F' F hF hG b tm0 args R h K K' hk r e
  have e2 := unzK_some (show unzK (keepOf ps x y) tm0 _ = some r from e)
  obtain ⟨t, e3, e4⟩ := parK_some e2
  dsimp only
  rw [paths_id hΓ, e3]
  refine dS_le hΓ (hF.inRound b) (hG.inRound b) (j + 1) x cx hx R a.l t t h _ _ _ (fun r h => Out.rec (roundB ⟨ps, cx, cy⟩ (F.inRound b) b r.2 R h K') (fun _ => none) none r.1) (sub.refl t) (fun t' t h hs => ?_) (fun _ _ _ _ _ => Le.none _) (fun _ _ _ _ => Le.none _) r e4
  show Le (busyK b h fun h => dS Γ w nt g (F'.inRound b) R (j + 1 + nLoops x) y a.r t' h _ _ _) (roundB ⟨ps, cx, cy⟩ (F.inRound b) b t R h K')
  unfold busyK roundB
  refine (loopAt_good b).kle R h _ _ fun q h => ?_
  cases Nat.beq q.2.2.1 0 with
  | false => exact Le.none _
  | true =>
    refine (Good.write b _).kle R h _ _ fun _ h => ?_
    refine dS_le hΓ (hF.inRound b) (hG.inRound b) (j + 1 + nLoops x) y cy hy R a.r t' t h _ _ _ (fun r h => roundE b r.1 R h K') hs (fun t' t h hs => ?_) (fun id t' t h hs => ?_) (fun t' t h hs => ?_)
    · exact (roundE_good b .normal).kle R h _ _ hk
    · exact (roundE_good b (.exit id)).kle R h _ _ hk
    · exact (roundE_good b .ret).kle R h _ _ hk

theorem dLs_le {w nt g : Nat} (as : List An) : ∀ (j : Nat) (c : Code) (L : List RngC), cLs Γ w nt g j c = some L → RndsLe (dLs Γ w nt g as j c) L
  | j, .seq x y, L, h => by
    rw [cLs] at h
    rw [dLs]
    cases hx : cLs Γ w nt g j x with
    | none => rw [hx] at h; exact nomatch h
    | some a =>
      cases hy : cLs Γ w nt g (j + nLoops x) y with
      | none => rw [hx, hy] at h; exact nomatch h
      | some b =>
        rw [hx, hy] at h
        simp only [Option.some.injEq] at h
        subst h
        exact (dLs_le as j x a hx).append (dLs_le as _ y b hy)
  | j, .cond _ x y, L, h => by
    rw [cLs] at h
    rw [dLs]
    cases hx : cLs Γ w nt g j x with
    | none => rw [hx] at h; exact nomatch h
    | some a =>
      cases hy : cLs Γ w nt g (j + nLoops x) y with
      | none => rw [hx, hy] at h; exact nomatch h
      | some b =>
        rw [hx, hy] at h
        simp only [Option.some.injEq] at h
        subst h
        exact (dLs_le as j x a hx).append (dLs_le as _ y b hy)
  | j, .block id x, L, h => by rw [cLs] at h; rw [dLs]; exact dLs_le as j x L h
  | j, .loop x, L, h => by rw [cLs] at h; rw [dLs]; exact dLs_le as j x L h
  | j, .scope x, L, h => by rw [cLs] at h; rw [dLs]; exact dLs_le as j x L h
  | j, .rangeFunc f ps x y, L, h => by
    rw [cLs] at h
    rw [dLs]
    cases ha : cC Γ w nt g (j + 1) x with
    | none => rw [ha] at h; exact nomatch h
    | some ca =>
      cases hb : cC Γ w nt g (j + 1 + nLoops x) y with
      | none => rw [ha, hb] at h; exact nomatch h
      | some cb =>
        cases hx : cLs Γ w nt g (j + 1) x with
        | none => rw [ha, hb, hx] at h; exact nomatch h
        | some a =>
          cases hy : cLs Γ w nt g (j + 1 + nLoops x) y with
          | none => rw [ha, hb, hx, hy] at h; exact nomatch h
          | some b =>
            rw [ha, hb, hx, hy] at h
            dsimp only at h
            split at h
            · simp only [Option.some.injEq] at h
              subst h
              exact ⟨_, _, rfl, dRnd_le hΓ ha hb _, (dLs_le as _ x a hx).append (dLs_le as _ y b hy)⟩
            · exact nomatch h
  | j, .skip, L, h => by simp only [cLs, Option.some.injEq] at h; subst h; simp only [dLs]; rfl
  | j, .label _, L, h => by simp only [cLs, Option.some.injEq] at h; subst h; simp only [dLs]; rfl
  | j, .region _ _ _, L, h => by simp only [cLs, Option.some.injEq] at h; subst h; simp only [dLs]; rfl
  | j, .exit _, L, h => by simp only [cLs, Option.some.injEq] at h; subst h; simp only [dLs]; rfl
  | j, .ret, L, h => by simp only [cLs, Option.some.injEq] at h; subst h; simp only [dLs]; rfl
  | j, .goto _, L, h => by simp only [cLs, Option.some.injEq] at h; subst h; simp only [dLs]; rfl
  | j, .refuse _, L, h => by simp only [cLs, Option.some.injEq] at h; subst h; simp only [dLs]; rfl
end

/-- Temporaries that are told agree. -/
theorem resK_sub {R : Type} : ∀ (l : List RC) {t' t : Tm}, sub t' t → ∀ (h : H) (K K' : List V → H → Option R), (∀ l h, Le (K l h) (K' l h)) → Le (resK t' l R h K) (resK t l R h K')
  | [], t', t, hs, h, K, K', hk => hk [] h
  | .t p :: l, t', t, hs, h, K, K', hk => evK_sub hs (fun v => resK_sub l hs h _ _ fun l h => hk (v :: l) h) (.t p)
  | .cell1 p :: l, t', t, hs, h, K, K', hk => by
    refine evK_sub hs (fun v => ?_) (.t p)
    intro r e
    obtain ⟨q, e1, e2⟩ := (optRec_some _ _ _).1 e
    exact (optRec_some _ _ _).2 ⟨q, e1, (ld1_good q.1 q.2).kle R h _ _ (fun v h => resK_sub l hs h _ _ fun l h => hk (v :: l) h) r e2⟩
  | .cellN n p :: l, t', t, hs, h, K, K', hk => by
    refine evK_sub hs (fun v => ?_) (.t p)
    intro r e
    obtain ⟨q, e1, e2⟩ := (optRec_some _ _ _).1 e
    exact (optRec_some _ _ _).2 ⟨q, e1, (ldN_good n q.1 q.2).kle R h _ _ (fun v h => resK_sub l hs h _ _ fun l h => hk (.agg v :: l) h) r e2⟩

/-- A function's direct code is right. -/
def FnOK (Γ : Cx) (g : Nat) (d : FnD) : Prop := ∃ fn w fc, Γ.P.funcs[g]? = some fn ∧ cF Γ w g fn = some fc ∧ (∀ (F' F : CallF), F'.le F → GoodF F → ∀ args, KLe (d.call F' args) (callFn F fc args)) ∧ RndsLe d.rounds fc.loops
theorem dF_ok {Γ : Cx} (hΓ : Γ.Ok) (hm : Γ.P.follows .mixedOrders = true) {w g : Nat} {fn : Func} {a : An} {as : List An} {d : FnD} (hg : Γ.P.funcs[g]? = some fn) (h : dF Γ w g fn a as = some d) : FnOK Γ g d := by
  unfold dF at h
  cases hc : cF Γ w g fn with
  | none => rw [hc] at h; exact nomatch h
  | some fc =>
    rw [hc] at h
    cases hb : fn.body with
    | none => rw [hb] at h; exact nomatch h
    | some b =>
      rw [hb] at h
      simp only [Option.some.injEq] at h
      subst h
      refine ⟨fn, w, fc, hg, hc, fun F' F hF hG args R h K K' hk r e => ?_, ?_⟩
      · obtain ⟨t, e1, e2⟩ := parK_some (show parK fc.pars args [] _ = some r from e)
        have hc2 := hc
        unfold cF at hc2
        rw [hb] at hc2
        dsimp only at hc2
        cases h1 : cC Γ w fn.ntmps g 0 b with
        | none => rw [h1] at hc2; exact nomatch hc2
        | some c =>
          have hbody : fc.body = c := by
            rw [h1] at hc2
            cases h2 : allSome (cR Γ w) fn.results.toList with
            | none => rw [h2] at hc2; exact nomatch hc2
            | some rs =>
              cases h3 : cLs Γ w fn.ntmps g 0 b with
              | none => rw [h2, h3] at hc2; exact nomatch hc2
              | some l =>
                rw [h2, h3] at hc2
                dsimp only at hc2
                split at hc2
                · simp only [Option.some.injEq] at hc2
                  rw [← hc2]
                · exact nomatch hc2
          unfold callFn
          refine (optRec_some _ _ _).2 ⟨t, e1, ?_⟩
          have hres : ∀ t' t h, sub t' t → Le (resK t' fc.res R h fun l h => K (oneOf l) h) (resK t fc.res R h fun l h => K' (oneOf l) h) := fun t' t h hs => resK_sub fc.res hs h _ _ fun l h => hk _ h
          rw [hbody]
          exact dS_le hΓ hF hG 0 b c h1 R a t t h _ _ _ (fun r h => callRet fc r R h K') (sub.refl t) (fun t' t h hs => hres t' t h hs) (fun id t' t h hs => Le.none _) (fun t' t h hs => hres t' t h hs) r e2
      · have hc2 := hc
        unfold cF at hc2
        rw [hb] at hc2
        dsimp only at hc2
        cases h1 : cC Γ w fn.ntmps g 0 b with
        | none => rw [h1] at hc2; exact nomatch hc2
        | some c =>
          rw [h1] at hc2
          cases h2 : allSome (cR Γ w) fn.results.toList with
          | none => rw [h2] at hc2; exact nomatch hc2
          | some rs =>
            cases h3 : cLs Γ w fn.ntmps g 0 b with
            | none => rw [h2, h3] at hc2; exact nomatch hc2
            | some l =>
              rw [h2, h3] at hc2
              dsimp only at hc2
              split at hc2
              · simp only [Option.some.injEq] at hc2
                rw [← hc2]
                exact dLs_le hΓ as 0 b l h3
              · exact nomatch hc2

/-- Each function of the list is told rightly. -/
def AllD (Γ : Cx) : List (Nat × FnD) → Prop
  | [] => True
  | p :: l => FnOK Γ p.1 p.2 ∧ AllD Γ l
theorem AllD.table {Γ : Cx} : ∀ {l : List (Nat × FnD)}, AllD Γ l → ∃ lS : List (Nat × FnC), AllTold Γ lS ∧ ∀ g d, (tabOf l).get g = some d → ∃ fc, (tabOf lS).get g = some fc ∧ (∀ (F' F : CallF), F'.le F → GoodF F → ∀ args, KLe (d.call F' args) (callFn F fc args)) ∧ RndsLe d.rounds fc.loops
  | [], _ => ⟨[], trivial, fun g d h => by rw [show (tabOf [] : Uh FnD) = Uh.nil from rfl, Uh.get_nil] at h; exact nomatch h⟩
  | p :: l, hl => by
    obtain ⟨lS, h1, h2⟩ := AllD.table hl.2
    obtain ⟨fn, w, fc, q1, q2, q3, q4⟩ := hl.1
    refine ⟨(p.1, fc) :: lS, ⟨⟨fn, w, q1, q2⟩, h1⟩, fun g d h => ?_⟩
    rw [show tabOf (p :: l) = (tabOf l).put p.2 p.1 from rfl, Uh.get_put] at h
    rw [show tabOf ((p.1, fc) :: lS) = (tabOf lS).put fc p.1 from rfl, Uh.get_put]
    by_cases c : g = p.1
    · rw [if_pos c] at h ⊢
      simp only [Option.some.injEq] at h
      subst h
      exact ⟨fc, rfl, q3, q4⟩
    · rw [if_neg c] at h ⊢
      exact h2 g d h

theorem callD_le {Γ : Cx} (hΓ : Γ.Ok) (hm : Γ.P.follows .mixedOrders = true) {T : Uh FnD} {TS : Uh FnC} (hTS : TableOK Γ TS) {Θ : Orc} (hΘ : OrcOK Γ.P Θ)
    (hT : ∀ g d, T.get g = some d → ∃ fc, TS.get g = some fc ∧ (∀ (F' F : CallF), F'.le F → GoodF F → ∀ args, KLe (d.call F' args) (callFn F fc args)) ∧ RndsLe d.rounds fc.loops) : ∀ n, (callD Θ T n).le (callN Θ TS n)
  | 0 => ⟨fun g vs R h K K' hk => Le.none _, fun g vs R h K K' hk => Le.none _, rfl, rfl⟩
  | n + 1 => by
    have ih := callD_le hΓ hm hTS hΘ hT n
    have hG := (callN_ok hΓ hm hTS hΘ n).2
    refine ⟨fun g vs R h K K' hk => ?_, fun b vs R h K K' hk => ?_, rfl, rfl⟩
    · show Le (Option.rec (Uh.getK (fun f => f.call (callD Θ T n) vs R h K) T g) (fun k => k R h K) (Θ.call g vs) : Option R) (Option.rec (Uh.getK (fun fc => callFn (callN Θ TS n) fc vs R h K') TS g) (fun k => k R h K') (Θ.call g vs))
      cases ho : Θ.call g vs with
      | some k => exact (hΘ.call g vs k ho).2.1.kle R h K K' hk
      | none =>
        dsimp only
        rw [Uh.getK_get, Uh.getK_get]
        cases hd : T.get g with
        | none => exact Le.none _
        | some d =>
          obtain ⟨fc, q1, q2, _⟩ := hT g d hd
          rw [q1]
          exact q2 _ _ ih hG vs R h K K' hk
    · show Le (loopAt b R h fun q h => Uh.getK (fun f => Option.rec none (fun rd => rd (callD Θ T n) b q.2.2.2.2 vs R h K) (nthD f.rounds q.2.1)) T q.1) (roundK TS (callN Θ TS n) b vs R h K')
      unfold roundK
      refine (loopAt_good b).kle R h _ _ fun q h => ?_
      rw [Uh.getK_get, Uh.getK_get]
      cases hd : T.get q.1 with
      | none => exact Le.none _
      | some d =>
        obtain ⟨fc, q1, _, q3⟩ := hT q.1 d hd
        rw [q1]
        dsimp only
        cases hn : nthD d.rounds q.2.1 with
        | none => exact Le.none _
        | some rd =>
          obtain ⟨rc, r1, r2⟩ := RndsLe.get q3 hn
          rw [r1]
          exact r2 _ _ ih hG b q.2.2.2.2 vs R h K K' hk

theorem isTrue_le {x y : Option (V × H)} (h : Le x y) (hx : isTrue x = true) : isTrue y = true := by
  cases x with
  | none => exact nomatch hx
  | some q => rw [h q rfl]; exact hx
/-- A call that says yes, by direct code. -/
theorem calls_trueD {Γ : Cx} (hΓ : Γ.Ok) (hm : Γ.P.follows .mixedOrders = true) {l : List (Nat × FnD)} (hl : AllD Γ l) {Θ : Orc} (hΘ : OrcOK Γ.P Θ) {n g : Nat} {vs : List V} {args : List Value} (hr : isTrue (run ((callD Θ (tabOf l) n).call g vs) h0) = true) (w : World) (ho : Below Nu.old.heap.size Nu.old w)
    (ha : RVs ⟨fun _ => .none, fun _ => 0, []⟩ vs args) : Calls Γ.P g args.toArray w fun e w' => e = .returned (.bool true) ∧ Below w.heap.size w w' := by
  obtain ⟨lS, h1, h2⟩ := hl.table
  have hTS := tableOK_of h1
  exact calls_true hΓ hm hTS hΘ (isTrue_le ((callD_le hΓ hm hTS hΘ h2 n).call g vs (V × H) h0 _ _ fun _ _ => Le.refl _) hr) w ho ha
theorem symOf_le {x y : Option (V × H)} (h : Le x y) {i : Nat} (hx : symOf x = some i) : symOf y = some i := by
  cases x with
  | none => exact nomatch hx
  | some q => rw [h q rfl]; exact hx
theorem calls_symD {Γ : Cx} (hΓ : Γ.Ok) (hm : Γ.P.follows .mixedOrders = true) {l : List (Nat × FnD)} (hl : AllD Γ l) {Θ : Orc} (hΘ : OrcOK Γ.P Θ) {n g i : Nat} {vs : List V} {args : List Value} (hr : symOf (run ((callD Θ (tabOf l) n).call g vs) h0) = some i) (w : World) (ho : Below Nu.old.heap.size Nu.old w)
    (ha : RVs ⟨fun _ => .none, fun _ => 0, []⟩ vs args) : Calls Γ.P g args.toArray w fun e w' => e = .returned (.int .i64 (Nu.v i)) ∧ Below w.heap.size w w' := by
  obtain ⟨lS, h1, h2⟩ := hl.table
  have hTS := tableOK_of h1
  exact calls_sym hΓ hm hTS hΘ (symOf_le ((callD_le hΓ hm hTS hΘ h2 n).call g vs (V × H) h0 _ _ fun _ _ => Le.refl _) hr) w ho ha
end Go.X
