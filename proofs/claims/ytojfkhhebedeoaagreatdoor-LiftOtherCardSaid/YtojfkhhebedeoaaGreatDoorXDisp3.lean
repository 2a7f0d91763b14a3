/- A verified executor, part 19: all operations. -/
import Derived.Test.YtojfkhhebedeoaaGreatDoorXDisp2
set_option linter.unusedVariables false
set_option linter.unusedSimpArgs false
set_option linter.unusedSectionVars false
namespace Go.X
open Go.RowKit
variable [Nu]

section
variable {Γ : Cx} (hΓ : Γ.Ok) {w : Nat}
include hΓ

theorem cI0_ok {o : Oper} {i : I} (h : cI0 Γ w o = some i) : IOK Γ w o i := by
  obtain ⟨dst, op, ty, pos, after, guard⟩ := o
  have g : ∀ {x : Operand} {a : A}, cA Γ w x = some a → x ∈ op.operands → ∀ {tm tm' : Tm}, Alike w (Oper.mk dst op ty pos after guard) tm tm' → ∀ {R : Type} (K : V → Option R), evK tm K a = evK tm' K a :=
    fun ha hm tm tm' hA R K => cg hΓ ha hm hA K
  unfold cI0 at h
  cases op with
  | move x =>
    obtain ⟨a, ha, rfl⟩ := c1_some h
    exact IOK.quiet (mov_ok hΓ ha) (fun F tm => mov_calm F tm a) (fun tm tm' hA F => by funext R h K; simp only [I.mov, g ha (by simp [Op.operands]) hA])
  | assign x =>
    obtain ⟨a, ha, rfl⟩ := c1_some h
    exact IOK.quiet (assign_ok hΓ ha) (fun F tm => mov_calm F tm a) (fun tm tm' hA F => by funext R h K; simp only [I.mov, g ha (by simp [Op.operands]) hA])
  | pick c a b =>
    obtain ⟨x, y, z, hx, hy, hz, e⟩ := c3_some h
    simp only [Option.some.injEq] at e; subst e
    exact IOK.quiet (pick_ok hΓ hx hy hz) (fun F tm => pick_calm F tm x y z) (fun tm tm' hA F => by funext R h K; simp only [I.pick, g hx (by simp [Op.operands]) hA, g hy (by simp [Op.operands]) hA, g hz (by simp [Op.operands]) hA])
  | alloc t =>
    dsimp only at h
    cases hz : zeroL Γ t with
    | none => rw [hz] at h; exact nomatch h
    | some z =>
      rw [hz] at h
      dsimp only at h
      split at h
      · simp only [Option.some.injEq] at h; subst h
        exact IOK.loud rfl (new_ok hΓ hz) (fun F tm => new_good F tm _ z) (fun tm tm' hA F => rfl)
      · exact nomatch h
  | box t x =>
    obtain ⟨a, ha, rfl⟩ := c1_some h
    exact IOK.loud rfl (box_ok hΓ ha) (fun F tm => box_good F tm a) (fun tm tm' hA F => by funext R h K; simp only [I.box, g ha (by simp [Op.operands]) hA])
  | build t ps =>
    dsimp only at h
    cases hu : Γ.P.underlying t with
    | none => rw [hu] at h; exact nomatch h
    | some d =>
      cases hz : zeroL Γ t with
      | none => rw [hu, hz] at h; cases d <;> exact nomatch h
      | some z =>
        rw [hu, hz] at h
        cases d with
        | struct fs =>
          dsimp only at h
          split at h
          · rename_i hfs
            cases hc : cParts Γ w (structPlace Γ fs) ps.toList with
            | none => rw [hc] at h; exact nomatch h
            | some l =>
              rw [hc] at h
              simp only [Option.some.injEq] at h; subst h
              exact IOK.quiet (buildS_ok hΓ hu hz hfs hc) (fun F tm => build_calm F tm z l) (fun tm tm' hA F => by funext R h K; exact fill_cong hΓ hc (fun t ht => hA t (by simpa [Op.operands] using ht)) z _)
          · exact nomatch h
        | array n e =>
          dsimp only at h
          cases hs : sizeT Γ e with
          | none => rw [hs] at h; exact nomatch h
          | some s =>
            rw [hs] at h
            dsimp only at h
            cases hc : cParts Γ w (fun i => some (i * s, s)) ps.toList with
            | none => rw [hc] at h; exact nomatch h
            | some l =>
              rw [hc] at h
              simp only [Option.some.injEq] at h; subst h
              exact IOK.quiet (buildA_ok hΓ hu hz hs hc) (fun F tm => build_calm F tm z l) (fun tm tm' hA F => by funext R h K; exact fill_cong hΓ hc (fun t ht => hA t (by simpa [Op.operands] using ht)) z _)
        | _ => exact nomatch h
  | buildSlice t n ps =>
    dsimp only at h
    cases hu : Γ.P.underlying t with
    | none => rw [hu] at h; exact nomatch h
    | some d =>
      rw [hu] at h
      cases d with
      | slice e =>
        dsimp only at h
        cases hz : zeroL Γ e with
        | none => rw [hz] at h; exact nomatch h
        | some z =>
          rw [hz] at h
          dsimp only at h
          split at h
          · rename_i hcond
            cases hc : cParts Γ w (fun i => some (i * z.length, z.length)) ps.toList with
            | none => rw [hc] at h; exact nomatch h
            | some l =>
              rw [hc] at h
              simp only [Option.some.injEq] at h; subst h
              have hcond' : 1 ≤ z.length ∧ n * z.length ≤ 65536 := by simpa using hcond
              exact IOK.loud rfl (slit_ok hΓ hu hz hcond'.1 hcond'.2 hc) (fun F tm => slit_good F tm _ _ n l) (fun tm tm' hA F => by funext R h K; exact fill_cong hΓ hc (fun t ht => hA t (by simpa [Op.operands] using ht)) _ _)
          · exact nomatch h
      | _ => exact nomatch h
  | load t x =>
    dsimp only at h
    cases hg : isAggT Γ t with
    | none => rw [hg] at h; exact nomatch h
    | some b =>
      cases hs : sizeT Γ t with
      | none => rw [hg, hs] at h; cases b <;> exact nomatch h
      | some n =>
        rw [hg, hs] at h
        cases b with
        | true =>
          obtain ⟨a, ha, rfl⟩ := c1_some h
          exact IOK.loud rfl (loadN_ok hΓ hg hs ha) (fun F tm => loadN_good F tm n a) (fun tm tm' hA F => by funext R h K; simp only [I.loadN, g ha (by simp [Op.operands]) hA])
        | false =>
          obtain ⟨a, ha, rfl⟩ := c1_some h
          exact IOK.loud rfl (load1_ok hΓ hg ha) (fun F tm => load1_good F tm a) (fun tm tm' hA F => by funext R h K; simp only [I.load1, g ha (by simp [Op.operands]) hA])
  | store t x y =>
    dsimp only at h
    cases hg : isAggT Γ t with
    | none => rw [hg] at h; exact nomatch h
    | some b =>
      cases hs : sizeT Γ t with
      | none => rw [hg, hs] at h; cases b <;> exact nomatch h
      | some n =>
        rw [hg, hs] at h
        cases b with
        | true =>
          obtain ⟨a, c, ha, hc, e⟩ := c2_some h
          simp only [Option.some.injEq] at e; subst e
          exact IOK.loud rfl (storeN_ok hΓ hs ha hc) (fun F tm => storeN_good F tm n a c) (fun tm tm' hA F => by funext R h K; simp only [I.storeN, g ha (by simp [Op.operands]) hA, g hc (by simp [Op.operands]) hA])
        | false =>
          dsimp only at h
          split at h
          · rename_i hn
            subst hn
            obtain ⟨a, c, ha, hc, e⟩ := c2_some h
            simp only [Option.some.injEq] at e; subst e
            exact IOK.loud rfl (store1_ok hΓ hs ha hc) (fun F tm => store1_good F tm a c) (fun tm tm' hA F => by funext R h K; simp only [I.store1, g ha (by simp [Op.operands]) hA, g hc (by simp [Op.operands]) hA])
          · exact nomatch h
  | nilCheck x =>
    obtain ⟨a, ha, rfl⟩ := c1_some h
    exact IOK.quiet (nilck_ok hΓ ha) (fun F tm => nilck_calm F tm a) (fun tm tm' hA F => by funext R h K; simp only [I.nilck, g ha (by simp [Op.operands]) hA])
  | binOp op t x y t' =>
    obtain ⟨a, b, ha, hb, e⟩ := c2_some h
    exact cBin_ok hΓ ha hb e
  | unOp op t x =>
    dsimp only at h
    cases op with
    | not =>
      obtain ⟨a, ha, rfl⟩ := c1_some h
      exact IOK.quiet (not_ok hΓ ha) (fun F tm => not_calm F tm a) (fun tm tm' hA F => by funext R h K; simp only [I.not, g ha (by simp [Op.operands]) hA])
    | neg =>
      obtain ⟨a, ha, rfl⟩ := c1_some h
      exact IOK.quiet (neg_ok hΓ ha) (fun F tm => neg_calm F tm a) (fun tm tm' hA F => by funext R h K; simp only [I.neg, g ha (by simp [Op.operands]) hA])
    | _ => exact nomatch h
  | convert s d x =>
    dsimp only at h
    cases hs : Γ.P.underlying s with
    | none => rw [hs] at h; exact nomatch h
    | some ds =>
      cases hd : Γ.P.underlying d with
      | none => rw [hs, hd] at h; cases ds <;> exact nomatch h
      | some dd =>
        rw [hs, hd] at h
        cases ds with
        | string =>
          cases dd with
          | string =>
            obtain ⟨a, ha, rfl⟩ := c1_some h
            exact IOK.quiet (same_ok hΓ hs hd ha) (fun F tm => same_calm F tm a) (fun tm tm' hA F => by funext R h K; simp only [I.same, g ha (by simp [Op.operands]) hA])
          | _ => exact nomatch h
        | int q =>
          cases dd with
          | int k =>
            obtain ⟨a, ha, rfl⟩ := c1_some h
            exact IOK.quiet (conv_ok hΓ hs hd ha) (fun F tm => conv_calm F tm k a) (fun tm tm' hA F => by funext R h K; simp only [I.conv, g ha (by simp [Op.operands]) hA])
          | _ => exact nomatch h
        | pointer t =>
          cases dd with
          | unsafePointer =>
            dsimp only at h
            cases hz : sizeT Γ t with
            | none => rw [hz] at h; exact nomatch h
            | some n =>
              rw [hz] at h
              dsimp only at h
              by_cases h1 : 1 ≤ n
              · rw [if_pos h1] at h
                obtain ⟨a, ha, rfl⟩ := c1_some h
                exact IOK.loud rfl (toU_ok hΓ hs hd hz h1 ha) (fun F tm => toU_good F tm a) (fun tm tm' hA F => by funext R h K; simp only [I.toU, g ha (by simp [Op.operands]) hA])
              · rw [if_neg h1] at h; exact nomatch h
          | _ => exact nomatch h
        | unsafePointer =>
          cases dd with
          | pointer u =>
            dsimp only at h
            cases hz : sizeT Γ u with
            | none => rw [hz] at h; exact nomatch h
            | some n =>
              rw [hz] at h
              dsimp only at h
              by_cases h1 : 1 ≤ n
              · rw [if_pos h1] at h
                obtain ⟨a, ha, rfl⟩ := c1_some h
                exact IOK.loud rfl (ofU_ok hΓ hs hd hz h1 ha) (fun F tm => ofU_good F tm _ n a) (fun tm tm' hA F => by funext R h K; simp only [I.ofU, g ha (by simp [Op.operands]) hA])
              · rw [if_neg h1] at h; exact nomatch h
          | _ => exact nomatch h
        | _ => cases dd <;> exact nomatch h
  | makeInterface t x =>
    dsimp only at h
    cases hd : Γ.P.underlying t with
    | none => rw [hd] at h; exact nomatch h
    | some d =>
      rw [hd] at h
      have key : (∀ ms, d ≠ .interface ms) → c1 Γ w (I.iface t) x = some i → IOK Γ w ⟨dst, .makeInterface t x, ty, pos, after, guard⟩ i := by
        intro hni h
        obtain ⟨a, ha, rfl⟩ := c1_some h
        exact IOK.quiet (iface_ok hΓ hd hni ha) (fun F tm => iface_calm F tm t a) (fun tm tm' hA F => by funext R h K; simp only [I.iface, g ha (by simp [Op.operands]) hA])
      cases d with
      | interface ms => exact nomatch h
      | _ => exact key (fun ms e => nomatch e) h
  | makeFunc f a b =>
    dsimp only at h
    cases ha : allSome (cA Γ w) a.toList with
    | none => rw [ha] at h; exact nomatch h
    | some l =>
      cases hb : allSome (cA Γ w) b.toList with
      | none => rw [ha, hb] at h; exact nomatch h
      | some m =>
        rw [ha, hb] at h
        simp only [Option.some.injEq] at h; subst h
        refine IOK.quiet (fn_ok hΓ ha hb) (fun F tm => fn_calm F tm f l m) (fun tm tm' hA F => ?_)
        funext R h K
        have e1 : ∀ {R : Type} (K : List V → Option R), evsK tm l K = evsK tm' l K := fun K => evs_cong hΓ ha (fun t ht => hA t (by simp only [Op.operands, Array.mem_append]; exact .inl (by simpa using ht))) K
        have e2 : ∀ {R : Type} (K : List V → Option R), evsK tm m K = evsK tm' m K := fun K => evs_cong hΓ hb (fun t ht => hA t (by simp only [Op.operands, Array.mem_append]; exact .inr (by simpa using ht))) K
        simp only [I.fn, e1, e2]
  | makeMap t r =>
    cases r with
    | none =>
      simp only [Option.some.injEq] at h; subst h
      exact IOK.loud rfl (mkmap_ok hΓ) (fun F tm => mkmap_good F tm) (fun tm tm' hA F => rfl)
    | some r => exact nomatch h
  | makeSlice t l c =>
    dsimp only at h
    cases hu : Γ.P.underlying t with
    | none => rw [hu] at h; exact nomatch h
    | some d =>
      rw [hu] at h
      cases d with
      | slice e =>
        dsimp only at h
        cases hz : zeroL Γ e with
        | none => rw [hz] at h; exact nomatch h
        | some z =>
          cases hb : bytesT Γ e with
          | none => rw [hz, hb] at h; exact nomatch h
          | some bytes =>
            rw [hz, hb] at h
            dsimp only at h
            split at h
            · rename_i hcond
              have hcond' : 1 ≤ z.length ∧ 1 ≤ bytes := by simpa using hcond
              obtain ⟨x, y, hx, hy, e'⟩ := c2_some h
              simp only [Option.some.injEq] at e'; subst e'
              exact IOK.loud rfl (mkslice_ok hΓ hu hz hb hcond'.1 hcond'.2 hx hy) (fun F tm => mkslice_good F tm z _ bytes x y) (fun tm tm' hA F => by funext R h K; simp only [I.mkslice, g hx (by simp [Op.operands]) hA, g hy (by simp [Op.operands]) hA])
            · exact nomatch h
      | _ => exact nomatch h
  | slice t x lo hi mx =>
    cases mx with
    | some m =>
      cases hi with
      | none => exact nomatch h
      | some hi =>
        dsimp only at h
        cases hx : cA Γ w x with
        | none => rw [hx] at h; exact nomatch h
        | some a =>
          cases hl : cO Γ w lo with
          | none => rw [hx, hl] at h; exact nomatch h
          | some l =>
            cases hy : cA Γ w hi with
            | none => rw [hx, hl, hy] at h; exact nomatch h
            | some b =>
              cases hz : cA Γ w m with
              | none => rw [hx, hl, hy, hz] at h; exact nomatch h
              | some c =>
                rw [hx, hl, hy, hz] at h
                exact cSliceM_ok hΓ hx hl hy hz h
    | none =>
      dsimp only at h
      cases hx : cA Γ w x with
      | none => rw [hx] at h; exact nomatch h
      | some a =>
        cases hl : cO Γ w lo with
        | none => rw [hx, hl] at h; exact nomatch h
        | some l =>
          cases hh : cO Γ w hi with
          | none => rw [hx, hl, hh] at h; exact nomatch h
          | some m =>
            rw [hx, hl, hh] at h
            exact cSlice_ok hΓ hx hl hh h
  | fieldAddr t x f =>
    dsimp only at h
    cases hu : Γ.P.underlying t with
    | none => rw [hu] at h; exact nomatch h
    | some d =>
      rw [hu] at h
      cases d with
      | struct fs =>
        dsimp only at h
        cases hp : structPlace Γ fs f with
        | none => rw [hp] at h; exact nomatch h
        | some q =>
          obtain ⟨d, n⟩ := q
          rw [hp] at h
          dsimp only at h
          split at h
          · rename_i hn
            obtain ⟨a, ha, rfl⟩ := c1_some h
            exact IOK.quiet (fld_ok hΓ hu hp hn ha) (fun F tm => fld_calm F tm d a) (fun tm tm' hA F => by funext R h K; simp only [I.fld, g ha (by simp [Op.operands]) hA])
          · exact nomatch h
      | _ => exact nomatch h
  | field t x f =>
    dsimp only at h
    cases hu : Γ.P.underlying t with
    | none => rw [hu] at h; exact nomatch h
    | some d =>
      rw [hu] at h
      cases d with
      | struct fs =>
        dsimp only at h
        cases hf : fs[f]? with
        | none => rw [hf] at h; exact nomatch h
        | some fd =>
          rw [hf] at h
          dsimp only at h
          cases hg : isAggT Γ fd.type with
          | none => rw [hg] at h; exact nomatch h
          | some b =>
            cases hs : sizeT Γ fd.type with
            | none => rw [hg, hs] at h; cases b <;> exact nomatch h
            | some n =>
              rw [hg, hs] at h
              cases b with
              | true =>
                obtain ⟨a, ha, rfl⟩ := c1_some h
                exact IOK.quiet (partN_ok hΓ hu hf hg hs ha) (fun F tm => partN_calm F tm _ n a) (fun tm tm' hA F => by funext R h K; simp only [I.partN, g ha (by simp [Op.operands]) hA])
              | false =>
                obtain ⟨a, ha, rfl⟩ := c1_some h
                exact IOK.quiet (part1_ok hΓ hu hf hg ha) (fun F tm => part1_calm F tm _ a) (fun tm tm' hA F => by funext R h K; simp only [I.part1, g ha (by simp [Op.operands]) hA])
      | _ => exact nomatch h
  | indexAddr t x ix =>
    dsimp only at h
    cases hu : Γ.P.underlying t with
    | none => rw [hu] at h; exact nomatch h
    | some d =>
      rw [hu] at h
      cases d with
      | slice e =>
        dsimp only at h
        cases hs : sizeT Γ e with
        | none => rw [hs] at h; exact nomatch h
        | some s =>
          rw [hs] at h
          obtain ⟨a, b, ha, hb, e'⟩ := c2_some h
          simp only [Option.some.injEq] at e'; subst e'
          exact IOK.quiet (idxL_ok hΓ hu hs ha hb) (fun F tm => idxL_calm F tm s a b) (fun tm tm' hA F => by funext R h K; simp only [I.idxL, idxK, idxB, g ha (by simp [Op.operands]) hA, g hb (by simp [Op.operands]) hA])
      | array n e =>
        dsimp only at h
        cases hs : sizeT Γ e with
        | none => rw [hs] at h; exact nomatch h
        | some s =>
          rw [hs] at h
          obtain ⟨a, b, ha, hb, e'⟩ := c2_some h
          simp only [Option.some.injEq] at e'; subst e'
          exact IOK.quiet (idxA_ok hΓ hu hs ha hb) (fun F tm => idxA_calm F tm n s a b) (fun tm tm' hA F => by funext R h K; simp only [I.idxA, g ha (by simp [Op.operands]) hA, g hb (by simp [Op.operands]) hA])
      | _ => exact nomatch h
  | index t x ix =>
    dsimp only at h
    cases hu : Γ.P.underlying t with
    | none => rw [hu] at h; exact nomatch h
    | some d =>
      rw [hu] at h
      cases d with
      | string =>
        obtain ⟨a, b, ha, hb, e'⟩ := c2_some h
        simp only [Option.some.injEq] at e'; subst e'
        exact IOK.quiet (byte_ok hΓ hu ha hb) (fun F tm => byte_calm F tm a b) (fun tm tm' hA F => by funext R h K; simp only [I.byte, g ha (by simp [Op.operands]) hA, g hb (by simp [Op.operands]) hA])
      | array n e =>
        dsimp only at h
        cases hg : isAggT Γ e with
        | none => rw [hg] at h; exact nomatch h
        | some q =>
          cases hs : sizeT Γ e with
          | none => rw [hg, hs] at h; cases q <;> exact nomatch h
          | some s =>
            rw [hg, hs] at h
            cases q with
            | true =>
              obtain ⟨a, b, ha, hb, e'⟩ := c2_some h
              simp only [Option.some.injEq] at e'; subst e'
              exact IOK.quiet (atN_ok hΓ hu hg hs ha hb) (fun F tm => atN_calm F tm n s a b) (fun tm tm' hA F => by funext R h K; simp only [I.atN, g ha (by simp [Op.operands]) hA, g hb (by simp [Op.operands]) hA])
            | false =>
              dsimp only at h
              split at h
              · rename_i hs1
                subst hs1
                obtain ⟨a, b, ha, hb, e'⟩ := c2_some h
                simp only [Option.some.injEq] at e'; subst e'
                exact IOK.quiet (at1_ok hΓ hu hg hs ha hb) (fun F tm => at1_calm F tm n a b) (fun tm tm' hA F => by funext R h K; simp only [I.at1, g ha (by simp [Op.operands]) hA, g hb (by simp [Op.operands]) hA])
              · exact nomatch h
      | _ => exact nomatch h
  | lookup t m k ok =>
    dsimp only at h
    cases hu : Γ.P.underlying t with
    | none => rw [hu] at h; exact nomatch h
    | some d =>
      rw [hu] at h
      cases d with
      | map kt e =>
        dsimp only at h
        cases hk : Γ.P.underlying kt with
        | none => rw [hk] at h; exact nomatch h
        | some dk =>
          cases hi : Γ.P.info? e with
          | none => rw [hk, hi] at h; cases dk <;> exact nomatch h
          | some inf =>
            rw [hk, hi] at h
            have key : ∀ str, KeyT str dk → (match inf.zero with | some z => (match ofV z with | some z => c2 Γ w (fun a b => some (I.look str ok z a b)) m k | none => none) | none => none) = some i →
                IOK Γ w ⟨dst, .lookup t m k ok, ty, pos, after, guard⟩ i := by
              intro str hstr h
              cases hz : inf.zero with
              | none => rw [hz] at h; exact nomatch h
              | some z =>
                rw [hz] at h
                dsimp only at h
                cases hz' : ofV z with
                | none => rw [hz'] at h; exact nomatch h
                | some zv =>
                  rw [hz'] at h
                  obtain ⟨a, b, ha, hb, e'⟩ := c2_some h
                  simp only [Option.some.injEq] at e'; subst e'
                  exact IOK.loud rfl (look_ok hΓ hu hk hstr hi hz hz' ha hb) (fun F tm => look_good F tm str ok zv a b) (fun tm tm' hA F => by funext R h K; simp only [I.look, g ha (by simp [Op.operands]) hA, g hb (by simp [Op.operands]) hA])
            cases dk with
            | int q => exact key false ⟨q, rfl⟩ h
            | string => exact key true rfl h
            | _ => exact nomatch h
      | _ => exact nomatch h
  | insert t m k x =>
    dsimp only at h
    cases hu : Γ.P.underlying t with
    | none => rw [hu] at h; exact nomatch h
    | some d =>
      rw [hu] at h
      cases d with
      | map kt e =>
        dsimp only at h
        cases hk : Γ.P.underlying kt with
        | none => rw [hk] at h; exact nomatch h
        | some dk =>
          rw [hk] at h
          have key : ∀ str, KeyT str dk → c3 Γ w (fun a b c => some (I.insert str a b c)) m k x = some i → IOK Γ w ⟨dst, .insert t m k x, ty, pos, after, guard⟩ i := by
            intro str hstr h
            obtain ⟨a, b, c, ha, hb, hc, e'⟩ := c3_some h
            simp only [Option.some.injEq] at e'; subst e'
            exact IOK.loud rfl (insert_ok hΓ hu hk hstr ha hb hc) (fun F tm => insert_good F tm str a b c) (fun tm tm' hA F => by funext R h K; simp only [I.insert, g ha (by simp [Op.operands]) hA, g hb (by simp [Op.operands]) hA, g hc (by simp [Op.operands]) hA])
          cases dk with
          | int q => exact key false ⟨q, rfl⟩ h
          | string => exact key true rfl h
          | _ => exact nomatch h
      | _ => exact nomatch h
  | typeAssert x xt t ok =>
    dsimp only at h
    cases hd : Γ.P.underlying t with
    | none => rw [hd] at h; exact nomatch h
    | some d =>
      rw [hd] at h
      have key : (∀ ms, d ≠ .interface ms) → (match Γ.P.info? t with | some i => c1 Γ w (I.assert t ok (match i.zero with | some z => ofV z | none => none)) x | none => none) = some i →
          IOK Γ w ⟨dst, .typeAssert x xt t ok, ty, pos, after, guard⟩ i := by
        intro hni h
        cases hi : Γ.P.info? t with
        | none => rw [hi] at h; exact nomatch h
        | some inf =>
          rw [hi] at h
          obtain ⟨a, ha, rfl⟩ := c1_some h
          exact IOK.quiet (assert_ok hΓ hd hni hi ha) (fun F tm => assert_calm F tm t ok _ a) (fun tm tm' hA F => by funext R h K; simp only [I.assert, g ha (by simp [Op.operands]) hA])
      cases d with
      | interface ms => exact nomatch h
      | _ => exact key (fun ms e => nomatch e) h
  | extract x n =>
    obtain ⟨a, ha, rfl⟩ := c1_some h
    exact IOK.quiet (ext_ok hΓ ha) (fun F tm => ext_calm F tm n a) (fun tm tm' hA F => by funext R h K; simp only [I.ext, g ha (by simp [Op.operands]) hA])
  | call c =>
    obtain ⟨callee, xs, ts⟩ := c
    cases callee with
    | builtin b =>
      dsimp only at h
      cases hl : allSome (cA Γ w) xs.toList with
      | none => rw [hl] at h; exact nomatch h
      | some l => rw [hl] at h; exact cBuiltin_ok hΓ hl h
    | value f =>
      dsimp only at h
      cases hne : noEsc Γ f with
      | true =>
        rw [hne] at h
        dsimp only at h
        obtain ⟨xl⟩ := xs
        cases xl with
        | nil => exact nomatch h
        | cons x xl =>
          cases xl with
          | cons _ _ => exact nomatch h
          | nil =>
            obtain ⟨a, ha, rfl⟩ := c1_some h
            exact IOK.quiet (noEsc_ok hΓ hne ha) (fun F tm => mov_calm F tm a) (fun tm tm' hA F => by funext R h K; simp only [I.mov, g ha (by simp [Op.operands, Call.operands]) hA])
      | false =>
      rw [hne] at h
      dsimp only at h
      cases hf : cA Γ w f with
      | none => rw [hf] at h; exact nomatch h
      | some a =>
        cases hl : allSome (cA Γ w) xs.toList with
        | none => rw [hf, hl] at h; exact nomatch h
        | some l =>
          rw [hf, hl] at h
          simp only [Option.some.injEq] at h; subst h
          refine ⟨call_ok hΓ hf hl, fun F F' hF hG tm => call_mono hF hG tm a l, fun F hF tm => call_good F tm hF a l, fun tm tm' hA F => ?_, fun ht => nomatch ht⟩
          funext R h K
          have e2 : ∀ {R : Type} (K : List V → Option R), evsK tm l K = evsK tm' l K := fun K => evs_cong hΓ hl (fun t ht => hA t (by simp only [Op.operands, Call.operands, Array.mem_append]; exact .inr (by simpa using ht))) K
          simp only [I.call, g hf (by simp [Op.operands, Call.operands]) hA, e2]
    | invoke r m => exact nomatch h
  | _ => exact nomatch h
theorem stop_ok {o : Oper} : IOK Γ w o I.stop :=
  IOK.quiet (fun _ _ _ _ _ _ _ _ _ _ _ hr => (nomatch hr)) (fun _ _ => Calm.fail) (fun _ _ _ _ => rfl)
theorem cI_ok {o : Oper} {i : I} (h : cI Γ w o = some i) : IOK Γ w o i := by
  unfold cI at h
  cases h0 : cI0 Γ w o with
  | none => rw [h0] at h; simp only [Option.some.injEq] at h; subst h; exact stop_ok hΓ
  | some j => rw [h0] at h; simp only [Option.some.injEq] at h; subst h; exact cI0_ok hΓ h0
end
end Go.X
