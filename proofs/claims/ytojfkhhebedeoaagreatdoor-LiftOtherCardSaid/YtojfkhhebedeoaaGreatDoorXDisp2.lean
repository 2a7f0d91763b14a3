/- A verified executor, part 18: the operations, one by one. -/
import Derived.Test.YtojfkhhebedeoaaGreatDoorXDisp
set_option linter.unusedVariables false
set_option linter.unusedSimpArgs false
set_option linter.unusedSectionVars false
namespace Go.X
open Go.RowKit
variable [Nu]

section
variable {Γ : Cx} (hΓ : Γ.Ok) {w : Nat}
include hΓ
theorem cg {x : Operand} {a : A} (ha : cA Γ w x = some a) {o : Oper} (hm : x ∈ o.op.operands) {tm tm' : Tm} (hA : Alike w o tm tm') {R : Type} (K : V → Option R) : evK tm K a = evK tm' K a :=
  ev_cong hΓ ha (fun t e => hA t (e ▸ hm)) K

theorem cSame_ok {dst : Option Tmp} {ty : TypeId} {pos : String} {after : Array Edge} {guard : Option (Nat × Bool)} {op : BinOp} {t t' : TypeId} {x y : Operand} {a b : A} {d : TypeDesc} (hu : Γ.P.underlying t = some d) (hx : cA Γ w x = some a) (hy : cA Γ w y = some b) {i : I} (h : cSame Γ op d a b = some i) :
    IOK Γ w ⟨dst, .binOp op t x y t', ty, pos, after, guard⟩ i := by
  have g1 : x ∈ (Oper.mk dst (.binOp op t x y t') ty pos after guard).op.operands := by simp [Op.operands]
  have g2 : y ∈ (Oper.mk dst (.binOp op t x y t') ty pos after guard).op.operands := by simp [Op.operands]
  cases d with
  | pointer e0 =>
    unfold cSame at h
    dsimp only at h
    cases hz : sizeT Γ e0 with
    | none => rw [hz] at h; exact nomatch h
    | some n =>
      rw [hz] at h
      dsimp only at h
      cases op with
      | eql =>
        simp only [Option.some.injEq] at h
        subst h
        exact IOK.quiet (sameP_ok (neg := false) hΓ rfl hu hz hx hy) (fun F tm => sameP_calm F tm false a b) (fun tm tm' hA F => by funext R h K; simp only [I.sameP, cg hΓ hx g1 hA, cg hΓ hy g2 hA])
      | neq =>
        simp only [Option.some.injEq] at h
        subst h
        exact IOK.quiet (sameP_ok (neg := true) hΓ rfl hu hz hx hy) (fun F tm => sameP_calm F tm true a b) (fun tm tm' hA F => by funext R h K; simp only [I.sameP, cg hΓ hx g1 hA, cg hΓ hy g2 hA])
      | _ => exact nomatch h
  | _ => exact nomatch h
theorem cBin_ok {dst : Option Tmp} {ty : TypeId} {pos : String} {after : Array Edge} {guard : Option (Nat × Bool)} {op : BinOp} {t t' : TypeId} {x y : Operand} {a b : A} (hx : cA Γ w x = some a) (hy : cA Γ w y = some b) {i : I} (h : cBin Γ op t a b = some i) :
    IOK Γ w ⟨dst, .binOp op t x y t', ty, pos, after, guard⟩ i := by
  have g1 : x ∈ (Oper.mk dst (.binOp op t x y t') ty pos after guard).op.operands := by simp [Op.operands]
  have g2 : y ∈ (Oper.mk dst (.binOp op t x y t') ty pos after guard).op.operands := by simp [Op.operands]
  have hbin : IOK Γ w ⟨dst, .binOp op t x y t', ty, pos, after, guard⟩ (I.bin op a b) :=
    IOK.quiet (bin_ok hΓ hx hy) (fun F tm => bin_calm F tm op a b) (fun tm tm' hA F => by funext R h K; simp only [I.bin, cg hΓ hx g1 hA, cg hΓ hy g2 hA])
  unfold cBin at h
  cases hu : Γ.P.underlying t with
  | none => rw [hu] at h; exact nomatch h
  | some d =>
    rw [hu] at h
    cases d with
    | struct fs =>
      dsimp only at h
      by_cases he : Γ.eqs.elem t = true
      · rw [if_pos he] at h
        have he' : t ∈ Γ.eqs := by simpa using he
        cases hk : flatK Γ fs.toList 0 with
        | none => rw [hk] at h; exact nomatch h
        | some ks =>
          rw [hk] at h
          dsimp only at h
          cases op with
          | eql =>
            simp only [Option.some.injEq] at h
            subst h
            exact IOK.quiet (eqs_ok (neg := false) hΓ hu he' hk hx hy) (fun F tm => eqs_calm F tm false ks a b) (fun tm tm' hA F => by funext R h K; simp only [I.eqs, cg hΓ hx g1 hA, cg hΓ hy g2 hA])
          | neq =>
            simp only [Option.some.injEq] at h
            subst h
            exact IOK.quiet (eqs_ok (neg := true) hΓ hu he' hk hx hy) (fun F tm => eqs_calm F tm true ks a b) (fun tm tm' hA F => by funext R h K; simp only [I.eqs, cg hΓ hx g1 hA, cg hΓ hy g2 hA])
          | _ => exact nomatch h
      · rw [if_neg he] at h; exact nomatch h
    | bool =>
      simp only [Option.some.injEq] at h
      subst h
      exact IOK.quiet (binB_ok hΓ hu hx hy) (fun F tm => binB_calm F tm op a b) (fun tm tm' hA F => by funext R h K; simp only [I.binB, cg hΓ hx g1 hA, cg hΓ hy g2 hA])
    | int k => simp only [Option.some.injEq] at h; subst h; exact hbin
    | string => simp only [Option.some.injEq] at h; subst h; exact hbin
    | _ =>
      dsimp only at h
      split at h
      · rename_i f hf
        have hnil : ∀ neg, ∃ f0, f neg a = I.nilK f0 neg a := by
          intro neg
          unfold cNil at hf
          split at hf <;> first | (simp only [Option.some.injEq] at hf; subst hf; exact ⟨_, rfl⟩) | simp at hf
        cases op with
        | eql =>
          simp only [Option.some.injEq] at h
          subst h
          have hok := nil_ok (dst := dst) (ty := ty) (pos := pos) (after := after) (guard := guard) (t' := t') (op := .eql) (neg := false) hΓ rfl hu hx hy hf
          obtain ⟨f0, e0⟩ := hnil false
          rw [e0] at hok ⊢
          exact IOK.quiet hok (fun F tm => nilK_calm F tm f0 false a) (fun tm tm' hA F => by funext R h K; simp only [I.nilK, cg hΓ hx g1 hA])
        | neq =>
          simp only [Option.some.injEq] at h
          subst h
          have hok := nil_ok (dst := dst) (ty := ty) (pos := pos) (after := after) (guard := guard) (t' := t') (op := .neq) (neg := true) hΓ rfl hu hx hy hf
          obtain ⟨f0, e0⟩ := hnil true
          rw [e0] at hok ⊢
          exact IOK.quiet hok (fun F tm => nilK_calm F tm f0 true a) (fun tm tm' hA F => by funext R h K; simp only [I.nilK, cg hΓ hx g1 hA])
        | _ => exact nomatch h
      · exact cSame_ok hΓ hu hx hy h

theorem cSliceM_ok {dst : Option Tmp} {ty : TypeId} {pos : String} {after : Array Edge} {guard : Option (Nat × Bool)} {t : TypeId} {x y z : Operand} {lo : Option Operand} {a b c : A} {l : Option A} (hx : cA Γ w x = some a) (hl : cO Γ w lo = some l) (hy : cA Γ w y = some b) (hz : cA Γ w z = some c)
    {i : I} (h : cSliceM Γ t a l (some b) (some c) = some i) : IOK Γ w ⟨dst, .slice t x lo (some y) (some z), ty, pos, after, guard⟩ i := by
  have g1 : x ∈ (Oper.mk dst (.slice t x lo (some y) (some z)) ty pos after guard).op.operands := by simp [Op.operands]
  have g2 : ∀ {tm tm' : Tm}, Alike w (Oper.mk dst (.slice t x lo (some y) (some z)) ty pos after guard) tm tm' → ∀ {R : Type} (K : Option Nat → Option R), boundK tm l K = boundK tm' l K := fun hA R K =>
    bound_cong hΓ hl (fun t e => hA t (by rw [e]; simp [Op.operands])) K
  have g3 : ∀ {tm tm' : Tm}, Alike w (Oper.mk dst (.slice t x lo (some y) (some z)) ty pos after guard) tm tm' → ∀ {R : Type} (K : Option Nat → Option R), boundK tm (some b) K = boundK tm' (some b) K := fun hA R K =>
    bound_cong (x := some y) hΓ (by rw [cO, hy]) (fun t e => hA t (by cases e; simp [Op.operands])) K
  have g4 : ∀ {tm tm' : Tm}, Alike w (Oper.mk dst (.slice t x lo (some y) (some z)) ty pos after guard) tm tm' → ∀ {R : Type} (K : Option Nat → Option R), boundK tm (some c) K = boundK tm' (some c) K := fun hA R K =>
    bound_cong (x := some z) hΓ (by rw [cO, hz]) (fun t e => hA t (by cases e; simp [Op.operands])) K
  unfold cSliceM at h
  cases hu : Γ.P.underlying t with
  | none => rw [hu] at h; exact nomatch h
  | some d =>
    rw [hu] at h
    cases d with
    | slice e =>
      dsimp only at h
      cases hzz : sizeT Γ e with
      | none => rw [hzz] at h; exact nomatch h
      | some n =>
        rw [hzz] at h
        dsimp only at h
        by_cases h1 : 1 ≤ n
        · rw [if_pos h1] at h
          simp only [Option.some.injEq] at h
          subst h
          exact IOK.quiet (cutM_ok hΓ hu hzz h1 hx hl hy hz) (fun F tm => cutM_calm F tm n l (some b) (some c) a) (fun tm tm' hA F => by funext R h K; simp only [I.cutM, cg hΓ hx g1 hA, g2 hA, g3 hA, g4 hA])
        · rw [if_neg h1] at h; exact nomatch h
    | _ => exact nomatch h
theorem cSlice_ok {dst : Option Tmp} {ty : TypeId} {pos : String} {after : Array Edge} {guard : Option (Nat × Bool)} {t : TypeId} {x : Operand} {lo hi : Option Operand} {a : A} {l h' : Option A} (hx : cA Γ w x = some a) (hl : cO Γ w lo = some l) (hh : cO Γ w hi = some h')
    {i : I} (h : cSlice Γ t a l h' = some i) : IOK Γ w ⟨dst, .slice t x lo hi none, ty, pos, after, guard⟩ i := by
  have g1 : x ∈ (Oper.mk dst (.slice t x lo hi none) ty pos after guard).op.operands := by simp [Op.operands]
  have g2 : ∀ {tm tm' : Tm}, Alike w (Oper.mk dst (.slice t x lo hi none) ty pos after guard) tm tm' → ∀ {R : Type} (K : Option Nat → Option R), boundK tm l K = boundK tm' l K := fun hA R K =>
    bound_cong hΓ hl (fun t e => hA t (by rw [e]; simp [Op.operands])) K
  have g3 : ∀ {tm tm' : Tm}, Alike w (Oper.mk dst (.slice t x lo hi none) ty pos after guard) tm tm' → ∀ {R : Type} (K : Option Nat → Option R), boundK tm h' K = boundK tm' h' K := fun hA R K =>
    bound_cong hΓ hh (fun t e => hA t (by rw [e]; simp [Op.operands])) K
  unfold cSlice at h
  cases hu : Γ.P.underlying t with
  | none => rw [hu] at h; exact nomatch h
  | some d =>
    rw [hu] at h
    cases d with
    | string =>
      simp only [Option.some.injEq] at h
      subst h
      exact IOK.quiet (cutS_ok hΓ hu hx hl hh) (fun F tm => cutS_calm F tm l h' a) (fun tm tm' hA F => by funext R h K; simp only [I.cutS, cg hΓ hx g1 hA, g2 hA, g3 hA])
    | slice e =>
      dsimp only at h
      cases hz : sizeT Γ e with
      | none => rw [hz] at h; exact nomatch h
      | some n =>
        rw [hz] at h
        dsimp only at h
        by_cases h1 : 1 ≤ n
        · rw [if_pos h1] at h
          simp only [Option.some.injEq] at h
          subst h
          exact IOK.loud rfl (cutL_ok hΓ hu hz h1 hx hl hh) (fun F tm => cutL_good F tm n l h' a) (fun tm tm' hA F => by funext R h K; simp only [I.cutL, cg hΓ hx g1 hA, g2 hA, g3 hA])
        · rw [if_neg h1] at h; exact nomatch h
    | array n e =>
      dsimp only at h
      cases hz : sizeT Γ e with
      | none => rw [hz] at h; exact nomatch h
      | some s =>
        rw [hz] at h
        dsimp only at h
        by_cases h1 : 1 ≤ s
        · rw [if_pos h1] at h
          simp only [Option.some.injEq] at h
          subst h
          exact IOK.quiet (cutA_ok hΓ hu hz h1 hx hl hh) (fun F tm => cutA_calm F tm n s l h' a) (fun tm tm' hA F => by funext R h K; simp only [I.cutA, cg hΓ hx g1 hA, g2 hA, g3 hA])
        · rw [if_neg h1] at h; exact nomatch h
    | _ => exact nomatch h

omit hΓ in
theorem as1 {xs : Array Operand} {x : A} (h : allSome (cA Γ w) xs.toList = some [x]) : ∃ o, xs = #[o] ∧ cA Γ w o = some x := by
  obtain ⟨l⟩ := xs
  cases l with
  | nil => simp [allSome] at h
  | cons o l =>
    obtain ⟨a, b, h1, h2, h3⟩ := (allSome_cons _ _ _ _).1 h
    simp only [List.cons.injEq] at h3
    obtain ⟨rfl, rfl⟩ := h3
    cases l with
    | nil => exact ⟨o, rfl, h1⟩
    | cons p l => obtain ⟨a, b, _, _, h5⟩ := (allSome_cons _ _ _ _).1 h2; exact nomatch h5
omit hΓ in
theorem as2 {xs : Array Operand} {x y : A} (h : allSome (cA Γ w) xs.toList = some [x, y]) : ∃ o p, xs = #[o, p] ∧ cA Γ w o = some x ∧ cA Γ w p = some y := by
  obtain ⟨l⟩ := xs
  cases l with
  | nil => simp [allSome] at h
  | cons o l =>
    obtain ⟨a, b, h1, h2, h3⟩ := (allSome_cons _ _ _ _).1 h
    simp only [List.cons.injEq] at h3
    obtain ⟨rfl, rfl⟩ := h3
    obtain ⟨q, hq, h4⟩ := as1 (xs := ⟨l⟩) h2
    have hq' : l = [q] := congrArg Array.toList hq
    subst hq'
    exact ⟨o, q, rfl, h1, h4⟩
omit hΓ in
theorem ts1 {ts : Array TypeId} {t : TypeId} (h : ts.toList = [t]) : ts = #[t] := by
  obtain ⟨l⟩ := ts
  have h' : l = [t] := h
  rw [h']

theorem cBuiltin_ok {dst : Option Tmp} {ty : TypeId} {pos : String} {after : Array Edge} {guard : Option (Nat × Bool)} {b : Builtin} {xs : Array Operand} {ts : Array TypeId} {l : List A} (hl : allSome (cA Γ w) xs.toList = some l) {i : I} (h : cBuiltin Γ b ts.toList l = some i) :
    IOK Γ w ⟨dst, .call ⟨.builtin b, xs, ts⟩, ty, pos, after, guard⟩ i := by
  have g : ∀ {x : Operand} {a : A}, cA Γ w x = some a → x ∈ xs → ∀ {tm tm' : Tm}, Alike w (Oper.mk dst (.call ⟨.builtin b, xs, ts⟩) ty pos after guard) tm tm' → ∀ {R : Type} (K : V → Option R), evK tm K a = evK tm' K a :=
    fun ha hm tm tm' hA R K => cg hΓ ha (by simp [Op.operands, Call.operands, hm]) hA K
  obtain ⟨tl⟩ := ts
  unfold cBuiltin at h
  dsimp only at h
  split at h
  · -- len
    rename_i t x
    obtain ⟨o, rfl, ho⟩ := as1 hl
    cases hu : Γ.P.underlying t with
    | none => rw [hu] at h; exact nomatch h
    | some d =>
      rw [hu] at h
      cases d with
      | slice e => simp only [Option.some.injEq] at h; subst h; exact IOK.quiet (lenL_ok hΓ hu ho) (fun F tm => lenL_calm F tm x) (fun tm tm' hA F => by funext R h K; simp only [I.lenL, g ho (by simp) hA])
      | string => simp only [Option.some.injEq] at h; subst h; exact IOK.quiet (lenS_ok hΓ hu ho) (fun F tm => lenS_calm F tm x) (fun tm tm' hA F => by funext R h K; simp only [I.lenS, g ho (by simp) hA])
      | array n e => simp only [Option.some.injEq] at h; subst h; exact IOK.quiet (lenA_ok hΓ hu ho) (fun F tm => lenA_calm F tm n x) (fun tm tm' hA F => rfl)
      | _ => exact nomatch h
  · -- append
    rename_i t u x y
    obtain ⟨o, p, rfl, ho, hp⟩ := as2 hl
    have key : ∀ (e : TypeId), Γ.P.underlying t = some (.slice e) → ((∃ e', Γ.P.underlying u = some (.slice e')) ∨ Γ.P.underlying u = some .string) →
        (match sizeT Γ e, bytesT Γ e, zeroL Γ e with | some n, some m, some _ => if 1 ≤ n && 1 ≤ m then some (I.appendQ (Nat.succ e) n m x y) else none | _, _, _ => none) = some i →
        IOK Γ w ⟨dst, .call ⟨.builtin .append, #[o, p], ⟨[t, u]⟩⟩, ty, pos, after, guard⟩ i := by
      intro e hu hk hh
      cases hn : sizeT Γ e with
      | none => rw [hn] at hh; exact nomatch hh
      | some n =>
        cases hm : bytesT Γ e with
        | none => rw [hn, hm] at hh; exact nomatch hh
        | some m =>
          cases hz : zeroL Γ e with
          | none => rw [hn, hm, hz] at hh; exact nomatch hh
          | some z =>
            rw [hn, hm, hz] at hh
            dsimp only at hh
            by_cases hc : (1 ≤ n && 1 ≤ m) = true
            · rw [if_pos hc] at hh
              simp only [Bool.and_eq_true, decide_eq_true_eq] at hc
              simp only [Option.some.injEq] at hh
              subst hh
              exact IOK.loud rfl (append_ok hΓ hu hk hn hm hz hc.1 hc.2 ho hp _ TyOK.own) (fun F tm => append_good F tm _ n m x y) (fun tm tm' hA F => by funext R h K; simp only [I.appendQ, g ho (by simp) hA, g hp (by simp) hA])
            · rw [if_neg hc] at hh; exact nomatch hh
    cases hu : Γ.P.underlying t with
    | none => rw [hu] at h; exact nomatch h
    | some d =>
      cases hv : Γ.P.underlying u with
      | none => rw [hu, hv] at h; cases d <;> exact nomatch h
      | some d' =>
        rw [hu, hv] at h
        cases d with
        | slice e =>
          cases d' with
          | slice e' => exact key e hu (.inl ⟨e', hv⟩) h
          | string => exact key e hu (.inr hv) h
          | _ => exact nomatch h
        | _ => exact nomatch h
  · rename_i t u x y
    obtain ⟨o, p, rfl, ho, hp⟩ := as2 hl
    simp only [Option.some.injEq] at h; subst h
    exact IOK.quiet (max_ok hΓ ho hp) (fun F tm => max_calm F tm x y) (fun tm tm' hA F => by funext R h K; simp only [I.max, g ho (by simp) hA, g hp (by simp) hA])
  · rename_i t u x y
    obtain ⟨o, p, rfl, ho, hp⟩ := as2 hl
    simp only [Option.some.injEq] at h; subst h
    exact IOK.quiet (min_ok hΓ ho hp) (fun F tm => min_calm F tm x y) (fun tm tm' hA F => by funext R h K; simp only [I.min, g ho (by simp) hA, g hp (by simp) hA])
  · rename_i t x
    obtain ⟨o, rfl, ho⟩ := as1 hl
    simp only [Option.some.injEq] at h; subst h
    exact IOK.quiet (sdata_ok hΓ ho) (fun F tm => sdata_calm F tm x) (fun tm tm' hA F => by funext R h K; simp only [I.sdata, g ho (by simp) hA])
  · rename_i t u x y
    obtain ⟨o, p, rfl, ho, hp⟩ := as2 hl
    cases hu : Γ.P.underlying t with
    | none => rw [hu] at h; exact nomatch h
    | some d =>
      rw [hu] at h
      cases d with
      | pointer e =>
        dsimp only at h
        cases hz : sizeT Γ e with
        | none => rw [hz] at h; exact nomatch h
        | some n =>
          rw [hz] at h
          dsimp only at h
          by_cases h1 : n = 1
          · rw [if_pos h1] at h
            simp only [Option.some.injEq] at h
            subst h
            subst h1
            exact IOK.loud rfl (ustr_ok hΓ hu hz ho hp) (fun F tm => ustr_good F tm _ x y) (fun tm tm' hA F => by funext R h K; simp only [I.ustr, g ho (by simp) hA, g hp (by simp) hA])
          · rw [if_neg h1] at h; exact nomatch h
      | _ => exact nomatch h
  · rename_i t x
    obtain ⟨o, rfl, ho⟩ := as1 hl
    cases hu : Γ.P.underlying t with
    | none => rw [hu] at h; exact nomatch h
    | some d =>
      rw [hu] at h
      cases d with
      | slice e =>
        dsimp only at h
        cases hz : zeroL Γ e with
        | none => rw [hz] at h; exact nomatch h
        | some z =>
          rw [hz] at h
          simp only [Option.some.injEq] at h
          subst h
          exact IOK.loud rfl (clear_ok hΓ hu hz ho) (fun F tm => clear_good F tm z x) (fun tm tm' hA F => by funext R h K; simp only [I.clear, g ho (by simp) hA])
      | _ => exact nomatch h
  · exact nomatch h
end
end Go.X
