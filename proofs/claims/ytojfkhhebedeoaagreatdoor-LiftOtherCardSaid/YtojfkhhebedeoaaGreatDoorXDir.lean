/- A verified executor: direct code. Where ways meet, and around loops, just some temporaries are handed on; what direct code comes to, the compact code comes to. -/
import Derived.Test.YtojfkhhebedeoaaGreatDoorXOrc
set_option linter.unusedVariables false
set_option linter.unusedSimpArgs false
set_option linter.unusedSectionVars false
namespace Go.X
open Go.RowKit
noncomputable section

/-- Functions of so many values. -/
def ArrL (T : Type) (l : List Nat) : Type := List.rec T (fun _ _ A => V → A) l
def lamL {T : Type} (l : List Nat) : (Tm → T) → ArrL T l := @List.rec Nat (fun l => (Tm → T) → ArrL T l) (fun f => f []) (fun p _ ih f v => ih fun tm => f ((p, v) :: tm)) l
def appL {R : Type} (l : List Nat) : ArrL (H → Option R) l → Tm → H → Option R := @List.rec Nat (fun l => ArrL (H → Option R) l → Tm → H → Option R) (fun f _ h => f h) (fun p _ ih f tm h => Tp.getK (fun v => ih (f v) tm h) p tm) l
/-- Where ways meet. -/
def join {α R : Type} (b : α) (f : α → Option R) : Option R := f b
/-- Round by round. -/
def fixM {α : Type} (z : α) (f : α → α) (n : Nat) : α := Nat.rec z (fun _ ih => f ih) n
def fixN {α : Type} (z : α) (f : α → α) : α := fixM z f 1000000
def hdK {R : Type} (args : List V) (f : V → List V → Option R) : Option R := List.rec none (fun v l _ => f v l) args
def endK {R : Type} (args : List V) (b : Option R) : Option R := List.rec b (fun _ _ _ => none) args
def parK {R : Type} (ps : List Nat) : List V → Tm → (Tm → Option R) → Option R := List.rec (fun args tm k => endK args (k tm)) (fun p _ ih args tm k => hdK args fun v args => ih args ((p, v) :: tm) k) ps
/-- The first one, if it is of that name. -/
def kpK {R : Type} (p : Nat) (tm : Tm) (f : V → Tm → Option R) : Option R := List.rec none (fun q tm _ => Bool.rec none (f q.2 tm) (Nat.beq q.1 p)) tm
def endT {R : Type} (tm : Tm) (b : Option R) : Option R := List.rec b (fun _ _ _ => none) tm
def unzK {R : Type} (l : List Nat) : Tm → (Tm → Option R) → Option R := List.rec (fun tm k => endT tm (k [])) (fun p _ ih tm k => kpK p tm fun v tm => ih tm fun r => k ((p, v) :: r)) l
/-- A range over a function begins. -/
def rndK (F : CallF) : Kal Unit := fun R h K => Option.rec (K () h) (fun b => loopAt b R h fun _ h => K () h) F.rnd
/-- It ends. -/
def overF {R : Type} (b : Nat) (h : H) (k : Out → H → Option R) : Option R := loopAt b R h fun q h => Bool.rec (write b .dead R h fun _ h => k q.2.2.2.1 h) none (Nat.beq q.2.2.1 1)
/-- A round begins. -/
def busyK {R : Type} (b : Nat) (h : H) (k : H → Option R) : Option R := loopAt b R h fun q h => Bool.rec none (write b (.loop q.1 q.2.1 1 q.2.2.2.1 q.2.2.2.2) R h fun _ h => k h) (Nat.beq q.2.2.1 0)

def rdC1 (v : V) : Kal V := fun R h K => Option.rec none (fun p => ld1 p.1 p.2 R h K) v.toPtr
def rdCN (n : Nat) (v : V) : Kal (List V) := fun R h K => Option.rec none (fun p => ldN n p.1 p.2 R h K) v.toPtr
def condK {R : Type} (v : V) (f t : Option R) : Option R := Option.rec none (fun b => Bool.rec f t b) v.toBool
def outK {R : Type} (o : Out) (n : Option R) (x : Nat → Option R) (r : Option R) : Option R := Out.rec n (fun id => x id) r o
def idK {R : Type} (i id : Nat) (no yes : Option R) : Option R := Bool.rec no yes (Nat.beq i id)
def okP {R : Type} (notes : List Note) (ps : List (Nat × Nat)) (k : Option R) : Option R := Bool.rec none k (pairsOk notes ps)

/-- What is handed on where. -/
inductive An where
  | nil
  | mk (J : Option (List Nat)) (l r : An)
def An.J : An → Option (List Nat) := An.rec none fun J _ _ _ _ => J
def An.L : An → List Nat := An.rec [] fun J _ _ _ _ => Option.rec [] (fun l => l) J
def An.l : An → An := An.rec .nil fun _ l _ _ _ => l
def An.r : An → An := An.rec .nil fun _ _ r _ _ => r

abbrev KN (R : Type) := Tm → H → Option R
def shareJ {R : Type} (J : Option (List Nat)) : KN R → (KN R → Option R) → Option R := Option.rec (fun k f => f k) (fun l k f => join (lamL (T := H → Option R) l k) fun k => f fun tm h => appL l k tm h) J
def hasKeys (tm : Tm) : List Nat → Bool := List.rec true fun t _ ih => Option.rec false (fun _ => ih) (tm.get t)
def dRegN (F : CallF) (l : List (List Nat × Ins)) : Tm → Kal Tm :=
  List.rec (fun tm _ h K => K tm h) (fun p _ ih tm R h K => Bool.rec none (p.2.i F tm R h fun v h => ih (putD tm p.2.dst v) R h K) (hasKeys tm p.1)) l
/-- A region whose order is drawn: just what may touch the memory is noted. -/
def dRegD (F : CallF) (ps : List (Nat × Nat)) (l : List (List Nat × Bool × Ins)) : Tm → List Note → Nat → Kal Tm :=
  List.rec (fun tm notes _ _ h K => okP notes ps (K tm h))
    (fun p _ ih tm notes lo R h K => Bool.rec none (Bool.rec (p.2.2.i F tm R h fun v h => ih (putD tm p.2.2.dst v) (cat notes [⟨[], lo, lo⟩]) lo R h K)
      (logged (p.2.2.i F tm) R h fun r h => ih (putD tm p.2.2.dst r.1) (cat notes [⟨r.2.1, lo, r.2.2⟩]) r.2.2 R h K) p.2.1) (hasKeys tm p.1)) l

section
variable (Γ : Cx) (w nt g : Nat)
/-- Must it be noted? -/
def noted (o : Oper) : Bool := touches o.op || (cI0 Γ w o).isNone
def dR (F : CallF) (ops : List Oper) (draw : Bool) (tm : Tm) : Kal Tm := match allSome (cOper Γ w nt ops) ops with
  | none => fun _ _ _ => none
  | some l => if draw then (if drawOk ops then (fun R h K => nextOf R h fun lo h => dRegD F (pairs ops) ((ops.map (usesOf ops)).zip ((ops.map (noted Γ w)).zip l)) tm [] lo R h K) else fun _ _ _ => none)
    else dRegN F ((ops.map (usesOf ops)).zip l) tm

def dS (F : CallF) (R : Type) : Nat → Code → An → Tm → H → KN R → (Nat → KN R) → KN R → Option R
  | _, .skip, _, tm, h, kN, _, _ => kN tm h
  | _, .label _, _, tm, h, kN, _, _ => kN tm h
  | _, .region _ ops draw, _, tm, h, kN, _, _ => dR Γ w nt F ops.toList draw tm R h kN
  | j, .seq x y, a, tm, h, kN, kX, kR => dS F R j x a.l tm h (fun tm h => dS F R (j + nLoops x) y a.r tm h kN kX kR) kX kR
  | j, .cond c x y, a, tm, h, kN, kX, kR => (match cA Γ w c with
    | none => none
    | some ca => shareJ a.J kN fun kN => evK tm (fun v => condK v (dS F R (j + nLoops x) y a.r tm h kN kX kR) (dS F R j x a.l tm h kN kX kR)) ca)
  | j, .block id x, a, tm, h, kN, kX, kR => shareJ a.J kN fun kN => dS F R j x a.l tm h kN (fun i tm h => idK i id (kX i tm h) (kN tm h)) kR
  | j, .loop x, a, tm, h, kN, kX, kR => appL a.L (fixN (lamL (T := H → Option R) a.L fun _ _ => none) fun ih => lamL (T := H → Option R) a.L fun tm h => dS F R j x a.l tm h (fun tm h => appL a.L ih tm h) kX kR) tm h
  | _, .exit id, _, tm, h, _, kX, _ => kX id tm h
  | _, .ret, _, tm, h, _, _, kR => kR tm h
  | j, .scope x, a, tm, h, kN, kX, kR => dS F R j x a tm h kN kX kR
  | j, .rangeFunc f ps x y, _, tm, h, kN, kX, kR => (match cA Γ w f with
    | none => none
    | some cf => rndK F R h fun _ h => Option.rec none (fun tl => evK tm (fun v => newB (.loop g j 0 .normal tl) R h fun b h => callV F v [.yld b] R h fun _ h =>
        overF b h fun o h => outK o (kN tm h) (fun id => kX id tm h) (kR tm h)) cf) (tm.keep (keepOf ps.toList x y)))
  | _, _, _, _, _, _, _, _ => none

/-- A round of loop j. -/
def dRnd (F : CallF) (j : Nat) (ps : List Nat) (x y : Code) (a : An) (b : Nat) (tm0 : Tm) (args : List V) : Kal V := fun R h K =>
  unzK (keepOf ps x y) tm0 fun tm => parK ps args tm fun tm => dS Γ w nt g (F.inRound b) R (j + 1) x a.l tm h
    (fun tm h => busyK b h fun h => dS Γ w nt g (F.inRound b) R (j + 1 + nLoops x) y a.r tm h (fun _ h => roundE b .normal R h K) (fun id _ h => roundE b (.exit id) R h K) (fun _ h => roundE b .ret R h K))
    (fun _ _ _ => none) (fun _ _ => none)
abbrev RndD := CallF → Nat → Tm → List V → Kal V
def anAt (l : List An) : Nat → An := List.rec (fun _ => .nil) (fun x _ ih n => Nat.rec x (fun m _ => ih m) n) l
def dLs (as : List An) : Nat → Code → List RndD
  | j, .seq a b => dLs as j a ++ dLs as (j + nLoops a) b
  | j, .cond _ a b => dLs as j a ++ dLs as (j + nLoops a) b
  | j, .block _ a => dLs as j a
  | j, .loop a => dLs as j a
  | j, .scope a => dLs as j a
  | j, .rangeFunc _ ps x y => (fun F => dRnd Γ w nt g F j ps.toList x y (anAt as j)) :: (dLs as (j + 1) x ++ dLs as (j + 1 + nLoops x) y)
  | _, _ => []
end

/-- A function's direct code. -/
structure FnD where
  call : CallF → List V → Kal V
  rounds : List RndD
/-- A function's direct code, as it becomes. -/
def dF (Γ : Cx) (w g : Nat) (fn : Func) (a : An) (as : List An) : Option FnD := match cF Γ w g fn, fn.body with
  | some fc, some b => some ⟨fun F args R h K => parK fc.pars args [] fun tm => dS Γ w fn.ntmps g F R 0 b a tm h (fun tm h => resK tm fc.res R h fun l h => K (oneOf l) h) (fun _ _ _ => none) (fun tm h => resK tm fc.res R h fun l h => K (oneOf l) h),
      dLs Γ w fn.ntmps g as 0 b⟩
  | _, _ => none

/-! it comes to no more than the compact code -/
variable [Nu]
def sub (t' t : Tm) : Prop := ∀ p v, t'.get p = some v → t.get p = some v
theorem sub.refl (t : Tm) : sub t t := fun _ _ h => h
theorem sub.put {t' t : Tm} (h : sub t' t) (p : Nat) (v : V) : sub ((p, v) :: t') ((p, v) :: t) := fun q u hu => by
  rw [Tp.get_cons] at hu ⊢
  by_cases e : q = p
  · rw [if_pos e] at hu ⊢; exact hu
  · rw [if_neg e] at hu ⊢; exact h q u hu
theorem sub.putD {t' t : Tm} (h : sub t' t) (d : Option Path) (v : V) : sub (putD t' d v) (putD t d v) := by
  cases d with
  | none => exact h
  | some p => exact h.put p v
theorem sub.keep {t' t : Tm} (h : sub t' t) : ∀ {l : List Nat} {tl : Tm}, t'.keep l = some tl → t.keep l = some tl
  | [], tl, e => e
  | q :: l, tl, e => by
    have e' : (Option.rec none (fun v => Option.rec none (fun r => some ((q, v) :: r)) (t'.keep l)) (t'.get q) : Option Tm) = some tl := e
    obtain ⟨u, hu, h2⟩ := (optRec_some _ _ _).1 e'
    obtain ⟨r, hr, h3⟩ := (optRec_some _ _ _).1 h2
    show (Option.rec none (fun v => Option.rec none (fun r => some ((q, v) :: r)) (t.keep l)) (t.get q) : Option Tm) = some tl
    rw [h q u hu, sub.keep h hr]
    exact h3
theorem getK_of {R : Type} {tm : Tm} {p : Nat} {K : V → Option R} {r : R} : Tp.getK K p tm = some r ↔ ∃ v, tm.get p = some v ∧ K v = some r := by
  rw [Tp.getK_get]
  cases tm.get p with
  | none => simp
  | some v => simp
theorem evK_sub {R : Type} {t' t : Tm} (h : sub t' t) {K K' : V → Option R} (hk : ∀ v, Le (K v) (K' v)) (a : A) : Le (evK t' K a) (evK t K' a) := by
  cases a with
  | c v => exact hk v
  | t p =>
    intro r e
    obtain ⟨v, h1, h2⟩ := getK_of.1 (show Tp.getK K p t' = some r from e)
    exact getK_of.2 ⟨v, h p v h1, hk v r h2⟩
theorem appL_lamL {R : Type} (k : Tm → H → Option R) (h : H) (r : R) : ∀ (l : List Nat) (tm : Tm), appL l (lamL (T := H → Option R) l k) tm h = some r → ∃ t', sub t' tm ∧ k t' h = some r
  | l, tm => by
    have key : ∀ (l : List Nat) (k : Tm → H → Option R), appL l (lamL (T := H → Option R) l k) tm h = some r → ∃ t', sub t' tm ∧ k t' h = some r := by
      intro l
      induction l with
      | nil => intro k e; exact ⟨[], fun p v hv => (nomatch hv), e⟩
      | cons p l ih =>
        intro k e
        obtain ⟨v, h1, h2⟩ := getK_of.1 (show Tp.getK (fun v => appL l (lamL (T := H → Option R) l fun tm => k ((p, v) :: tm)) tm h) p tm = some r from e)
        obtain ⟨t', h3, h4⟩ := ih (fun tm => k ((p, v) :: tm)) h2
        refine ⟨(p, v) :: t', fun q u hu => ?_, h4⟩
        rw [Tp.get_cons] at hu
        by_cases e : q = p
        · rw [if_pos e] at hu
          simp only [Option.some.injEq] at hu
          rw [e, h1, hu]
        · rw [if_neg e] at hu; exact h3 q u hu
    exact key l k
theorem shareJ_some {R : Type} {J : Option (List Nat)} {k : KN R} {f : KN R → Option R} {r : R} (h : shareJ J k f = some r) : ∃ k', f k' = some r ∧ ∀ (tm : Tm) (h : H) (r : R), k' tm h = some r → ∃ t', sub t' tm ∧ k t' h = some r := by
  cases J with
  | none => exact ⟨k, h, fun tm h r e => ⟨tm, sub.refl tm, e⟩⟩
  | some l => exact ⟨fun tm h => appL l (lamL (T := H → Option R) l k) tm h, h, fun tm h r e => appL_lamL k h r l tm e⟩
theorem sub.trans {a b c : Tm} (h : sub a b) (h' : sub b c) : sub a c := fun p v e => h' p v (h p v e)
theorem hasKeys_get {tm : Tm} : ∀ {l : List Nat}, hasKeys tm l = true → ∀ t ∈ l, ∃ v, tm.get t = some v
  | [], _, t, ht => nomatch ht
  | x :: l, h, t, ht => by
    have h' : (Option.rec false (fun _ => hasKeys tm l) (tm.get x) : Bool) = true := h
    cases e : tm.get x with
    | none => rw [e] at h'; exact nomatch h'
    | some v =>
      rw [e] at h'
      rcases List.mem_cons.1 ht with rfl | ht
      · exact ⟨v, e⟩
      · exact hasKeys_get h' t ht

section
variable {Γ : Cx} (hΓ : Γ.Ok) {w nt g : Nat} {F F' : CallF} (hF : F'.le F) (hG : GoodF F)
include hΓ hF hG

theorem op_le {ops : Array Oper} {o : Oper} {io : Ins} (hc : cOper Γ w nt ops.toList o = some io) {t' t : Tm} (hs : sub t' t) (hk : hasKeys t' (usesOf ops.toList o) = true) : KLe (io.i F' t') (io.i F t) := by
  have hok := cOper_ok hΓ hc
  have e : io.i F t' = io.i F t := hok.cong t' t (fun x hx _ => by
    obtain ⟨v, hv⟩ := hasKeys_get hk x hx
    show t'.get x = t.get x
    rw [hv, hs x v hv]) F
  rw [← e]
  exact hok.mono F' F hF hG t'

theorem dRegN_le {ops : Array Oper} : ∀ (os : List Oper) (l : List Ins), allSome (cOper Γ w nt ops.toList) os = some l → ∀ {t' t : Tm}, sub t' t → ∀ (R : Type) (h : H) (K : Tm → H → Option R) (K' : Tm → H → Option R), (∀ t' t h, sub t' t → Le (K t' h) (K' t h)) →
    Le (dRegN F' ((os.map (usesOf ops.toList)).zip l) t' R h K) (regionN F l t R h K')
  | [], l, hl, t', t, hs, R, h, K, K', hk => by
    simp only [allSome, Option.some.injEq] at hl
    subst hl
    exact hk t' t h hs
  | o :: os, l, hl, t', t, hs, R, h, K, K', hk => by
    obtain ⟨io, l', h1, h2, rfl⟩ := (allSome_cons _ _ _ _).1 hl
    intro r e
    have e' : (Bool.rec none (io.i F' t' R h fun v h => dRegN F' ((os.map (usesOf ops.toList)).zip l') (putD t' io.dst v) R h K) (hasKeys t' (usesOf ops.toList o)) : Option R) = some r := e
    obtain ⟨hk1, e2⟩ := (boolRec_some _ _ _).1 e'
    exact op_le hΓ hF hG h1 hs hk1 R h _ _ (fun v h => dRegN_le os l' h2 (hs.putD io.dst v) R h K K' hk) r e2
theorem logged_kle {α : Type} {f f' : Kal α} (hf : KLe f f') : KLe (logged f) (logged f') := fun R h K K' hk => by
  rw [logged_eq, logged_eq]
  exact hf R _ _ _ fun a h1 => hk _ _
omit hΓ hF hG in
theorem calm_logged {α : Type} {f : Kal α} (hf : Calm f) (R : Type) (h : H) (K : α × List (Nat × Bool) × Nat → H → Option R) : logged f R h K = f R h fun a h' => K (a, [], h'.nx) h' := by
  obtain ⟨o, rfl⟩ := hf.eq
  rw [logged_eq]
  obtain ⟨hp, nx, lg, log⟩ := h
  cases o with
  | none => rfl
  | some a => cases lg <;> rfl
theorem dRegD_le {ops : Array Oper} (ps : List (Nat × Nat)) : ∀ (os : List Oper) (l : List Ins), allSome (cOper Γ w nt ops.toList) os = some l → ∀ {t' t : Tm}, sub t' t → ∀ (notes : List Note) (lo : Nat) (R : Type) (h : H) (K : Tm → H → Option R) (K' : Tm → H → Option R), lo = h.nx → (∀ t' t h, sub t' t → Le (K t' h) (K' t h)) →
    Le (dRegD F' ps ((os.map (usesOf ops.toList)).zip ((os.map (noted Γ w)).zip l)) t' notes lo R h K) (regionD F ps l t notes lo R h K')
  | [], l, hl, t', t, hs, notes, lo, R, h, K, K', hlo, hk => by
    simp only [allSome, Option.some.injEq] at hl
    subst hl
    intro r e
    obtain ⟨e1, e2⟩ := (boolRec_some _ _ _).1 (show (Bool.rec none (K t' h) (pairsOk notes ps) : Option R) = some r from e)
    exact (boolRec_some (pairsOk notes ps) (K' t h) r).2 ⟨e1, hk t' t h hs r e2⟩
  | o :: os, l, hl, t', t, hs, notes, lo, R, h, K, K', hlo, hk => by
    obtain ⟨io, l', h1, h2, rfl⟩ := (allSome_cons _ _ _ _).1 hl
    intro r e
    have e' : (Bool.rec none (Bool.rec (io.i F' t' R h fun v h => dRegD F' ps ((os.map (usesOf ops.toList)).zip ((os.map (noted Γ w)).zip l')) (putD t' io.dst v) (cat notes [⟨[], lo, lo⟩]) lo R h K)
      (logged (io.i F' t') R h fun r h => dRegD F' ps ((os.map (usesOf ops.toList)).zip ((os.map (noted Γ w)).zip l')) (putD t' io.dst r.1) (cat notes [⟨r.2.1, lo, r.2.2⟩]) r.2.2 R h K) (noted Γ w o)) (hasKeys t' (usesOf ops.toList o)) : Option R) = some r := e
    obtain ⟨hk1, e2⟩ := (boolRec_some _ _ _).1 e'
    have hle := op_le hΓ hF hG h1 hs hk1
    show logged (io.i F t) R h (fun r h => regionD F ps l' (putD t io.dst r.1) (cat notes [⟨r.2.1, lo, r.2.2⟩]) r.2.2 R h K') = some r
    cases hn : noted Γ w o with
    | true =>
      rw [hn] at e2
      dsimp only at e2
      rw [logged_eq] at e2 ⊢
      refine hle R _ _ _ (fun v h1 => ?_) r e2
      exact dRegD_le ps os l' h2 (hs.putD io.dst v) _ _ R _ K K' rfl hk
    | false =>
      rw [hn] at e2
      dsimp only at e2
      have ht : touches o.op = false := by
        unfold noted at hn
        simp only [Bool.or_eq_false_iff] at hn
        exact hn.1
      have hok := cOper_ok hΓ h1
      have c1 := hok.calm ht F' t'
      have c2 := hok.calm ht F t
      rw [calm_logged c2]
      obtain ⟨o1, q1⟩ := c1.eq
      obtain ⟨o2, q2⟩ := c2.eq
      rw [q1] at e2 hle
      rw [q2] at hle ⊢
      cases o1 with
      | none => exact nomatch e2
      | some a =>
        have hr : (lift o2 : Kal V) (V × H) h (fun a h => some (a, h)) = some (a, h) := hle (V × H) h (fun a h => some (a, h)) (fun a h => some (a, h)) (fun _ _ _ e => e) (a, h) rfl
        cases o2 with
        | none => exact nomatch hr
        | some a2 =>
          have hr' : some (a2, h) = some (a, h) := hr
          simp only [Option.some.injEq, Prod.mk.injEq, and_true] at hr'
          subst hr'
          subst hlo
          exact dRegD_le ps os l' h2 (hs.putD io.dst a2) _ _ R h K K' rfl hk r e2

theorem callV_mono (v : V) (l : List V) : KLe (callV F' v l) (callV F v l) := by
  intro R h K K' hk
  rw [callV_def, callV_def]
  cases v with
  | fn f a c => cases f with
    | func g => exact hF.call g _ R h K K' hk
    | _ => exact Le.none _
  | _ => exact Le.none _
theorem overF_le {R : Type} (b : Nat) (h : H) (tm : Tm) (k : Out → H → Option R) (K : Out × Tm → H → Option R) (hk : ∀ o h, Le (k o h) (K (o, tm) h)) : Le (overF b h k) (C.rangeE b tm R h K) := by
  unfold overF C.rangeE
  refine (loopAt_good b).kle R h _ _ fun q h => ?_
  cases Nat.beq q.2.2.1 1 with
  | false => exact (Good.write b .dead).kle R h _ _ fun _ h => hk _ h
  | true => exact Le.none _
theorem rangeG_le {R : Type} {j : Nat} {kl : List Nat} {cf : A} {t' t : Tm} (hs : sub t' t) (h : H) (k : Out → H → Option R) (K : Out × Tm → H → Option R) (hk : ∀ o h, Le (k o h) (K (o, t) h)) :
    Le (Option.rec none (fun tl => evK t' (fun v => newB (.loop g j 0 .normal tl) R h fun b h => callV F' v [.yld b] R h fun _ h => overF b h k) cf) (t'.keep kl) : Option R) (C.rangeG F g j kl cf t R h K) := by
  intro r e
  obtain ⟨tl, e1, e2⟩ := (optRec_some _ _ _).1 e
  refine (optRec_some _ _ _).2 ⟨tl, hs.keep e1, ?_⟩
  exact evK_sub hs (fun v => (Good.new _).kle R h _ _ fun b h => callV_mono hΓ hF hG v _ R h _ _ fun _ h => overF_le hΓ hF hG b h t k K hk) cf r e2

theorem dS_le : ∀ (j : Nat) (c : Code) (cc : C), cC Γ w nt g j c = some cc → ∀ (R : Type) (a : An) (t' t : Tm) (h : H) (kN : KN R) (kX : Nat → KN R) (kR : KN R) (K : Out × Tm → H → Option R), sub t' t →
    (∀ t' t h, sub t' t → Le (kN t' h) (K (.normal, t) h)) → (∀ id t' t h, sub t' t → Le (kX id t' h) (K (.exit id, t) h)) → (∀ t' t h, sub t' t → Le (kR t' h) (K (.ret, t) h)) →
    Le (dS Γ w nt g F' R j c a t' h kN kX kR) (cc F t R h K)
  | j, .skip, cc, hc, R, a, t', t, h, kN, kX, kR, K, hs, hN, hX, hR => by
    simp only [cC, Option.some.injEq] at hc
    subst hc
    rw [dS]
    exact hN t' t h hs
  | j, .label _, cc, hc, R, a, t', t, h, kN, kX, kR, K, hs, hN, hX, hR => by
    simp only [cC, Option.some.injEq] at hc
    subst hc
    rw [dS]
    exact hN t' t h hs
  | j, .exit id, cc, hc, R, a, t', t, h, kN, kX, kR, K, hs, hN, hX, hR => by
    simp only [cC, Option.some.injEq] at hc
    subst hc
    rw [dS]
    exact hX id t' t h hs
  | j, .ret, cc, hc, R, a, t', t, h, kN, kX, kR, K, hs, hN, hX, hR => by
    simp only [cC, Option.some.injEq] at hc
    subst hc
    rw [dS]
    exact hR t' t h hs
  | j, .goto _, cc, hc, R, a, t', t, h, kN, kX, kR, K, hs, hN, hX, hR => by
    simp only [dS]
    exact Le.none _
  | j, .refuse _, cc, hc, R, a, t', t, h, kN, kX, kR, K, hs, hN, hX, hR => by
    simp only [dS]
    exact Le.none _
  | j, .region id ops draw, cc, hc, R, a, t', t, h, kN, kX, kR, K, hs, hN, hX, hR => by
    rw [cC] at hc
    rw [dS]
    unfold dR
    cases hl : allSome (cOper Γ w nt ops.toList) ops.toList with
    | none => rw [hl] at hc; exact nomatch hc
    | some l =>
      rw [hl] at hc
      dsimp only at hc ⊢
      cases draw with
      | false =>
        simp only [Bool.false_eq_true, if_false, Option.some.injEq] at hc ⊢
        subst hc
        exact dRegN_le hΓ hF hG ops.toList l hl hs R h kN _ fun t' t h hs => hN t' t h hs
      | true =>
        simp only [if_true, Option.some.injEq] at hc ⊢
        by_cases hd : drawOk ops.toList = true
        · rw [if_pos hd] at hc ⊢
          simp only [Option.some.injEq] at hc
          subst hc
          exact dRegD_le hΓ hF hG (pairs ops.toList) ops.toList l hl hs [] h.nx R h kN _ rfl fun t' t h hs => hN t' t h hs
        · rw [if_neg hd]
          exact Le.none _
  | j, .seq x y, cc, hc, R, a, t', t, h, kN, kX, kR, K, hs, hN, hX, hR => by
    rw [cC] at hc
    cases hx : cC Γ w nt g j x with
    | none => rw [hx] at hc; exact nomatch hc
    | some cx =>
      cases hy : cC Γ w nt g (j + nLoops x) y with
      | none => rw [hx, hy] at hc; exact nomatch hc
      | some cy =>
        rw [hx, hy] at hc
        simp only [Option.some.injEq] at hc
        subst hc
        rw [dS]
        exact dS_le j x cx hx R a.l t' t h _ kX kR _ hs (fun t' t h hs => dS_le _ y cy hy R a.r t' t h kN kX kR K hs hN hX hR) (fun id t' t h hs => hX id t' t h hs) (fun t' t h hs => hR t' t h hs)
  | j, .cond c x y, cc, hc, R, a, t', t, h, kN, kX, kR, K, hs, hN, hX, hR => by
    rw [cC] at hc
    rw [dS]
    cases hca : cA Γ w c with
    | none => exact Le.none _
    | some ca =>
      rw [hca] at hc
      cases hx : cC Γ w nt g j x with
      | none => rw [hx] at hc; exact nomatch hc
      | some cx =>
        cases hy : cC Γ w nt g (j + nLoops x) y with
        | none => rw [hx, hy] at hc; exact nomatch hc
        | some cy =>
          rw [hx, hy] at hc
          simp only [Option.some.injEq] at hc
          subst hc
          dsimp only
          intro r e
          obtain ⟨k', e1, e2⟩ := shareJ_some e
          have hN' : ∀ t' t h, sub t' t → Le (k' t' h) (K (.normal, t) h) := fun t' t h hs r e => by
            obtain ⟨u, q1, q2⟩ := e2 t' h r e
            exact hN u t h (q1.trans hs) r q2
          refine evK_sub hs (fun v => ?_) ca r e1
          intro r e
          obtain ⟨b, q1, q2⟩ := (optRec_some _ _ _).1 e
          refine (optRec_some _ _ _).2 ⟨b, q1, ?_⟩
          cases b with
          | false => exact dS_le _ y cy hy R a.r t' t h k' kX kR K hs hN' hX hR r q2
          | true => exact dS_le j x cx hx R a.l t' t h k' kX kR K hs hN' hX hR r q2
  | j, .block id x, cc, hc, R, a, t', t, h, kN, kX, kR, K, hs, hN, hX, hR => by
    rw [cC] at hc
    rw [dS]
    cases hx : cC Γ w nt g j x with
    | none => rw [hx] at hc; exact nomatch hc
    | some cx =>
      rw [hx] at hc
      simp only [Option.some.injEq] at hc
      subst hc
      intro r e
      obtain ⟨k', e1, e2⟩ := shareJ_some e
      have hN' : ∀ t' t h, sub t' t → Le (k' t' h) (K (.normal, t) h) := fun t' t h hs r e => by
        obtain ⟨u, q1, q2⟩ := e2 t' h r e
        exact hN u t h (q1.trans hs) r q2
      refine dS_le j x cx hx R a.l t' t h k' _ kR (fun r h => C.blockK id r R h K) hs hN' (fun i t' t h hs => ?_) (fun t' t h hs => hR t' t h hs) r e1
      show Le (idK i id (kX i t' h) (k' t' h)) (Bool.rec (K (.exit i, t) h) (K (.normal, t) h) (Nat.beq i id) : Option R)
      unfold idK
      cases Nat.beq i id with
      | false => exact hX i t' t h hs
      | true => exact hN' t' t h hs
  | j, .loop x, cc, hc, R, a, t', t, h, kN, kX, kR, K, hs, hN, hX, hR => by
    rw [cC] at hc
    rw [dS]
    cases hx : cC Γ w nt g j x with
    | none => rw [hx] at hc; exact nomatch hc
    | some cx =>
      rw [hx] at hc
      simp only [Option.some.injEq] at hc
      subst hc
      unfold fixN C.loop
      generalize 1000000 = n
      have key : ∀ (n : Nat) (t' t : Tm) (h : H), sub t' t → Le (appL a.L (fixM (lamL (T := H → Option R) a.L fun _ _ => none) (fun ih => lamL (T := H → Option R) a.L fun tm h => dS Γ w nt g F' R j x a.l tm h (fun tm h => appL a.L ih tm h) kX kR) n) t' h) (C.loopN cx F n t R h K) := by
        intro n
        induction n with
        | zero =>
          intro t' t h hs r e
          obtain ⟨u, q1, q2⟩ := appL_lamL (fun _ _ => none) h r a.L t' e
          exact nomatch q2
        | succ n ih =>
          intro t' t h hs r e
          obtain ⟨u, q1, q2⟩ := appL_lamL _ h r a.L t' e
          refine dS_le j x cx hx R a.l u t h _ kX kR (fun r h => Out.rec (C.loopN cx F n r.2 R h K) (fun id => K (.exit id, r.2) h) (K (.ret, r.2) h) r.1) (q1.trans hs) (fun t' t h hs => ih t' t h hs) (fun id t' t h hs => hX id t' t h hs) (fun t' t h hs => hR t' t h hs) r q2
      exact key n t' t h hs
  | j, .scope x, cc, hc, R, a, t', t, h, kN, kX, kR, K, hs, hN, hX, hR => by
    rw [cC] at hc
    rw [dS]
    cases hx : cC Γ w nt g j x with
    | none => rw [hx] at hc; exact nomatch hc
    | some cx =>
      rw [hx] at hc
      simp only [Option.some.injEq] at hc
      subst hc
      exact dS_le j x cx hx R a t' t h kN kX kR K hs hN hX hR
  | j, .rangeFunc f ps x y, cc, hc, R, a, t', t, h, kN, kX, kR, K, hs, hN, hX, hR => by
    rw [cC] at hc
    rw [dS]
    cases hf : cA Γ w f with
    | none => exact Le.none _
    | some cf =>
      rw [hf] at hc
      dsimp only at hc ⊢
      split at hc
      · simp only [Option.some.injEq] at hc
        subst hc
        have hk : ∀ o h, Le (outK o (kN t' h) (fun id => kX id t' h) (kR t' h)) (K (o, t) h) := fun o h => by
          cases o with
          | normal => exact hN t' t h hs
          | exit id => exact hX id t' t h hs
          | ret => exact hR t' t h hs
        unfold rndK C.rangeF
        rw [hF.rnd]
        cases F.rnd with
        | none => exact rangeG_le hΓ hF hG hs h _ K hk
        | some b => exact (loopAt_good b).kle R h _ _ fun _ h => rangeG_le hΓ hF hG hs h _ K hk
      · exact nomatch hc
end
end
end Go.X
