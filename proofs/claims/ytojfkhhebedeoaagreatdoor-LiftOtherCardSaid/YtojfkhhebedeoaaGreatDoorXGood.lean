/- A verified executor, part 16: every instruction is a good calculation, and hangs on its operands alone. -/
import Derived.Test.YtojfkhhebedeoaaGreatDoorXOpI
set_option linter.unusedVariables false
set_option linter.unusedSimpArgs false
set_option linter.unusedSectionVars false
namespace Go.X
open Go.RowKit
variable [Nu]

theorem evK_eq {R : Type} (tm : Tm) (K : V → Option R) (a : A) : evK tm K a = (evA tm a).bind K := by
  cases a with
  | t p =>
    show Tp.getK K p tm = _
    rw [Tp.getK_get]
    show _ = (tm.get p).bind K
    cases tm.get p <;> rfl
  | c v => rfl
theorem evsK_eq {R : Type} (tm : Tm) : ∀ (l : List A) (K : List V → Option R), evsK tm l K = (evAs tm l).bind K
  | [], K => rfl
  | a :: l, K => by
    rw [evsK_cons, evK_eq, evAs, evsK_cons, evK_eq]
    cases evA tm a with
    | none => rfl
    | some v =>
      show evsK tm l _ = (evsK tm l _).bind K
      rw [evsK_eq tm l, evsK_eq tm l]
      cases evAs tm l <;> rfl

/-- A calculation that leaves the memory alone. -/
def Calm {α : Type} (f : Kal α) : Prop := ∃ o : Option α, ∀ (R : Type) (h : H) (K : α → H → Option R), f R h K = o.bind fun a => K a h
theorem Calm.eq {α : Type} {f : Kal α} (c : Calm f) : ∃ o, f = lift o := by
  obtain ⟨o, ho⟩ := c
  refine ⟨o, ?_⟩
  funext R h K
  rw [ho]
  cases o <;> rfl
theorem Calm.good {α : Type} {f : Kal α} (c : Calm f) : Good f := by obtain ⟨o, rfl⟩ := c.eq; exact Good.lift o
theorem Calm.stays {α : Type} {f : Kal α} (c : Calm f) {h : H} {a : α} {h' : H} (e : run f h = some (a, h')) : h' = h := by
  obtain ⟨o, rfl⟩ := c.eq
  exact (run_lift.1 e).2
theorem Calm.fail {α : Type} : Calm (fun _ _ _ => none : Kal α) := ⟨none, fun _ _ _ => rfl⟩
theorem Calm.pure {α : Type} (a : α) : Calm (fun _ h K => K a h) := ⟨some a, fun _ _ _ => rfl⟩
theorem Calm.ev {α : Type} {tm : Tm} {a : A} {f : V → Kal α} (hf : ∀ v, Calm (f v)) : Calm (fun R h K => evK tm (fun v => f v R h K) a) := by
  cases e : evA tm a with
  | none => exact ⟨none, fun R h K => by dsimp only; rw [evK_eq, e]; rfl⟩
  | some v => obtain ⟨o, ho⟩ := hf v; exact ⟨o, fun R h K => by dsimp only; rw [evK_eq, e]; exact ho R h K⟩
theorem Calm.evs {α : Type} {tm : Tm} {l : List A} {f : List V → Kal α} (hf : ∀ v, Calm (f v)) : Calm (fun R h K => evsK tm l (fun v => f v R h K)) := by
  cases e : evAs tm l with
  | none => exact ⟨none, fun R h K => by dsimp only; rw [evsK_eq, e]; rfl⟩
  | some v => obtain ⟨o, ho⟩ := hf v; exact ⟨o, fun R h K => by dsimp only; rw [evsK_eq, e]; exact ho R h K⟩
theorem Calm.opt {α β : Type} (o : Option β) {f : β → Kal α} (hf : ∀ v, Calm (f v)) : Calm (fun R h K => (Option.rec none (fun v => f v R h K) o : Option R)) := by
  cases o with
  | none => exact Calm.fail
  | some v => exact hf v
theorem Calm.bool {α : Type} (b : Bool) {f : Kal α} (hf : Calm f) : Calm (fun R h K => (Bool.rec none (f R h K) b : Option R)) := by
  cases b with
  | false => exact Calm.fail
  | true => exact hf
theorem Calm.bound {α : Type} {tm : Tm} {o : Option A} {f : Option Nat → Kal α} (hf : ∀ v, Calm (f v)) : Calm (fun R h K => boundK tm o (fun v => f v R h K)) := by
  cases o with
  | none => exact hf none
  | some a =>
    have e0 : (fun R h K => boundK tm (some a) (fun v => f v R h K) : Kal α) = (fun R h K => evK tm (fun v => match v with | .int _ (.ofNat n) => f (some n) R h K | _ => none) a) := by
      funext R h K
      rw [boundK_def]
      exact evK_same tm a fun v => by cases v <;> first | rfl | (rename_i n; cases n <;> rfl)
    rw [e0]
    refine Calm.ev (f := fun v R h K => match v with | .int _ (.ofNat n) => f (some n) R h K | _ => none) fun v => ?_
    cases v with
    | int k n => cases n with
      | ofNat n => exact hf (some n)
      | negSucc n => exact Calm.fail
    | _ => exact Calm.fail

theorem Good.ev {α : Type} {tm : Tm} {a : A} {f : V → Kal α} (hf : ∀ v, Good (f v)) : Good (fun R h K => evK tm (fun v => f v R h K) a) := by
  have e0 : (fun R h K => evK tm (fun v => f v R h K) a) = (fun R h K => (evA tm a).bind fun v => f v R h K) := by funext R h K; rw [evK_eq]
  rw [e0]
  cases evA tm a with
  | none => exact Good.fail
  | some v => exact hf v
theorem Good.evs {α : Type} {tm : Tm} {l : List A} {f : List V → Kal α} (hf : ∀ v, Good (f v)) : Good (fun R h K => evsK tm l (fun v => f v R h K)) := by
  have e0 : (fun R h K => evsK tm l (fun v => f v R h K)) = (fun R h K => (evAs tm l).bind fun v => f v R h K) := by funext R h K; rw [evsK_eq]
  rw [e0]
  cases evAs tm l with
  | none => exact Good.fail
  | some v => exact hf v
theorem Good.opt {α β : Type} (o : Option β) {f : β → Kal α} (hf : ∀ v, Good (f v)) : Good (fun R h K => (Option.rec none (fun v => f v R h K) o : Option R)) := by
  cases o with
  | none => exact Good.fail
  | some v => exact hf v
theorem Good.bool {α : Type} (b : Bool) {f : Kal α} (hf : Good f) : Good (fun R h K => (Bool.rec none (f R h K) b : Option R)) := by
  cases b with
  | false => exact Good.fail
  | true => exact hf
theorem Good.two {α : Type} (b : Bool) {f g : Kal α} (hf : Good f) (hg : Good g) : Good (fun R h K => (Bool.rec (f R h K) (g R h K) b : Option R)) := by
  cases b with
  | false => exact hf
  | true => exact hg

/-! lists -/
theorem nthK_bind {R : Type} (K : V → Option R) (l : List V) (n : Nat) : nthK K l n = (l[n]?).bind K := by
  apply Option.ext
  intro r
  rw [nthK_some, Option.bind_eq_some_iff]
theorem takeK_bind {R : Type} (n : Nat) (l : List V) (K : List V → Option R) : takeK n l K = (if n ≤ l.length then some (l.take n) else none : Option (List V)).bind K := by
  apply Option.ext
  intro r
  rw [takeK_some, Option.bind_eq_some_iff]
  by_cases c : n ≤ l.length
  · simp [c]
  · simp [c]
theorem putAtK_bind {R : Type} (vs : List V) (K : List V → Option R) (l : List V) (o : Nat) : putAtK vs K l o = (if o + vs.length ≤ l.length then some (l.take o ++ (vs ++ l.drop (o + vs.length))) else none : Option (List V)).bind K := by
  apply Option.ext
  intro r
  rw [putAtK_some, Option.bind_eq_some_iff]
  by_cases c : o + vs.length ≤ l.length
  · simp [c]
  · simp [c]
theorem Good.bindO {α β : Type} (o : Option β) {f : β → Kal α} (hf : ∀ v, Good (f v)) : Good (fun R h K => (o.bind fun v => f v R h K)) := by
  cases o with
  | none => exact Good.fail
  | some v => exact hf v
theorem Good.nth {α : Type} (l : List V) (n : Nat) {f : V → Kal α} (hf : ∀ v, Good (f v)) : Good (fun R h K => nthK (fun v => f v R h K) l n) := by
  have e0 : (fun R h K => nthK (fun v => f v R h K) l n) = (fun R h K => (l[n]?).bind fun v => f v R h K) := by funext R h K; rw [nthK_bind]
  rw [e0]
  exact Good.bindO _ hf
theorem Good.take {α : Type} (l : List V) (n : Nat) {f : List V → Kal α} (hf : ∀ v, Good (f v)) : Good (fun R h K => takeK n l (fun v => f v R h K)) := by
  have e0 : (fun R h K => takeK n l (fun v => f v R h K)) = (fun R h K => (if n ≤ l.length then some (l.take n) else none : Option (List V)).bind fun v => f v R h K) := by funext R h K; rw [takeK_bind]
  rw [e0]
  exact Good.bindO _ hf
theorem Good.putAt {α : Type} (vs l : List V) (o : Nat) {f : List V → Kal α} (hf : ∀ v, Good (f v)) : Good (fun R h K => putAtK vs (fun v => f v R h K) l o) := by
  have e0 : (fun R h K => putAtK vs (fun v => f v R h K) l o) = (fun R h K => (if o + vs.length ≤ l.length then some (l.take o ++ (vs ++ l.drop (o + vs.length))) else none : Option (List V)).bind fun v => f v R h K) := by
    funext R h K; rw [putAtK_bind]
  rw [e0]
  exact Good.bindO _ hf

/-- A filling, told. -/
noncomputable def filled (tm : Tm) (ps : List (Nat × Nat × A)) (z : List V) : Option (List V) := fillK tm ps z some
theorem fillK_bind {R : Type} (tm : Tm) : ∀ (ps : List (Nat × Nat × A)) (z : List V) (K : List V → Option R), fillK tm ps z K = (filled tm ps z).bind K
  | [], z, K => rfl
  | p :: ps, z, K => by
    show evK tm (fun v => (Bool.rec none (putAtK v.cells (fun z => fillK tm ps z K) z p.1) (Nat.beq p.2.1 (len v.cells)) : Option R)) p.2.2 =
      (evK tm (fun v => (Bool.rec none (putAtK v.cells (fun z => fillK tm ps z some) z p.1) (Nat.beq p.2.1 (len v.cells)) : Option (List V))) p.2.2).bind K
    rw [evK_eq, evK_eq]
    cases evA tm p.2.2 with
    | none => rfl
    | some v =>
      show (Bool.rec _ _ _ : Option R) = Option.bind (Bool.rec _ _ _) K
      cases Nat.beq p.2.1 (len v.cells) with
      | false => rfl
      | true =>
        show putAtK _ _ _ _ = (putAtK _ _ _ _).bind K
        rw [putAtK_bind, putAtK_bind]
        split
        · show fillK tm ps _ K = (fillK tm ps _ some).bind K
          rw [fillK_bind tm ps _ K]; rfl
        · rfl
theorem Calm.fill {α : Type} {tm : Tm} {ps : List (Nat × Nat × A)} {z : List V} {f : List V → Kal α} (hf : ∀ v, Calm (f v)) : Calm (fun R h K => fillK tm ps z (fun v => f v R h K)) := by
  cases e : filled tm ps z with
  | none => exact ⟨none, fun R h K => by dsimp only; rw [fillK_bind, e]; rfl⟩
  | some v => obtain ⟨o, ho⟩ := hf v; exact ⟨o, fun R h K => by dsimp only; rw [fillK_bind, e]; exact ho R h K⟩
theorem Good.fill {α : Type} {tm : Tm} {ps : List (Nat × Nat × A)} {z : List V} {f : List V → Kal α} (hf : ∀ v, Good (f v)) : Good (fun R h K => fillK tm ps z (fun v => f v R h K)) := by
  have e0 : (fun R h K => fillK tm ps z (fun v => f v R h K)) = (fun R h K => (filled tm ps z).bind fun v => f v R h K) := by funext R h K; rw [fillK_bind]
  rw [e0]
  exact Good.bindO _ hf

/-! memory -/
theorem ld1_good (b o : Nat) : Good (ld1 b o) := by
  rw [ld1_def]
  refine Good.bind (Good.read b) (k := fun k R h K => match k with | .cells c _ _ => nthK (fun v => K v h) c o | _ => none) fun k => ?_
  cases k with
  | cells c w y => exact Good.nth c o (f := fun v _ h K => K v h) fun v => Good.pure v
  | _ => exact Good.fail
theorem ldN_good (n b o : Nat) : Good (ldN n b o) := by
  rw [ldN_def]
  refine Good.bind (Good.read b) (k := fun k R h K => match k with | .cells c _ _ => takeK n (dropN c o) fun l => K l h | _ => none) fun k => ?_
  cases k with
  | cells c w y => exact Good.take (dropN c o) n (f := fun v _ h K => K v h) fun v => Good.pure v
  | _ => exact Good.fail
theorem stW_good (b o : Nat) (l : List V) (k : Blk) : Good (stW b o l k) := by
  cases k with
  | cells c w y => exact Good.bool w (f := fun R h K => putAtK l (fun c => write b (.cells c true y) R h K) c o) (Good.putAt l c o (f := fun c => write b (.cells c true y)) fun c => Good.write b _)
  | _ => exact Good.fail
theorem stN_good (b o : Nat) (l : List V) : Good (stN b o l) :=
  Good.bool (allOne l) (f := fun R h K => read b R h fun k h => stW b o l k R h K) (Good.bind (Good.read b) fun k => stW_good b o l k)
theorem st1_good (b o : Nat) (v : V) : Good (st1 b o v) :=
  Good.bool v.one (f := fun R h K => read b R h fun k h => stW b o [v] k R h K) (Good.bind (Good.read b) fun k => stW_good b o [v] k)
theorem newCellsY_good (l : List V) (y : Nat) : Good (newCellsY l y) := Good.bool (allOne l) (Good.new _)
theorem newCells_good (l : List V) : Good (newCells l) := newCellsY_good l 0
theorem grow_good (es : Nat) (y : Nat) (l : List V) (n : Nat) : Good (grow es y l n) := Good.bind (newCellsY_good l y) (k := fun b _ h K => K (V.slice b 0 n es none) h) fun b => Good.pure _
theorem appended_good (es : Nat) (y : V) : Good (appended es y) := by
  cases y with
  | nils => exact Good.pure []
  | emp => exact Good.pure []
  | slice b o n es' cap => exact Good.bool (Nat.beq es es') (ldN_good (Nat.mul n es) b o)
  | str t => exact Good.bool (Nat.beq es 1) (f := fun R h K => K (t.map fun n => V.int .u8 (Int.ofNat n)) h) (Good.pure _)
  | bigs es' l m =>
    exact Good.opt _ (f := fun n R h K => (Bool.rec none (Bool.rec none (K l h) (Nat.beq (Nat.mul n es) (len l))) (Nat.beq es es') : Option R)) fun n =>
      Good.bool _ (f := fun R h K => (Bool.rec none (K l h) (Nat.beq (Nat.mul n es) (len l)) : Option R)) (Good.bool _ (f := fun _ h K => K l h) (Good.pure _))
  | _ => exact Good.fail
theorem growV_good (es bytes : Nat) (y : Nat) (b o n : Nat) (cap : Option Nat) (l c : List V) (w : Bool) : Good (growV es bytes y b o n cap l c w) := by
  rw [growV_def]
  cases cap with
  | some q =>
    exact Good.bool (Nat.ble (Nat.mul (Nat.add n (Nat.div l.length es)) bytes) 1048576) (f := fun R h K => takeK (Nat.mul n es) (dropN c o) fun old => grow es y (old ++ l) (Nat.add n (Nat.div l.length es)) R h K)
      (Good.take _ _ (f := fun old => grow es y (old ++ l) (Nat.add n (Nat.div l.length es))) fun old => grow_good _ _ _ _)
  | none =>
    exact Good.bool (Nat.ble (Nat.mul (Nat.add n (Nat.div l.length es)) bytes) 1048576)
      (f := fun R h K => takeK (Nat.mul n es) (dropN c o) fun old => (Bool.rec none (Bool.rec none (Bool.rec none (write b .dead R h fun _ h => grow es y (old ++ l) (Nat.add n (Nat.div l.length es)) R h K) w) (Nat.beq (Nat.mul n es) c.length)) (Nat.beq o 0) : Option R))
      (Good.take _ _ (f := fun old R h K => (Bool.rec none (Bool.rec none (Bool.rec none (write b .dead R h fun _ h => grow es y (old ++ l) (Nat.add n (Nat.div l.length es)) R h K) w) (Nat.beq (Nat.mul n es) c.length)) (Nat.beq o 0) : Option R)) fun old =>
        Good.bool _ (f := fun R h K => (Bool.rec none (Bool.rec none (write b .dead R h fun _ h => grow es y (old ++ l) (Nat.add n (Nat.div l.length es)) R h K) w) (Nat.beq (Nat.mul n es) c.length) : Option R))
        (Good.bool _ (f := fun R h K => (Bool.rec none (write b .dead R h fun _ h => grow es y (old ++ l) (Nat.add n (Nat.div l.length es)) R h K) w : Option R))
        (Good.bool _ (f := fun R h K => write b .dead R h fun _ h => grow es y (old ++ l) (Nat.add n (Nat.div l.length es)) R h K) (Good.bind (Good.write b .dead) fun _ => grow_good _ _ _ _))))
theorem appendB_good (es bytes : Nat) (y : Nat) (b o n : Nat) (cap : Option Nat) (l : List V) (k : Blk) : Good (appendB es bytes y b o n cap l k) := by
  rw [appendB_def]
  cases k with
  | cells c w y0 => exact Good.two _ (f := growV es bytes (Bool.rec 0 y (Nat.beq y y0)) b o n cap l c w) (g := fun R h K => stN b (Nat.add o (Nat.mul n es)) l R h fun _ h => K (V.slice b o (Nat.add n (Nat.div l.length es)) es cap) h) (growV_good _ _ _ _ _ _ _ _ _ _) (Good.bind (stN_good _ _ _) (k := fun _ _ h K => K _ h) fun _ => Good.pure _)
  | _ => exact Good.fail
theorem appendL_good (es bytes : Nat) (y : Nat) (x : V) (l : List V) : Good (appendL es bytes y x l) := by
  rw [appendL_def]
  cases x with
  | nils => exact Good.bool _ (grow_good es y l _)
  | slice b o n es' cap => exact Good.bool (Nat.beq es es') (f := fun R h K => read b R h fun k h => appendB es bytes y b o n cap l k R h K) (Good.bind (Good.read b) fun k => appendB_good _ _ _ _ _ _ _ _ k)
  | _ => exact Good.fail
theorem appendV_good (es bytes : Nat) (q : Nat) (x y : V) : Good (appendV es bytes q x y) :=
  Good.bind (appended_good es y) (k := fun l R h K => (Bool.rec (appendL es bytes q x l R h K) (Bool.rec none (K x h) (isSlice x)) (isNil l) : Option R)) fun l =>
    Good.two (isNil l) (g := fun R h K => (Bool.rec none (K x h) (isSlice x) : Option R)) (appendL_good es bytes q x l) (Good.bool (isSlice x) (f := fun _ h K => K x h) (Good.pure x))

/-! instructions that leave the memory alone -/
section
variable (F : CallF) (tm : Tm)

theorem mov_calm (x : A) : Calm (I.mov x F tm) := Calm.ev (f := fun v _ h K => K v h) fun v => Calm.pure v
theorem pick_calm (c a b : A) : Calm (I.pick c a b F tm) := by
  rw [I.pick_def]
  refine Calm.ev (f := fun v R h K => match v with | .bool true => evK tm (fun v => evK tm (fun _ => K v h) b) a | .bool false => evK tm (fun _ => evK tm (fun v => K v h) b) a | _ => none) fun v => ?_
  cases v with
  | bool q => cases q with
    | true => exact Calm.ev (f := fun v _ h K => evK tm (fun _ => K v h) b) fun v => Calm.ev (f := fun _ _ h K => K v h) fun _ => Calm.pure v
    | false => exact Calm.ev (f := fun _ _ h K => evK tm (fun v => K v h) b) fun _ => Calm.ev (f := fun v _ h K => K v h) fun v => Calm.pure v
  | _ => exact Calm.fail
theorem build_calm (z : List V) (ps : List (Nat × Nat × A)) : Calm (I.build z ps F tm) := Calm.fill (f := fun l _ h K => K (V.agg l) h) fun l => Calm.pure _
theorem nilck_calm (x : A) : Calm (I.nilck x F tm) := by
  rw [I.nilck_def]
  refine Calm.ev (f := fun v R h K => match v with | .ptr b o => K (V.ptr b o) h | .fn (.func f) a c => K (V.fn (.func f) a c) h | .view l => K (V.view l) h | _ => none) fun v => ?_
  cases v with
  | ptr b o => exact Calm.pure _
  | view l => exact Calm.pure _
  | fn f a c => cases f with
    | func f => exact Calm.pure _
    | _ => exact Calm.fail
  | _ => exact Calm.fail
theorem bin_calm (op : BinOp) (x y : A) : Calm (I.bin op x y F tm) :=
  Calm.ev (f := fun v R h K => evK tm (fun u => Option.rec none (fun r => K r h) (binF F op v u)) y) fun v => Calm.ev (f := fun u R h K => Option.rec none (fun r => K r h) (binF F op v u)) fun u =>
    Calm.opt (binF F op v u) (f := fun r _ h K => K r h) fun r => Calm.pure r
theorem binB_calm (op : BinOp) (x y : A) : Calm (I.binB op x y F tm) := by
  rw [I.binB_def]
  refine Calm.ev (f := fun v R h K => match v with | .bool a => evK tm (fun u => match u with | .bool b => Option.rec none (fun r => K r h) (boolV op a b) | _ => none) y | _ => none) fun v => ?_
  cases v with
  | bool a =>
    refine Calm.ev (f := fun u R h K => match u with | .bool b => Option.rec none (fun r => K r h) (boolV op a b) | _ => none) fun u => ?_
    cases u with
    | bool b => exact Calm.opt (boolV op a b) (f := fun r _ h K => K r h) fun r => Calm.pure r
    | _ => exact Calm.fail
  | _ => exact Calm.fail
theorem eqs_calm (neg : Bool) (ks : List FK) (x y : A) : Calm (I.eqs neg ks x y F tm) := by
  rw [I.eqs_def]
  refine Calm.ev (f := fun v R h K => match v with | .agg a => evK tm (fun u => match u with | .agg b => Option.rec none (fun r => K (V.bool (Bool.rec r (Bool.not r) neg)) h) (flatEq ks a b) | _ => none) y | _ => none) fun v => ?_
  cases v with
  | agg a =>
    refine Calm.ev (f := fun u R h K => match u with | .agg b => Option.rec none (fun r => K (V.bool (Bool.rec r (Bool.not r) neg)) h) (flatEq ks a b) | _ => none) fun u => ?_
    cases u with
    | agg b => exact Calm.opt (flatEq ks a b) (f := fun r _ h K => K (V.bool (Bool.rec r (Bool.not r) neg)) h) fun r => Calm.pure _
    | _ => exact Calm.fail
  | _ => exact Calm.fail
theorem nilK_calm (f : V → Option Bool) (neg : Bool) (x : A) : Calm (I.nilK f neg x F tm) :=
  Calm.ev (f := fun v R h K => Option.rec none (fun r => K (V.bool (Bool.rec r (Bool.not r) neg)) h) (f v)) fun v => Calm.opt (f v) (f := fun r _ h K => K (V.bool (Bool.rec r (Bool.not r) neg)) h) fun r => Calm.pure _
theorem not_calm (x : A) : Calm (I.not x F tm) := by
  rw [I.not_def]
  refine Calm.ev (f := fun v R h K => match v with | .bool b => K (V.bool (Bool.not b)) h | _ => none) fun v => ?_
  cases v <;> first | exact Calm.pure _ | exact Calm.fail
theorem neg_calm (x : A) : Calm (I.neg x F tm) := by
  rw [I.neg_def]
  refine Calm.ev (f := fun v R h K => match v with | .int k n => Option.rec none (fun r => K r h) (intV k (Int.sub 0 n)) | _ => none) fun v => ?_
  cases v with
  | int k n => exact Calm.opt (intV k (Int.sub 0 n)) (f := fun r _ h K => K r h) fun r => Calm.pure r
  | _ => exact Calm.fail
theorem conv_calm (k : IntKind) (x : A) : Calm (I.conv k x F tm) := by
  rw [I.conv_def]
  refine Calm.ev (f := fun v R h K => match v with | .int _ n => Option.rec none (fun r => K r h) (intV k n) | _ => none) fun v => ?_
  cases v with
  | int k' n => exact Calm.opt (intV k n) (f := fun r _ h K => K r h) fun r => Calm.pure r
  | _ => exact Calm.fail
theorem same_calm (x : A) : Calm (I.same x F tm) := by
  rw [I.same_def]
  refine Calm.ev (f := fun v R h K => match v with | .str s => K (V.str s) h | _ => none) fun v => ?_
  cases v <;> first | exact Calm.pure _ | exact Calm.fail
theorem iface_calm (t : Nat) (x : A) : Calm (I.iface t x F tm) := Calm.ev (f := fun v _ h K => K (V.iface t v) h) fun v => Calm.pure _
theorem fn_calm (f : Fn) (a b : List A) : Calm (I.fn f a b F tm) :=
  Calm.evs (f := fun l R h K => evsK tm b fun m => K (V.fn f l m) h) fun l => Calm.evs (f := fun m _ h K => K (V.fn f l m) h) fun m => Calm.pure _
theorem cutS_calm (lo hi : Option A) (x : A) : Calm (I.cutS lo hi x F tm) :=
  Calm.ev (f := fun v R h K => boundK tm lo fun lo => boundK tm hi fun hi => Option.rec none (fun r => K r h) (sliceS v lo hi)) fun v =>
    Calm.bound (f := fun lo R h K => boundK tm hi fun hi => Option.rec none (fun r => K r h) (sliceS v lo hi)) fun lo =>
      Calm.bound (f := fun hi R h K => Option.rec none (fun r => K r h) (sliceS v lo hi)) fun hi => Calm.opt (sliceS v lo hi) (f := fun r _ h K => K r h) fun r => Calm.pure r
theorem sliceF_good (es : Nat) (p : Nat × Nat × Nat × Nat × Option Nat) (l q : Nat) : Good (sliceF es p l q) := by
  have e : sliceF es p l q = fun R h K => read p.1 R h fun k h => (match k with
      | .cells c _ _ => (fun R h K => Bool.rec none (Bool.rec none (Bool.rec none (K (.slice p.1 (Nat.add p.2.1 (Nat.mul l es)) (Nat.sub q l) es none) h) (Nat.ble (Nat.succ l) q)) (Nat.ble (Nat.add p.2.1 (Nat.mul q es)) (len c))) (Nat.beq es p.2.2.2.1) : Kal V)
      | _ => fun _ _ _ => none) R h K := by
    funext R h K
    unfold sliceF
    congr 1
    funext k h
    cases k <;> rfl
  rw [e]
  refine Good.bind (Good.read p.1) (k := fun k => (match k with
      | .cells c _ _ => (fun R h K => Bool.rec none (Bool.rec none (Bool.rec none (K (.slice p.1 (Nat.add p.2.1 (Nat.mul l es)) (Nat.sub q l) es none) h) (Nat.ble (Nat.succ l) q)) (Nat.ble (Nat.add p.2.1 (Nat.mul q es)) (len c))) (Nat.beq es p.2.2.2.1) : Kal V)
      | _ => fun _ _ _ => none)) fun k => ?_
  cases k with
  | cells c q' y =>
    dsimp only
    generalize Nat.beq es p.2.2.2.1 = b1
    generalize Nat.ble (Nat.add p.2.1 (Nat.mul q es)) (len c) = b2
    generalize Nat.ble (Nat.succ l) q = b3
    cases b1 <;> cases b2 <;> cases b3 <;> first | exact Good.fail | exact Good.pure _
  | map es => exact Good.fail
  | dead => exact Good.fail
  | loop g j st pend tm => exact Good.fail
theorem Good.bound {α : Type} {tm : Tm} {o : Option A} {f : Option Nat → Kal α} (hf : ∀ v, Good (f v)) : Good (fun R h K => boundK tm o (fun v => f v R h K)) := by
  cases o with
  | none => exact hf none
  | some a =>
    have e : (fun R h K => boundK tm (some a) (fun v => f v R h K)) = (fun R h K => evK tm (fun v => (match v with | .int _ (.ofNat n) => f (some n) | _ => fun _ _ _ => none : Kal α) R h K) a : Kal α) := by
      funext R h K
      rw [boundK_def]
      refine evK_same tm _ fun v => ?_
      cases v <;> first | rfl | (rename_i n; cases n <;> rfl)
    rw [e]
    refine Good.ev (f := fun v => (match v with | .int _ (.ofNat n) => f (some n) | _ => fun _ _ _ => none : Kal α)) fun v => ?_
    cases v with
    | int k n =>
      cases n with
      | ofNat n => exact hf (some n)
      | negSucc n => exact Good.fail
    | _ => exact Good.fail
theorem sliceK_good (es : Nat) (v : V) (lo hi : Option Nat) : Good (sliceK es v lo hi) := by
  rw [sliceK_eq]
  cases sliceL es v lo hi with
  | some r => exact Good.pure r
  | none =>
    dsimp only
    split
    · exact sliceF_good _ _ _ _
    · exact Good.fail
theorem cutL_good (es : Nat) (lo hi : Option A) (x : A) : Good (I.cutL es lo hi x F tm) :=
  Good.ev (f := fun v R h K => boundK tm lo fun lo => boundK tm hi fun hi => sliceK es v lo hi R h K) fun v =>
    Good.bound (f := fun lo R h K => boundK tm hi fun hi => sliceK es v lo hi R h K) fun lo => Good.bound (f := fun hi => sliceK es v lo hi) fun hi => sliceK_good es v lo hi
theorem cutM_calm (es : Nat) (lo hi mx : Option A) (x : A) : Calm (I.cutM es lo hi mx x F tm) :=
  Calm.ev (f := fun v R h K => boundK tm lo fun lo => boundK tm hi fun hi => boundK tm mx fun mx => Option.rec none (fun r => K r h) (sliceM es v lo hi mx)) fun v =>
    Calm.bound (f := fun lo R h K => boundK tm hi fun hi => boundK tm mx fun mx => Option.rec none (fun r => K r h) (sliceM es v lo hi mx)) fun lo =>
      Calm.bound (f := fun hi R h K => boundK tm mx fun mx => Option.rec none (fun r => K r h) (sliceM es v lo hi mx)) fun hi =>
        Calm.bound (f := fun mx R h K => Option.rec none (fun r => K r h) (sliceM es v lo hi mx)) fun mx => Calm.opt (sliceM es v lo hi mx) (f := fun r _ h K => K r h) fun r => Calm.pure r
theorem cutA_calm (n es : Nat) (lo hi : Option A) (x : A) : Calm (I.cutA n es lo hi x F tm) := by
  rw [I.cutA_def]
  refine Calm.ev (f := fun v R h K => match v with | .ptr b o => boundK tm lo fun lo => boundK tm hi fun hi => Option.rec none (fun r => K r h) (sliceL es (.slice b o n es (some n)) lo hi) | _ => none) fun v => ?_
  cases v with
  | ptr b o => exact Calm.bound (f := fun lo R h K => boundK tm hi fun hi => Option.rec none (fun r => K r h) (sliceL es (.slice b o n es (some n)) lo hi)) fun lo =>
      Calm.bound (f := fun hi R h K => Option.rec none (fun r => K r h) (sliceL es (.slice b o n es (some n)) lo hi)) fun hi => Calm.opt (sliceL es (.slice b o n es (some n)) lo hi) (f := fun r _ h K => K r h) fun r => Calm.pure r
  | _ => exact Calm.fail
theorem fld_calm (d : Nat) (x : A) : Calm (I.fld d x F tm) := by
  rw [I.fld_def]
  refine Calm.ev (f := fun v R h K => match v with | .ptr b o => K (V.ptr b (Nat.add o d)) h | .view l => K (V.view (dropN l d)) h | _ => none) fun v => ?_
  cases v <;> first | exact Calm.pure _ | exact Calm.fail
theorem part1_calm (d : Nat) (x : A) : Calm (I.part1 d x F tm) := by
  rw [I.part1_def]
  refine Calm.ev (f := fun v R h K => match v with | .agg l => Option.rec none (fun r => K r h) (l[d]?) | _ => none) fun v => ?_
  cases v with
  | agg l => exact Calm.opt (l[d]?) (f := fun r _ h K => K r h) fun r => Calm.pure r
  | _ => exact Calm.fail
theorem partN_calm (d n : Nat) (x : A) : Calm (I.partN d n x F tm) := by
  rw [I.partN_def]
  refine Calm.ev (f := fun v R h K => match v with | .agg l => Bool.rec none (K (V.agg ((l.drop d).take n)) h) (Nat.ble (Nat.add d n) l.length) | _ => none) fun v => ?_
  cases v with
  | agg l => exact Calm.bool (Nat.ble (Nat.add d n) l.length) (f := fun _ h K => K (V.agg ((l.drop d).take n)) h) (Calm.pure _)
  | _ => exact Calm.fail
theorem idxK_calm (es : Nat) (i : A) (b o n es' : Nat) : Calm (idxK es i tm b o n es') := by
  rw [idxK_def]
  refine Calm.ev (f := fun u R h K => match u with | .int _ (.ofNat i) => Bool.rec none (Bool.rec none (K (V.ptr b (Nat.add o (Nat.mul i es))) h) (Nat.ble (Nat.succ i) n)) (Nat.beq es es') | _ => none) fun u => ?_
  cases u with
  | int k m => cases m with
    | ofNat m => exact Calm.bool (Nat.beq es es') (f := fun R h K => Bool.rec none (K (V.ptr b (Nat.add o (Nat.mul m es))) h) (Nat.ble (Nat.succ m) n)) (Calm.bool (Nat.ble (Nat.succ m) n) (f := fun _ h K => K (V.ptr b (Nat.add o (Nat.mul m es))) h) (Calm.pure _))
    | negSucc m => exact Calm.fail
  | _ => exact Calm.fail
theorem idxB_calm (es : Nat) (i : A) (es' : Nat) (l : List V) : Calm (idxB es i tm es' l) := by
  rw [idxB_def]
  refine Calm.ev (f := fun u R h K => match u with | .int _ (.ofNat i) => Bool.rec none (Bool.rec none (K (V.view (dropN l (Nat.mul i es))) h) (Nat.ble (Nat.mul (Nat.succ i) es) (len l))) (sameEs es es') | _ => none) fun u => ?_
  cases u with
  | int k m => cases m with
    | ofNat m => exact Calm.bool (sameEs es es') (f := fun R h K => Bool.rec none (K (V.view (dropN l (Nat.mul m es))) h) (Nat.ble (Nat.mul (Nat.succ m) es) (len l))) (Calm.bool _ (f := fun _ h K => K (V.view (dropN l (Nat.mul m es))) h) (Calm.pure _))
    | negSucc m => exact Calm.fail
  | _ => exact Calm.fail
theorem idxL_calm (es : Nat) (x i : A) : Calm (I.idxL es x i F tm) := by
  rw [I.idxL_def]
  refine Calm.ev (f := fun v R h K => match v with | .slice b o n es' _ => idxK es i tm b o n es' R h K | .bigs es' l _ => idxB es i tm es' l R h K | _ => none) fun v => ?_
  cases v with
  | slice b o n es' cap => exact idxK_calm tm es i b o n es'
  | bigs es' l n => exact idxB_calm tm es i es' l
  | _ => exact Calm.fail
theorem idxA_calm (n es : Nat) (x i : A) : Calm (I.idxA n es x i F tm) := by
  rw [I.idxA_def]
  refine Calm.ev (f := fun v R h K => match v with | .ptr b o => evK tm (fun u => match u with | .int _ (.ofNat i) => Bool.rec none (K (V.ptr b (Nat.add o (Nat.mul i es))) h) (Nat.ble (Nat.succ i) n) | _ => none) i | .view l => evK tm (fun u => match u with | .int _ (.ofNat i) => Bool.rec none (Bool.rec none (Bool.rec none (K (V.view (dropN l (Nat.mul i es))) h) (Nat.ble (Nat.mul (Nat.succ i) es) (len l))) (Nat.ble 1 es)) (Nat.ble (Nat.succ i) n) | _ => none) i | _ => none) fun v => ?_
  cases v with
  | ptr b o =>
    refine Calm.ev (f := fun u R h K => match u with | .int _ (.ofNat i) => Bool.rec none (K (V.ptr b (Nat.add o (Nat.mul i es))) h) (Nat.ble (Nat.succ i) n) | _ => none) fun u => ?_
    cases u with
    | int k m => cases m with
      | ofNat m => exact Calm.bool (Nat.ble (Nat.succ m) n) (f := fun _ h K => K (V.ptr b (Nat.add o (Nat.mul m es))) h) (Calm.pure _)
      | negSucc m => exact Calm.fail
    | _ => exact Calm.fail
  | view l =>
    refine Calm.ev (f := fun u R h K => match u with | .int _ (.ofNat i) => Bool.rec none (Bool.rec none (Bool.rec none (K (V.view (dropN l (Nat.mul i es))) h) (Nat.ble (Nat.mul (Nat.succ i) es) (len l))) (Nat.ble 1 es)) (Nat.ble (Nat.succ i) n) | _ => none) fun u => ?_
    cases u with
    | int k m => cases m with
      | ofNat m => exact Calm.bool (Nat.ble (Nat.succ m) n) (f := fun R h K => (Bool.rec none (Bool.rec none (K (V.view (dropN l (Nat.mul m es))) h) (Nat.ble (Nat.mul (Nat.succ m) es) (len l))) (Nat.ble 1 es) : Option R)) (Calm.bool _ (f := fun R h K => (Bool.rec none (K (V.view (dropN l (Nat.mul m es))) h) (Nat.ble (Nat.mul (Nat.succ m) es) (len l)) : Option R)) (Calm.bool _ (f := fun _ h K => K (V.view (dropN l (Nat.mul m es))) h) (Calm.pure _)))
      | negSucc m => exact Calm.fail
    | _ => exact Calm.fail
  | _ => exact Calm.fail
theorem byte_calm (x i : A) : Calm (I.byte x i F tm) := by
  rw [I.byte_def]
  refine Calm.ev (f := fun v R h K => match v with | .str s => evK tm (fun u => match u with | .int _ (.ofNat i) => Option.rec none (fun c => K (V.int .u8 (Int.ofNat c)) h) (s[i]?) | _ => none) i | _ => none) fun v => ?_
  cases v with
  | str s =>
    refine Calm.ev (f := fun u R h K => match u with | .int _ (.ofNat i) => Option.rec none (fun c => K (V.int .u8 (Int.ofNat c)) h) (s[i]?) | _ => none) fun u => ?_
    cases u with
    | int k m => cases m with
      | ofNat m => exact Calm.opt (s[m]?) (f := fun c _ h K => K (V.int .u8 (Int.ofNat c)) h) fun c => Calm.pure _
      | negSucc m => exact Calm.fail
    | _ => exact Calm.fail
  | _ => exact Calm.fail
theorem at1_calm (n : Nat) (x i : A) : Calm (I.at1 n x i F tm) := by
  rw [I.at1_def]
  refine Calm.ev (f := fun v R h K => match v with | .agg l => evK tm (fun u => match u with | .int _ (.ofNat i) => Bool.rec none (Option.rec none (fun r => K r h) (l[i]?)) (Nat.ble (Nat.succ i) n) | _ => none) i | _ => none) fun v => ?_
  cases v with
  | agg l =>
    refine Calm.ev (f := fun u R h K => match u with | .int _ (.ofNat i) => Bool.rec none (Option.rec none (fun r => K r h) (l[i]?)) (Nat.ble (Nat.succ i) n) | _ => none) fun u => ?_
    cases u with
    | int k m => cases m with
      | ofNat m => exact Calm.bool (Nat.ble (Nat.succ m) n) (f := fun R h K => Option.rec none (fun r => K r h) (l[m]?)) (Calm.opt (l[m]?) (f := fun r _ h K => K r h) fun r => Calm.pure r)
      | negSucc m => exact Calm.fail
    | _ => exact Calm.fail
  | _ => exact Calm.fail
theorem atN_calm (n es : Nat) (x i : A) : Calm (I.atN n es x i F tm) := by
  rw [I.atN_def]
  refine Calm.ev (f := fun v R h K => match v with | .agg l => evK tm (fun u => match u with | .int _ (.ofNat i) => Bool.rec none (Bool.rec none (K (V.agg ((l.drop (Nat.mul i es)).take es)) h) (Nat.ble (Nat.add (Nat.mul i es) es) l.length)) (Nat.ble (Nat.succ i) n) | _ => none) i | _ => none) fun v => ?_
  cases v with
  | agg l =>
    refine Calm.ev (f := fun u R h K => match u with | .int _ (.ofNat i) => Bool.rec none (Bool.rec none (K (V.agg ((l.drop (Nat.mul i es)).take es)) h) (Nat.ble (Nat.add (Nat.mul i es) es) l.length)) (Nat.ble (Nat.succ i) n) | _ => none) fun u => ?_
    cases u with
    | int k m => cases m with
      | ofNat m => exact Calm.bool (Nat.ble (Nat.succ m) n) (f := fun R h K => Bool.rec none (K (V.agg ((l.drop (Nat.mul m es)).take es)) h) (Nat.ble (Nat.add (Nat.mul m es) es) l.length)) (Calm.bool (Nat.ble (Nat.add (Nat.mul m es) es) l.length) (f := fun _ h K => K (V.agg ((l.drop (Nat.mul m es)).take es)) h) (Calm.pure _))
      | negSucc m => exact Calm.fail
    | _ => exact Calm.fail
  | _ => exact Calm.fail
theorem assert_calm (t : Nat) (ok : Bool) (z : Option V) (x : A) : Calm (I.assert t ok z x F tm) := by
  rw [I.assert_def]
  refine Calm.ev (f := fun v R h K => match v with | .iface u v => Bool.rec (Bool.rec none (Option.rec none (fun z => K (V.tup [z, .bool false]) h) z) ok) (K (Bool.rec v (.tup [v, .bool true]) ok) h) (Nat.beq u t) | _ => none) fun v => ?_
  cases v with
  | iface u v =>
    show Calm (fun R h K => (Bool.rec (Bool.rec none (Option.rec none (fun z => K (V.tup [z, .bool false]) h) z) ok) (K (Bool.rec v (.tup [v, .bool true]) ok) h) (Nat.beq u t) : Option R))
    cases Nat.beq u t with
    | true => exact Calm.pure _
    | false => exact Calm.bool ok (f := fun R h K => Option.rec none (fun z => K (V.tup [z, .bool false]) h) z) (Calm.opt z (f := fun z _ h K => K (V.tup [z, .bool false]) h) fun z => Calm.pure _)
  | _ => exact Calm.fail
theorem ext_calm (i : Nat) (x : A) : Calm (I.ext i x F tm) := by
  rw [I.ext_def]
  refine Calm.ev (f := fun v R h K => match v with | .tup l => Option.rec none (fun r => K r h) (l[i]?) | _ => none) fun v => ?_
  cases v with
  | tup l => exact Calm.opt (l[i]?) (f := fun r _ h K => K r h) fun r => Calm.pure r
  | _ => exact Calm.fail
theorem lenL_calm (x : A) : Calm (I.lenL x F tm) := by
  rw [I.lenL_def]
  refine Calm.ev (f := fun v R h K => match v with | .slice _ _ n _ _ => K (V.int .i64 (Int.ofNat n)) h | .emp => K (V.int .i64 (Int.ofNat 0)) h | .nils => K (V.int .i64 (Int.ofNat 0)) h | .bigs _ _ n => K n h | _ => none) fun v => ?_
  cases v <;> first | exact Calm.pure _ | exact Calm.fail
theorem lenS_calm (x : A) : Calm (I.lenS x F tm) := by
  rw [I.lenS_def]
  refine Calm.ev (f := fun v R h K => match v with | .str s => K (V.int .i64 (Int.ofNat s.length)) h | _ => none) fun v => ?_
  cases v <;> first | exact Calm.pure _ | exact Calm.fail
theorem lenA_calm (n : Nat) (x : A) : Calm (I.lenA n x F tm) := Calm.pure _
theorem max_calm (x y : A) : Calm (I.max x y F tm) := by
  rw [I.max_def]
  refine Calm.ev (f := fun v R h K => match v with | .int k a => evK tm (fun u => match u with | .int _ b => K (V.int k (Bool.rec a b (ilt a b))) h | _ => none) y | _ => none) fun v => ?_
  cases v with
  | int k a =>
    refine Calm.ev (f := fun u R h K => match u with | .int _ b => K (V.int k (Bool.rec a b (ilt a b))) h | _ => none) fun u => ?_
    cases u <;> first | exact Calm.pure _ | exact Calm.fail
  | _ => exact Calm.fail
theorem min_calm (x y : A) : Calm (I.min x y F tm) := by
  rw [I.min_def]
  refine Calm.ev (f := fun v R h K => match v with | .int k a => evK tm (fun u => match u with | .int _ b => K (V.int k (Bool.rec a b (ilt b a))) h | _ => none) y | _ => none) fun v => ?_
  cases v with
  | int k a =>
    refine Calm.ev (f := fun u R h K => match u with | .int _ b => K (V.int k (Bool.rec a b (ilt b a))) h | _ => none) fun u => ?_
    cases u <;> first | exact Calm.pure _ | exact Calm.fail
  | _ => exact Calm.fail

/-! instructions that touch the memory -/
theorem new_good (y : Nat) (z : List V) : Good (I.newT y z F tm) := Good.bind (Good.new (.cells z true y)) (k := fun b _ h K => K (V.ptr b 0) h) fun b => Good.pure _
theorem box_good (x : A) : Good (I.box x F tm) :=
  Good.ev (f := fun v R h K => newCells v.cells R h fun b h => K (V.ptr b 0) h) fun v => Good.bind (newCells_good v.cells) (k := fun b _ h K => K (V.ptr b 0) h) fun b => Good.pure _
theorem slit_good (z : List V) (es n : Nat) (ps : List (Nat × Nat × A)) : Good (I.slit z es n ps F tm) :=
  Good.fill (f := fun l R h K => newCells l R h fun b h => K (V.slice b 0 n es (some n)) h) fun l => Good.bind (newCells_good l) (k := fun b _ h K => K (V.slice b 0 n es (some n)) h) fun b => Good.pure _
theorem load1_good (x : A) : Good (I.load1 x F tm) := by
  rw [I.load1_def]
  refine Good.ev (f := fun v R h K => match v with | .ptr b o => ld1 b o R h K | .view l => nthK (fun v => K v h) l 0 | _ => none) fun v => ?_
  cases v with
  | ptr b o => exact ld1_good b o
  | view l => exact Good.nth l 0 (f := fun v _ h K => K v h) fun v => Good.pure v
  | _ => exact Good.fail
theorem loadN_good (n : Nat) (x : A) : Good (I.loadN n x F tm) := by
  rw [I.loadN_def]
  refine Good.ev (f := fun v R h K => match v with | .ptr b o => ldN n b o R h fun l h => K (V.agg l) h | .view l => takeK n l (fun l => K (V.agg l) h) | _ => none) fun v => ?_
  cases v with
  | view l => exact Good.take l n (f := fun l _ h K => K (V.agg l) h) fun l => Good.pure _
  | ptr b o => exact Good.bind (ldN_good n b o) (k := fun l _ h K => K (V.agg l) h) fun l => Good.pure _
  | _ => exact Good.fail
theorem store1_good (x y : A) : Good (I.store1 x y F tm) := by
  rw [I.store1_def]
  refine Good.ev (f := fun v R h K => match v with | .ptr b o => evK tm (fun u => st1 b o u R h fun _ h => K undef h) y | _ => none) fun v => ?_
  cases v with
  | ptr b o => exact Good.ev (f := fun u R h K => st1 b o u R h fun _ h => K undef h) fun u => Good.bind (st1_good b o u) (k := fun _ _ h K => K undef h) fun _ => Good.pure _
  | _ => exact Good.fail
theorem storeN_good (n : Nat) (x y : A) : Good (I.storeN n x y F tm) := by
  rw [I.storeN_def]
  refine Good.ev (f := fun v R h K => match v with | .ptr b o => evK tm (fun u => Bool.rec none (stN b o u.cells R h fun _ h => K undef h) (Nat.beq n u.cells.length)) y | _ => none) fun v => ?_
  cases v with
  | ptr b o => exact Good.ev (f := fun u R h K => Bool.rec none (stN b o u.cells R h fun _ h => K undef h) (Nat.beq n u.cells.length)) fun u =>
      Good.bool (Nat.beq n u.cells.length) (f := fun R h K => stN b o u.cells R h fun _ h => K undef h) (Good.bind (stN_good b o u.cells) (k := fun _ _ h K => K undef h) fun _ => Good.pure _)
  | _ => exact Good.fail
theorem mkmap_good : Good (I.mkmap F tm) := Good.bind (Good.new (.map [])) (k := fun b _ h K => K (V.map b) h) fun b => Good.pure _
theorem mkslice_good (z : List V) (es bytes : Nat) (l c : A) : Good (I.mkslice z es bytes l c F tm) := by
  rw [I.mkslice_def]
  refine Good.ev (f := fun v R h K => match v with
    | .int .i64 (.ofNat l) => evK tm (fun u => match u with
      | .int .i64 (.ofNat c) => Bool.rec none (Bool.rec none (newCells (rep c z) R h fun b h => K (V.slice b 0 l es (some c)) h) (Nat.ble (Nat.mul c bytes) 1048576)) (Nat.ble l c)
      | _ => none) c
    | _ => none) fun v => ?_
  cases v with
  | int k m =>
    cases k with
    | i64 => cases m with
      | ofNat l =>
        refine Good.ev (f := fun u R h K => match u with
          | .int .i64 (.ofNat c) => Bool.rec none (Bool.rec none (newCells (rep c z) R h fun b h => K (V.slice b 0 l es (some c)) h) (Nat.ble (Nat.mul c bytes) 1048576)) (Nat.ble l c)
          | _ => none) fun u => ?_
        cases u with
        | int k m => cases k with
          | i64 => cases m with
            | ofNat c => exact Good.bool (Nat.ble l c) (f := fun R h K => Bool.rec none (newCells (rep c z) R h fun b h => K (V.slice b 0 l es (some c)) h) (Nat.ble (Nat.mul c bytes) 1048576)) (Good.bool (Nat.ble (Nat.mul c bytes) 1048576) (f := fun R h K => newCells (rep c z) R h fun b h => K (V.slice b 0 l es (some c)) h) (Good.bind (newCells_good (rep c z)) (k := fun b _ h K => K (V.slice b 0 l es (some c)) h) fun b => Good.pure _))
            | _ => exact Good.fail
          | _ => exact Good.fail
        | _ => exact Good.fail
      | _ => exact Good.fail
    | _ => exact Good.fail
  | _ => exact Good.fail
noncomputable def lookV (ok : Bool) (z : V) (r : Option V) : V := Option.rec (Bool.rec z (V.tup [z, V.bool false]) ok) (fun v => Bool.rec v (V.tup [v, V.bool true]) ok) r
theorem look_good (str ok : Bool) (z : V) (m k : A) : Good (I.look str ok z m k F tm) := by
  rw [I.look_def]
  refine Good.ev (f := fun v R h K => match v with
    | .map b => evK tm (fun k => read b R h fun q h => match q with
      | .map es => Bool.rec none (Option.rec none (fun r => K (lookV ok z r) h) (lookupM k es)) (isKey str k)
      | _ => none) k
    | _ => none) fun v => ?_
  cases v with
  | map b =>
    refine Good.ev (f := fun k R h K => read b R h fun q h => match q with
      | .map es => Bool.rec none (Option.rec none (fun r => K (lookV ok z r) h) (lookupM k es)) (isKey str k)
      | _ => none) fun k => ?_
    refine Good.bind (Good.read b) (k := fun q R h K => match q with
      | .map es => Bool.rec none (Option.rec none (fun r => K (lookV ok z r) h) (lookupM k es)) (isKey str k)
      | _ => none) fun q => ?_
    cases q with
    | map es => exact Good.bool (isKey str k) (f := fun R h K => Option.rec none (fun r => K (lookV ok z r) h) (lookupM k es)) (Good.opt (lookupM k es) (f := fun r _ h K => K (lookV ok z r) h) fun r => Good.pure _)
    | _ => exact Good.fail
  | _ => exact Good.fail
theorem insert_good (str : Bool) (m k x : A) : Good (I.insert str m k x F tm) := by
  rw [I.insert_def]
  refine Good.ev (f := fun v R h K => match v with
    | .map b => evK tm (fun k => evK tm (fun x => read b R h fun q h => match q with
      | .map es => Bool.rec none (match lookupM k es with
        | some none => write b (.map (es ++ [(k, x)])) R h fun _ h => K undef h
        | _ => none) (isKey str k)
      | _ => none) x) k
    | _ => none) fun v => ?_
  cases v with
  | map b =>
    refine Good.ev (f := fun k R h K => evK tm (fun x => read b R h fun q h => match q with
      | .map es => Bool.rec none (match lookupM k es with
        | some none => write b (.map (es ++ [(k, x)])) R h fun _ h => K undef h
        | _ => none) (isKey str k)
      | _ => none) x) fun k => ?_
    refine Good.ev (f := fun x R h K => read b R h fun q h => match q with
      | .map es => Bool.rec none (match lookupM k es with
        | some none => write b (.map (es ++ [(k, x)])) R h fun _ h => K undef h
        | _ => none) (isKey str k)
      | _ => none) fun x => ?_
    refine Good.bind (Good.read b) (k := fun q R h K => match q with
      | .map es => Bool.rec none (match lookupM k es with
        | some none => write b (.map (es ++ [(k, x)])) R h fun _ h => K undef h
        | _ => none) (isKey str k)
      | _ => none) fun q => ?_
    cases q with
    | map es =>
      refine Good.bool (isKey str k) (f := fun R h K => match lookupM k es with
        | some none => write b (.map (es ++ [(k, x)])) R h fun _ h => K undef h
        | _ => none) ?_
      cases lookupM k es with
      | none => exact Good.fail
      | some r => cases r with
        | none => exact Good.bind (Good.write b _) (k := fun _ _ h K => K undef h) fun _ => Good.pure _
        | some _ => exact Good.fail
    | _ => exact Good.fail
  | _ => exact Good.fail
theorem append_good (q : Nat) (es bytes : Nat) (x y : A) : Good (I.appendQ q es bytes x y F tm) :=
  Good.ev (f := fun v R h K => evK tm (fun u => appendV es bytes q v u R h K) y) fun v => Good.ev (f := fun u => appendV es bytes q v u) fun u => appendV_good es bytes q v u
theorem clear_good (z : List V) (x : A) : Good (I.clear z x F tm) := by
  rw [I.clear_def]
  refine Good.ev (f := fun v R h K => match v with
    | .slice b o n es _ => Bool.rec none (stN b o (rep n z) R h fun _ h => K undef h) (Nat.beq z.length es)
    | .emp => K undef h
    | .nils => K undef h
    | _ => none) fun v => ?_
  cases v with
  | slice b o n es cap => exact Good.bool (Nat.beq z.length es) (f := fun R h K => stN b o (rep n z) R h fun _ h => K undef h) (Good.bind (stN_good b o (rep n z)) (k := fun _ _ h K => K undef h) fun _ => Good.pure _)
  | emp => exact Good.pure _
  | nils => exact Good.pure _
  | _ => exact Good.fail
theorem callG_good (hF : GoodF F) (v : V) (l : List V) : Good (I.callG F v l) := by
  rw [I.callG_def]
  cases v with
  | fn f a c => cases f with
    | func g => exact hF.call g _
    | _ => exact Good.fail
  | yld b => exact hF.round b l
  | _ => exact Good.fail
theorem call_good (hF : GoodF F) (f : A) (xs : List A) : Good (I.call f xs F tm) :=
  Good.ev (f := fun v R h K => evsK tm xs fun l => I.callG F v l R h K) fun v => Good.evs (f := fun l => I.callG F v l) fun l => callG_good F hF v l
end
end Go.X
