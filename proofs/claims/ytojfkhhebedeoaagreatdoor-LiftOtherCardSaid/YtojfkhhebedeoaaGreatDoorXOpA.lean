/- A verified executor, part 7: instructions that need no memory do what the model's operations do. -/
import Derived.Test.YtojfkhhebedeoaaGreatDoorXReal
import Derived.Laws.Entries
set_option linter.unusedVariables false
set_option linter.unusedSimpArgs false
set_option linter.unusedSectionVars false
namespace Go.X
open Go.RowKit
variable [Nu]
universe u v

theorem OldCells.take {a : Addr} {ys : List Value} (h : OldCells a ys) (k : Nat) : OldCells a (ys.take k) :=
  ⟨h.1, fun w hw j y hy => h.2 w hw j y (by
    rw [List.getElem?_take] at hy
    split at hy
    · exact hy
    · exact nomatch hy)⟩
theorem OldCells.drop {a : Addr} {ys : List Value} (h : OldCells a ys) (k : Nat) : OldCells (a.add k) (ys.drop k) := by
  obtain ⟨b, o, s⟩ := a
  obtain ⟨h1, h2⟩ := h
  have hs : s = none := h1
  subst hs
  refine ⟨by rw [Addr.add_lit], fun w hw j y hy => ?_⟩
  rw [List.getElem?_drop] at hy
  have := h2 w hw _ y hy
  rw [Addr.add_lit] at this
  rw [Addr.add_lit, Addr.add_lit, Nat.add_assoc]
  exact this
theorem OldCells.zero {a : Addr} {ys : List Value} (h : OldCells a ys) {w : World} (hw : Below Nu.old.heap.size Nu.old w) {y : Value} (hy : ys[0]? = some y) : w.cell? a = some y := by
  obtain ⟨b, o, s⟩ := a
  obtain ⟨h1, h2⟩ := h
  have hs : s = none := h1
  subst hs
  have := h2 w hw 0 y hy
  rw [Addr.add_lit] at this
  exact this

/-- What is asked of a context. -/
structure Cx.Ok (Γ : Cx) : Prop where
  path : Γ.pathOf = path
  prog : Γ.P = Nu.prog
  glob : ∀ (g : Nat) (E : En), ∃ ys, RVs E (Γ.glob g) ys ∧ OldCells ⟨g, 0, none⟩ ys
  eqs : ∀ t, t ∈ Γ.eqs → Γ.P.stoodInHeld t = false ∧ Γ.P.eqGuardType Γ.P.depth t = false

def Yields (P : Program) (s : Sem Next) (w : World) (x : Value) (w' : World) : Prop := s.run P w = .ok (.value x) w' ∨ (s.run P w = .ok .skip w' ∧ x = Go.undef)
theorem yields_value {P : Program} {s : Sem Value} {w w' : World} {x : Value} (h : s.run P w = .ok x w') : Yields P (do pure (Next.value (← s))) w x w' := .inl (by simp [h])
theorem yields_unit {P : Program} {s : Sem Unit} {w w' : World} (h : s.run P w = .ok () w') : Yields P (do s; pure Next.skip) w Go.undef w' := .inr ⟨by simp [h], rfl⟩

/-- What operators come to of which only the names are known, is told rightly. -/
def AskOK (P : Program) (F : CallF) : Prop := ∀ (op : BinOp) (v u r : V), F.ask op v u = some r → ∀ (E : En) (x y : Value), RV E v x → RV E u y → ∀ (t : TypeId) (w : World), ∃ z, RV E r z ∧ (∃ k n, x = .int k n) ∧ (binOp op t x y).run P w = .ok z w
/-- The instruction does what the operation does. -/
def OpOK (Γ : Cx) (w : Nat) (o : Oper) (i : I) : Prop :=
  ∀ (F : CallF), AskOK Γ.P F → ∀ (tm : Tm) (h : H) (v : V) (h' : H) (w0 : World) (E : En) (wd : World) (ar : Array Value) (ds : List Deferred),
    run (i F tm) h = some (v, h') → Sim w0 E h wd → TR E w tm ar →
      ∃ E' w' x, E.le E' ∧ Sim w0 E' h' w' ∧ RV E' v x ∧ Yields Γ.P (execOp (Act.eval ⟨ar, ds⟩) o) wd x w'

mutual
theorem ofV_RV (E : En) : ∀ (x : Value) (v : V), ofV x = some v → RV E v x
  | .bool b, v, h => by simp only [ofV, Option.some.injEq] at h; subst h; rw [RV]
  | .int k n, v, h => by simp only [ofV, Option.some.injEq] at h; subst h; rw [RV]
  | .string s, v, h => by simp only [ofV, Option.some.injEq] at h; subst h; rw [RV]; exact ⟨s, rfl, rfl⟩
  | .pointer none, v, h => by simp only [ofV, Option.some.injEq] at h; subst h; rw [RV]
  | .slice none 0 0, v, h => by simp only [ofV, Option.some.injEq] at h; subst h; rw [RV]
  | .map none, v, h => by simp only [ofV, Option.some.injEq] at h; subst h; rw [RV]
  | .nilFunc, v, h => by simp only [ofV, Option.some.injEq] at h; subst h; rw [RV]
  | .nilIface, v, h => by simp only [ofV, Option.some.injEq] at h; subst h; rw [RV]
  | .agg ⟨l⟩, v, h => by
    rw [ofV] at h
    cases hl : ofVs l with
    | none => rw [hl] at h; exact nomatch h
    | some vs => rw [hl] at h; simp only [Option.some.injEq] at h; subst h; rw [RV]; exact ⟨l, rfl, ofVs_RV E l vs hl⟩
  | .tuple ⟨l⟩, v, h => by
    rw [ofV] at h
    cases hl : ofVs l with
    | none => rw [hl] at h; exact nomatch h
    | some vs => rw [hl] at h; simp only [Option.some.injEq] at h; subst h; rw [RV]; exact ⟨l, rfl, ofVs_RV E l vs hl⟩
  | .float _ _, v, h => by simp [ofV] at h
  | .complex _ _ _, v, h => by simp [ofV] at h
  | .pointer (some _), v, h => by simp [ofV] at h
  | .slice (some _) _ _, v, h => by simp [ofV] at h
  | .slice none (_ + 1) _, v, h => by simp [ofV] at h
  | .slice none 0 (_ + 1), v, h => by simp [ofV] at h
  | .map (some _), v, h => by simp [ofV] at h
  | .chan _, v, h => by simp [ofV] at h
  | .func _ _ _, v, h => by simp [ofV] at h
  | .iface _ _, v, h => by simp [ofV] at h
theorem ofVs_RV (E : En) : ∀ (l : List Value) (vs : List V), ofVs l = some vs → RVs E vs l
  | [], vs, h => by simp only [ofVs, Option.some.injEq] at h; subst h; exact RVs_none
  | x :: l, vs, h => by
    rw [ofVs] at h
    cases hx : ofV x with
    | none => rw [hx] at h; simp at h
    | some a =>
      cases hl : ofVs l with
      | none => rw [hx, hl] at h; simp at h
      | some b =>
        rw [hx, hl] at h
        simp only [Option.some.injEq] at h
        subst h
        exact RVs_mk (ofV_RV E x a hx) (ofVs_RV E l b hl)
end

noncomputable def evA (tm : Tm) : A → Option V
  | .t p => tm.get p
  | .c v => some v
theorem evK_some {R : Type} (tm : Tm) (K : V → Option R) (a : A) (r : R) : evK tm K a = some r ↔ ∃ v, evA tm a = some v ∧ K v = some r := by
  cases a with
  | t p =>
    show Tp.getK K p tm = some r ↔ _
    rw [Tp.getK_get]
    show _ ↔ ∃ v, tm.get p = some v ∧ _
    cases tm.get p with
    | none => simp
    | some v => simp
  | c v => show K v = some r ↔ ∃ u, some v = some u ∧ _; simp
theorem cA_ok {Γ : Cx} (hΓ : Γ.Ok) {w : Nat} {x : Operand} {a : A} (hc : cA Γ w x = some a) {E : En} {tm : Tm} {ar : Array Value} {ds : List Deferred} (ht : TR E w tm ar) {v : V} (hv : evA tm a = some v) :
    RV E v (Act.eval ⟨ar, ds⟩ x) := by
  cases x with
  | tmp t =>
    rw [cA] at hc
    by_cases h : t < lim w
    · rw [if_pos h, hΓ.path] at hc
      simp only [Option.some.injEq] at hc
      subst hc
      exact ht t v h hv
    · rw [if_neg h] at hc; exact nomatch hc
  | const c =>
    rw [cA] at hc
    cases ho : ofV c with
    | none => rw [ho] at hc; exact nomatch hc
    | some u =>
      rw [ho] at hc
      simp only [Option.some.injEq] at hc
      subst hc
      simp only [evA, Option.some.injEq] at hv
      subst hv
      exact ofV_RV E c u ho
  | func f =>
    simp only [cA, Option.some.injEq] at hc
    subst hc
    simp only [evA, Option.some.injEq] at hv
    subst hv
    rw [RV]
    exact ⟨[], [], rfl, RVs_none, RVs_none⟩
  | global g =>
    simp only [cA, Option.some.injEq] at hc
    subst hc
    simp only [evA, Option.some.injEq] at hv
    subst hv
    obtain ⟨ys, h1, h2⟩ := hΓ.glob g E
    rw [RV]
    exact ⟨_, ys, rfl, h1, h2⟩

theorem allSome_cons {α : Type u} {β : Type v} (f : α → Option β) (x : α) (l : List α) (r : List β) : allSome f (x :: l) = some r ↔ ∃ a b, f x = some a ∧ allSome f l = some b ∧ r = a :: b := by
  rw [allSome]
  cases f x with
  | none => simp
  | some a =>
    cases allSome f l with
    | none => simp
    | some b => simp [eq_comm]
noncomputable def evAs (tm : Tm) (l : List A) : Option (List V) := evsK tm l some
theorem evsK_cons {R : Type} (tm : Tm) (a : A) (l : List A) (K : List V → Option R) : evsK tm (a :: l) K = evK tm (fun v => evsK tm l fun vs => K (v :: vs)) a := rfl
theorem evsK_some {R : Type} (tm : Tm) (r : R) : ∀ (l : List A) (K : List V → Option R), evsK tm l K = some r ↔ ∃ vs, evAs tm l = some vs ∧ K vs = some r
  | [], K => by show K [] = some r ↔ ∃ vs, some [] = some vs ∧ _; simp
  | a :: l, K => by
    rw [evsK_cons, evK_some]
    constructor
    · rintro ⟨v, h1, h2⟩
      obtain ⟨vs, h3, h4⟩ := (evsK_some tm r l _).1 h2
      exact ⟨v :: vs, by rw [evAs, evsK_cons, evK_some]; exact ⟨v, h1, (evsK_some tm _ l _).2 ⟨vs, h3, rfl⟩⟩, h4⟩
    · rintro ⟨vs, h1, h2⟩
      rw [evAs, evsK_cons, evK_some] at h1
      obtain ⟨v, h3, h4⟩ := h1
      obtain ⟨us, h5, h6⟩ := (evsK_some tm _ l _).1 h4
      simp only [Option.some.injEq] at h6
      subst h6
      exact ⟨v, h3, (evsK_some tm r l _).2 ⟨us, h5, h2⟩⟩
theorem cAs_ok {Γ : Cx} (hΓ : Γ.Ok) {w : Nat} {E : En} {tm : Tm} {ar : Array Value} {ds : List Deferred} (ht : TR E w tm ar) : ∀ {xs : List Operand} {l : List A} {vs : List V}, allSome (cA Γ w) xs = some l → evAs tm l = some vs →
    RVs E vs (xs.map (Act.eval ⟨ar, ds⟩))
  | [], l, vs, hc, hv => by
    simp only [allSome, Option.some.injEq] at hc
    subst hc
    have : some [] = some vs := hv
    simp only [Option.some.injEq] at this
    subst this
    exact RVs_none
  | x :: xs, l, vs, hc, hv => by
    obtain ⟨a, b, h1, h2, rfl⟩ := (allSome_cons _ _ _ _).1 hc
    rw [evAs, evsK_cons, evK_some] at hv
    obtain ⟨v, h3, h4⟩ := hv
    obtain ⟨us, h5, h6⟩ := (evsK_some tm _ b _).1 h4
    simp only [Option.some.injEq] at h6
    subst h6
    exact RVs_mk (cA_ok hΓ h1 ht h3) (cAs_ok hΓ ht h2 h5)

/-- No memory: what comes out is told by the world as it is. -/
theorem pure_end {P : Program} {w0 : World} {E : En} {h h' : H} {wd : World} {v v' : V} {x : Value} {s : Sem Next} (e : some (v, h) = some (v', h')) (hs : Sim w0 E h wd) (hv : RV E v x) (hy : Yields P s wd x wd) :
    ∃ E' w' y, E.le E' ∧ Sim w0 E' h' w' ∧ RV E' v' y ∧ Yields P s wd y w' := by
  simp only [Option.some.injEq, Prod.mk.injEq] at e
  obtain ⟨rfl, rfl⟩ := e
  exact ⟨E, wd, x, En.le_refl E, hs, hv, hy⟩

section
variable {Γ : Cx} (hΓ : Γ.Ok) {w : Nat} {dst : Option Tmp} {ty : TypeId} {pos : String} {after : Array Edge} {guard : Option (Nat × Bool)}
include hΓ

theorem mov_ok {x : Operand} {a : A} (hc : cA Γ w x = some a) : OpOK Γ w ⟨dst, .move x, ty, pos, after, guard⟩ (I.mov a) := by
  intro F hA tm h v h' w0 E wd ar ds hr hs ht
  obtain ⟨u, hu, e⟩ := (evK_some tm _ a _).1 hr
  exact pure_end e hs (cA_ok (ds := ds) hΓ hc ht hu) (.inl (by simp [execOp]))
theorem assign_ok {x : Operand} {a : A} (hc : cA Γ w x = some a) : OpOK Γ w ⟨dst, .assign x, ty, pos, after, guard⟩ (I.mov a) := by
  intro F hA tm h v h' w0 E wd ar ds hr hs ht
  obtain ⟨u, hu, e⟩ := (evK_some tm _ a _).1 hr
  exact pure_end e hs (cA_ok (ds := ds) hΓ hc ht hu) (.inl (by simp [execOp]))
theorem pick_ok {x y z : Operand} {a b c : A} (hx : cA Γ w x = some a) (hy : cA Γ w y = some b) (hz : cA Γ w z = some c) : OpOK Γ w ⟨dst, .pick x y z, ty, pos, after, guard⟩ (I.pick a b c) := by
  intro F hA tm h v h' w0 E wd ar ds hr hs ht
  rw [I.pick_def] at hr
  obtain ⟨u, hu, e⟩ := (evK_some tm _ a _).1 hr
  have hu' := cA_ok (ds := ds) hΓ hx ht hu
  cases u with
  | bool q =>
    rw [RV] at hu'
    cases q
    · obtain ⟨_, _, e⟩ := (evK_some tm _ b _).1 e
      obtain ⟨u2, hu2, e⟩ := (evK_some tm _ c _).1 e
      exact pure_end e hs (cA_ok (ds := ds) hΓ hz ht hu2) (.inl (by simp [execOp, hu', asBool]))
    · obtain ⟨u2, hu2, e⟩ := (evK_some tm _ b _).1 e
      obtain ⟨_, _, e⟩ := (evK_some tm _ c _).1 e
      exact pure_end e hs (cA_ok (ds := ds) hΓ hy ht hu2) (.inl (by simp [execOp, hu', asBool]))
  | _ => exact nomatch e
theorem nilck_ok {x : Operand} {a : A} (hc : cA Γ w x = some a) : OpOK Γ w ⟨dst, .nilCheck x, ty, pos, after, guard⟩ (I.nilck a) := by
  intro F hA tm h v h' w0 E wd ar ds hr hs ht
  rw [I.nilck_def] at hr
  obtain ⟨u, hu, e⟩ := (evK_some tm _ a _).1 hr
  have hu' := cA_ok (ds := ds) hΓ hc ht hu
  have hu2 := hu'
  cases u with
  | ptr b o => rw [RV] at hu'; obtain ⟨r, h1, h2⟩ := hu'; exact pure_end e hs hu2 (.inl (by simp [execOp, h2]))
  | view l => rw [RV] at hu'; obtain ⟨r, ys, h2, _⟩ := hu'; exact pure_end e hs hu2 (.inl (by simp [execOp, h2]))
  | fn f l m =>
    cases f with
    | func f => rw [RV] at hu'; obtain ⟨l', m', h2, _⟩ := hu'; exact pure_end e hs hu2 (.inl (by simp [execOp, h2]))
    | _ => exact nomatch e
  | _ => exact nomatch e
theorem not_ok {x : Operand} {a : A} {t : TypeId} (hc : cA Γ w x = some a) : OpOK Γ w ⟨dst, .unOp .not t x, ty, pos, after, guard⟩ (I.not a) := by
  intro F hA tm h v h' w0 E wd ar ds hr hs ht
  rw [I.not_def] at hr
  obtain ⟨u, hu, e⟩ := (evK_some tm _ a _).1 hr
  have hu' := cA_ok (ds := ds) hΓ hc ht hu
  cases u with
  | bool b => rw [RV] at hu'; exact pure_end (x := .bool !b) e hs (by rw [RV]) (.inl (by simp [execOp, hu', Op.unary]))
  | _ => exact nomatch e
theorem iface_ok {x : Operand} {a : A} {t : TypeId} {d : TypeDesc} (hd : Γ.P.underlying t = some d) (hi : ∀ ms, d ≠ .interface ms) (hc : cA Γ w x = some a) : OpOK Γ w ⟨dst, .makeInterface t x, ty, pos, after, guard⟩ (I.iface t a) := by
  intro F hA tm h v h' w0 E wd ar ds hr hs ht
  obtain ⟨u, hu, e⟩ := (evK_some tm _ a _).1 hr
  have hu' := cA_ok (ds := ds) hΓ hc ht hu
  refine pure_end (x := .iface t (Act.eval ⟨ar, ds⟩ x)) e hs (by rw [RV]; exact ⟨_, rfl, hu'⟩) (yields_value ?_)
  simp only [Instr.makeInterface, Sem.run_bind, r_under wd hd, Result.andThen_ok]
  cases d <;> first | rfl | exact absurd rfl (hi _)
theorem fn_ok {f : Fn} {xs ys : Array Operand} {l m : List A} (hx : allSome (cA Γ w) xs.toList = some l) (hy : allSome (cA Γ w) ys.toList = some m) : OpOK Γ w ⟨dst, .makeFunc f xs ys, ty, pos, after, guard⟩ (I.fn f l m) := by
  intro F hA tm h v h' w0 E wd ar ds hr hs ht
  obtain ⟨us, hu, e⟩ := (evsK_some tm _ l _).1 hr
  obtain ⟨vs, hv, e⟩ := (evsK_some tm _ m _).1 e
  have h1 := cAs_ok (ds := ds) hΓ ht hx hu
  have h2 := cAs_ok (ds := ds) hΓ ht hy hv
  refine pure_end (x := .func f (xs.map (Act.eval ⟨ar, ds⟩)) (ys.map (Act.eval ⟨ar, ds⟩))) e hs ?_ (.inl (by simp [execOp, Instr.makeFunc]))
  rw [RV]
  exact ⟨_, _, by rw [← Array.toList_map, ← Array.toList_map], h1, h2⟩
theorem ext_ok {x : Operand} {a : A} {i : Nat} (hc : cA Γ w x = some a) : OpOK Γ w ⟨dst, .extract x i, ty, pos, after, guard⟩ (I.ext i a) := by
  intro F hA tm h v h' w0 E wd ar ds hr hs ht
  rw [I.ext_def] at hr
  obtain ⟨u, hu, e⟩ := (evK_some tm _ a _).1 hr
  have hu' := cA_ok (ds := ds) hΓ hc ht hu
  cases u with
  | tup l =>
    obtain ⟨q, hq, e⟩ := (optRec_some _ _ _).1 e
    rw [RV] at hu'
    obtain ⟨ys, hy, hl⟩ := hu'
    obtain ⟨y, hy1, hy2⟩ := RVs_get hl hq
    exact pure_end e hs hy2 (yields_value (by simp [hy, Instr.extract, hy1]))
  | _ => exact nomatch e
theorem lenL_ok {x : Operand} {a : A} {t e : TypeId} (hd : Γ.P.underlying t = some (.slice e)) (hc : cA Γ w x = some a) : OpOK Γ w ⟨dst, .call ⟨.builtin .len, #[x], #[t]⟩, ty, pos, after, guard⟩ (I.lenL a) := by
  intro F hA tm h v h' w0 E wd ar ds hr hs ht
  rw [I.lenL_def] at hr
  obtain ⟨u, hu, e⟩ := (evK_some tm _ a _).1 hr
  have hu' := cA_ok (ds := ds) hΓ hc ht hu
  cases u with
  | slice b o n es cap =>
    rw [RV] at hu'
    obtain ⟨_, r, c, _, h2, _⟩ := hu'
    refine pure_end (x := .int .i64 n) e hs (by rw [RV]; rfl) (.inl ?_)
    simp [execOp, resolve, invoke, builtin, h2, Builtin.len_, r_under wd hd, goInt]
  | emp =>
    rw [RV] at hu'
    obtain ⟨r, c, h2⟩ := hu'
    refine pure_end (x := .int .i64 0) e hs (by rw [RV]; rfl) (.inl ?_)
    simp [execOp, resolve, invoke, builtin, h2, Builtin.len_, r_under wd hd, goInt]
  | nils =>
    rw [RV] at hu'
    refine pure_end (x := .int .i64 0) e hs (by rw [RV]; rfl) (.inl ?_)
    simp [execOp, resolve, invoke, builtin, hu', Builtin.len_, r_under wd hd, goInt]
  | bigs es l n =>
    rw [RV] at hu'
    obtain ⟨r, L, c, ys, h2, _, _, h3, _, _⟩ := hu'
    refine pure_end (x := .int .i64 L) e hs h3 (.inl ?_)
    simp [execOp, resolve, invoke, builtin, h2, Builtin.len_, r_under wd hd, goInt]
  | _ => exact nomatch e
theorem lenS_ok {x : Operand} {a : A} {t : TypeId} (hd : Γ.P.underlying t = some .string) (hc : cA Γ w x = some a) : OpOK Γ w ⟨dst, .call ⟨.builtin .len, #[x], #[t]⟩, ty, pos, after, guard⟩ (I.lenS a) := by
  intro F hA tm h v h' w0 E wd ar ds hr hs ht
  rw [I.lenS_def] at hr
  obtain ⟨u, hu, e⟩ := (evK_some tm _ a _).1 hr
  have hu' := cA_ok (ds := ds) hΓ hc ht hu
  cases u with
  | str s =>
    rw [RV] at hu'
    obtain ⟨q, h2, h3⟩ := hu'
    refine pure_end (x := .int .i64 q.size) e hs (by rw [RV, ← h3]; simp) (.inl ?_)
    simp [execOp, resolve, invoke, builtin, h2, Builtin.len_, r_under wd hd, goInt]
  | _ => exact nomatch e
theorem lenA_ok {x : Operand} {a : A} {t e : TypeId} {n : Nat} (hd : Γ.P.underlying t = some (.array n e)) (hc : cA Γ w x = some a) : OpOK Γ w ⟨dst, .call ⟨.builtin .len, #[x], #[t]⟩, ty, pos, after, guard⟩ (I.lenA n a) := by
  intro F hA tm h v h' w0 E wd ar ds hr hs ht
  refine pure_end (x := .int .i64 n) hr hs (by rw [RV]; rfl) (.inl ?_)
  simp [execOp, resolve, invoke, builtin, Builtin.len_, r_under wd hd, goInt]
end
end Go.X
