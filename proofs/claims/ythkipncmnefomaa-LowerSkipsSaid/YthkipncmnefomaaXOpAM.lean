/- A text of the verified executor, of contracts, or of this law; joined and trimmed by a program of mine (wip/gen). -/
import Derived.Test.YthkipncmnefomaaXReal
import Derived.Laws.Entries
import Derived.Laws.StructEq
import Derived.Laws.Tables
import Derived.Great.BuildSlice
import Derived.Laws.MakeOwn
import Derived.MapKept
import Derived.Deep.AppendSrc
import Derived.Laws.AppendOwn
set_option linter.unusedVariables false
set_option linter.unusedSimpArgs false
set_option linter.unusedSectionVars false
namespace Go.X
open Go.RowKit
variable [Nu]
universe u v
theorem OldCells.take {a : Addr} {ys : List Value} (h : OldCells a ys) (k : Nat) : OldCells a (ys.take k) :=
  ⟨h.1, fun w hw j y hy => h.2 w hw j y (by
    rw [List.getElem?_take] at hy
    split at hy
    · exact hy
    · exact nomatch hy)⟩
theorem OldCells.drop {a : Addr} {ys : List Value} (h : OldCells a ys) (k : Nat) : OldCells (a.add k) (ys.drop k) := by
  obtain ⟨b, o, s⟩ := a
  obtain ⟨h1, h2⟩ := h
  have hs : s = none := h1
  subst hs
  refine ⟨by rw [Addr.add_lit], fun w hw j y hy => ?_⟩
  rw [List.getElem?_drop] at hy
  have := h2 w hw _ y hy
  rw [Addr.add_lit] at this
  rw [Addr.add_lit, Addr.add_lit, Nat.add_assoc]
  exact this
theorem OldCells.zero {a : Addr} {ys : List Value} (h : OldCells a ys) {w : World} (hw : Below Nu.old.heap.size Nu.old w) {y : Value} (hy : ys[0]? = some y) : w.cell? a = some y := by
  obtain ⟨b, o, s⟩ := a
  obtain ⟨h1, h2⟩ := h
  have hs : s = none := h1
  subst hs
  have := h2 w hw 0 y hy
  rw [Addr.add_lit] at this
  exact this
structure Cx.Ok (Γ : Cx) : Prop where
  path : Γ.pathOf = path
  prog : Γ.P = Nu.prog
  glob : ∀ (g : Nat) (E : En), ∃ ys, RVs E (Γ.glob g) ys ∧ OldCells ⟨g, 0, none⟩ ys
  eqs : ∀ t, t ∈ Γ.eqs → Γ.P.stoodInHeld t = false ∧ Γ.P.eqGuardType Γ.P.depth t = false
def Yields (P : Program) (s : Sem Next) (w : World) (x : Value) (w' : World) : Prop := s.run P w = .ok (.value x) w' ∨ (s.run P w = .ok .skip w' ∧ x = Go.undef)
theorem yields_value {P : Program} {s : Sem Value} {w w' : World} {x : Value} (h : s.run P w = .ok x w') : Yields P (do pure (Next.value (← s))) w x w' := .inl (by simp [h])
theorem yields_unit {P : Program} {s : Sem Unit} {w w' : World} (h : s.run P w = .ok () w') : Yields P (do s; pure Next.skip) w Go.undef w' := .inr ⟨by simp [h], rfl⟩
def AskOK (P : Program) (F : CallF) : Prop := ∀ (op : BinOp) (v u r : V), F.ask op v u = some r → ∀ (E : En) (x y : Value), RV E v x → RV E u y → ∀ (t : TypeId) (w : World), ∃ z, RV E r z ∧ (∃ k n, x = .int k n) ∧ (binOp op t x y).run P w = .ok z w
def OpOK (Γ : Cx) (w : Nat) (o : Oper) (i : I) : Prop :=
  ∀ (F : CallF), AskOK Γ.P F → ∀ (tm : Tm) (h : H) (v : V) (h' : H) (w0 : World) (E : En) (wd : World) (ar : Array Value) (ds : List Deferred),
    run (i F tm) h = some (v, h') → Sim w0 E h wd → TR E w tm ar →
      ∃ E' w' x, E.le E' ∧ Sim w0 E' h' w' ∧ RV E' v x ∧ Yields Γ.P (execOp (Act.eval ⟨ar, ds⟩) o) wd x w'
mutual
theorem ofV_RV (E : En) : ∀ (x : Value) (v : V), ofV x = some v → RV E v x
  | .bool b, v, h => by simp only [ofV, Option.some.injEq] at h; subst h; rw [RV]
  | .int k n, v, h => by simp only [ofV, Option.some.injEq] at h; subst h; rw [RV]
  | .string s, v, h => by simp only [ofV, Option.some.injEq] at h; subst h; rw [RV]; exact ⟨s, rfl, rfl⟩
  | .pointer none, v, h => by simp only [ofV, Option.some.injEq] at h; subst h; rw [RV]
  | .slice none 0 0, v, h => by simp only [ofV, Option.some.injEq] at h; subst h; rw [RV]
  | .map none, v, h => by simp only [ofV, Option.some.injEq] at h; subst h; rw [RV]
  | .nilFunc, v, h => by simp only [ofV, Option.some.injEq] at h; subst h; rw [RV]
  | .nilIface, v, h => by simp only [ofV, Option.some.injEq] at h; subst h; rw [RV]
  | .agg ⟨l⟩, v, h => by
    rw [ofV] at h
    cases hl : ofVs l with
    | none => rw [hl] at h; exact nomatch h
    | some vs => rw [hl] at h; simp only [Option.some.injEq] at h; subst h; rw [RV]; exact ⟨l, rfl, ofVs_RV E l vs hl⟩
  | .tuple ⟨l⟩, v, h => by
    rw [ofV] at h
    cases hl : ofVs l with
    | none => rw [hl] at h; exact nomatch h
    | some vs => rw [hl] at h; simp only [Option.some.injEq] at h; subst h; rw [RV]; exact ⟨l, rfl, ofVs_RV E l vs hl⟩
  | .float _ _, v, h => by simp [ofV] at h
  | .complex _ _ _, v, h => by simp [ofV] at h
  | .pointer (some _), v, h => by simp [ofV] at h
  | .slice (some _) _ _, v, h => by simp [ofV] at h
  | .slice none (_ + 1) _, v, h => by simp [ofV] at h
  | .slice none 0 (_ + 1), v, h => by simp [ofV] at h
  | .map (some _), v, h => by simp [ofV] at h
  | .chan _, v, h => by simp [ofV] at h
  | .func _ _ _, v, h => by simp [ofV] at h
  | .iface _ _, v, h => by simp [ofV] at h
theorem ofVs_RV (E : En) : ∀ (l : List Value) (vs : List V), ofVs l = some vs → RVs E vs l
  | [], vs, h => by simp only [ofVs, Option.some.injEq] at h; subst h; exact RVs_none
  | x :: l, vs, h => by
    rw [ofVs] at h
    cases hx : ofV x with
    | none => rw [hx] at h; simp at h
    | some a =>
      cases hl : ofVs l with
      | none => rw [hx, hl] at h; simp at h
      | some b =>
        rw [hx, hl] at h
        simp only [Option.some.injEq] at h
        subst h
        exact RVs_mk (ofV_RV E x a hx) (ofVs_RV E l b hl)
end
noncomputable def evA (tm : Tm) : A → Option V
  | .t p => tm.get p
  | .c v => some v
theorem evK_some {R : Type} (tm : Tm) (K : V → Option R) (a : A) (r : R) : evK tm K a = some r ↔ ∃ v, evA tm a = some v ∧ K v = some r := by
  cases a with
  | t p =>
    show Tp.getK K p tm = some r ↔ _
    rw [Tp.getK_get]
    show _ ↔ ∃ v, tm.get p = some v ∧ _
    cases tm.get p with
    | none => simp
    | some v => simp
  | c v => show K v = some r ↔ ∃ u, some v = some u ∧ _; simp
theorem cA_ok {Γ : Cx} (hΓ : Γ.Ok) {w : Nat} {x : Operand} {a : A} (hc : cA Γ w x = some a) {E : En} {tm : Tm} {ar : Array Value} {ds : List Deferred} (ht : TR E w tm ar) {v : V} (hv : evA tm a = some v) :
    RV E v (Act.eval ⟨ar, ds⟩ x) := by
  cases x with
  | tmp t =>
    rw [cA] at hc
    by_cases h : t < lim w
    · rw [if_pos h, hΓ.path] at hc
      simp only [Option.some.injEq] at hc
      subst hc
      exact ht t v h hv
    · rw [if_neg h] at hc; exact nomatch hc
  | const c =>
    rw [cA] at hc
    cases ho : ofV c with
    | none => rw [ho] at hc; exact nomatch hc
    | some u =>
      rw [ho] at hc
      simp only [Option.some.injEq] at hc
      subst hc
      simp only [evA, Option.some.injEq] at hv
      subst hv
      exact ofV_RV E c u ho
  | func f =>
    simp only [cA, Option.some.injEq] at hc
    subst hc
    simp only [evA, Option.some.injEq] at hv
    subst hv
    rw [RV]
    exact ⟨[], [], rfl, RVs_none, RVs_none⟩
  | global g =>
    simp only [cA, Option.some.injEq] at hc
    subst hc
    simp only [evA, Option.some.injEq] at hv
    subst hv
    obtain ⟨ys, h1, h2⟩ := hΓ.glob g E
    rw [RV]
    exact ⟨_, ys, rfl, h1, h2⟩
theorem allSome_cons {α : Type u} {β : Type v} (f : α → Option β) (x : α) (l : List α) (r : List β) : allSome f (x :: l) = some r ↔ ∃ a b, f x = some a ∧ allSome f l = some b ∧ r = a :: b := by
  rw [allSome]
  cases f x with
  | none => simp
  | some a =>
    cases allSome f l with
    | none => simp
    | some b => simp [eq_comm]
noncomputable def evAs (tm : Tm) (l : List A) : Option (List V) := evsK tm l some
theorem evsK_cons {R : Type} (tm : Tm) (a : A) (l : List A) (K : List V → Option R) : evsK tm (a :: l) K = evK tm (fun v => evsK tm l fun vs => K (v :: vs)) a := rfl
theorem evsK_some {R : Type} (tm : Tm) (r : R) : ∀ (l : List A) (K : List V → Option R), evsK tm l K = some r ↔ ∃ vs, evAs tm l = some vs ∧ K vs = some r
  | [], K => by show K [] = some r ↔ ∃ vs, some [] = some vs ∧ _; simp
  | a :: l, K => by
    rw [evsK_cons, evK_some]
    constructor
    · rintro ⟨v, h1, h2⟩
      obtain ⟨vs, h3, h4⟩ := (evsK_some tm r l _).1 h2
      exact ⟨v :: vs, by rw [evAs, evsK_cons, evK_some]; exact ⟨v, h1, (evsK_some tm _ l _).2 ⟨vs, h3, rfl⟩⟩, h4⟩
    · rintro ⟨vs, h1, h2⟩
      rw [evAs, evsK_cons, evK_some] at h1
      obtain ⟨v, h3, h4⟩ := h1
      obtain ⟨us, h5, h6⟩ := (evsK_some tm _ l _).1 h4
      simp only [Option.some.injEq] at h6
      subst h6
      exact ⟨v, h3, (evsK_some tm r l _).2 ⟨us, h5, h2⟩⟩
theorem cAs_ok {Γ : Cx} (hΓ : Γ.Ok) {w : Nat} {E : En} {tm : Tm} {ar : Array Value} {ds : List Deferred} (ht : TR E w tm ar) : ∀ {xs : List Operand} {l : List A} {vs : List V}, allSome (cA Γ w) xs = some l → evAs tm l = some vs →
    RVs E vs (xs.map (Act.eval ⟨ar, ds⟩))
  | [], l, vs, hc, hv => by
    simp only [allSome, Option.some.injEq] at hc
    subst hc
    have : some [] = some vs := hv
    simp only [Option.some.injEq] at this
    subst this
    exact RVs_none
  | x :: xs, l, vs, hc, hv => by
    obtain ⟨a, b, h1, h2, rfl⟩ := (allSome_cons _ _ _ _).1 hc
    rw [evAs, evsK_cons, evK_some] at hv
    obtain ⟨v, h3, h4⟩ := hv
    obtain ⟨us, h5, h6⟩ := (evsK_some tm _ b _).1 h4
    simp only [Option.some.injEq] at h6
    subst h6
    exact RVs_mk (cA_ok hΓ h1 ht h3) (cAs_ok hΓ ht h2 h5)
theorem pure_end {P : Program} {w0 : World} {E : En} {h h' : H} {wd : World} {v v' : V} {x : Value} {s : Sem Next} (e : some (v, h) = some (v', h')) (hs : Sim w0 E h wd) (hv : RV E v x) (hy : Yields P s wd x wd) :
    ∃ E' w' y, E.le E' ∧ Sim w0 E' h' w' ∧ RV E' v' y ∧ Yields P s wd y w' := by
  simp only [Option.some.injEq, Prod.mk.injEq] at e
  obtain ⟨rfl, rfl⟩ := e
  exact ⟨E, wd, x, En.le_refl E, hs, hv, hy⟩
section
variable {Γ : Cx} (hΓ : Γ.Ok) {w : Nat} {dst : Option Tmp} {ty : TypeId} {pos : String} {after : Array Edge} {guard : Option (Nat × Bool)}
include hΓ
theorem mov_ok {x : Operand} {a : A} (hc : cA Γ w x = some a) : OpOK Γ w ⟨dst, .move x, ty, pos, after, guard⟩ (I.mov a) := by
  intro F hA tm h v h' w0 E wd ar ds hr hs ht
  obtain ⟨u, hu, e⟩ := (evK_some tm _ a _).1 hr
  exact pure_end e hs (cA_ok (ds := ds) hΓ hc ht hu) (.inl (by simp [execOp]))
theorem assign_ok {x : Operand} {a : A} (hc : cA Γ w x = some a) : OpOK Γ w ⟨dst, .assign x, ty, pos, after, guard⟩ (I.mov a) := by
  intro F hA tm h v h' w0 E wd ar ds hr hs ht
  obtain ⟨u, hu, e⟩ := (evK_some tm _ a _).1 hr
  exact pure_end e hs (cA_ok (ds := ds) hΓ hc ht hu) (.inl (by simp [execOp]))
theorem pick_ok {x y z : Operand} {a b c : A} (hx : cA Γ w x = some a) (hy : cA Γ w y = some b) (hz : cA Γ w z = some c) : OpOK Γ w ⟨dst, .pick x y z, ty, pos, after, guard⟩ (I.pick a b c) := by
  intro F hA tm h v h' w0 E wd ar ds hr hs ht
  rw [I.pick_def] at hr
  obtain ⟨u, hu, e⟩ := (evK_some tm _ a _).1 hr
  have hu' := cA_ok (ds := ds) hΓ hx ht hu
  cases u with
  | bool q =>
    rw [RV] at hu'
    cases q
    · obtain ⟨_, _, e⟩ := (evK_some tm _ b _).1 e
      obtain ⟨u2, hu2, e⟩ := (evK_some tm _ c _).1 e
      exact pure_end e hs (cA_ok (ds := ds) hΓ hz ht hu2) (.inl (by simp [execOp, hu', asBool]))
    · obtain ⟨u2, hu2, e⟩ := (evK_some tm _ b _).1 e
      obtain ⟨_, _, e⟩ := (evK_some tm _ c _).1 e
      exact pure_end e hs (cA_ok (ds := ds) hΓ hy ht hu2) (.inl (by simp [execOp, hu', asBool]))
  | _ => exact nomatch e
theorem nilck_ok {x : Operand} {a : A} (hc : cA Γ w x = some a) : OpOK Γ w ⟨dst, .nilCheck x, ty, pos, after, guard⟩ (I.nilck a) := by
  intro F hA tm h v h' w0 E wd ar ds hr hs ht
  rw [I.nilck_def] at hr
  obtain ⟨u, hu, e⟩ := (evK_some tm _ a _).1 hr
  have hu' := cA_ok (ds := ds) hΓ hc ht hu
  have hu2 := hu'
  cases u with
  | ptr b o => rw [RV] at hu'; obtain ⟨r, h1, h2⟩ := hu'; exact pure_end e hs hu2 (.inl (by simp [execOp, h2]))
  | view l => rw [RV] at hu'; obtain ⟨r, ys, h2, _⟩ := hu'; exact pure_end e hs hu2 (.inl (by simp [execOp, h2]))
  | fn f l m =>
    cases f with
    | func f => rw [RV] at hu'; obtain ⟨l', m', h2, _⟩ := hu'; exact pure_end e hs hu2 (.inl (by simp [execOp, h2]))
    | _ => exact nomatch e
  | _ => exact nomatch e
theorem not_ok {x : Operand} {a : A} {t : TypeId} (hc : cA Γ w x = some a) : OpOK Γ w ⟨dst, .unOp .not t x, ty, pos, after, guard⟩ (I.not a) := by
  intro F hA tm h v h' w0 E wd ar ds hr hs ht
  rw [I.not_def] at hr
  obtain ⟨u, hu, e⟩ := (evK_some tm _ a _).1 hr
  have hu' := cA_ok (ds := ds) hΓ hc ht hu
  cases u with
  | bool b => rw [RV] at hu'; exact pure_end (x := .bool !b) e hs (by rw [RV]) (.inl (by simp [execOp, hu', Op.unary]))
  | _ => exact nomatch e
theorem iface_ok {x : Operand} {a : A} {t : TypeId} {d : TypeDesc} (hd : Γ.P.underlying t = some d) (hi : ∀ ms, d ≠ .interface ms) (hc : cA Γ w x = some a) : OpOK Γ w ⟨dst, .makeInterface t x, ty, pos, after, guard⟩ (I.iface t a) := by
  intro F hA tm h v h' w0 E wd ar ds hr hs ht
  obtain ⟨u, hu, e⟩ := (evK_some tm _ a _).1 hr
  have hu' := cA_ok (ds := ds) hΓ hc ht hu
  refine pure_end (x := .iface t (Act.eval ⟨ar, ds⟩ x)) e hs (by rw [RV]; exact ⟨_, rfl, hu'⟩) (yields_value ?_)
  simp only [Instr.makeInterface, Sem.run_bind, r_under wd hd, Result.andThen_ok]
  cases d <;> first | rfl | exact absurd rfl (hi _)
theorem fn_ok {f : Fn} {xs ys : Array Operand} {l m : List A} (hx : allSome (cA Γ w) xs.toList = some l) (hy : allSome (cA Γ w) ys.toList = some m) : OpOK Γ w ⟨dst, .makeFunc f xs ys, ty, pos, after, guard⟩ (I.fn f l m) := by
  intro F hA tm h v h' w0 E wd ar ds hr hs ht
  obtain ⟨us, hu, e⟩ := (evsK_some tm _ l _).1 hr
  obtain ⟨vs, hv, e⟩ := (evsK_some tm _ m _).1 e
  have h1 := cAs_ok (ds := ds) hΓ ht hx hu
  have h2 := cAs_ok (ds := ds) hΓ ht hy hv
  refine pure_end (x := .func f (xs.map (Act.eval ⟨ar, ds⟩)) (ys.map (Act.eval ⟨ar, ds⟩))) e hs ?_ (.inl (by simp [execOp, Instr.makeFunc]))
  rw [RV]
  exact ⟨_, _, by rw [← Array.toList_map, ← Array.toList_map], h1, h2⟩
theorem ext_ok {x : Operand} {a : A} {i : Nat} (hc : cA Γ w x = some a) : OpOK Γ w ⟨dst, .extract x i, ty, pos, after, guard⟩ (I.ext i a) := by
  intro F hA tm h v h' w0 E wd ar ds hr hs ht
  rw [I.ext_def] at hr
  obtain ⟨u, hu, e⟩ := (evK_some tm _ a _).1 hr
  have hu' := cA_ok (ds := ds) hΓ hc ht hu
  cases u with
  | tup l =>
    obtain ⟨q, hq, e⟩ := (optRec_some _ _ _).1 e
    rw [RV] at hu'
    obtain ⟨ys, hy, hl⟩ := hu'
    obtain ⟨y, hy1, hy2⟩ := RVs_get hl hq
    exact pure_end e hs hy2 (yields_value (by simp [hy, Instr.extract, hy1]))
  | _ => exact nomatch e
theorem lenL_ok {x : Operand} {a : A} {t e : TypeId} (hd : Γ.P.underlying t = some (.slice e)) (hc : cA Γ w x = some a) : OpOK Γ w ⟨dst, .call ⟨.builtin .len, #[x], #[t]⟩, ty, pos, after, guard⟩ (I.lenL a) := by
  intro F hA tm h v h' w0 E wd ar ds hr hs ht
  rw [I.lenL_def] at hr
  obtain ⟨u, hu, e⟩ := (evK_some tm _ a _).1 hr
  have hu' := cA_ok (ds := ds) hΓ hc ht hu
  cases u with
  | slice b o n es cap =>
    rw [RV] at hu'
    obtain ⟨_, r, c, _, h2, _⟩ := hu'
    refine pure_end (x := .int .i64 n) e hs (by rw [RV]; rfl) (.inl ?_)
    simp [execOp, resolve, invoke, builtin, h2, Builtin.len_, r_under wd hd, goInt]
  | emp =>
    rw [RV] at hu'
    obtain ⟨r, c, h2⟩ := hu'
    refine pure_end (x := .int .i64 0) e hs (by rw [RV]; rfl) (.inl ?_)
    simp [execOp, resolve, invoke, builtin, h2, Builtin.len_, r_under wd hd, goInt]
  | nils =>
    rw [RV] at hu'
    refine pure_end (x := .int .i64 0) e hs (by rw [RV]; rfl) (.inl ?_)
    simp [execOp, resolve, invoke, builtin, hu', Builtin.len_, r_under wd hd, goInt]
  | bigs es l n =>
    rw [RV] at hu'
    obtain ⟨r, L, c, ys, h2, _, _, h3, _, _⟩ := hu'
    refine pure_end (x := .int .i64 L) e hs h3 (.inl ?_)
    simp [execOp, resolve, invoke, builtin, h2, Builtin.len_, r_under wd hd, goInt]
  | _ => exact nomatch e
theorem lenS_ok {x : Operand} {a : A} {t : TypeId} (hd : Γ.P.underlying t = some .string) (hc : cA Γ w x = some a) : OpOK Γ w ⟨dst, .call ⟨.builtin .len, #[x], #[t]⟩, ty, pos, after, guard⟩ (I.lenS a) := by
  intro F hA tm h v h' w0 E wd ar ds hr hs ht
  rw [I.lenS_def] at hr
  obtain ⟨u, hu, e⟩ := (evK_some tm _ a _).1 hr
  have hu' := cA_ok (ds := ds) hΓ hc ht hu
  cases u with
  | str s =>
    rw [RV] at hu'
    obtain ⟨q, h2, h3⟩ := hu'
    refine pure_end (x := .int .i64 q.size) e hs (by rw [RV, ← h3]; simp) (.inl ?_)
    simp [execOp, resolve, invoke, builtin, h2, Builtin.len_, r_under wd hd, goInt]
  | _ => exact nomatch e
theorem lenA_ok {x : Operand} {a : A} {t e : TypeId} {n : Nat} (hd : Γ.P.underlying t = some (.array n e)) (hc : cA Γ w x = some a) : OpOK Γ w ⟨dst, .call ⟨.builtin .len, #[x], #[t]⟩, ty, pos, after, guard⟩ (I.lenA n a) := by
  intro F hA tm h v h' w0 E wd ar ds hr hs ht
  refine pure_end (x := .int .i64 n) hr hs (by rw [RV]; rfl) (.inl ?_)
  simp [execOp, resolve, invoke, builtin, Builtin.len_, r_under wd hd, goInt]
end
end Go.X
namespace Go.X
open Go.RowKit
variable [Nu]
theorem boolRec_if {R : Type} (b : Bool) (x y : R) : (Bool.rec x y b : R) = if b = true then y else x := by cases b <;> rfl
theorem wrap64s_eq (n : Int) : wrap64s n = IntKind.i64.wrap n := by
  have e : IntKind.i64.wrap n = if 9223372036854775808 ≤ n % 18446744073709551616 then n % 18446744073709551616 - 18446744073709551616 else n % 18446744073709551616 := by
    simp [IntKind.wrap, IntKind.bits, IntKind.signed]
  rw [e]
  unfold wrap64s
  have h0 : 0 ≤ n.emod 18446744073709551616 := Int.emod_nonneg n (by decide)
  have h1 : n.emod 18446744073709551616 < 18446744073709551616 := Int.emod_lt_of_pos n (by decide)
  have h2 : n % 18446744073709551616 = n.emod 18446744073709551616 := rfl
  rw [h2]
  cases hm : n.emod 18446744073709551616 with
  | ofNat m =>
    rw [hm] at h0 h1
    show (Bool.rec (Int.ofNat m) (Int.negSucc (Nat.sub 18446744073709551615 m)) (Nat.ble 9223372036854775808 m) : Int) = _
    rw [ble_if]
    by_cases c : 9223372036854775808 ≤ m
    · rw [if_pos c, if_pos (by simp; omega), Int.negSucc_eq]
      simp only [Int.ofNat_eq_natCast] at h1 ⊢
      show -((18446744073709551615 - m : Nat) + 1 : Int) = _
      omega
    · rw [if_neg c, if_neg (by simp; omega)]
  | negSucc m => rw [hm] at h0; exact absurd h0 (by simp)
theorem wrap64_eq (n : Int) : wrap64 n = IntKind.i64.wrap n := by
  have e : IntKind.i64.wrap n = if 9223372036854775808 ≤ n % 18446744073709551616 then n % 18446744073709551616 - 18446744073709551616 else n % 18446744073709551616 := by
    simp [IntKind.wrap, IntKind.bits, IntKind.signed]
  cases n with
  | ofNat m =>
    show (Bool.rec (wrap64s (Int.ofNat m)) (Int.ofNat m) (Nat.ble m 9223372036854775807) : Int) = _
    rw [ble_if]
    by_cases c : m ≤ 9223372036854775807
    · rw [if_pos c, e]; simp only [Int.ofNat_eq_natCast]; rw [if_neg (by omega)]; omega
    · rw [if_neg c, wrap64s_eq]
  | negSucc m =>
    show (Bool.rec (wrap64s (Int.negSucc m)) (Int.negSucc m) (Nat.ble m 9223372036854775807) : Int) = _
    rw [ble_if]
    by_cases c : m ≤ 9223372036854775807
    · rw [if_pos c, e, Int.negSucc_eq, if_pos (by omega)]; omega
    · rw [if_neg c, wrap64s_eq]
theorem intV_eq {k : IntKind} {n : Int} {v : V} (h : intV k n = some v) : v = .int k (k.wrap n) := by
  cases k with
  | i32 =>
    have h1 : int32 n = some v := h
    cases n with
    | ofNat m =>
      obtain ⟨h2, h3⟩ := (boolRec_some _ _ _).1 (show (Bool.rec none (some (V.int .i32 (Int.ofNat m))) (Nat.ble m 2147483647) : Option V) = some v from h1)
      have h4 := Nat.le_of_ble_eq_true h2
      simp only [Option.some.injEq] at h3
      have e : (Int.ofNat m + 2147483648) % 4294967296 - 2147483648 = Int.ofNat m := by simp only [Int.ofNat_eq_natCast]; omega
      rw [← h3, IntKind.wrap_i32, e]
    | negSucc m =>
      obtain ⟨h2, h3⟩ := (boolRec_some _ _ _).1 (show (Bool.rec none (some (V.int .i32 (Int.negSucc m))) (Nat.ble m 2147483647) : Option V) = some v from h1)
      have h4 := Nat.le_of_ble_eq_true h2
      simp only [Option.some.injEq] at h3
      have e : (Int.negSucc m + 2147483648) % 4294967296 - 2147483648 = Int.negSucc m := by simp only [Int.negSucc_eq]; omega
      rw [← h3, IntKind.wrap_i32, e]
  | i64 => have h' : some (V.int .i64 (wrap64 n)) = some v := h; simp only [Option.some.injEq] at h'; rw [← h', wrap64_eq]
  | u64 => have h' : some (V.int .u64 (upto 18446744073709551616 n)) = some v := h; simp only [Option.some.injEq] at h'; rw [← h', upto_eq]; simp [IntKind.wrap, IntKind.bits, IntKind.signed]; rfl
  | u32 => have h' : some (V.int .u32 (upto 4294967296 n)) = some v := h; simp only [Option.some.injEq] at h'; rw [← h', upto_eq]; simp [IntKind.wrap, IntKind.bits, IntKind.signed]; rfl
  | u8 => have h' : some (V.int .u8 (upto 256 n)) = some v := h; simp only [Option.some.injEq] at h'; rw [← h', upto_eq]; simp [IntKind.wrap, IntKind.bits, IntKind.signed]; rfl
  | _ => exact nomatch h
theorem beq_true {m n : Nat} : Nat.beq m n = true ↔ m = n := by
  constructor
  · exact Nat.eq_of_beq_eq_true
  · rintro rfl; simp
theorem beq_dec (m n : Nat) : Nat.beq m n = decide (m = n) := by
  rw [Bool.eq_iff_iff, beq_true]; simp
theorem ble_dec (m n : Nat) : Nat.ble m n = decide (m ≤ n) := by
  rw [Bool.eq_iff_iff, Nat.ble_eq]; simp
theorem ieq_eq (a b : Int) : ieq a b = (a == b) := by
  cases a with
  | ofNat m =>
    cases b with
    | ofNat n => simp only [ieq, beq_dec]; rw [Bool.eq_iff_iff]; simp only [Int.ofNat_eq_natCast, decide_eq_true_eq, beq_iff_eq]; omega
    | negSucc n => simp only [ieq]; rw [Bool.eq_iff_iff]; simp
  | negSucc m =>
    cases b with
    | ofNat n => simp only [ieq]; rw [Bool.eq_iff_iff]; simp
    | negSucc n => simp only [ieq, beq_dec]; rw [Bool.eq_iff_iff]; simp
theorem ilt_eq (a b : Int) : ilt a b = decide (a < b) := by
  cases a with
  | ofNat m =>
    cases b with
    | ofNat n => simp only [ilt, ble_dec]; congr 1; simp only [Int.ofNat_eq_natCast, eq_iff_iff]; omega
    | negSucc n => simp only [ilt]; rw [eq_comm, decide_eq_false_iff_not]; simp only [Int.ofNat_eq_natCast, Int.negSucc_eq]; omega
  | negSucc m =>
    cases b with
    | ofNat n => simp only [ilt]; rw [eq_comm, decide_eq_true_iff]; simp only [Int.ofNat_eq_natCast, Int.negSucc_eq]; omega
    | negSucc n => simp only [ilt, ble_dec]; congr 1; simp only [Int.negSucc_eq, eq_iff_iff]; omega
theorem kindEq_eq {k k' : IntKind} (h : kindEq k k' = true) : k = k' := by
  cases k <;> cases k' <;> first | rfl | exact nomatch h
theorem sEq_eq : ∀ (a b : List Nat), sEq a b = decide (a = b)
  | [], [] => by simp; rfl
  | [], _ :: _ => by simp; rfl
  | _ :: _, [] => by simp; rfl
  | x :: a, y :: b => by
    show (Bool.rec false (sEq a b) (Nat.beq x y) : Bool) = _
    rw [boolRec_if, sEq_eq a b]
    by_cases h : x = y
    · rw [if_pos (beq_true.2 h)]; simp [h]
    · rw [if_neg (fun c => h (beq_true.1 c))]; simp [h]
theorem toNat_inj {a b : UInt8} : a.toNat = b.toNat ↔ a = b := UInt8.toNat_inj
theorem map_toNat_inj : ∀ {a b : List UInt8}, a.map (·.toNat) = b.map (·.toNat) ↔ a = b
  | [], [] => by simp
  | [], _ :: _ => by simp
  | _ :: _, [] => by simp
  | x :: a, y :: b => by
    rw [List.map_cons, List.map_cons, List.cons.injEq, List.cons.injEq, map_toNat_inj, toNat_inj]
theorem ba_toList (s : ByteArray) : s.toList = s.data.toList := by
  have key : ∀ (n i : Nat) (r : List UInt8), n = s.size - i → ByteArray.toList.loop s i r = r.reverse ++ s.data.toList.drop i := by
    intro n
    induction n with
    | zero =>
      intro i r h
      rw [ByteArray.toList.loop, if_neg (by omega)]
      have : s.data.toList.length ≤ i := by simp; have := (show s.data.size = s.size from rfl); omega
      rw [List.drop_eq_nil_of_le this, List.append_nil]
    | succ n ih =>
      intro i r h
      have hi : i < s.size := by omega
      rw [ByteArray.toList.loop, if_pos hi, ih (i + 1) _ (by omega)]
      have hl : i < s.data.toList.length := by simp; exact hi
      rw [List.drop_eq_getElem_cons hl, List.reverse_cons, List.append_assoc, List.singleton_append]
      congr 2
      simp [ByteArray.get!, hi]
  rw [ByteArray.toList, key s.size 0 [] rfl]; simp
theorem sEq_bytes (s t : ByteArray) : sEq (s.data.toList.map (·.toNat)) (t.data.toList.map (·.toNat)) = (s.toList == t.toList) := by
  rw [sEq_eq, Bool.eq_iff_iff]
  rw [decide_eq_true_eq, beq_iff_eq, map_toNat_inj, ba_toList, ba_toList]
theorem sLt_bytes : ∀ (a b : List UInt8), sLt (a.map (·.toNat)) (b.map (·.toNat)) = Op.bytesLess a b
  | _, [] => by rename_i a; cases a <;> rfl
  | [], _ :: _ => rfl
  | x :: a, y :: b => by
    show (Bool.rec (Bool.rec false (sLt (a.map (·.toNat)) (b.map (·.toNat))) (Nat.beq x.toNat y.toNat)) true (Nat.ble (Nat.succ x.toNat) y.toNat) : Bool) = (x < y || (x == y && Op.bytesLess a b))
    rw [boolRec_if, boolRec_if, sLt_bytes a b]
    have h1 : Nat.ble (Nat.succ x.toNat) y.toNat = decide (x < y) := by rw [ble_dec]; congr 1
    have h2 : Nat.beq x.toNat y.toNat = (x == y) := by rw [beq_dec, Bool.eq_iff_iff]; simp [toNat_inj]
    rw [h1, h2]
    cases decide (x < y) <;> cases (x == y) <;> simp
theorem bitsV_some {f : Nat → Nat → Nat} {k : IntKind} {a b : Int} {v : V} (h : bitsV k f a b = some v) (hf : ∀ (N x y : Nat), x < 2 ^ N → y < 2 ^ N → f x y < 2 ^ N) :
    ∃ x y : Nat, a = x ∧ b = y ∧ v = .int k (f x y : Nat) ∧ x < 2 ^ k.bits ∧ y < 2 ^ k.bits ∧ k.wrap (f x y : Nat) = (f x y : Nat) := by
  cases a with
  | negSucc m => cases k <;> cases b <;> exact nomatch h
  | ofNat x =>
    cases b with
    | negSucc m => cases k <;> exact nomatch h
    | ofNat y =>
      refine ⟨x, y, rfl, rfl, ?_⟩
      cases k with
      | i64 =>
        have h' : (Bool.rec none (Bool.rec none (some (V.int .i64 (Int.ofNat (f x y)))) (Nat.ble y 9223372036854775807)) (Nat.ble x 9223372036854775807) : Option V) = some v := h
        obtain ⟨h1, h'⟩ := (boolRec_some _ _ _).1 h'
        obtain ⟨h2, h'⟩ := (boolRec_some _ _ _).1 h'
        have h1' : x ≤ 9223372036854775807 := Nat.le_of_ble_eq_true h1
        have h2' : y ≤ 9223372036854775807 := Nat.le_of_ble_eq_true h2
        simp only [Option.some.injEq] at h'
        have hfl := hf 63 x y (by omega) (by omega)
        refine ⟨h'.symm, by simp only [IntKind.bits]; omega, by simp only [IntKind.bits]; omega, ?_⟩
        rw [← wrap64_eq]
        show (Bool.rec _ (Int.ofNat (f x y)) (Nat.ble (f x y) 9223372036854775807) : Int) = _
        rw [ble_if, if_pos (by omega)]; rfl
      | u64 =>
        have h' : (Bool.rec none (Bool.rec none (some (V.int .u64 (Int.ofNat (f x y)))) (Nat.ble y 18446744073709551615)) (Nat.ble x 18446744073709551615) : Option V) = some v := h
        obtain ⟨h1, h'⟩ := (boolRec_some _ _ _).1 h'
        obtain ⟨h2, h'⟩ := (boolRec_some _ _ _).1 h'
        have h1' : x ≤ 18446744073709551615 := Nat.le_of_ble_eq_true h1
        have h2' : y ≤ 18446744073709551615 := Nat.le_of_ble_eq_true h2
        simp only [Option.some.injEq] at h'
        have hfl := hf 64 x y (by omega) (by omega)
        refine ⟨h'.symm, by simp only [IntKind.bits]; omega, by simp only [IntKind.bits]; omega, ?_⟩
        simp [IntKind.wrap, IntKind.bits, IntKind.signed]; omega
      | u32 =>
        have h' : (Bool.rec none (Bool.rec none (some (V.int .u32 (Int.ofNat (f x y)))) (Nat.ble y 4294967295)) (Nat.ble x 4294967295) : Option V) = some v := h
        obtain ⟨h1, h'⟩ := (boolRec_some _ _ _).1 h'
        obtain ⟨h2, h'⟩ := (boolRec_some _ _ _).1 h'
        have h1' : x ≤ 4294967295 := Nat.le_of_ble_eq_true h1
        have h2' : y ≤ 4294967295 := Nat.le_of_ble_eq_true h2
        simp only [Option.some.injEq] at h'
        have hfl := hf 32 x y (by omega) (by omega)
        refine ⟨h'.symm, by simp only [IntKind.bits]; omega, by simp only [IntKind.bits]; omega, ?_⟩
        simp [IntKind.wrap, IntKind.bits, IntKind.signed]; omega
      | u8 =>
        have h' : (Bool.rec none (Bool.rec none (some (V.int .u8 (Int.ofNat (f x y)))) (Nat.ble y 255)) (Nat.ble x 255) : Option V) = some v := h
        obtain ⟨h1, h'⟩ := (boolRec_some _ _ _).1 h'
        obtain ⟨h2, h'⟩ := (boolRec_some _ _ _).1 h'
        have h1' : x ≤ 255 := Nat.le_of_ble_eq_true h1
        have h2' : y ≤ 255 := Nat.le_of_ble_eq_true h2
        simp only [Option.some.injEq] at h'
        have hfl := hf 8 x y (by omega) (by omega)
        refine ⟨h'.symm, by simp only [IntKind.bits]; omega, by simp only [IntKind.bits]; omega, ?_⟩
        simp [IntKind.wrap, IntKind.bits, IntKind.signed]; omega
      | _ => exact nomatch h
theorem ofInt_nat (N x : Nat) (h : x < 2 ^ N) : (BitVec.ofInt N (x : Int)).toNat = x := by
  rw [BitVec.ofInt_natCast, BitVec.toNat_ofNat, Nat.mod_eq_of_lt h]
theorem arith_ok {P : Program} {op : BinOp} {k : IntKind} {a b : Int} {v : V} (h : arith op k a b = some v) (E : En) (t : TypeId) (w : World) : ∃ x, RV E v x ∧ (binOp op t (.int k a) (.int k b)).run P w = .ok x w := by
  cases op with
  | add => refine ⟨_, ?_, by rw [binOp_add]; rfl⟩; rw [intV_eq h, RV, iadd_eq]
  | sub => refine ⟨_, ?_, by rw [binOp_sub]; rfl⟩; rw [intV_eq h, RV, isub_eq]
  | mul => refine ⟨_, ?_, by rw [binOp_mul]; rfl⟩; rw [intV_eq h, RV, imul_eq]
  | quo =>
    have h : (Bool.rec (intV k (idiv a b)) none (ieq b 0) : Option V) = some v := h
    rw [boolRec_if, ieq_eq] at h
    by_cases c : b = 0
    · rw [if_pos (by simpa using c)] at h; exact nomatch h
    · rw [if_neg (by simpa using c)] at h
      refine ⟨_, ?_, by rw [binOp_quo, Op.intDiv, if_neg c]; rfl⟩; rw [intV_eq h, RV, idiv_eq]
  | rem =>
    have h : (Bool.rec (some (V.int k (imod a b))) none (ieq b 0) : Option V) = some v := h
    rw [boolRec_if, ieq_eq] at h
    by_cases c : b = 0
    · rw [if_pos (by simpa using c)] at h; exact nomatch h
    · rw [if_neg (by simpa using c)] at h
      simp only [Option.some.injEq] at h
      refine ⟨_, ?_, by rw [binOp_rem, Op.intDiv, if_neg c]; rfl⟩; rw [← h, RV, imod_eq]
  | and =>
    obtain ⟨x, y, rfl, rfl, rfl, hx, hy, hw⟩ := bitsV_some h (fun N x y hx hy => Nat.and_lt_two_pow x hy)
    refine ⟨.int k (bits .and k x y), ?_, by rw [binOp_and, intBits_and]; rfl⟩
    have e : bits .and k (x : Int) (y : Int) = k.wrap ((BitVec.ofInt k.bits (x : Int) &&& BitVec.ofInt k.bits (y : Int)).toNat : Nat) := rfl
    rw [RV, e, BitVec.toNat_and, ofInt_nat _ x hx, ofInt_nat _ y hy]
    exact congrArg _ hw
  | or =>
    obtain ⟨x, y, rfl, rfl, rfl, hx, hy, hw⟩ := bitsV_some h (fun N x y hx hy => Nat.or_lt_two_pow hx hy)
    refine ⟨.int k (bits .or k x y), ?_, by rw [binOp_or, intBits_or]; rfl⟩
    have e : bits .or k (x : Int) (y : Int) = k.wrap ((BitVec.ofInt k.bits (x : Int) ||| BitVec.ofInt k.bits (y : Int)).toNat : Nat) := rfl
    rw [RV, e, BitVec.toNat_or, ofInt_nat _ x hx, ofInt_nat _ y hy]
    exact congrArg _ hw
  | xor =>
    obtain ⟨x, y, rfl, rfl, rfl, hx, hy, hw⟩ := bitsV_some h (fun N x y hx hy => Nat.xor_lt_two_pow hx hy)
    refine ⟨.int k (bits .xor k x y), ?_, by rw [binOp_xor, intBits_xor]; rfl⟩
    have e : bits .xor k (x : Int) (y : Int) = k.wrap ((BitVec.ofInt k.bits (x : Int) ^^^ BitVec.ofInt k.bits (y : Int)).toNat : Nat) := rfl
    rw [RV, e, BitVec.toNat_xor, ofInt_nat _ x hx, ofInt_nat _ y hy]
    exact congrArg _ hw
  | eql => have h : some (V.bool (ieq a b)) = some v := h; simp only [Option.some.injEq] at h; refine ⟨_, ?_, by rw [binOp_eql]; rfl⟩; rw [← h, RV, ieq_eq]
  | neq => have h : some (V.bool (Bool.not (ieq a b))) = some v := h; simp only [Option.some.injEq] at h; refine ⟨_, ?_, by rw [binOp_neq]; rfl⟩; rw [← h, RV, ieq_eq]; rfl
  | lss => have h : some (V.bool (ilt a b)) = some v := h; simp only [Option.some.injEq] at h; refine ⟨_, ?_, by rw [binOp_lss]; rfl⟩; rw [← h, RV, ilt_eq]
  | gtr => have h : some (V.bool (ilt b a)) = some v := h; simp only [Option.some.injEq] at h; refine ⟨_, ?_, by rw [binOp_gtr]; rfl⟩; rw [← h, RV, ilt_eq]
  | leq =>
    have h : some (V.bool (Bool.not (ilt b a))) = some v := h; simp only [Option.some.injEq] at h; refine ⟨_, ?_, by rw [binOp_leq]; rfl⟩; rw [← h, RV, ilt_eq]
    congr 1
    by_cases c : a ≤ b
    · simp [c] <;> omega
    · simp [c]; omega
  | geq =>
    have h : some (V.bool (Bool.not (ilt a b))) = some v := h; simp only [Option.some.injEq] at h; refine ⟨_, ?_, by rw [binOp_geq]; rfl⟩; rw [← h, RV, ilt_eq]
    congr 1
    by_cases c : a ≥ b
    · simp [c] <;> omega
    · simp [c]; omega
  | shl => exact nomatch h
  | shr => exact nomatch h
  | andNot =>
    obtain ⟨x, y, rfl, rfl, rfl, hx, hy, hw⟩ := bitsV_some h (fun N x y hx hy => Nat.xor_lt_two_pow hx (Nat.and_lt_two_pow x hy))
    refine ⟨.int k (bits .andNot k x y), ?_, by rw [binOp_andNot, intBits_andNot]; rfl⟩
    have e : bits .andNot k (x : Int) (y : Int) = k.wrap ((BitVec.ofInt k.bits (x : Int) &&& ~~~(BitVec.ofInt k.bits (y : Int))).toNat : Nat) := rfl
    have e2 : (BitVec.ofInt k.bits (x : Int) &&& ~~~(BitVec.ofInt k.bits (y : Int))) = (BitVec.ofInt k.bits (x : Int) ^^^ (BitVec.ofInt k.bits (x : Int) &&& BitVec.ofInt k.bits (y : Int))) := by
      ext i hi
      simp only [BitVec.getElem_and, BitVec.getElem_not, BitVec.getElem_xor]
      cases (BitVec.ofInt k.bits (x : Int))[i] <;> cases (BitVec.ofInt k.bits (y : Int))[i] <;> rfl
    rw [RV, e, e2, BitVec.toNat_xor, BitVec.toNat_and, ofInt_nat _ x hx, ofInt_nat _ y hy]
    exact congrArg _ hw
theorem shift_ok {P : Program} {op : BinOp} (hop : op = .shl ∨ op = .shr) {k k' : IntKind} {a b : Int} {v : V} (h : intOp op k a k' b = some v) (E : En) (t : TypeId) (w : World) : ∃ x, RV E v x ∧ (binOp op t (.int k a) (.int k' b)).run P w = .ok x w := by
  have hk : bitsOf k ≤ k.bits := by cases k <;> decide
  cases b with
  | negSucc m => rcases hop with rfl | rfl <;> exact nomatch h
  | ofNat n =>
    rcases hop with rfl | rfl
    · have h : (Bool.rec none (intV k (imul a (Int.ofNat (Nat.pow 2 n)))) (Nat.ble n (bitsOf k)) : Option V) = some v := h
      obtain ⟨h1, h⟩ := (boolRec_some _ _ _).1 h
      have hn : n ≤ bitsOf k := Nat.le_of_ble_eq_true h1
      refine ⟨_, ?_, by rw [binOp_shl, shift_shl k k' a (Int.ofNat n) (by simp) (by simp; omega)]; rfl⟩
      rw [intV_eq h, RV, imul_eq]
      congr 2
    · have h : (Bool.rec none (Int.rec (fun x => some (V.int k (Int.ofNat (Nat.div x (Nat.pow 2 n))))) (fun _ => none) a) (Nat.ble n (bitsOf k)) : Option V) = some v := h
      obtain ⟨h1, h⟩ := (boolRec_some _ _ _).1 h
      have hn : n ≤ bitsOf k := Nat.le_of_ble_eq_true h1
      cases a with
      | negSucc m => exact nomatch h
      | ofNat x =>
        have h : some (V.int k (Int.ofNat (Nat.div x (Nat.pow 2 n)))) = some v := h
        simp only [Option.some.injEq] at h
        refine ⟨_, ?_, by rw [binOp_shr, shift_shr k k' (Int.ofNat x) (Int.ofNat n) (by simp) (by simp; omega)]; rfl⟩
        rw [← h, RV]
        congr 1
end Go.X
namespace Go.X
open Go.RowKit
variable [Nu]
theorem bytesLess_turn : ∀ a b : List UInt8, (Op.bytesLess a b || a == b) = Bool.not (Op.bytesLess b a)
  | [], [] => rfl
  | [], _ :: _ => rfl
  | _ :: _, [] => rfl
  | x :: a, y :: b => by
    have ih := bytesLess_turn a b
    show ((decide (x < y) || (x == y && Op.bytesLess a b)) || (x :: a == y :: b)) = Bool.not (decide (y < x) || (y == x && Op.bytesLess b a))
    by_cases h : x = y
    · subst h
      have h1 : decide (x < x) = false := by simp
      simp only [h1, beq_self_eq_true, Bool.false_or, Bool.true_and, List.cons_beq_cons]
      exact ih
    · have h2 : (x == y) = false := by simpa using h
      have h3 : (y == x) = false := by simpa using fun e => h e.symm
      have h4 : (x :: a == y :: b) = false := by rw [List.cons_beq_cons, h2]; rfl
      simp only [h2, h3, h4, Bool.false_and, Bool.or_false]
      have hne : x.toNat ≠ y.toNat := fun e => h (UInt8.toNat_inj.1 e)
      have e1 : decide (x < y) = decide (x.toNat < y.toNat) := by congr 1
      have e2 : decide (y < x) = decide (y.toNat < x.toNat) := by congr 1
      rw [e1, e2]
      by_cases hl : x.toNat < y.toNat
      · rw [decide_eq_true hl, decide_eq_false (by omega)]; rfl
      · rw [decide_eq_false hl, decide_eq_true (by omega)]; rfl
theorem binStr_ok {P : Program} {op : BinOp} {a b : List Nat} {v : V} (h : binV op (.str a) (.str b) = some v) (E : En) (t : TypeId) (w : World) {s q : ByteArray} (ha : s.data.toList.map (·.toNat) = a) (hb : q.data.toList.map (·.toNat) = b) :
    ∃ x, RV E v x ∧ (binOp op t (.string s) (.string q)).run P w = .ok x w := by
  subst ha hb
  cases op with
  | add =>
    obtain ⟨h1, h⟩ := (boolRec_some _ _ _).1 h
    rw [len_eq, len_eq] at h1
    have h1' : (s.data.toList.map (·.toNat)).length + (q.data.toList.map (·.toNat)).length ≤ 1073741824 := Nat.le_of_ble_eq_true h1
    have e1 : s.size = s.data.toList.length := by simp
    have e2 : q.size = q.data.toList.length := by simp
    simp only [List.length_map] at h1'
    simp only [Option.some.injEq] at h
    refine ⟨.string (s ++ q), ?_, ?_⟩
    · rw [← h, RV]; refine ⟨_, rfl, ?_⟩; simp [cat_eq]
    · have : ¬ (((s.size + q.size : Nat) : Int) > IntKind.i64.max) := by rw [IntKind.max_i64]; omega
      simp only [binOp, Op.stringOp, if_neg this]; rfl
  | eql => have h : some (V.bool (sEq (s.data.toList.map (·.toNat)) (q.data.toList.map (·.toNat)))) = some v := h; simp only [Option.some.injEq] at h; refine ⟨.bool (s.toList == q.toList), ?_, by simp [binOp, Op.stringOp]⟩; rw [← h, RV, sEq_bytes]
  | neq => have h : some (V.bool (Bool.not (sEq (s.data.toList.map (·.toNat)) (q.data.toList.map (·.toNat))))) = some v := h; simp only [Option.some.injEq] at h; refine ⟨.bool (!(s.toList == q.toList)), ?_, by simp only [binOp, Op.stringOp]; rfl⟩; rw [← h, RV, sEq_bytes]
  | lss =>
    have h : some (V.bool (sLt (s.data.toList.map (·.toNat)) (q.data.toList.map (·.toNat)))) = some v := h
    simp only [Option.some.injEq] at h
    refine ⟨.bool (Op.bytesLess s.toList q.toList), ?_, by simp only [binOp, Op.stringOp]; rfl⟩
    rw [← h, RV, sLt_bytes, ba_toList, ba_toList]
  | leq =>
    have h : some (V.bool (Bool.not (sLt (q.data.toList.map (·.toNat)) (s.data.toList.map (·.toNat))))) = some v := h
    simp only [Option.some.injEq] at h
    refine ⟨.bool (Op.bytesLess s.toList q.toList || s.toList == q.toList), ?_, by simp only [binOp, Op.stringOp]; rfl⟩
    rw [← h, RV, sLt_bytes, ba_toList, ba_toList, bytesLess_turn]
  | gtr =>
    have h : some (V.bool (sLt (q.data.toList.map (·.toNat)) (s.data.toList.map (·.toNat)))) = some v := h
    simp only [Option.some.injEq] at h
    refine ⟨.bool (!(Op.bytesLess s.toList q.toList || s.toList == q.toList)), ?_, by simp only [binOp, Op.stringOp]; rfl⟩
    rw [← h, RV, sLt_bytes, ba_toList, ba_toList, bytesLess_turn]
    cases Op.bytesLess q.data.toList s.data.toList <;> rfl
  | geq =>
    have h : some (V.bool (Bool.not (sLt (s.data.toList.map (·.toNat)) (q.data.toList.map (·.toNat))))) = some v := h
    simp only [Option.some.injEq] at h
    refine ⟨.bool (!(Op.bytesLess s.toList q.toList)), ?_, by simp only [binOp, Op.stringOp]; rfl⟩
    rw [← h, RV, sLt_bytes, ba_toList, ba_toList]
  | _ => exact nomatch h
section
variable {Γ : Cx} (hΓ : Γ.Ok) {w : Nat} {dst : Option Tmp} {ty : TypeId} {pos : String} {after : Array Edge} {guard : Option (Nat × Bool)}
include hΓ
theorem bin_ok {op : BinOp} {t t' : TypeId} {x y : Operand} {a b : A} (hx : cA Γ w x = some a) (hy : cA Γ w y = some b) : OpOK Γ w ⟨dst, .binOp op t x y t', ty, pos, after, guard⟩ (I.bin op a b) := by
  intro F hA tm h v h' w0 E wd ar ds hr hs ht
  obtain ⟨u, hu, e1⟩ := (evK_some tm _ a _).1 hr
  obtain ⟨u2, hu2, e2⟩ := (evK_some tm _ b _).1 e1
  obtain ⟨r, hb0, e⟩ := (optRec_some _ _ _).1 e2
  clear e1 e2
  have h1 := cA_ok (ds := ds) hΓ hx ht hu
  have h2 := cA_ok (ds := ds) hΓ hy ht hu2
  have hb' : binV op u u2 = some r ∨ F.ask op u u2 = some r := by
    unfold binF at hb0
    cases hv : binV op u u2 with
    | none => rw [hv] at hb0; exact .inr hb0
    | some r' => rw [hv] at hb0; exact .inl hb0
  rcases hb' with hb | hb
  case inr =>
    obtain ⟨z, q1, ⟨k, n, q2⟩, q3⟩ := hA op u u2 r hb E _ _ h1 h2 t wd
    refine pure_end e hs q1 (yields_value ?_)
    rw [q2] at q3
    simp [q2, eqGuard_at_int, q3]
  cases u with
  | int k m =>
    rw [RV] at h1
    cases u2 with
    | int k' n =>
      rw [RV] at h2
      have key : ∃ q, RV E r q ∧ (binOp op t (.int k m) (.int k' n)).run Γ.P wd = .ok q wd := by
        cases op with
        | shl => exact shift_ok (.inl rfl) hb E t wd
        | shr => exact shift_ok (.inr rfl) hb E t wd
        | _ =>
          obtain ⟨hk, hb'⟩ := (boolRec_some _ _ _).1 hb
          obtain rfl := kindEq_eq hk
          exact arith_ok hb' E t wd
      obtain ⟨q, hq, hrun⟩ := key
      exact pure_end e hs hq (yields_value (by simp [h1, h2, eqGuard_at_int, eqGuard_at_string, hrun]))
    | _ => exact nomatch hb
  | str s =>
    rw [RV] at h1
    obtain ⟨s', h1, h1'⟩ := h1
    cases u2 with
    | str q =>
      rw [RV] at h2
      obtain ⟨q', h2, h2'⟩ := h2
      obtain ⟨x', hq, hrun⟩ := binStr_ok (P := Γ.P) hb E t wd h1' h2'
      exact pure_end e hs hq (yields_value (by simp [h1, h2, eqGuard_at_int, eqGuard_at_string, hrun]))
    | _ => exact nomatch hb
  | _ => exact nomatch hb
theorem binB_ok {op : BinOp} {t t' : TypeId} (hu : Γ.P.underlying t = some .bool) {x y : Operand} {a b : A} (hx : cA Γ w x = some a) (hy : cA Γ w y = some b) : OpOK Γ w ⟨dst, .binOp op t x y t', ty, pos, after, guard⟩ (I.binB op a b) := by
  intro F hA tm h v h' w0 E wd ar ds hr hs ht
  rw [I.binB_def] at hr
  obtain ⟨u, hu1, e⟩ := (evK_some tm _ a _).1 hr
  have h1 := cA_ok (ds := ds) hΓ hx ht hu1
  cases u with
  | bool p =>
    obtain ⟨u2, hu2, e⟩ := (evK_some tm _ b _).1 e
    have h2 := cA_ok (ds := ds) hΓ hy ht hu2
    cases u2 with
    | bool q =>
      obtain ⟨r, hb, e⟩ := (optRec_some _ _ _).1 e
      rw [RV] at h1 h2
      cases op with
      | eql =>
        have hb : some _ = some r := hb; simp only [Option.some.injEq] at hb
        refine pure_end (x := .bool (p == q)) e hs (by first | (rw [← hb, RV]; cases p <;> cases q <;> rfl) | (rw [RV]; cases p <;> cases q <;> rfl)) (yields_value ?_)
        simp [h1, h2, eqGuard_at_bool, binOp, Op.equal, Op.maxDepth, run_equalIn_bool' wd 9999 t p q hu]
      | neq =>
        have hb : some _ = some r := hb; simp only [Option.some.injEq] at hb
        refine pure_end (x := .bool (!(p == q))) e hs (by first | (rw [← hb, RV]; cases p <;> cases q <;> rfl) | (rw [RV]; cases p <;> cases q <;> rfl)) (yields_value ?_)
        simp [h1, h2, eqGuard_at_bool, binOp, Op.equal, Op.maxDepth, run_equalIn_bool' wd 9999 t p q hu]
      | _ => exact nomatch hb
    | _ => exact nomatch e
  | _ => exact nomatch e
theorem part_flat {P : Program} {w : World} {f : Field} {xs : List Value} {i : Nat} {x : Value} (ho : f.offset = i) {d : TypeDesc} (hd : P.underlying f.type = some d) (hg : aggB d = false) (hx : xs[i]? = some x) :
    (part f.type xs.toArray f.offset).run P w = .ok x w := by
  simp [part, r_isAgg w hd, hg, ho, hx]
theorem flat_ok {E : En} {wd : World} {xs ys : List Value} : ∀ (fs : List Field) (i : Nat) (ks : List FK) (a b : List V) (r : Bool), flatK Γ fs i = some ks → flatEq ks a b = some r → RVs E a (xs.drop i) → RVs E b (ys.drop i) →
    (Op.eqFields 9999 xs.toArray ys.toArray fs).run Γ.P wd = .ok r wd
  | [], i, ks, a, b, r, hk, he, h1, h2 => by
    simp only [flatK, Option.some.injEq] at hk
    subst hk
    cases a with
    | nil =>
      cases b with
      | nil =>
        have : some true = some r := he
        simp only [Option.some.injEq] at this
        subst this
        simp [Op.eqFields]
      | cons y b => exact nomatch he
    | cons x a => exact nomatch he
  | f :: fs, i, ks, a, b, r, hk, he, h1, h2 => by
    rw [flatK] at hk
    by_cases hc : f.offset = i ∧ f.name ≠ "_"
    · rw [if_pos hc] at hk
      cases hd : Γ.P.underlying f.type with
      | none => rw [hd] at hk; exact nomatch hk
      | some d =>
        rw [hd] at hk
        cases hks : flatK Γ fs (i + 1) with
        | none => rw [hks] at hk; cases d <;> exact nomatch hk
        | some l =>
          rw [hks] at hk
          have step : ∀ (k : FK) (hk' : ks = k :: l) (hg : aggB d = false) (hq : ∀ (u v : V) (x y : Value) (q : Bool), eq1 k u v = some q → RV E u x → RV E v y → (Op.equalIn 9999 f.type x y).run Γ.P wd = .ok q wd),
              (Op.eqFields 9999 xs.toArray ys.toArray (f :: fs)).run Γ.P wd = .ok r wd := by
            intro k hk' hg hq
            subst hk'
            cases a with
            | nil => exact nomatch he
            | cons u a =>
              cases b with
              | nil => exact nomatch he
              | cons v b =>
                obtain ⟨q, hq1, he'⟩ := (optRec_some _ _ _).1 he
                obtain ⟨x, xr, ex, hx, hxr⟩ := RVs_cons.1 h1
                obtain ⟨y, yr, ey, hy, hyr⟩ := RVs_cons.1 h2
                have gx : xs[i]? = some x := by have := congrArg (fun l => l[0]?) ex; simpa using this
                have gy : ys[i]? = some y := by have := congrArg (fun l => l[0]?) ey; simpa using this
                have dx : xs.drop (i + 1) = xr := by rw [← List.drop_drop, ex]; rfl
                have dy : ys.drop (i + 1) = yr := by rw [← List.drop_drop, ey]; rfl
                have hrun := hq u v x y q hq1 hx hy
                simp only [Op.eqFields, if_pos hc.2, Sem.run_bind, part_flat hΓ hc.1 hd hg gx, part_flat hΓ hc.1 hd hg gy, Result.andThen_ok, hrun]
                cases q with
                | false =>
                  have : some false = some r := he'
                  simp only [Option.some.injEq] at this
                  subst this
                  simp
                | true =>
                  have he'' : flatEq l a b = some r := he'
                  simp only [Bool.not_true, Bool.false_eq_true, if_false]
                  exact flat_ok fs (i + 1) l a b r hks he'' (by rw [dx]; exact hxr) (by rw [dy]; exact hyr)
          cases d with
          | bool =>
            simp only [Option.some.injEq] at hk
            refine step .b hk.symm rfl fun u v x y q h3 h4 h5 => ?_
            cases u with
            | bool p =>
              cases v with
              | bool p' =>
                have h3 : some _ = some _ := h3; simp only [Option.some.injEq] at h3
                rw [RV] at h4 h5
                subst h4 h5
                rw [run_equalIn_bool' wd 9998 f.type p p' hd, ← h3]
                cases p <;> cases p' <;> rfl
              | _ => exact nomatch h3
            | _ => exact nomatch h3
          | int k0 =>
            simp only [Option.some.injEq] at hk
            refine step .i hk.symm rfl fun u v x y q h3 h4 h5 => ?_
            cases u with
            | int j p =>
              cases v with
              | int j' p' =>
                obtain ⟨hj, h3'⟩ := (boolRec_some _ _ _).1 h3
                obtain rfl := kindEq_eq hj
                simp only [Option.some.injEq] at h3'
                rw [RV] at h4 h5
                subst h4 h5
                rw [run_equalIn_int wd 9998 f.type j k0 p p' hd, ← h3', ieq_eq]
              | _ => exact nomatch h3
            | _ => exact nomatch h3
          | string =>
            simp only [Option.some.injEq] at hk
            refine step .s hk.symm rfl fun u v x y q h3 h4 h5 => ?_
            cases u with
            | str p =>
              cases v with
              | str p' =>
                have h3 : some _ = some _ := h3; simp only [Option.some.injEq] at h3
                rw [RV] at h4 h5
                obtain ⟨s, rfl, h4⟩ := h4
                obtain ⟨s', rfl, h5⟩ := h5
                rw [run_equalIn_string wd 9998 f.type s s' hd, ← h3, ← h4, ← h5, sEq_bytes]
              | _ => exact nomatch h3
            | _ => exact nomatch h3
          | _ => exact nomatch hk
    · rw [if_neg hc] at hk; exact nomatch hk
theorem eqs_ok {neg : Bool} {t t' : TypeId} {fs : Array Field} (hu : Γ.P.underlying t = some (.struct fs)) (he : t ∈ Γ.eqs) {ks : List FK} (hk : flatK Γ fs.toList 0 = some ks) {x y : Operand} {a b : A} (hx : cA Γ w x = some a) (hy : cA Γ w y = some b) :
    OpOK Γ w ⟨dst, .binOp (if neg then .neq else .eql) t x y t', ty, pos, after, guard⟩ (I.eqs neg ks a b) := by
  intro F hA tm h v h' w0 E wd ar ds hr hs ht
  rw [I.eqs_def] at hr
  obtain ⟨u, hu1, e⟩ := (evK_some tm _ a _).1 hr
  have h1 := cA_ok (ds := ds) hΓ hx ht hu1
  cases u with
  | agg p =>
    obtain ⟨u2, hu2, e⟩ := (evK_some tm _ b _).1 e
    have h2 := cA_ok (ds := ds) hΓ hy ht hu2
    cases u2 with
    | agg q =>
      obtain ⟨r, hb, e⟩ := (optRec_some _ _ _).1 e
      rw [RV] at h1 h2
      obtain ⟨xs, h1, h1'⟩ := h1
      obtain ⟨ys, h2, h2'⟩ := h2
      have hf : Γ.P.fieldsOf t = fs := by simp [Program.fieldsOf, hu]
      have hrun : (Op.equalIn 10000 t (.agg xs.toArray) (.agg ys.toArray)).run Γ.P wd = .ok r wd := by
        rw [run_equalIn_agg wd 9999 t _ _ (by rw [hf]; exact hu) (hΓ.eqs t he).1, hf]
        exact flat_ok hΓ fs.toList 0 ks p q r hk hb (by simpa using h1') (by simpa using h2')
      have hgd : ∀ op, (eqGuard op t x y (.agg xs.toArray) (.agg ys.toArray)).run Γ.P wd = .ok () wd := fun op => run_eqGuard_agg wd op t x y _ _ (hΓ.eqs t he).2
      cases neg
      · refine pure_end (x := .bool r) e hs (by rw [RV]) (yields_value ?_)
        simp only [Bool.false_eq_true, if_false, Sem.run_bind, h1, h2, hgd, Result.andThen_ok, run_eql_struct, hrun]
      · refine pure_end (x := .bool !r) e hs (by rw [RV]) (yields_value ?_)
        simp only [if_true, Sem.run_bind, h1, h2, hgd, Result.andThen_ok, run_neq_struct, hrun]
    | _ => exact nomatch e
  | _ => exact nomatch e
theorem neg_ok {t : TypeId} {x : Operand} {a : A} (hc : cA Γ w x = some a) : OpOK Γ w ⟨dst, .unOp .neg t x, ty, pos, after, guard⟩ (I.neg a) := by
  intro F hA tm h v h' w0 E wd ar ds hr hs ht
  rw [I.neg_def] at hr
  obtain ⟨u, hu, e⟩ := (evK_some tm _ a _).1 hr
  have hu' := cA_ok (ds := ds) hΓ hc ht hu
  cases u with
  | int k n =>
    obtain ⟨r, hb, e⟩ := (optRec_some _ _ _).1 e
    rw [RV] at hu'
    refine pure_end (x := .int k (k.wrap (0 - n))) e hs (by rw [intV_eq hb, RV]; rfl) (.inl ?_)
    simp [execOp, hu', Op.unary, Op.intArith]
  | _ => exact nomatch e
theorem conv_ok {s d : TypeId} {q k : IntKind} (hs1 : Γ.P.underlying s = some (.int q)) (hd1 : Γ.P.underlying d = some (.int k)) {x : Operand} {a : A} (hc : cA Γ w x = some a) : OpOK Γ w ⟨dst, .convert s d x, ty, pos, after, guard⟩ (I.conv k a) := by
  intro F hA tm h v h' w0 E wd ar ds hr hs ht
  rw [I.conv_def] at hr
  obtain ⟨u, hu, e⟩ := (evK_some tm _ a _).1 hr
  have hu' := cA_ok (ds := ds) hΓ hc ht hu
  cases u with
  | int k' n =>
    obtain ⟨r, hb, e⟩ := (optRec_some _ _ _).1 e
    rw [RV] at hu'
    refine pure_end (x := .int k (k.wrap n)) e hs (by rw [intV_eq hb, RV]) (.inl ?_)
    simp [execOp, hu', convert, r_under wd hs1, r_under wd hd1, Conv.intToInt]
  | _ => exact nomatch e
theorem same_ok {s d : TypeId} (hs1 : Γ.P.underlying s = some .string) (hd1 : Γ.P.underlying d = some .string) {x : Operand} {a : A} (hc : cA Γ w x = some a) : OpOK Γ w ⟨dst, .convert s d x, ty, pos, after, guard⟩ (I.same a) := by
  intro F hA tm h v h' w0 E wd ar ds hr hs ht
  rw [I.same_def] at hr
  obtain ⟨u, hu, e⟩ := (evK_some tm _ a _).1 hr
  have hu' := cA_ok (ds := ds) hΓ hc ht hu
  have hu2 := hu'
  cases u with
  | str q =>
    rw [RV] at hu'
    obtain ⟨t, h1, _⟩ := hu'
    refine pure_end e hs hu2 (.inl ?_)
    simp [execOp, h1, convert, r_under wd hs1, r_under wd hd1]
  | _ => exact nomatch e
theorem max_ok {ts : Array TypeId} {x y : Operand} {a b : A} (hx : cA Γ w x = some a) (hy : cA Γ w y = some b) : OpOK Γ w ⟨dst, .call ⟨.builtin .max, #[x, y], ts⟩, ty, pos, after, guard⟩ (I.max a b) := by
  intro F hA tm h v h' w0 E wd ar ds hr hs ht
  rw [I.max_def] at hr
  obtain ⟨u, hu, e⟩ := (evK_some tm _ a _).1 hr
  have h1 := cA_ok (ds := ds) hΓ hx ht hu
  cases u with
  | int k m =>
    obtain ⟨u2, hu2, e⟩ := (evK_some tm _ b _).1 e
    have h2 := cA_ok (ds := ds) hΓ hy ht hu2
    cases u2 with
    | int k' n =>
      rw [RV] at h1 h2
      refine pure_end (x := .int k (if n > m then n else m)) e hs ?_ (.inl ?_)
      · rw [RV, boolRec_if, ilt_eq]
        by_cases c : m < n
        · rw [if_pos c, if_pos (by simpa using c)]
        · rw [if_neg (by omega), if_neg (by simpa using c)]
      · simp [execOp, resolve, invoke, builtin, h1, h2, Builtin.max_, Builtin.max2]
    | _ => exact nomatch e
  | _ => exact nomatch e
theorem min_ok {ts : Array TypeId} {x y : Operand} {a b : A} (hx : cA Γ w x = some a) (hy : cA Γ w y = some b) : OpOK Γ w ⟨dst, .call ⟨.builtin .min, #[x, y], ts⟩, ty, pos, after, guard⟩ (I.min a b) := by
  intro F hA tm h v h' w0 E wd ar ds hr hs ht
  rw [I.min_def] at hr
  obtain ⟨u, hu, e⟩ := (evK_some tm _ a _).1 hr
  have h1 := cA_ok (ds := ds) hΓ hx ht hu
  cases u with
  | int k m =>
    obtain ⟨u2, hu2, e⟩ := (evK_some tm _ b _).1 e
    have h2 := cA_ok (ds := ds) hΓ hy ht hu2
    cases u2 with
    | int k' n =>
      rw [RV] at h1 h2
      refine pure_end (x := .int k (if n < m then n else m)) e hs ?_ (.inl ?_)
      · rw [RV, boolRec_if, ilt_eq]
        by_cases c : n < m
        · rw [if_pos c, if_pos (by simpa using c)]
        · rw [if_neg (by omega), if_neg (by simpa using c)]
      · simp [execOp, resolve, invoke, builtin, h1, h2, Builtin.min_, Builtin.min2]
    | _ => exact nomatch e
  | _ => exact nomatch e
theorem ofV_nilp {c : Value} (h : ofV c = some .nilp) : c = .pointer none := by
  cases c with
  | pointer p => cases p with
    | none => rfl
    | some a => simp [ofV] at h
  | slice a n c => cases a <;> (try cases n) <;> (try cases c) <;> simp [ofV] at h
  | map p => cases p <;> simp [ofV] at h
  | agg l => obtain ⟨l⟩ := l; rw [ofV] at h; cases hl : ofVs l <;> rw [hl] at h <;> simp at h
  | tuple l => obtain ⟨l⟩ := l; rw [ofV] at h; cases hl : ofVs l <;> rw [hl] at h <;> simp at h
  | _ => simp [ofV] at h
theorem ofV_nili {c : Value} (h : ofV c = some .nili) : c = .nilIface := by
  cases c with
  | nilIface => rfl
  | pointer p => cases p <;> simp [ofV] at h
  | slice a n c => cases a <;> (try cases n) <;> (try cases c) <;> simp [ofV] at h
  | map p => cases p <;> simp [ofV] at h
  | agg l => obtain ⟨l⟩ := l; rw [ofV] at h; cases hl : ofVs l <;> rw [hl] at h <;> simp at h
  | tuple l => obtain ⟨l⟩ := l; rw [ofV] at h; cases hl : ofVs l <;> rw [hl] at h <;> simp at h
  | _ => simp [ofV] at h
theorem ofV_nils {c : Value} (h : ofV c = some .nils) : c = .slice none 0 0 := by
  cases c with
  | slice a n c => cases a <;> (try cases n) <;> (try cases c) <;> first | rfl | simp [ofV] at h
  | pointer p => cases p <;> simp [ofV] at h
  | map p => cases p <;> simp [ofV] at h
  | agg l => obtain ⟨l⟩ := l; rw [ofV] at h; cases hl : ofVs l <;> rw [hl] at h <;> simp at h
  | tuple l => obtain ⟨l⟩ := l; rw [ofV] at h; cases hl : ofVs l <;> rw [hl] at h <;> simp at h
  | _ => simp [ofV] at h
theorem cA_const {y : Operand} {v : V} (hy : cA Γ w y = some (.c v)) (h1 : ∀ f a c, v ≠ .fn f a c) (h2 : ∀ l, v ≠ .view l) : ∃ c, y = .const c ∧ ofV c = some v := by
  cases y with
  | tmp t => rw [cA] at hy; split at hy <;> simp at hy
  | const c =>
    rw [cA] at hy
    cases ho : ofV c with
    | none => rw [ho] at hy; exact nomatch hy
    | some u => rw [ho] at hy; simp only [Option.some.injEq, A.c.injEq] at hy; subst hy; exact ⟨c, rfl, ho⟩
  | func f => simp only [cA, Option.some.injEq, A.c.injEq] at hy; exact absurd hy.symm (h1 _ _ _)
  | global g => simp only [cA, Option.some.injEq, A.c.injEq] at hy; exact absurd hy.symm (h2 _)
theorem eqn_p {P : Program} {t el : TypeId} (hu : P.underlying t = some (.pointer el)) (p : Option Addr) (wd : World) : (Op.equal t (.pointer p) (.pointer none)).run P wd = .ok p.isNone wd := by
  have h : ∀ d, (Op.equalIn (d + 1) t (.pointer p) (.pointer none)).run P wd = .ok p.isNone wd := fun d => by cases p <;> simp [Op.equalIn, r_under wd hu]
  exact h 9999
theorem eqn_i {P : Program} {t : TypeId} {ms} (hu : P.underlying t = some (.interface ms)) (wd : World) : (Op.equal t .nilIface .nilIface).run P wd = .ok true wd := by
  have h : ∀ d, (Op.equalIn (d + 1) t .nilIface .nilIface).run P wd = .ok true wd := fun d => by simp [Op.equalIn, r_under wd hu]
  exact h 9999
theorem eqn_h {P : Program} {t : TypeId} {ms} (hu : P.underlying t = some (.interface ms)) (u : TypeId) (x : Value) (wd : World) : (Op.equal t (.iface u x) .nilIface).run P wd = .ok false wd := by
  have h : ∀ d, (Op.equalIn (d + 1) t (.iface u x) .nilIface).run P wd = .ok false wd := fun d => by simp [Op.equalIn, r_under wd hu]
  exact h 9999
theorem eqn_s {P : Program} {t el : TypeId} (hu : P.underlying t = some (.slice el)) (a : Option Addr) (n c : Nat) (wd : World) : (Op.equal t (.slice a n c) (.slice none 0 0)).run P wd = .ok a.isNone wd := by
  have h : ∀ d, (Op.equalIn (d + 1) t (.slice a n c) (.slice none 0 0)).run P wd = .ok a.isNone wd := fun d => by cases a <;> simp [Op.equalIn, r_under wd hu]
  exact h 9999
theorem nil_end {op : BinOp} {neg : Bool} (hop : op = if neg then .neq else .eql) {t t' : TypeId} {x y : Operand} {a : A} {f : V → Option Bool} {c : Value} (hy : y = .const c) (hx : cA Γ w x = some a)
    (key : ∀ (E : En) (v : V) (q : Bool) (z : Value) (wd : World), RV E v z → f v = some q → (eqGuard op t x (.const c) z c).run Γ.P wd = .ok () wd ∧ (Op.equal t z c).run Γ.P wd = .ok q wd ∧ (binOp .eql t z c = (do pure (.bool (← Op.equal t z c)))) ∧ (binOp .neq t z c = (do pure (.bool (!(← Op.equal t z c)))))) :
    OpOK Γ w ⟨dst, .binOp op t x y t', ty, pos, after, guard⟩ (I.nilK f neg a) := by
  intro F hA tm h v h' w0 E wd ar ds hr hs ht
  obtain ⟨u, hu, e⟩ := (evK_some tm _ a _).1 hr
  have hu' := cA_ok (ds := ds) hΓ hx ht hu
  obtain ⟨q, hq, e⟩ := (optRec_some _ _ _).1 e
  obtain ⟨k1, k2, k3, k4⟩ := key E u q _ wd hu' hq
  subst hy
  refine pure_end (x := .bool (Bool.rec q (Bool.not q) neg)) e hs (by rw [RV]) (yields_value ?_)
  have hc : Act.eval ⟨ar, ds⟩ (.const c) = c := rfl
  rw [hc, Sem.run_bind, k1]
  subst hop
  cases neg with
  | false => simp only [Result.andThen_ok, Bool.false_eq_true, if_false, k3, Sem.run_bind, k2, Sem.run_pure]
  | true => simp only [Result.andThen_ok, if_true, k4, Sem.run_bind, k2, Sem.run_pure]
theorem nil_ok {op : BinOp} {neg : Bool} (hop : op = if neg then .neq else .eql) {t t' : TypeId} {x y : Operand} {a b : A} {d : TypeDesc} (hu : Γ.P.underlying t = some d) (hx : cA Γ w x = some a) (hy : cA Γ w y = some b) {f : Bool → A → I} (hf : cNil d b = some f) :
    OpOK Γ w ⟨dst, .binOp op t x y t', ty, pos, after, guard⟩ (f neg a) := by
  cases b with
  | t p => cases d <;> exact nomatch hf
  | c v =>
    cases d with
    | pointer el =>
      cases v with
      | nilp =>
        simp only [cNil, Option.some.injEq] at hf
        subst hf
        obtain ⟨c, rfl, hc⟩ := cA_const hΓ hy (fun _ _ _ h => nomatch h) (fun _ h => nomatch h)
        obtain rfl := ofV_nilp hΓ hc
        refine nil_end hΓ hop rfl hx (fun E v q z wd hz hq => ?_)
        cases v with
        | ptr b o => rw [RV] at hz; obtain ⟨r, _, rfl⟩ := hz; simp only [V.nilP, Option.some.injEq] at hq; subst hq; exact ⟨by cases op <;> simp [eqGuard], eqn_p hΓ hu _ wd, rfl, rfl⟩
        | nilp => rw [RV] at hz; subst hz; simp only [V.nilP, Option.some.injEq] at hq; subst hq; exact ⟨by cases op <;> simp [eqGuard], eqn_p hΓ hu _ wd, rfl, rfl⟩
        | view l => rw [RV] at hz; obtain ⟨r, ys, rfl, _⟩ := hz; simp only [V.nilP, Option.some.injEq] at hq; subst hq; exact ⟨by cases op <;> simp [eqGuard], eqn_p hΓ hu _ wd, rfl, rfl⟩
        | _ => exact nomatch hq
      | _ => exact nomatch hf
    | interface ms =>
      cases v with
      | nili =>
        simp only [cNil, Option.some.injEq] at hf
        subst hf
        obtain ⟨c, rfl, hc⟩ := cA_const hΓ hy (fun _ _ _ h => nomatch h) (fun _ h => nomatch h)
        obtain rfl := ofV_nili hΓ hc
        refine nil_end hΓ hop rfl hx (fun E v q z wd hz hq => ?_)
        cases v with
        | iface b o => rw [RV] at hz; obtain ⟨r, rfl, _⟩ := hz; simp only [V.nilI, Option.some.injEq] at hq; subst hq; exact ⟨by cases op <;> simp [eqGuard], eqn_h hΓ hu _ _ wd, rfl, rfl⟩
        | nili => rw [RV] at hz; subst hz; simp only [V.nilI, Option.some.injEq] at hq; subst hq; exact ⟨by cases op <;> simp [eqGuard], eqn_i hΓ hu wd, rfl, rfl⟩
        | _ => exact nomatch hq
      | _ => exact nomatch hf
    | slice el =>
      cases v with
      | nils =>
        simp only [cNil, Option.some.injEq] at hf
        subst hf
        obtain ⟨c, rfl, hc⟩ := cA_const hΓ hy (fun _ _ _ h => nomatch h) (fun _ h => nomatch h)
        obtain rfl := ofV_nils hΓ hc
        refine nil_end hΓ hop rfl hx (fun E v q z wd hz hq => ?_)
        cases v with
        | slice b o n es cap => rw [RV] at hz; obtain ⟨_, r, c, _, rfl, _⟩ := hz; simp only [V.nilS, Option.some.injEq] at hq; subst hq; exact ⟨by cases op <;> simp [eqGuard], eqn_s hΓ hu _ _ _ wd, rfl, rfl⟩
        | emp => rw [RV] at hz; obtain ⟨r, c, rfl⟩ := hz; simp only [V.nilS, Option.some.injEq] at hq; subst hq; exact ⟨by cases op <;> simp [eqGuard], eqn_s hΓ hu _ _ _ wd, rfl, rfl⟩
        | nils => rw [RV] at hz; subst hz; simp only [V.nilS, Option.some.injEq] at hq; subst hq; exact ⟨by cases op <;> simp [eqGuard], eqn_s hΓ hu _ _ _ wd, rfl, rfl⟩
        | bigs es l n => rw [RV] at hz; obtain ⟨r, L, c, ys, rfl, _⟩ := hz; simp only [V.nilS, Option.some.injEq] at hq; subst hq; exact ⟨by cases op <;> simp [eqGuard], eqn_s hΓ hu _ _ _ wd, rfl, rfl⟩
        | _ => exact nomatch hq
      | _ => exact nomatch hf
    | _ => exact nomatch hf
end
end Go.X
namespace Go.X
open Go.RowKit
variable [Nu]
theorem beq_and {R : Type} {m n : Nat} {x : Option R} {r : R} (h : (Bool.rec none x (Nat.beq m n) : Option R) = some r) : m = n ∧ x = some r := by
  obtain ⟨h1, h2⟩ := (boolRec_some _ _ _).1 h
  exact ⟨beq_true.1 h1, h2⟩
theorem ble_and {R : Type} {m n : Nat} {x : Option R} {r : R} (h : (Bool.rec none x (Nat.ble m n) : Option R) = some r) : m ≤ n ∧ x = some r := by
  obtain ⟨h1, h2⟩ := (boolRec_some _ _ _).1 h
  exact ⟨Nat.le_of_ble_eq_true h1, h2⟩
theorem sizeT_some {Γ : Cx} {t n : Nat} (h : sizeT Γ t = some n) : ∃ i, Γ.P.info? t = some i ∧ i.size = n := by
  unfold sizeT at h
  cases hi : Γ.P.info? t with
  | none => rw [hi] at h; exact nomatch h
  | some i => rw [hi] at h; simp only [Option.some.injEq] at h; exact ⟨i, rfl, h⟩
theorem isAggT_some {Γ : Cx} {t : Nat} {b : Bool} (h : isAggT Γ t = some b) : ∃ d, Γ.P.underlying t = some d ∧ aggB d = b := by
  unfold isAggT at h
  cases hd : Γ.P.underlying t with
  | none => rw [hd] at h; exact nomatch h
  | some d => rw [hd] at h; refine ⟨d, rfl, ?_⟩; cases d <;> simp_all [aggB]
theorem structPlace_some {Γ : Cx} {fs : Array Field} {i d n : Nat} (h : structPlace Γ fs i = some (d, n)) : ∃ f, fs[i]? = some f ∧ f.offset = d ∧ sizeT Γ f.type = some n := by
  unfold structPlace at h
  cases hf : fs[i]? with
  | none => rw [hf] at h; exact nomatch h
  | some f =>
    rw [hf] at h
    dsimp only at h
    cases hs : sizeT Γ f.type with
    | none => rw [hs] at h; exact nomatch h
    | some m =>
      rw [hs] at h
      simp only [Option.some.injEq, Prod.mk.injEq] at h
      exact ⟨f, rfl, h.1, by rw [hs, h.2]⟩
section
variable {Γ : Cx} (hΓ : Γ.Ok) {w : Nat} {dst : Option Tmp} {ty : TypeId} {pos : String} {after : Array Edge} {guard : Option (Nat × Bool)}
include hΓ
theorem fld_ok {t : TypeId} {fs : Array Field} (hu : Γ.P.underlying t = some (.struct fs)) {i d n : Nat} (hp : structPlace Γ fs i = some (d, n)) (hn : 1 ≤ n) {x : Operand} {a : A} (hc : cA Γ w x = some a) :
    OpOK Γ w ⟨dst, .fieldAddr t x i, ty, pos, after, guard⟩ (I.fld d a) := by
  intro F hA tm h v h' w0 E wd ar ds hr hs ht
  rw [I.fld_def] at hr
  obtain ⟨u, hu1, e⟩ := (evK_some tm _ a _).1 hr
  have hu' := cA_ok (ds := ds) hΓ hc ht hu1
  obtain ⟨f, hf, ho, hz⟩ := structPlace_some hp
  obtain ⟨i0, hi0, hi1⟩ := sizeT_some hz
  cases u with
  | ptr b o =>
    rw [RV] at hu'
    obtain ⟨r, h1, h2⟩ := hu'
    refine pure_end (x := .pointer (some ⟨r, o + d, none⟩)) e hs (by rw [RV]; exact ⟨r, h1, rfl⟩) (yields_value ?_)
    have hz0 : ¬ i0.size = 0 := by omega
    simp only [Instr.fieldAt, Sem.run_bind, r_under wd hu, Result.andThen_ok, hf, h2, Instr.sureAddr, Sem.run_pure, fieldPlace, r_size wd hi0, if_neg hz0, Addr.add_lit, ho]
  | view l =>
    rw [RV] at hu'
    obtain ⟨a0, ys, h2, h3, h4⟩ := hu'
    refine pure_end (x := .pointer (some (a0.add d))) e hs (by rw [RV]; exact ⟨a0.add d, ys.drop d, rfl, by rw [dropN_eq]; exact RVs_drop d h3, h4.drop d⟩) (yields_value ?_)
    have hz0 : ¬ i0.size = 0 := by omega
    simp only [Instr.fieldAt, Sem.run_bind, r_under wd hu, Result.andThen_ok, hf, h2, Instr.sureAddr, Sem.run_pure, fieldPlace, r_size wd hi0, if_neg hz0, ho]
  | _ => exact nomatch e
theorem part1_ok {t : TypeId} {fs : Array Field} (hu : Γ.P.underlying t = some (.struct fs)) {i : Nat} {f : Field} (hf : fs[i]? = some f) (hg : isAggT Γ f.type = some false) {x : Operand} {a : A} (hc : cA Γ w x = some a) :
    OpOK Γ w ⟨dst, .field t x i, ty, pos, after, guard⟩ (I.part1 f.offset a) := by
  intro F hA tm h v h' w0 E wd ar ds hr hs ht
  rw [I.part1_def] at hr
  obtain ⟨u, hu1, e⟩ := (evK_some tm _ a _).1 hr
  have hu' := cA_ok (ds := ds) hΓ hc ht hu1
  obtain ⟨d, hd, hd2⟩ := isAggT_some hg
  cases u with
  | agg l =>
    obtain ⟨q, hq, e⟩ := (optRec_some _ _ _).1 e
    rw [RV] at hu'
    obtain ⟨ys, h1, h2⟩ := hu'
    obtain ⟨y, hy1, hy2⟩ := RVs_get h2 hq
    refine pure_end e hs hy2 (yields_value ?_)
    simp [Instr.field, r_under wd hu, hf, h1, asAgg, part, r_isAgg wd hd, hd2, hy1]
  | _ => exact nomatch e
theorem partN_ok {t : TypeId} {fs : Array Field} (hu : Γ.P.underlying t = some (.struct fs)) {i n : Nat} {f : Field} (hf : fs[i]? = some f) (hg : isAggT Γ f.type = some true) (hn : sizeT Γ f.type = some n) {x : Operand} {a : A} (hc : cA Γ w x = some a) :
    OpOK Γ w ⟨dst, .field t x i, ty, pos, after, guard⟩ (I.partN f.offset n a) := by
  intro F hA tm h v h' w0 E wd ar ds hr hs ht
  rw [I.partN_def] at hr
  obtain ⟨u, hu1, e⟩ := (evK_some tm _ a _).1 hr
  have hu' := cA_ok (ds := ds) hΓ hc ht hu1
  obtain ⟨d, hd, hd2⟩ := isAggT_some hg
  obtain ⟨i0, hi0, hi1⟩ := sizeT_some hn
  cases u with
  | agg l =>
    obtain ⟨hle, e⟩ := ble_and e
    rw [RV] at hu'
    obtain ⟨ys, h1, h2⟩ := hu'
    refine pure_end (x := .agg ((ys.drop f.offset).take n).toArray) e hs (by rw [RV]; exact ⟨_, rfl, RVs_take _ (RVs_drop _ h2)⟩) (yields_value ?_)
    simp only [Instr.field, Sem.run_bind, r_under wd hu, Result.andThen_ok, hf, h1, asAgg, Sem.run_pure, part, r_isAgg wd hd, hd2, if_true, r_size wd hi0, hi1]
    congr 2
    simp [List.take_drop, Nat.add_comm]
  | _ => exact nomatch e
theorem idxK_ok {t e : TypeId} (hu : Γ.P.underlying t = some (.slice e)) {es : Nat} (hz : sizeT Γ e = some es) {x y : Operand} {b : A} (hy : cA Γ w y = some b) {tm : Tm} {h h' : H} {v : V} {w0 : World} {E : En} {wd : World} {ar : Array Value} {ds : List Deferred}
    (hs : Sim w0 E h wd) (ht : TR E w tm ar) {bb o n es' L c r : Nat} (hr1 : E.mu bb = some r) (h1 : Act.eval ⟨ar, ds⟩ x = .slice (some ⟨r, o, none⟩) L c) (hL : n ≤ L) (e1 : idxK es b tm bb o n es' (V × H) h (fun a h' => some (a, h')) = some (v, h')) :
    ∃ E' w' y', E.le E' ∧ Sim w0 E' h' w' ∧ RV E' v y' ∧ Yields Γ.P (execOp (Act.eval ⟨ar, ds⟩) ⟨dst, .indexAddr t x y, ty, pos, after, guard⟩) wd y' w' := by
  obtain ⟨i0, hi0, hi1⟩ := sizeT_some hz
  obtain ⟨u2, hu2, e2⟩ := (evK_some tm _ b _).1 e1
  have h2 := cA_ok (ds := ds) hΓ hy ht hu2
  clear e1
  cases u2 with
  | int k m =>
    cases m with
    | negSucc m => exact nomatch e2
    | ofNat i =>
      obtain ⟨hes, e3⟩ := beq_and e2
      obtain ⟨hi, e4⟩ := ble_and e3
      subst hes
      rw [RV] at h2
      refine pure_end (x := .pointer (some ⟨r, o + i * es, none⟩)) e4 hs (by rw [RV]; exact ⟨r, hr1, rfl⟩) (yields_value ?_)
      have c1 : (0 : Int) ≤ Int.ofNat i ∧ Int.ofNat i < (L : Int) := by simp only [Int.ofNat_eq_natCast]; omega
      simp only [Instr.indexAt, h1, h2, asIntOf, Sem.run_bind, Sem.run_pure, Result.andThen_ok, r_under wd hu, if_pos c1, r_size wd hi0, hi1]
      simp [Addr.add_lit]
  | _ => exact nomatch e2
theorem idxB_ok {t e : TypeId} (hu : Γ.P.underlying t = some (.slice e)) {es : Nat} (hz : sizeT Γ e = some es) {x y : Operand} {b : A} (hy : cA Γ w y = some b) {tm : Tm} {h h' : H} {v : V} {w0 : World} {E : En} {wd : World} {ar : Array Value} {ds : List Deferred}
    (hs : Sim w0 E h wd) (ht : TR E w tm ar) {es' L c : Nat} {l : List V} {a0 : Addr} {ys : List Value} (h1 : Act.eval ⟨ar, ds⟩ x = .slice (some a0) L c) (hL : l.length ≤ L * es') (hl : RVs E l ys) (ho : OldCells a0 ys)
    (e1 : idxB es b tm es' l (V × H) h (fun a h' => some (a, h')) = some (v, h')) :
    ∃ E' w' y', E.le E' ∧ Sim w0 E' h' w' ∧ RV E' v y' ∧ Yields Γ.P (execOp (Act.eval ⟨ar, ds⟩) ⟨dst, .indexAddr t x y, ty, pos, after, guard⟩) wd y' w' := by
  obtain ⟨i0, hi0, hi1⟩ := sizeT_some hz
  rw [idxB_def] at e1
  obtain ⟨u2, hu2, e2⟩ := (evK_some tm _ b _).1 e1
  have h2 := cA_ok (ds := ds) hΓ hy ht hu2
  clear e1
  cases u2 with
  | int k m =>
    cases m with
    | negSucc m => exact nomatch e2
    | ofNat i =>
      obtain ⟨hes0, e3⟩ := (boolRec_some _ _ _).1 e2
      obtain ⟨hi, e4⟩ := ble_and e3
      have hes1 : 1 ≤ es ∧ es = es' := by
        unfold sameEs at hes0
        rw [ble_if] at hes0
        by_cases c : 1 ≤ es
        · rw [if_pos c] at hes0; exact ⟨c, beq_true.1 hes0⟩
        · rw [if_neg c] at hes0; exact nomatch hes0
      obtain ⟨hpos, hes⟩ := hes1
      subst hes
      rw [RV] at h2
      rw [len_eq] at hi
      have hi' : (i + 1) * es ≤ l.length := hi
      refine pure_end (x := .pointer (some (a0.add (i * es)))) e4 hs (by rw [RV]; exact ⟨_, ys.drop (i * es), rfl, by rw [dropN_eq]; exact RVs_drop _ hl, ho.drop _⟩) (yields_value ?_)
      have hiL : i < L := Nat.lt_of_succ_le (Nat.le_of_mul_le_mul_right (Nat.le_trans hi' hL) hpos)
      have c1 : (0 : Int) ≤ Int.ofNat i ∧ Int.ofNat i < (L : Int) := by simp only [Int.ofNat_eq_natCast]; omega
      simp only [Instr.indexAt, h1, h2, asIntOf, Sem.run_bind, Sem.run_pure, Result.andThen_ok, r_under wd hu, if_pos c1, r_size wd hi0, hi1]
      simp
  | _ => exact nomatch e2
theorem idxL_ok {t e : TypeId} (hu : Γ.P.underlying t = some (.slice e)) {es : Nat} (hz : sizeT Γ e = some es) {x y : Operand} {a b : A} (hx : cA Γ w x = some a) (hy : cA Γ w y = some b) :
    OpOK Γ w ⟨dst, .indexAddr t x y, ty, pos, after, guard⟩ (I.idxL es a b) := by
  intro F hA tm h v h' w0 E wd ar ds hr hs ht
  rw [I.idxL_def] at hr
  obtain ⟨u, hu1, e1⟩ := (evK_some tm _ a _).1 hr
  have h1 := cA_ok (ds := ds) hΓ hx ht hu1
  cases u with
  | slice bb o n es' cap =>
    rw [RV] at h1
    obtain ⟨_, r, c, hr1, h1, _, _⟩ := h1
    exact idxK_ok hΓ hu hz hy hs ht hr1 h1 (Nat.le_refl n) e1
  | bigs es' l n =>
    rw [RV] at h1
    obtain ⟨a0, L, c, ys, h1, _, h2, _, h3, h4⟩ := h1
    exact idxB_ok hΓ hu hz hy hs ht h1 h2 h3 h4 e1
  | _ => exact nomatch e1
theorem idxA_ok {t e : TypeId} {n : Nat} (hu : Γ.P.underlying t = some (.array n e)) {es : Nat} (hz : sizeT Γ e = some es) {x y : Operand} {a b : A} (hx : cA Γ w x = some a) (hy : cA Γ w y = some b) :
    OpOK Γ w ⟨dst, .indexAddr t x y, ty, pos, after, guard⟩ (I.idxA n es a b) := by
  intro F hA tm h v h' w0 E wd ar ds hr hs ht
  rw [I.idxA_def] at hr
  obtain ⟨u, hu1, e1⟩ := (evK_some tm _ a _).1 hr
  have h1 := cA_ok (ds := ds) hΓ hx ht hu1
  obtain ⟨i0, hi0, hi1⟩ := sizeT_some hz
  cases u with
  | ptr bb o =>
    obtain ⟨u2, hu2, e2⟩ := (evK_some tm _ b _).1 e1
    have h2 := cA_ok (ds := ds) hΓ hy ht hu2
    clear e1
    cases u2 with
    | int k m =>
      cases m with
      | negSucc m => exact nomatch e2
      | ofNat i =>
        obtain ⟨hi, e4⟩ := ble_and e2
        rw [RV] at h1; rw [RV] at h2
        obtain ⟨r, hr1, h1⟩ := h1
        refine pure_end (x := .pointer (some ⟨r, o + i * es, none⟩)) e4 hs (by rw [RV]; exact ⟨r, hr1, rfl⟩) (yields_value ?_)
        have c1 : (0 : Int) ≤ Int.ofNat i ∧ Int.ofNat i < (n : Int) := by simp only [Int.ofNat_eq_natCast]; omega
        simp only [Instr.indexAt, h1, h2, asIntOf, Sem.run_bind, Sem.run_pure, Result.andThen_ok, r_under wd hu, Instr.sureAddr, if_pos c1, r_size wd hi0, hi1]
        simp [Addr.add_lit]
    | _ => exact nomatch e2
  | view l =>
    obtain ⟨u2, hu2, e2⟩ := (evK_some tm _ b _).1 e1
    have h2 := cA_ok (ds := ds) hΓ hy ht hu2
    clear e1
    cases u2 with
    | int k m =>
      cases m with
      | negSucc m => exact nomatch e2
      | ofNat i =>
        obtain ⟨hi, e3⟩ := ble_and e2
        obtain ⟨hpos, e4⟩ := ble_and e3
        obtain ⟨hlen, e5⟩ := ble_and e4
        rw [RV] at h1; rw [RV] at h2
        obtain ⟨a0, ys, h1, hl, ho⟩ := h1
        refine pure_end (x := .pointer (some (a0.add (i * es)))) e5 hs (by rw [RV]; exact ⟨_, ys.drop (i * es), rfl, by rw [dropN_eq]; exact RVs_drop _ hl, ho.drop _⟩) (yields_value ?_)
        have c1 : (0 : Int) ≤ Int.ofNat i ∧ Int.ofNat i < (n : Int) := by simp only [Int.ofNat_eq_natCast]; omega
        simp only [Instr.indexAt, h1, h2, asIntOf, Sem.run_bind, Sem.run_pure, Result.andThen_ok, r_under wd hu, Instr.sureAddr, if_pos c1, r_size wd hi0, hi1]
        simp
    | _ => exact nomatch e2
  | _ => exact nomatch e1
theorem byte_ok {t : TypeId} (hu : Γ.P.underlying t = some .string) {x y : Operand} {a b : A} (hx : cA Γ w x = some a) (hy : cA Γ w y = some b) :
    OpOK Γ w ⟨dst, .index t x y, ty, pos, after, guard⟩ (I.byte a b) := by
  intro F hA tm h v h' w0 E wd ar ds hr hs ht
  rw [I.byte_def] at hr
  obtain ⟨u, hu1, e1⟩ := (evK_some tm _ a _).1 hr
  have h1 := cA_ok (ds := ds) hΓ hx ht hu1
  cases u with
  | str s =>
    obtain ⟨u2, hu2, e2⟩ := (evK_some tm _ b _).1 e1
    have h2 := cA_ok (ds := ds) hΓ hy ht hu2
    clear e1
    cases u2 with
    | int k m =>
      cases m with
      | negSucc m => exact nomatch e2
      | ofNat i =>
        obtain ⟨c, hc, e4⟩ := (optRec_some _ _ _).1 e2
        rw [RV] at h1; rw [RV] at h2
        obtain ⟨q, h1, hq⟩ := h1
        subst hq
        rw [List.getElem?_map] at hc
        cases hb : q.data.toList[i]? with
        | none => rw [hb] at hc; exact nomatch hc
        | some bt =>
          rw [hb] at hc
          simp only [Option.map_some, Option.some.injEq] at hc
          subst hc
          refine pure_end (x := .int .u8 bt.toNat) e4 hs (by rw [RV]; rfl) (yields_value ?_)
          have hlt : i < q.data.toList.length := by
            rcases Nat.lt_or_ge i q.data.toList.length with h' | h'
            · exact h'
            · rw [List.getElem?_eq_none h'] at hb; exact nomatch hb
          have g : q[i]? = some bt := by
            have hlt' : i < q.size := by simpa using hlt
            rw [getElem?_pos q i hlt']
            rw [List.getElem?_eq_getElem hlt] at hb
            simp only [Option.some.injEq] at hb
            rw [← hb]; rfl
          simp [Instr.index, h1, h2, asIntOf, r_under wd hu, g]
    | _ => exact nomatch e2
  | _ => exact nomatch e1
theorem at1_ok {t e : TypeId} {n : Nat} (hu : Γ.P.underlying t = some (.array n e)) (hg : isAggT Γ e = some false) (hz : sizeT Γ e = some 1) {x y : Operand} {a b : A} (hx : cA Γ w x = some a) (hy : cA Γ w y = some b) :
    OpOK Γ w ⟨dst, .index t x y, ty, pos, after, guard⟩ (I.at1 n a b) := by
  intro F hA tm h v h' w0 E wd ar ds hr hs ht
  rw [I.at1_def] at hr
  obtain ⟨u, hu1, e1⟩ := (evK_some tm _ a _).1 hr
  have h1 := cA_ok (ds := ds) hΓ hx ht hu1
  obtain ⟨d, hd, hd2⟩ := isAggT_some hg
  obtain ⟨i0, hi0, hi1⟩ := sizeT_some hz
  cases u with
  | agg l =>
    obtain ⟨u2, hu2, e2⟩ := (evK_some tm _ b _).1 e1
    have h2 := cA_ok (ds := ds) hΓ hy ht hu2
    clear e1
    cases u2 with
    | int k m =>
      cases m with
      | negSucc m => exact nomatch e2
      | ofNat i =>
        obtain ⟨hi, e3⟩ := ble_and e2
        obtain ⟨c, hc, e4⟩ := (optRec_some _ _ _).1 e3
        rw [RV] at h1; rw [RV] at h2
        obtain ⟨ys, h1, hq⟩ := h1
        obtain ⟨z, hz1, hz2⟩ := RVs_get hq hc
        refine pure_end e4 hs hz2 (yields_value ?_)
        have c1 : (0 : Int) ≤ Int.ofNat i ∧ Int.ofNat i < (n : Int) := by simp only [Int.ofNat_eq_natCast]; omega
        simp only [Instr.index, h1, h2, asIntOf, Sem.run_bind, Sem.run_pure, Result.andThen_ok, r_under wd hu, if_pos c1, r_size wd hi0, hi1, part, r_isAgg wd hd, hd2]
        simp [hz1]
    | _ => exact nomatch e2
  | _ => exact nomatch e1
theorem atN_ok {t e : TypeId} {n es : Nat} (hu : Γ.P.underlying t = some (.array n e)) (hg : isAggT Γ e = some true) (hz : sizeT Γ e = some es) {x y : Operand} {a b : A} (hx : cA Γ w x = some a) (hy : cA Γ w y = some b) :
    OpOK Γ w ⟨dst, .index t x y, ty, pos, after, guard⟩ (I.atN n es a b) := by
  intro F hA tm h v h' w0 E wd ar ds hr hs ht
  rw [I.atN_def] at hr
  obtain ⟨u, hu1, e1⟩ := (evK_some tm _ a _).1 hr
  have h1 := cA_ok (ds := ds) hΓ hx ht hu1
  obtain ⟨d, hd, hd2⟩ := isAggT_some hg
  obtain ⟨i0, hi0, hi1⟩ := sizeT_some hz
  cases u with
  | agg l =>
    obtain ⟨u2, hu2, e2⟩ := (evK_some tm _ b _).1 e1
    have h2 := cA_ok (ds := ds) hΓ hy ht hu2
    clear e1
    cases u2 with
    | int k m =>
      cases m with
      | negSucc m => exact nomatch e2
      | ofNat i =>
        obtain ⟨hi, e3⟩ := ble_and e2
        obtain ⟨_, e4⟩ := ble_and e3
        rw [RV] at h1; rw [RV] at h2
        obtain ⟨ys, h1, hq⟩ := h1
        refine pure_end (x := .agg ((ys.drop (i * es)).take es).toArray) e4 hs (by rw [RV]; exact ⟨_, rfl, RVs_take _ (RVs_drop _ hq)⟩) (yields_value ?_)
        have c1 : (0 : Int) ≤ Int.ofNat i ∧ Int.ofNat i < (n : Int) := by simp only [Int.ofNat_eq_natCast]; omega
        simp only [Instr.index, h1, h2, asIntOf, Sem.run_bind, Sem.run_pure, Result.andThen_ok, r_under wd hu, if_pos c1, r_size wd hi0, hi1, part, r_isAgg wd hd, hd2, if_true]
        congr 2
        simp [List.take_drop, Nat.add_comm]
    | _ => exact nomatch e2
  | _ => exact nomatch e1
theorem assert_ok {t t' : TypeId} {d : TypeDesc} {i : TypeInfo} (hd : Γ.P.underlying t = some d) (hni : ∀ ms, d ≠ .interface ms) (hi : Γ.P.info? t = some i) {ok : Bool} {x : Operand} {a : A} (hc : cA Γ w x = some a) :
    OpOK Γ w ⟨dst, .typeAssert x t' t ok, ty, pos, after, guard⟩ (I.assert t ok (match i.zero with | some z => ofV z | none => none) a) := by
  intro F hA tm h v h' w0 E wd ar ds hr hs ht
  rw [I.assert_def] at hr
  obtain ⟨u, hu1, e⟩ := (evK_some tm _ a _).1 hr
  have hu' := cA_ok (ds := ds) hΓ hc ht hu1
  cases u with
  | iface q y =>
    rw [RV] at hu'
    obtain ⟨z, h1, h2⟩ := hu'
    have e' : (Bool.rec (Bool.rec none (Option.rec none (fun z => some (V.tup [z, .bool false], h)) (match i.zero with | some z => ofV z | none => none)) ok) (some (Bool.rec y (.tup [y, .bool true]) ok, h)) (Nat.beq q t) : Option (V × H)) = some (v, h') := e
    rw [boolRec_if] at e'
    by_cases c : q = t
    · subst c
      rw [if_pos (beq_true.2 rfl)] at e'
      cases ok
      · refine pure_end (x := z) e' hs h2 (yields_value ?_)
        simp only [Instr.typeAssert, Sem.run_bind, r_under wd hd, Result.andThen_ok, h1]
        cases d <;> first | simp | exact absurd rfl (hni _)
      · refine pure_end (x := .tuple #[z, .bool true]) e' hs (by rw [RV]; exact ⟨[z, .bool true], rfl, RVs_mk h2 (RVs_one (by rw [RV]))⟩) (yields_value ?_)
        simp only [Instr.typeAssert, Sem.run_bind, r_under wd hd, Result.andThen_ok, h1]
        cases d <;> first | simp | exact absurd rfl (hni _)
    · rw [if_neg (fun c' => c (beq_true.1 c'))] at e'
      obtain ⟨hok, e2⟩ := (boolRec_some _ _ _).1 e'
      subst hok
      obtain ⟨zz, hz, e3⟩ := (optRec_some _ _ _).1 e2
      cases hiz : i.zero with
      | none => rw [hiz] at hz; exact nomatch hz
      | some z0 =>
        rw [hiz] at hz
        have hrz := ofV_RV E z0 zz hz
        refine pure_end (x := .tuple #[z0, .bool false]) e3 hs (by rw [RV]; exact ⟨[z0, .bool false], rfl, RVs_mk hrz (RVs_one (by rw [RV]))⟩) (yields_value ?_)
        simp only [Instr.typeAssert, Sem.run_bind, r_under wd hd, Result.andThen_ok, h1]
        cases d <;> first | (simp [c, r_zero wd hi hiz]; done) | exact absurd rfl (hni _)
  | _ => exact nomatch e
end
end Go.X
namespace Go.X
open Go.RowKit
variable [Nu]
def BRel (n : Option Nat) (x : Option Value) : Prop := match n, x with
  | none, none => True
  | some n, some v => ∃ k, v = .int k n
  | _, _ => False
def BA (tm : Tm) : Option A → Option Nat → Prop
  | none, q => q = none
  | some a, q => ∃ k n, evA tm a = some (.int k (Int.ofNat n)) ∧ q = some n
theorem boundK_some {R : Type} (tm : Tm) (K : Option Nat → Option R) (r : R) (o : Option A) : boundK tm o K = some r ↔ ∃ q, BA tm o q ∧ K q = some r := by
  cases o with
  | none => show K none = some r ↔ _; simp [BA]
  | some a =>
    rw [boundK_def]
    show evK tm (fun v => match v with | .int _ (.ofNat n) => K (some n) | _ => none) a = some r ↔ _
    rw [evK_some]
    constructor
    · rintro ⟨v, h1, h2⟩
      cases v with
      | int k m =>
        cases m with
        | ofNat n => exact ⟨some n, ⟨k, n, h1, rfl⟩, h2⟩
        | negSucc n => exact nomatch h2
      | _ => exact nomatch h2
    · rintro ⟨q, ⟨k, n, h1, rfl⟩, h2⟩; exact ⟨_, h1, h2⟩
section
variable {P : Program} (w : World)
theorem r_bound {k : IntKind} {n y : Nat} (h : n ≤ y) (c : BoundsCode) : (Instr.sliceBound (.int k n) y c).run P w = .ok n w := by
  have c1 : (0 : Int) ≤ (n : Int) ∧ (n : Int) ≤ (y : Int) := by omega
  simp only [Instr.sliceBound, asIntOf, Sem.run_bind, Sem.run_pure, Result.andThen_ok, if_pos c1, Int.toNat_natCast]
theorem r_bounds (b : Bool) (len cap : Nat) {lo hi : Option Nat} {l h : Option Value} (hl : BRel lo l) (hh : BRel hi h) (h1 : hi.getD len ≤ cap) (h2 : lo.getD 0 ≤ hi.getD len) :
    (Instr.sliceBounds b len cap l h none).run P w = .ok (lo.getD 0, hi.getD len, cap) w := by
  cases lo with
  | none =>
    cases l with
    | some v => exact hl.elim
    | none =>
      cases hi with
      | none =>
        cases h with
        | some v => exact hh.elim
        | none => simp [Instr.sliceBounds]
      | some n =>
        cases h with
        | none => exact hh.elim
        | some v => obtain ⟨k, rfl⟩ := hh; simp [Instr.sliceBounds, r_bound w (show n ≤ cap from h1)]
  | some m =>
    cases l with
    | none => exact hl.elim
    | some v =>
      obtain ⟨k, rfl⟩ := hl
      cases hi with
      | none =>
        cases h with
        | some v => exact hh.elim
        | none => simp [Instr.sliceBounds, r_bound w (show m ≤ len from h2)]
      | some n =>
        cases h with
        | none => exact hh.elim
        | some v => obtain ⟨k', rfl⟩ := hh; simp [Instr.sliceBounds, r_bound w (show n ≤ cap from h1), r_bound w (show m ≤ n from h2)]
theorem r_bounds3 (len cap n m : Nat) {lo : Option Nat} {l : Option Value} {k1 k2 : IntKind} (hl : BRel lo l) (h1 : m ≤ cap) (h2 : n ≤ m) (h3 : lo.getD 0 ≤ n) :
    (Instr.sliceBounds true len cap l (some (.int k1 n)) (some (.int k2 m))).run P w = .ok (lo.getD 0, n, m) w := by
  cases lo with
  | none =>
    cases l with
    | some v => exact hl.elim
    | none => simp [Instr.sliceBounds, r_bound w h1, r_bound w h2]
  | some q =>
    cases l with
    | none => exact hl.elim
    | some v =>
      obtain ⟨k, rfl⟩ := hl
      simp [Instr.sliceBounds, r_bound w h1, r_bound w h2, r_bound w (show q ≤ n from h3)]
end
section
variable {Γ : Cx} (hΓ : Γ.Ok) {w : Nat} {dst : Option Tmp} {ty : TypeId} {pos : String} {after : Array Edge} {guard : Option (Nat × Bool)}
include hΓ
theorem bound_ok {x : Option Operand} {a : Option A} (hc : cO Γ w x = some a) {E : En} {tm : Tm} {ar : Array Value} {ds : List Deferred} (ht : TR E w tm ar) {q : Option Nat}
    (hq : BA tm a q) : BRel q (x.map (Act.eval ⟨ar, ds⟩)) := by
  cases x with
  | none => simp only [cO, Option.some.injEq] at hc; subst hc; simp only [BA] at hq; subst hq; trivial
  | some o =>
    rw [cO] at hc
    cases ha : cA Γ w o with
    | none => rw [ha] at hc; exact nomatch hc
    | some b =>
      rw [ha] at hc
      simp only [Option.some.injEq] at hc
      subst hc
      obtain ⟨k, n, h1, rfl⟩ := hq
      have := cA_ok (ds := ds) hΓ ha ht h1
      rw [RV] at this
      exact ⟨k, this⟩
theorem cutS_ok {t : TypeId} (hu : Γ.P.underlying t = some .string) {x : Operand} {lo hi : Option Operand} {a : A} {l h' : Option A} (hx : cA Γ w x = some a) (hl : cO Γ w lo = some l) (hh : cO Γ w hi = some h') :
    OpOK Γ w ⟨dst, .slice t x lo hi none, ty, pos, after, guard⟩ (I.cutS l h' a) := by
  intro F hA tm h v h2 w0 E wd ar ds hr hs ht
  obtain ⟨u, hu1, e1⟩ := (evK_some tm _ a _).1 hr
  have hv := cA_ok (ds := ds) hΓ hx ht hu1
  obtain ⟨ql, hql, e2⟩ := (boundK_some tm _ _ l).1 e1
  obtain ⟨qh, hqh, e3⟩ := (boundK_some tm _ _ h').1 e2
  obtain ⟨r, hr1, e4⟩ := (optRec_some _ _ _).1 e3
  clear e1 e2 e3
  rw [sliceS_def] at hr1
  have bl := bound_ok (ds := ds) hΓ hl ht hql
  have bh := bound_ok (ds := ds) hΓ hh ht hqh
  cases u with
  | str s =>
    obtain ⟨h1, hr2⟩ := ble_and hr1
    obtain ⟨h3, hr3⟩ := ble_and hr2
    simp only [Option.some.injEq] at hr3
    subst hr3
    rw [RV] at hv
    obtain ⟨q, hv, hq⟩ := hv
    have hlen : s.length = q.size := by rw [← hq]; simp
    rw [hlen] at h1 h3 e4
    refine pure_end (x := .string (q.extract (ql.getD 0) (qh.getD q.size))) e4 hs ?_ (yields_value ?_)
    · rw [RV]
      refine ⟨_, rfl, ?_⟩
      rw [← hq, ← List.map_take, ← List.map_drop]
      congr 1
      rw [ByteArray.data_extract, Array.toList_extract]
      simp [List.extract_eq_take_drop, List.drop_take]
    · simp only [Instr.sliceAt, Sem.run_bind, r_under wd hu, Result.andThen_ok, hv, Instr.slice, Option.isSome_none, Bool.false_eq_true, if_false, Option.map_none, Sem.run_pure, r_bounds (P := Γ.P) wd false q.size q.size bl bh h3 h1]
  | _ => exact nomatch hr1
theorem cutL_val {E : En} {u r : V} {es : Nat} {lo hi : Option Nat} (h : sliceL es u lo hi = some r) (hes : 1 ≤ es) {x : Value} (hx : RV E u x) :
    ∃ a len cap, x = .slice a len cap ∧ hi.getD len ≤ cap ∧ lo.getD 0 ≤ hi.getD len ∧ RV E r (.slice (if cap = lo.getD 0 then a else a.map (·.add (lo.getD 0 * es))) (hi.getD len - lo.getD 0) (cap - lo.getD 0)) := by
  rw [sliceL_def] at h
  cases u with
  | slice b o n es' cap =>
    obtain ⟨hes', h1⟩ := beq_and h
    obtain ⟨h2, h3⟩ := ble_and h1
    subst hes'
    rw [RV] at hx
    obtain ⟨_, r0, c, hr0, rfl, hc, hcap⟩ := hx
    refine ⟨_, _, _, rfl, ?_⟩
    cases cap with
    | some q =>
      obtain ⟨h4, h5⟩ := ble_and h3
      simp only [Option.some.injEq] at h5
      dsimp only at hcap
      subst hcap
      refine ⟨h4, h2, ?_⟩
      rw [← h5, RV]
      refine ⟨hes, r0, c - lo.getD 0, hr0, ?_, Nat.sub_le_sub_right h4 _, rfl⟩
      rw [boolRec_if]
      by_cases e : c = lo.getD 0
      · rw [if_pos e, if_pos (beq_true.2 e.symm)]; try rfl
      · rw [if_neg e, if_neg (fun e' => e (beq_true.1 e').symm)]
        simp [Addr.add_lit]
    | none =>
      obtain ⟨h4, h5⟩ := ble_and h3
      dsimp only at hcap
      refine ⟨by omega, h2, ?_⟩
      rw [ble_if] at h5
      by_cases e : (lo.getD 0).succ ≤ n
      · rw [if_pos e] at h5
        simp only [Option.some.injEq] at h5
        have hne : ¬ c = lo.getD 0 := by omega
        rw [← h5, RV, if_neg hne]
        refine ⟨hes, r0, c - lo.getD 0, hr0, by simp [Addr.add_lit], Nat.sub_le_sub_right (Nat.le_trans h4 hc) _, ?_⟩
        dsimp only
        rw [← hcap, Nat.add_eq, Nat.mul_eq, Nat.add_assoc, ← Nat.add_mul]
        congr 2
        omega
      · rw [if_neg e] at h5
        have h5' : (Bool.rec (some V.emp) (some (V.slice b o (Nat.sub (hi.getD n) (lo.getD 0)) es none)) (Nat.beq (lo.getD 0) 0) : Option V) = some r := h5
        rw [boolRec_if] at h5'
        by_cases e0 : lo.getD 0 = 0
        · rw [if_pos (beq_true.2 e0)] at h5'
          simp only [Option.some.injEq] at h5'
          rw [← h5', RV]
          refine ⟨hes, r0, c - lo.getD 0, hr0, ?_, Nat.sub_le_sub_right (Nat.le_trans h4 hc) _, ?_⟩
          · rw [e0]; simp [Addr.add_lit]
          · dsimp only; rw [e0, ← hcap, Nat.sub_zero]
        · rw [if_neg (fun e' => e0 (beq_true.1 e'))] at h5'
          simp only [Option.some.injEq] at h5'
          rw [← h5', RV]
          have : hi.getD n - lo.getD 0 = 0 := by omega
          rw [this]
          split
          · exact ⟨_, _, rfl⟩
          · exact ⟨_, _, rfl⟩
  | emp =>
    obtain ⟨h1, h2⟩ := beq_and h
    obtain ⟨h3, h4⟩ := beq_and h2
    simp only [Option.some.injEq] at h4
    rw [RV] at hx
    obtain ⟨a, c, rfl⟩ := hx
    refine ⟨_, _, _, rfl, by omega, by omega, ?_⟩
    rw [← h4, RV, h1, h3]
    split
    · exact ⟨_, _, rfl⟩
    · exact ⟨_, _, rfl⟩
  | nils =>
    obtain ⟨h1, h2⟩ := beq_and h
    obtain ⟨h3, h4⟩ := beq_and h2
    simp only [Option.some.injEq] at h4
    rw [RV] at hx
    subst hx
    refine ⟨_, _, _, rfl, by omega, by omega, ?_⟩
    rw [← h4, RV, h1, h3]
    simp
  | bigs es' l m =>
    obtain ⟨n, hn, h1⟩ := (optRec_some _ _ _).1 h
    unfold cutBig at h1
    obtain ⟨hes', h2⟩ := beq_and h1
    obtain ⟨h3, h4⟩ := ble_and h2
    obtain ⟨h5, h6⟩ := ble_and h4
    subst hes'
    simp only [Option.some.injEq] at h6
    rw [getD_eq] at h3 h5 h6
    rw [getD_eq] at h3 h6
    rw [RV] at hx
    obtain ⟨a, L, c, ys, rfl, hc, hl, hL, hys, ho⟩ := hx
    have hnL : n = L := by
      cases m with
      | int k z =>
        cases z with
        | ofNat q =>
          have hq : some q = some n := hn
          simp only [Option.some.injEq] at hq
          subst hq
          rw [RV] at hL
          simp only [Value.int.injEq] at hL
          have := hL.2
          simp only [Int.ofNat_eq_natCast] at this
          omega
        | negSucc q => exact nomatch hn
      | _ => exact nomatch hn
    subst hnL
    refine ⟨_, _, _, rfl, Nat.le_trans h5 hc, h3, ?_⟩
    rw [← h6, RV, dropL_eq, takeL_eq]
    by_cases e : c = lo.getD 0
    · have h0 : hi.getD n - lo.getD 0 = 0 := by omega
      rw [if_pos e]
      simp only [Nat.sub_eq, Nat.mul_eq, h0, Nat.zero_mul, List.take_zero]
      exact ⟨a, 0, c - lo.getD 0, [], rfl, Nat.zero_le _, Nat.zero_le _, by rw [RV]; rfl, RVs_none, ho.1, fun w _ j y hj => by simp at hj⟩
    · rw [if_neg e]
      refine ⟨a.add (lo.getD 0 * es), hi.getD n - lo.getD 0, c - lo.getD 0, (ys.drop (lo.getD 0 * es)).take ((hi.getD n - lo.getD 0) * es), rfl, Nat.sub_le_sub_right (Nat.le_trans h5 hc) _, ?_, by rw [RV]; rfl, RVs_take _ (RVs_drop _ hys), (ho.drop _).take _⟩
      rw [List.length_take]; exact Nat.min_le_left _ _
  | _ => exact nomatch h
theorem cutM_val {E : En} {u r : V} {es n m : Nat} {lo : Option Nat} (h : sliceM es u lo (some n) (some m) = some r) (hes : 1 ≤ es) {x : Value} (hx : RV E u x) :
    ∃ a len cap, x = .slice a len cap ∧ m ≤ cap ∧ n ≤ m ∧ lo.getD 0 ≤ n ∧ RV E r (.slice (if m = lo.getD 0 then a else a.map (·.add (lo.getD 0 * es))) (n - lo.getD 0) (m - lo.getD 0)) := by
  rw [sliceM_def] at h
  dsimp only at h
  obtain ⟨h1, h2⟩ := ble_and h
  obtain ⟨h3, h4⟩ := ble_and h2
  cases u with
  | slice b o len es' cap =>
    obtain ⟨hes', h5⟩ := beq_and h4
    obtain ⟨h6, h7⟩ := ble_and h5
    subst hes'
    rw [RV] at hx
    obtain ⟨_, r0, c, hr0, rfl, hc, hcap⟩ := hx
    simp only [Option.some.injEq] at h7
    have hmc : m ≤ c := by
      cases cap with
      | some q => dsimp only at hcap; rw [hcap]; exact h6
      | none => exact Nat.le_trans h6 hc
    refine ⟨_, _, _, rfl, hmc, h3, h1, ?_⟩
    rw [← h7, RV]
    refine ⟨hes, r0, m - lo.getD 0, hr0, ?_, Nat.sub_le_sub_right h3 _, rfl⟩
    rw [boolRec_if]
    by_cases e : m = lo.getD 0
    · rw [if_pos e, if_pos (beq_true.2 e.symm)]; try rfl
    · rw [if_neg e, if_neg (fun e' => e (beq_true.1 e').symm)]
      simp [Addr.add_lit]
  | emp =>
    obtain ⟨h5, h6⟩ := beq_and h4
    simp only [Option.some.injEq] at h6
    rw [RV] at hx
    obtain ⟨a, c, rfl⟩ := hx
    refine ⟨_, _, _, rfl, by omega, h3, h1, ?_⟩
    have e0 : n - lo.getD 0 = 0 := by omega
    rw [← h6, RV, e0]
    split
    · exact ⟨_, _, rfl⟩
    · exact ⟨_, _, rfl⟩
  | nils =>
    obtain ⟨h5, h6⟩ := beq_and h4
    simp only [Option.some.injEq] at h6
    rw [RV] at hx
    subst hx
    refine ⟨_, _, _, rfl, by omega, h3, h1, ?_⟩
    have e0 : n - lo.getD 0 = 0 := by omega
    have e1 : m - lo.getD 0 = 0 := by omega
    rw [← h6, RV, e0, e1]
    simp
  | _ => exact nomatch h4
theorem cutM_ok {t e : TypeId} (hu : Γ.P.underlying t = some (.slice e)) {es : Nat} (hz : sizeT Γ e = some es) (hes : 1 ≤ es) {x y z : Operand} {lo : Option Operand} {a b c : A} {l : Option A} (hx : cA Γ w x = some a) (hl : cO Γ w lo = some l) (hy : cA Γ w y = some b) (hzz : cA Γ w z = some c) :
    OpOK Γ w ⟨dst, .slice t x lo (some y) (some z), ty, pos, after, guard⟩ (I.cutM es l (some b) (some c) a) := by
  intro F hA tm h v h2 w0 E wd ar ds hr hs ht
  obtain ⟨u, hu1, e1⟩ := (evK_some tm _ a _).1 hr
  have hv := cA_ok (ds := ds) hΓ hx ht hu1
  obtain ⟨ql, hql, e2⟩ := (boundK_some tm _ _ l).1 e1
  obtain ⟨_, ⟨k1, n, hb1, rfl⟩, e3⟩ := (boundK_some tm _ _ (some b)).1 e2
  obtain ⟨_, ⟨k2, m, hb2, rfl⟩, e4⟩ := (boundK_some tm _ _ (some c)).1 e3
  obtain ⟨r, hr1, e5⟩ := (optRec_some _ _ _).1 e4
  clear e1 e2 e3 e4
  have bl := bound_ok (ds := ds) hΓ hl ht hql
  have hy' := cA_ok (ds := ds) hΓ hy ht hb1
  have hz' := cA_ok (ds := ds) hΓ hzz ht hb2
  rw [RV] at hy' hz'
  obtain ⟨i0, hi0, hi1⟩ := sizeT_some hz
  obtain ⟨ad, len, cap, hxe, h3, h4, h5, hrv⟩ := cutM_val hΓ hr1 hes hv
  refine pure_end e5 hs hrv (yields_value ?_)
  simp only [Instr.sliceAt, Sem.run_bind, r_under wd hu, Result.andThen_ok, hxe, Instr.slice, Option.map_some, hy', hz', Int.ofNat_eq_natCast, r_bounds3 (P := Γ.P) wd len cap n m bl h3 h4 h5, r_size wd hi0, hi1, Sem.run_pure]
theorem cutL_ok {t e : TypeId} (hu : Γ.P.underlying t = some (.slice e)) {es : Nat} (hz : sizeT Γ e = some es) (hes : 1 ≤ es) {x : Operand} {lo hi : Option Operand} {a : A} {l h' : Option A} (hx : cA Γ w x = some a) (hl : cO Γ w lo = some l) (hh : cO Γ w hi = some h') :
    OpOK Γ w ⟨dst, .slice t x lo hi none, ty, pos, after, guard⟩ (I.cutL es l h' a) := by
  intro F hA tm h v h2 w0 E wd ar ds hr hs ht
  obtain ⟨u, hu1, e1⟩ := (evK_some tm _ a _).1 hr
  have hv := cA_ok (ds := ds) hΓ hx ht hu1
  obtain ⟨ql, hql, e2⟩ := (boundK_some tm _ _ l).1 e1
  obtain ⟨qh, hqh, e3⟩ := (boundK_some tm _ _ h').1 e2
  have bl := bound_ok (ds := ds) hΓ hl ht hql
  have bh := bound_ok (ds := ds) hΓ hh ht hqh
  obtain ⟨i0, hi0, hi1⟩ := sizeT_some hz
  rw [sliceK_eq] at e3
  cases hsl : sliceL es u ql qh with
  | some r =>
    rw [hsl] at e3
    have e4 : some (r, h) = some (v, h2) := e3
    obtain ⟨ad, len, cap, hxe, h3, h4, hrv⟩ := cutL_val hΓ hsl hes hv
    refine pure_end e4 hs hrv (yields_value ?_)
    simp only [Instr.sliceAt, Sem.run_bind, r_under wd hu, Result.andThen_ok, hxe, Instr.slice, Option.map_none, r_bounds (P := Γ.P) wd true len cap bl bh h3 h4, r_size wd hi0, hi1, Sem.run_pure]
  | none =>
    rw [hsl] at e3
    dsimp only at e3
    split at e3
    · rename_i b o n es' q
      obtain ⟨k, k1, _, k2⟩ := (read_some _ _ _ _ _).1 e3
      cases k with
      | cells c qw y =>
        obtain ⟨hes', k3⟩ := beq_and k2
        obtain ⟨k4, k5⟩ := ble_and k3
        obtain ⟨k6, k7⟩ := ble_and k5
        subst hes'
        rw [len_eq] at k4
        simp only [Option.some.injEq, Prod.mk.injEq] at k7
        obtain ⟨rfl, rfl⟩ := k7
        rw [RV] at hv
        obtain ⟨_, r0, c0, hr0, hxe, hc, hcap⟩ := hv
        dsimp only at hcap
        obtain ⟨r1, ys, zs, el, fz, g1, g2, g3, g4, _⟩ := hs.blk _ _ k1
        rw [hr0] at g1
        simp only [Option.some.injEq] at g1
        subst g1
        have hlen := RVs_length g3
        rw [g4, List.length_append, hlen] at hcap
        have k4' : o + q * es ≤ c.length := k4
        have hqc : q ≤ c0 := by
          have : q * es ≤ c0 * es := by omega
          exact Nat.le_of_mul_le_mul_right this (by omega)
        have k6' : ql.getD 0 + 1 ≤ q := k6
        refine ⟨E, wd, _, En.le_refl E, hs.note b, ?_, yields_value (x := .slice (some ⟨r0, o + ql.getD 0 * es, none⟩) (q - ql.getD 0) (c0 - ql.getD 0)) ?_⟩
        · rw [RV]
          refine ⟨hes, r0, c0 - ql.getD 0, hr0, rfl, Nat.sub_le_sub_right hqc _, ?_⟩
          show o + ql.getD 0 * es + (c0 - ql.getD 0) * es = E.sz b
          rw [g4, List.length_append, hlen, Nat.add_assoc, ← Nat.add_mul, show ql.getD 0 + (c0 - ql.getD 0) = c0 from by omega]
          exact hcap
        · have hne : ¬ c0 = ql.getD 0 := by omega
          simp only [Instr.sliceAt, Sem.run_bind, r_under wd hu, Result.andThen_ok, hxe, Instr.slice, Option.map_none, r_bounds (P := Γ.P) wd true n c0 bl bh (show (some q : Option Nat).getD n ≤ c0 from hqc) (show ql.getD 0 ≤ (some q : Option Nat).getD n by simp; omega), r_size wd hi0, hi1, Sem.run_pure, if_neg hne]
          simp [Addr.add_lit]
      | _ => exact nomatch k2
    · exact nomatch e3
theorem cutA_ok {t e : TypeId} {n : Nat} (hu : Γ.P.underlying t = some (.array n e)) {es : Nat} (hz : sizeT Γ e = some es) (hes : 1 ≤ es) {x : Operand} {lo hi : Option Operand} {a : A} {l h' : Option A} (hx : cA Γ w x = some a) (hl : cO Γ w lo = some l) (hh : cO Γ w hi = some h') :
    OpOK Γ w ⟨dst, .slice t x lo hi none, ty, pos, after, guard⟩ (I.cutA n es l h' a) := by
  intro F hA tm h v h2 w0 E wd ar ds hr hs ht
  rw [I.cutA_def] at hr
  obtain ⟨u, hu1, e1⟩ := (evK_some tm _ a _).1 hr
  have hv := cA_ok (ds := ds) hΓ hx ht hu1
  obtain ⟨i0, hi0, hi1⟩ := sizeT_some hz
  cases u with
  | ptr b o =>
    obtain ⟨ql, hql, e2⟩ := (boundK_some tm _ _ l).1 e1
    obtain ⟨qh, hqh, e3⟩ := (boundK_some tm _ _ h').1 e2
    obtain ⟨r, hr1, e4⟩ := (optRec_some _ _ _).1 e3
    clear e1 e2 e3
    have bl := bound_ok (ds := ds) hΓ hl ht hql
    have bh := bound_ok (ds := ds) hΓ hh ht hqh
    rw [RV] at hv
    obtain ⟨r0, hr0, hv⟩ := hv
    have hv' : RV E (.slice b o n es (some n)) (.slice (some ⟨r0, o, none⟩) n n) := by rw [RV]; exact ⟨hes, r0, n, hr0, rfl, Nat.le_refl _, rfl⟩
    obtain ⟨ad, len, cap, hxe, h3, h4, hrv⟩ := cutL_val hΓ hr1 hes hv'
    simp only [Value.slice.injEq] at hxe
    obtain ⟨rfl, rfl, rfl⟩ := hxe
    refine pure_end e4 hs hrv (yields_value ?_)
    simp only [Instr.sliceAt, Sem.run_bind, r_under wd hu, Result.andThen_ok, hv, Instr.sureAddr, Option.map_none, Sem.run_pure, r_bounds (P := Γ.P) wd false n n bl bh h3 h4, r_size wd hi0, hi1]
    split <;> rfl
  | _ => exact nomatch e1
end
end Go.X
namespace Go.X
open Go.RowKit
variable [Nu]
theorem zeroL_some {Γ : Cx} {t : Nat} {l : List V} (h : zeroL Γ t = some l) : ∃ i z, Γ.P.info? t = some i ∧ i.zero = some z ∧ (∀ E, RVs E l z.cells.toList) ∧ l.length = i.size := by
  unfold zeroL at h
  cases hi : Γ.P.info? t with
  | none => rw [hi] at h; exact nomatch h
  | some i =>
    rw [hi] at h
    dsimp only at h
    cases hz : i.zero with
    | none => rw [hz] at h; exact nomatch h
    | some z =>
      rw [hz] at h
      dsimp only at h
      cases hv : ofV z with
      | none => rw [hv] at h; exact nomatch h
      | some v =>
        rw [hv] at h
        dsimp only at h
        by_cases c : v.cells.length = i.size
        · rw [if_pos c] at h
          simp only [Option.some.injEq] at h
          subst h
          exact ⟨i, z, rfl, hz, fun E => RV_cells (ofV_RV E z v hv), c⟩
        · rw [if_neg c] at h; exact nomatch h
theorem Sim.cellsNew {w0 : World} {E : En} {h : H} {w : World} (s : Sim w0 E h w) (hn : h.at h.nx = none) {l : List V} {ys : List Value} (zs : List Value) (hl : RVs E l ys) (el : TypeId) (q : Bool) (y : Nat) (hy : TyOK y el) :
    E.le (E.set h.nx w.heap.size (ys ++ zs).length) ∧ Sim w0 (E.set h.nx w.heap.size (ys ++ zs).length) (h.made (.cells l q y)) (w.alloc (.cells (ys ++ zs).toArray el)) := by
  have hE := En.le_set (s.dom _ hn) w.heap.size (ys ++ zs).length
  refine ⟨hE, s.made hn _ rfl _ _ ⟨w.heap.size, ys, zs, el, (0, 0), En.set_mu _ _ _ _, ?_, RVs_mono hE _ _ hl, En.set_sz _ _ _ _, ?_, hy⟩⟩
  · show (w.heap.push _)[w.heap.size]? = _
    rw [Array.getElem?_push_size]
  · intro _ i _ h; exact absurd h.2 (Nat.not_lt_zero _)
theorem newCellsY_some (l : List V) (y : Nat) (R : Type) (h : H) (K : Nat → H → Option R) (r : R) : newCellsY l y R h K = some r ↔ allOne l = true ∧ h.at h.nx = none ∧ K h.nx (h.made (.cells l true y)) = some r := by
  unfold newCellsY
  rw [boolRec_some, new_some]
theorem newCells_some (l : List V) (R : Type) (h : H) (K : Nat → H → Option R) (r : R) : newCells l R h K = some r ↔ allOne l = true ∧ h.at h.nx = none ∧ K h.nx (h.made (.cells l true 0)) = some r := by
  unfold newCells newCellsY
  rw [boolRec_some, new_some]
theorem Sim.cellsY {w0 : World} {E : En} {h : H} {w : World} (s : Sim w0 E h w) {b : Nat} {c : List V} {q : Bool} {y : Nat} (hb : h.at b = some (.cells c q y)) {r : Nat} (hr : E.mu b = some r) :
    ∃ ys zs el fz, w.heap[r]? = some (.cells (ys ++ zs).toArray el fz) ∧ RVs E c ys ∧ E.sz b = (ys ++ zs).length ∧ (q = true → ∀ i, i < (ys ++ zs).length → ¬(fz.1 ≤ i ∧ i < fz.2)) ∧ TyOK y el := by
  obtain ⟨r', ys, zs, el, fz, h1, h2, h3, h4, h5⟩ := s.blk b _ hb
  rw [hr] at h1
  simp only [Option.some.injEq] at h1
  subst h1
  exact ⟨ys, zs, el, fz, h2, h3, h4, h5⟩
theorem Sim.cells {w0 : World} {E : En} {h : H} {w : World} (s : Sim w0 E h w) {b : Nat} {c : List V} {q : Bool} {y : Nat} (hb : h.at b = some (.cells c q y)) {r : Nat} (hr : E.mu b = some r) :
    ∃ ys zs el fz, w.heap[r]? = some (.cells (ys ++ zs).toArray el fz) ∧ RVs E c ys ∧ E.sz b = (ys ++ zs).length ∧ (q = true → ∀ i, i < (ys ++ zs).length → ¬(fz.1 ≤ i ∧ i < fz.2)) := by
  obtain ⟨r', ys, zs, el, fz, h1, h2, h3, h4, h5⟩ := s.blk b _ hb
  rw [hr] at h1
  simp only [Option.some.injEq] at h1
  subst h1
  exact ⟨ys, zs, el, fz, h2, h3, h4, h5.1⟩
theorem ld1_some (b o : Nat) (R : Type) (h : H) (K : V → H → Option R) (r : R) (e : ld1 b o R h K = some r) : ∃ c q y v, h.at b = some (.cells c q y) ∧ c[o]? = some v ∧ K v (h.note b) = some r := by
  obtain ⟨k, h1, _, h2⟩ := (read_some b R h _ r).1 e
  cases k with
  | cells c q y =>
    obtain ⟨v, h3, h4⟩ := (nthK_some _ r c o).1 h2
    exact ⟨c, q, y, v, h1, h3, h4⟩
  | _ => exact nomatch h2
theorem ldN_some (n b o : Nat) (R : Type) (h : H) (K : List V → H → Option R) (r : R) (e : ldN n b o R h K = some r) :
    ∃ c q y, h.at b = some (.cells c q y) ∧ n ≤ (c.drop o).length ∧ K ((c.drop o).take n) (h.note b) = some r := by
  obtain ⟨k, h1, _, h2⟩ := (read_some b R h _ r).1 e
  cases k with
  | cells c q y =>
    obtain ⟨h3, h4⟩ := (takeK_some r n _ _).1 h2
    rw [dropN_eq] at h3 h4
    exact ⟨c, q, y, h1, h3, h4⟩
  | _ => exact nomatch h2
theorem stW_some (b o : Nat) (l : List V) (k : Blk) (R : Type) (h : H) (K : Unit → H → Option R) (r : R) (e : stW b o l k R h K = some r) :
    ∃ c y, k = .cells c true y ∧ o + l.length ≤ c.length ∧ K () (h.wrote b (.cells (c.take o ++ (l ++ c.drop (o + l.length))) true y)) = some r := by
  cases k with
  | cells c q y =>
    obtain ⟨h3, h4⟩ := (boolRec_some _ _ _).1 e
    subst h3
    obtain ⟨h5, h6⟩ := (putAtK_some r l o c _).1 h4
    obtain ⟨_, _, h7⟩ := (write_some b _ R h K r).1 h6
    exact ⟨c, y, rfl, h5, h7⟩
  | _ => exact nomatch e
theorem stN_some (b o : Nat) (l : List V) (R : Type) (h : H) (K : Unit → H → Option R) (r : R) (e : stN b o l R h K = some r) :
    allOne l = true ∧ ∃ c y, h.at b = some (.cells c true y) ∧ o + l.length ≤ c.length ∧ K () ((h.note b).wrote b (.cells (c.take o ++ (l ++ c.drop (o + l.length))) true y)) = some r := by
  obtain ⟨h0, h1⟩ := (boolRec_some _ _ _).1 e
  obtain ⟨k, h2, _, h3⟩ := (read_some b R h _ r).1 h1
  obtain ⟨c, y, rfl, h4, h5⟩ := stW_some b o l k R _ K r h3
  exact ⟨h0, c, y, h2, h4, h5⟩
theorem st1_some (b o : Nat) (v : V) (R : Type) (h : H) (K : Unit → H → Option R) (r : R) (e : st1 b o v R h K = some r) :
    v.one = true ∧ ∃ c y, h.at b = some (.cells c true y) ∧ o + 1 ≤ c.length ∧ K () ((h.note b).wrote b (.cells (c.take o ++ ([v] ++ c.drop (o + 1))) true y)) = some r := by
  obtain ⟨h0, h1⟩ := (boolRec_some _ _ _).1 e
  obtain ⟨k, h2, _, h3⟩ := (read_some b R h _ r).1 h1
  obtain ⟨c, y, rfl, h4, h5⟩ := stW_some b o [v] k R _ K r h3
  exact ⟨h0, c, y, h2, h4, h5⟩
theorem Sim.stored {w0 : World} {E : En} {h : H} {w : World} (s : Sim w0 E h w) {b : Nat} {c : List V} {y : Nat} (hb : h.at b = some (.cells c true y)) {r : Nat} (hr : E.mu b = some r) {o : Nat} {l : List V} {us : List Value} (hl : RVs E l us)
    (ho : o + l.length ≤ c.length) : Sim w0 E ((h.note b).wrote b (.cells (c.take o ++ (l ++ c.drop (o + l.length))) true y)) (w.setCells r o us) := by
  obtain ⟨ys, zs, el, fz, h1, h2, h3, h4, h5⟩ := s.cellsY hb hr
  have hlen := RVs_length h2
  have hlu := RVs_length hl
  have hle : o + us.length ≤ ys.length := by omega
  have e : over us (ys ++ zs) o = over us ys o ++ zs := by
    have q1 : (ys ++ zs).take o = ys.take o := List.take_append_of_le_length (by omega)
    have q2 : (ys ++ zs).drop (o + us.length) = ys.drop (o + us.length) ++ zs := List.drop_append_of_le_length (by omega)
    rw [over, over, q1, q2]
    simp [List.append_assoc]
  have hs1 := setCells_heap r us o w (ys ++ zs) el fz h1 (by rw [List.length_append]; omega)
  rw [e] at hs1
  have hl1 : (over us ys o ++ zs).length = (ys ++ zs).length := by rw [List.length_append, over_length _ _ _ hle, List.length_append]
  refine (s.note b).wrote (k := .cells c true y) (by rw [H.note_at]; exact hb) rfl hr _ (fun _ => rfl) _ ⟨r, over us ys o, zs, el, fz, hr, hs1, RVs_over o hl h2, by rw [hl1, h3], fun q i hi => h4 q i (by rw [hl1] at hi; exact hi), h5⟩
    (fun i hi => setCells_other r us o w i hi) (by rw [setCells_size]; exact Nat.le_refl _) (setCells_os r us o w) (setCells_tape r us o w) (setCells_output r us o w)
theorem Sim.stores {P : Program} {w0 : World} {E : En} {h : H} {w : World} (s : Sim w0 E h w) {b : Nat} {c : List V} {y : Nat} (hb : h.at b = some (.cells c true y)) {r : Nat} (hr : E.mu b = some r) {o : Nat} {l : List V} {us : List Value} (hl : RVs E l us)
    (h1 : allOne l = true) (ho : o + l.length ≤ c.length) : (storeCells ⟨r, o, none⟩ us).run P w = .ok () (w.setCells r o us) := by
  obtain ⟨ys, zs, el, fz, h2, h3, h4, h5⟩ := s.cells hb hr
  have hlen := RVs_length h3
  have hlu := RVs_length hl
  exact r_storeCells w h2 (h5 rfl) o us (by rw [List.length_append]; omega) (RVs_ones hl h1)
theorem Sim.loads {w0 : World} {E : En} {h : H} {w : World} (s : Sim w0 E h w) {b : Nat} {c : List V} {q : Bool} {y : Nat} (hb : h.at b = some (.cells c q y)) {r : Nat} (hr : E.mu b = some r) {o n : Nat} (hn : n ≤ (c.drop o).length) :
    ∃ us, us.length = n ∧ RVs E ((c.drop o).take n) us ∧ ∀ j u, us[j]? = some u → w.cell? ⟨r, o + j, none⟩ = some u := by
  obtain ⟨ys, zs, el, fz, h1, h2, h3, h4⟩ := s.cells hb hr
  have hlen := RVs_length h2
  have hr := RVs_take n (RVs_drop o h2)
  refine ⟨(ys.drop o).take n, by rw [List.length_drop] at hn; simp; omega, hr, fun j u hu => ?_⟩
  rw [cell_of w h1]
  rw [List.getElem?_take] at hu
  split at hu
  · rw [List.getElem?_drop] at hu
    have : o + j < ys.length := by
      rcases Nat.lt_or_ge (o + j) ys.length with hh | hh
      · exact hh
      · rw [List.getElem?_eq_none hh] at hu; exact nomatch hu
    rw [List.getElem?_append_left this]; exact hu
  · exact nomatch hu
/-! parts laid into cells -/
theorem setMany (off : Nat) : ∀ (ys zs : List Value) (k : Nat), off + k + ys.length ≤ zs.length →
    (ys.zipIdx k).foldl (fun cs (x : Value × Nat) => cs.setIfInBounds (off + x.2) x.1) zs.toArray = (over ys zs (off + k)).toArray
  | [], zs, k, h => by simp [over]
  | y :: ys, zs, k, h => by
    have e : zs.toArray.setIfInBounds (off + k) y = (zs.set (off + k) y).toArray := by simp
    rw [List.zipIdx_cons, List.foldl_cons, e, setMany off ys (zs.set (off + k) y) (k + 1) (by simp at h ⊢; omega), ← Nat.add_assoc, over_cons y ys zs (off + k) (by simp at h ⊢; omega)]
theorem cParts_cons {Γ : Cx} {w : Nat} {place : Nat → Option (Nat × Nat)} {p : Nat × Operand} {ps : List (Nat × Operand)} {l : List (Nat × Nat × A)} (h : cParts Γ w place (p :: ps) = some l) :
    ∃ o n a r, place p.1 = some (o, n) ∧ cA Γ w p.2 = some a ∧ cParts Γ w place ps = some r ∧ l = (o, n, a) :: r := by
  obtain ⟨x, r, h1, h2, h3⟩ := (allSome_cons _ _ _ _).1 h
  cases hp : place p.1 with
  | none => rw [hp] at h1; exact nomatch h1
  | some q =>
    cases ha : cA Γ w p.2 with
    | none => rw [hp, ha] at h1; exact nomatch h1
    | some a =>
      rw [hp, ha] at h1
      simp only [Option.some.injEq] at h1
      exact ⟨q.1, q.2, a, r, rfl, rfl, h2, by rw [h3, ← h1]⟩
section
variable {Γ : Cx} (hΓ : Γ.Ok) {w : Nat} {dst : Option Tmp} {ty : TypeId} {pos : String} {after : Array Edge} {guard : Option (Nat × Bool)}
include hΓ
theorem fill_ok {place place' : Nat → Option (Nat × Nat)} (hp : ∀ i q, place i = some q → place' i = some q) {E : En} {tm : Tm} {ar : Array Value} {ds : List Deferred} (ht : TR E w tm ar) {R : Type} (r : R) :
    ∀ (ps : List (Nat × Operand)) (l : List (Nat × Nat × A)) (z : List V) (zs : List Value) (K : List V → Option R), cParts Γ w place ps = some l → RVs E z zs → fillK tm l z K = some r →
      ∃ z' zs', K z' = some r ∧ RVs E z' zs' ∧ Instr.fill place' zs.toArray (ps.map fun p => (p.1, Act.eval ⟨ar, ds⟩ p.2)) = some zs'.toArray
  | [], l, z, zs, K, hc, hz, hr => by
    have : l = [] := by simpa [cParts, allSome] using hc.symm
    subst this
    exact ⟨z, zs, hr, hz, rfl⟩
  | p :: ps, l, z, zs, K, hc, hz, hr => by
    obtain ⟨o, n, a, l', h1, h2, h3, rfl⟩ := cParts_cons hc
    obtain ⟨v, hv, hr⟩ := (evK_some tm _ a _).1 hr
    obtain ⟨hb, hr⟩ := (boolRec_some _ _ _).1 hr
    obtain ⟨hle, hr⟩ := (putAtK_some r v.cells o z _).1 hr
    have hcell := RV_cells (cA_ok (ds := ds) hΓ h2 ht hv)
    have hlen := RVs_length hcell
    have hlz := RVs_length hz
    rw [len_eq] at hb
    have hn : n = v.cells.length := beq_true.1 hb
    obtain ⟨z', zs', q1, q2, q3⟩ := fill_ok (ds := ds) hp ht r ps l' _ _ K h3 (RVs_over o hcell hz) hr
    refine ⟨z', zs', q1, q2, ?_⟩
    have hsz : (Act.eval ⟨ar, ds⟩ p.2).cells.size = n := by rw [← Array.length_toList, hlen, hn]
    have hsz2 : (Act.eval ⟨ar, ds⟩ p.2).cells.toList.length = n := by rw [Array.length_toList, hsz]
    have c1 : (decide ((Act.eval ⟨ar, ds⟩ p.2).cells.size ≠ n) || decide (o + (Act.eval ⟨ar, ds⟩ p.2).cells.size > zs.toArray.size)) = false := by
      rw [hsz]
      simp
      omega
    have hset := setMany o (Act.eval ⟨ar, ds⟩ p.2).cells.toList zs 0 (by omega)
    rw [List.map_cons, Instr.fill, hp _ _ h1]
    dsimp only
    rw [c1]
    simp only [Bool.false_eq_true, if_false]
    rw [Nat.add_zero] at hset
    rw [← q3, ← hset, ← Array.foldl_toList, Array.toList_zipIdx]
theorem new_ok {t : TypeId} {z : List V} (hz : zeroL Γ t = some z) : OpOK Γ w ⟨dst, .alloc t, ty, pos, after, guard⟩ (I.newT (t + 1) z) := by
  intro F hA tm h v h' w0 E wd ar ds hr hs ht
  obtain ⟨i, zv, h1, h2, h3, h4⟩ := zeroL_some hz
  obtain ⟨hn, e⟩ := (new_some (.cells z true (t + 1)) (V × H) h (fun b h => some (V.ptr b 0, h)) _).1 hr
  obtain ⟨hE, hs'⟩ := hs.cellsNew hn [] (h3 E) t true (t + 1) TyOK.own
  simp only [Option.some.injEq, Prod.mk.injEq] at e
  obtain ⟨rfl, rfl⟩ := e
  refine ⟨_, _, .pointer (some ⟨wd.heap.size, 0, none⟩), hE, hs', by rw [RV]; exact ⟨_, En.set_mu _ _ _ _, rfl⟩, yields_value ?_⟩
  simp only [Instr.alloc, Sem.run_bind, r_zero wd h1 h2, Result.andThen_ok, newVar, newRow, run_newObj_alloc, Sem.run_pure]
  simp
theorem box_ok {t : TypeId} {x : Operand} {a : A} (hc : cA Γ w x = some a) : OpOK Γ w ⟨dst, .box t x, ty, pos, after, guard⟩ (I.box a) := by
  intro F hA tm h v h' w0 E wd ar ds hr hs ht
  obtain ⟨u, hu, e⟩ := (evK_some tm _ a _).1 hr
  have hu' := RV_cells (cA_ok (ds := ds) hΓ hc ht hu)
  obtain ⟨_, hn, e⟩ := (newCells_some _ _ h _ _).1 e
  obtain ⟨hE, hs'⟩ := hs.cellsNew hn [] hu' t true 0 TyOK.none
  simp only [Option.some.injEq, Prod.mk.injEq] at e
  obtain ⟨rfl, rfl⟩ := e
  refine ⟨_, _, .pointer (some ⟨wd.heap.size, 0, none⟩), hE, hs', by rw [RV]; exact ⟨_, En.set_mu _ _ _ _, rfl⟩, yields_value ?_⟩
  simp only [Instr.box, Sem.run_bind, newVar, newRow, run_newObj_alloc, Result.andThen_ok, Sem.run_pure]
  simp
theorem load1_ok {t : TypeId} (hg : isAggT Γ t = some false) {x : Operand} {a : A} (hc : cA Γ w x = some a) : OpOK Γ w ⟨dst, .load t x, ty, pos, after, guard⟩ (I.load1 a) := by
  intro F hA tm h v h' w0 E wd ar ds hr hs ht
  rw [I.load1_def] at hr
  obtain ⟨d, hd, hd1⟩ := isAggT_some hg
  obtain ⟨u, hu, e⟩ := (evK_some tm _ a _).1 hr
  have hu' := cA_ok (ds := ds) hΓ hc ht hu
  cases u with
  | ptr b o =>
    obtain ⟨c, q, y1, v1, h1, h2, h3⟩ := ld1_some _ _ _ _ _ _ e
    rw [RV] at hu'
    obtain ⟨r, hr1, hp⟩ := hu'
    obtain ⟨ys, zs, el, fz, g1, g2, g3, g4⟩ := hs.cells h1 hr1
    obtain ⟨y, hy, hy2⟩ := RVs_get g2 h2
    have hlt : o < ys.length := by
      rcases Nat.lt_or_ge o ys.length with hh | hh
      · exact hh
      · rw [List.getElem?_eq_none hh] at hy; exact nomatch hy
    simp only [Option.some.injEq, Prod.mk.injEq] at h3
    obtain ⟨rfl, rfl⟩ := h3
    refine ⟨E, wd, y, En.le_refl E, hs.note b, hy2, yields_value ?_⟩
    simp only [hp, Instr.loadAt, Instr.sureAddr, Sem.run_bind, Sem.run_pure, Result.andThen_ok]
    exact r_load1 wd hd hd1 (by rw [cell_of wd g1, List.getElem?_append_left hlt]; exact hy)
  | view l =>
    rw [RV] at hu'
    obtain ⟨a0, ys, hp, h3, h4⟩ := hu'
    obtain ⟨v1, h5, h6⟩ := (nthK_some _ _ l 0).1 e
    obtain ⟨y, hy, hy2⟩ := RVs_get h3 h5
    refine pure_end h6 hs hy2 (yields_value ?_)
    simp only [hp, Instr.loadAt, Instr.sureAddr, Sem.run_bind, Sem.run_pure, Result.andThen_ok]
    exact r_load1 wd hd hd1 (h4.zero hs.olds hy)
  | _ => exact nomatch e
theorem loadN_ok {t : TypeId} (hg : isAggT Γ t = some true) {n : Nat} (hz : sizeT Γ t = some n) {x : Operand} {a : A} (hc : cA Γ w x = some a) : OpOK Γ w ⟨dst, .load t x, ty, pos, after, guard⟩ (I.loadN n a) := by
  intro F hA tm h v h' w0 E wd ar ds hr hs ht
  rw [I.loadN_def] at hr
  obtain ⟨d, hd, hd1⟩ := isAggT_some hg
  obtain ⟨i0, hi0, hi1⟩ := sizeT_some hz
  obtain ⟨u, hu, e⟩ := (evK_some tm _ a _).1 hr
  have hu' := cA_ok (ds := ds) hΓ hc ht hu
  cases u with
  | ptr b o =>
    obtain ⟨c, q, y1, h1, h2, h3⟩ := ldN_some _ _ _ _ _ _ _ e
    rw [RV] at hu'
    obtain ⟨r, hr1, hp⟩ := hu'
    obtain ⟨us, g1, g2, g3⟩ := hs.loads h1 hr1 h2
    simp only [Option.some.injEq, Prod.mk.injEq] at h3
    obtain ⟨rfl, rfl⟩ := h3
    refine ⟨E, wd, .agg us.toArray, En.le_refl E, hs.note b, by rw [RV]; exact ⟨us, rfl, g2⟩, yields_value ?_⟩
    simp only [hp, Instr.loadAt, Instr.sureAddr, Sem.run_bind, Sem.run_pure, Result.andThen_ok]
    exact r_loadN wd hd hd1 hi0 (by omega) (fun j u hu => by rw [Addr.add_lit]; exact g3 j u hu)
  | view l =>
    rw [RV] at hu'
    obtain ⟨a0, ys, hp, h3, h4⟩ := hu'
    obtain ⟨h5, h6⟩ := (takeK_some _ n l _).1 e
    have hlen := RVs_length h3
    refine pure_end (x := .agg (ys.take n).toArray) h6 hs (by rw [RV]; exact ⟨_, rfl, RVs_take n h3⟩) (yields_value ?_)
    simp only [hp, Instr.loadAt, Instr.sureAddr, Sem.run_bind, Sem.run_pure, Result.andThen_ok]
    exact r_loadN wd hd hd1 hi0 (by rw [List.length_take]; omega) (fun j u hu => h4.2 wd hs.olds j u (by
      rw [List.getElem?_take] at hu
      by_cases c : j < n
      · rw [if_pos c] at hu; exact hu
      · rw [if_neg c] at hu; exact nomatch hu))
  | _ => exact nomatch e
theorem store1_ok {t : TypeId} (hz : sizeT Γ t = some 1) {x y : Operand} {a b : A} (hx : cA Γ w x = some a) (hy : cA Γ w y = some b) : OpOK Γ w ⟨dst, .store t x y, ty, pos, after, guard⟩ (I.store1 a b) := by
  intro F hA tm h v h' w0 E wd ar ds hr hs ht
  rw [I.store1_def] at hr
  obtain ⟨i0, hi0, hi1⟩ := sizeT_some hz
  obtain ⟨u, hu, e⟩ := (evK_some tm _ a _).1 hr
  have hu' := cA_ok (ds := ds) hΓ hx ht hu
  cases u with
  | ptr bl o =>
    obtain ⟨v1, hv1, e⟩ := (evK_some tm _ b _).1 e
    have hv' := cA_ok (ds := ds) hΓ hy ht hv1
    obtain ⟨h0, c, y1, h1, h2, h3⟩ := st1_some _ _ _ _ _ _ _ e
    rw [RV] at hu'
    obtain ⟨r, hr1, hp⟩ := hu'
    simp only [Option.some.injEq, Prod.mk.injEq] at h3
    obtain ⟨rfl, rfl⟩ := h3
    have hc1 : v1.cells = [v1] := by cases v1 <;> first | rfl | exact nomatch h0
    have hcell := RV_cells hv'
    rw [hc1] at hcell
    have ha : allOne [v1] = true := by rw [allOne_cons, h0]; rfl
    have hlen := RVs_length hcell
    refine ⟨E, _, Go.undef, En.le_refl E, hs.stored h1 hr1 hcell h2, by rw [undef, RV]; exact ⟨[], rfl, RVs_none⟩, yields_unit ?_⟩
    have hst := hs.stores (P := Γ.P) h1 hr1 hcell ha h2
    have hsz : ¬ ((Act.eval ⟨ar, ds⟩ y).cells.size ≠ i0.size) := by rw [← Array.length_toList, hlen, hi1]; simp
    simp only [hp, Instr.storeAt, Instr.sureAddr, Sem.run_bind, Sem.run_pure, Result.andThen_ok, storeVar, r_size wd hi0, if_neg hsz, hst]
  | _ => exact nomatch e
theorem storeN_ok {t : TypeId} {n : Nat} (hz : sizeT Γ t = some n) {x y : Operand} {a b : A} (hx : cA Γ w x = some a) (hy : cA Γ w y = some b) : OpOK Γ w ⟨dst, .store t x y, ty, pos, after, guard⟩ (I.storeN n a b) := by
  intro F hA tm h v h' w0 E wd ar ds hr hs ht
  rw [I.storeN_def] at hr
  obtain ⟨i0, hi0, hi1⟩ := sizeT_some hz
  obtain ⟨u, hu, e⟩ := (evK_some tm _ a _).1 hr
  have hu' := cA_ok (ds := ds) hΓ hx ht hu
  cases u with
  | ptr bl o =>
    obtain ⟨v1, hv1, e⟩ := (evK_some tm _ b _).1 e
    have hv' := cA_ok (ds := ds) hΓ hy ht hv1
    obtain ⟨hn, e⟩ := (boolRec_some _ _ _).1 e
    obtain ⟨h0, c, y1, h1, h2, h3⟩ := stN_some _ _ _ _ _ _ _ e
    rw [RV] at hu'
    obtain ⟨r, hr1, hp⟩ := hu'
    simp only [Option.some.injEq, Prod.mk.injEq] at h3
    obtain ⟨rfl, rfl⟩ := h3
    have hcell := RV_cells hv'
    have hlen := RVs_length hcell
    have hn' : n = v1.cells.length := beq_true.1 hn
    refine ⟨E, _, Go.undef, En.le_refl E, hs.stored h1 hr1 hcell h2, by rw [undef, RV]; exact ⟨[], rfl, RVs_none⟩, yields_unit ?_⟩
    have hst := hs.stores (P := Γ.P) h1 hr1 hcell h0 h2
    have hsz : ¬ ((Act.eval ⟨ar, ds⟩ y).cells.size ≠ i0.size) := by rw [← Array.length_toList, hlen, hi1, hn']; simp
    simp only [hp, Instr.storeAt, Instr.sureAddr, Sem.run_bind, Sem.run_pure, Result.andThen_ok, storeVar, r_size wd hi0, if_neg hsz, hst]
  | _ => exact nomatch e
end
end Go.X
namespace Go.X
open Go.RowKit
variable [Nu]
theorem rep_eq (z : List V) : ∀ n, rep n z = (List.replicate n z).flatten
  | 0 => rfl
  | n + 1 => by
    show cat z (rep n z) = _
    rw [cat_eq, rep_eq z n, List.replicate_succ, List.flatten_cons]
theorem range_cells {s : Nat} (z : Array Value) (hs : z.size = s) (n : Nat) : ((Array.range (n * s)).map (z[· % z.size]!)) = (List.replicate n z.toList).flatten.toArray := by
  by_cases h0 : s = 0
  · have hz : z.toList = [] := List.eq_nil_of_length_eq_zero (by rw [Array.length_toList]; omega)
    rw [h0, hz]
    apply Array.ext'
    simp
  · have hf := Great.flat_get (s := s) (by omega) (List.replicate n (Value.agg z)) (fun v hv => by rw [(List.mem_replicate.1 hv).2]; exact hs)
    apply Array.ext_getElem?
    intro k
    have e1 : (List.replicate n z.toList).flatten = (List.replicate n (Value.agg z)).flatMap fun v => v.cells.toList := by
      rw [List.flatMap_def, List.map_replicate]; rfl
    have e2 : ((List.replicate n (Value.agg z)).flatMap fun v => v.cells.toList).toArray[k]? = ((List.replicate n (Value.agg z)).flatMap fun v => v.cells.toList)[k]? := by simp
    rw [e1, e2, hf k]
    by_cases hk : k < n * s
    · have hd : k / s < n := Nat.div_lt_of_lt_mul (by rw [Nat.mul_comm]; exact hk)
      have hm : k % s < z.size := by rw [hs]; exact Nat.mod_lt _ (by omega)
      simp [hk, hd, Value.cells, hs, hm]
      rw [getElem!_pos z (k % s) hm, Array.getElem?_eq_getElem hm]
    · have hd : n ≤ k / s := (Nat.le_div_iff_mul_le (by omega)).2 (by omega)
      rw [Array.getElem?_eq_none (by simp; omega), List.getElem?_eq_none (by simp; omega)]
      rfl
theorem places_ok {Γ : Cx} : ∀ (fs : List Field), fs.all (fun f => (sizeT Γ f.type).isSome) = true → ∃ ps, fs.mapM (fun f => (Γ.P.info? f.type).map fun i => (f.offset, i.size)) = some ps ∧
    ∀ (i : Nat) (f : Field) (n : Nat), fs[i]? = some f → sizeT Γ f.type = some n → ps[i]? = some (f.offset, n)
  | [], _ => ⟨[], rfl, fun i f n h => by simp at h⟩
  | f :: fs, h => by
    rw [List.all_cons, Bool.and_eq_true] at h
    obtain ⟨ps, h1, h2⟩ := places_ok fs h.2
    obtain ⟨m, hm⟩ := Option.isSome_iff_exists.1 h.1
    obtain ⟨i0, hi0, hi1⟩ := sizeT_some hm
    refine ⟨(f.offset, m) :: ps, by rw [List.mapM_cons, hi0, h1]; simp [hi1], fun i g n hg hn => ?_⟩
    cases i with
    | zero => simp at hg; subst hg; rw [hm] at hn; simp only [Option.some.injEq] at hn; subst hn; rfl
    | succ i => simp at hg ⊢; exact h2 i g n hg hn
/-! keys of maps -/
def KeyT (str : Bool) (d : TypeDesc) : Prop := if str then d = .string else ∃ k, d = .int k
theorem checkKey_ok {P : Program} {w : World} {kt : TypeId} {d : TypeDesc} (hd : P.underlying kt = some d) {str : Bool} (hk : KeyT str d) (x : Value) (e : Bool) (n : Nat) : (Instr.checkKey e (n + 1) kt x).run P w = .ok () w := by
  unfold Instr.checkKey
  simp only [Sem.run_bind, run_underlying hd, Result.andThen]
  cases str with
  | true => simp only [KeyT, if_true] at hk; subst hk; rfl
  | false => simp only [KeyT, Bool.false_eq_true, if_false] at hk; obtain ⟨k, rfl⟩ := hk; rfl
theorem lookupM_cons (k : V) (p : V × V) (l : List (V × V)) : lookupM k (p :: l) = (match k, p.1 with
    | .int j x, .int j' y => Bool.rec none (Bool.rec (lookupM k l) (some (some p.2)) (ieq x y)) (kindEq j j')
    | .str x, .str y => Bool.rec (lookupM k l) (some (some p.2)) (sEq x y)
    | _, _ => none) := by
  obtain ⟨p1, p2⟩ := p
  cases k <;> first | rfl | (cases p1 <;> rfl)
theorem lookup_find {E : En} {str : Bool} {d : TypeDesc} (hk : KeyT str d) {kv : V} (hi : isKey str kv = true) {key : Value} (hkey : RV E kv key) : ∀ (es : List (V × V)) (ents : List MapEntry) (i : Nat) (r : Option V), RMap E es ents → lookupM kv es = some r →
    ∃ a, Instr.findNow d key ents i = some a ∧ (match r with | none => a = none | some v => ∃ j y, a = some (j, y) ∧ RV E v y)
  | [], ents, i, r, hm, hl => by
    rw [show ents = [] from hm]
    have : some none = some r := hl
    simp only [Option.some.injEq] at this
    subst this
    exact ⟨none, rfl, rfl⟩
  | p :: es, ents, i, r, hm, hl => by
    obtain ⟨e, rest, rfl, h1, h2, h3⟩ := hm
    rw [lookupM_cons] at hl
    cases kv with
    | int j x =>
      have hstr : str = false := by cases str <;> first | rfl | exact nomatch hi
      subst hstr
      simp only [KeyT, Bool.false_eq_true, if_false] at hk
      obtain ⟨k, rfl⟩ := hk
      cases hp : p.1 with
      | int j' y =>
        rw [hp] at hl h1
        dsimp only at hl
        obtain ⟨hj, hl2⟩ := (boolRec_some _ _ _).1 hl
        have hj2 := kindEq_eq hj
        clear hl hj
        rw [RV] at h1
        rw [RV] at hkey
        subst hkey
        subst hj2
        rw [Instr.findNow, h1]
        simp only [Instr.sameNow, if_true]
        rw [ieq_eq] at hl2
        cases hxy : x == y with
        | true =>
          rw [hxy] at hl2
          have hl' : some (some p.2) = some r := hl2
          simp only [Option.some.injEq] at hl'
          subst hl'
          exact ⟨_, rfl, _, _, rfl, h2⟩
        | false =>
          rw [hxy] at hl2
          exact lookup_find (str := false) ⟨k, rfl⟩ (kv := .int j x) rfl (by rw [RV]) es rest (i + 1) r h3 hl2
      | _ => rw [hp] at hl; exact nomatch hl
    | str x =>
      have hstr : str = true := by cases str <;> first | rfl | exact nomatch hi
      subst hstr
      simp only [KeyT, if_true] at hk
      subst hk
      cases hp : p.1 with
      | str y =>
        rw [hp] at hl h1
        rw [RV] at h1
        have hkey0 := hkey
        rw [RV] at hkey
        obtain ⟨t1, g1, g2⟩ := h1
        obtain ⟨t2, g3, g4⟩ := hkey
        subst g3
        dsimp only at hl
        rw [← g2, ← g4] at hl
        rw [Instr.findNow, g1]
        simp only [Instr.sameNow]
        have hse : sEq (t2.data.toList.map (·.toNat)) (t1.data.toList.map (·.toNat)) = (t2 == t1) := by
          rw [sEq_eq]
          by_cases e : t2 = t1
          · subst e
            rw [decide_eq_true rfl, eq_comm]
            exact (MapKept.bytes_beq _ _).2 rfl
          · have e1 : ¬ (t2 == t1) = true := fun h => e ((MapKept.bytes_beq _ _).1 h)
            have e2 : ¬ t2.data.toList.map (·.toNat) = t1.data.toList.map (·.toNat) := fun h => e (by
              have inj : ∀ (a b : List UInt8), a.map (·.toNat) = b.map (·.toNat) → a = b := by
                intro a
                induction a with
                | nil => intro b hb; cases b with
                  | nil => rfl
                  | cons _ _ => simp at hb
                | cons u a ih => intro b hb; cases b with
                  | nil => simp at hb
                  | cons v b => simp only [List.map_cons, List.cons.injEq] at hb; rw [UInt8.toNat_inj.1 hb.1, ih b hb.2]
              have := inj _ _ h
              obtain ⟨⟨l1⟩⟩ := t1
              obtain ⟨⟨l2⟩⟩ := t2
              dsimp only at this
              rw [this])
            rw [decide_eq_false e2]
            simp only [Bool.not_eq_true] at e1
            rw [e1]
        rw [hse] at hl
        cases hxy : t2 == t1 with
        | true =>
          rw [hxy] at hl
          have hl' : some (some p.2) = some r := hl
          simp only [Option.some.injEq] at hl'
          subst hl'
          exact ⟨_, rfl, _, _, rfl, h2⟩
        | false =>
          rw [hxy, g4] at hl
          exact lookup_find (str := true) rfl (kv := .str x) rfl hkey0 es rest (i + 1) r h3 hl
      | _ => rw [hp] at hl; exact nomatch hl
    | _ => exact nomatch hl
theorem Sim.map {w0 : World} {E : En} {h : H} {w : World} (s : Sim w0 E h w) {b : Nat} {es : List (V × V)} (hb : h.at b = some (.map es)) {r : Nat} (hr : E.mu b = some r) :
    ∃ ents clock, w.heap[r]? = some (.map ents clock) ∧ RMap E es ents.toList := by
  obtain ⟨r', ents, clock, h1, h2, h3⟩ := s.blk b _ hb
  rw [hr] at h1
  simp only [Option.some.injEq] at h1
  subst h1
  exact ⟨ents, clock, h2, h3⟩
section
variable {Γ : Cx} (hΓ : Γ.Ok) {w : Nat} {dst : Option Tmp} {ty : TypeId} {pos : String} {after : Array Edge} {guard : Option (Nat × Bool)}
include hΓ
theorem buildS_ok {t : TypeId} {fs : Array Field} (hu : Γ.P.underlying t = some (.struct fs)) {z : List V} (hz : zeroL Γ t = some z) (hfs : fs.toList.all (fun f => (sizeT Γ f.type).isSome) = true) {ps : Array (Nat × Operand)}
    {l : List (Nat × Nat × A)} (hc : cParts Γ w (structPlace Γ fs) ps.toList = some l) : OpOK Γ w ⟨dst, .build t ps, ty, pos, after, guard⟩ (I.build z l) := by
  intro F hA tm h v h' w0 E wd ar ds hr hs ht
  obtain ⟨i, zv, h1, h2, h3, h4⟩ := zeroL_some hz
  obtain ⟨places, h5, h6⟩ := places_ok fs.toList hfs
  obtain ⟨z', zs', e, q2, q3⟩ := fill_ok (ds := ds) (place' := (places.toArray[·]?)) hΓ (fun j q hq => by
    obtain ⟨f, g1, g2, g3⟩ := structPlace_some hq
    have := h6 j f q.2 (by rw [← g1]; simp) g3
    rw [List.getElem?_toArray, this, g2]) ht _ ps.toList l z zv.cells.toList _ hc (h3 E) hr
  refine pure_end (x := .agg zs'.toArray) e hs (by rw [RV]; exact ⟨zs', rfl, q2⟩) (yields_value ?_)
  refine run_build wd t _ _ ?_
  rw [Program.built, h1, hu]
  dsimp only
  rw [h2, h5]
  dsimp only
  rw [Array.toArray_toList] at q3
  rw [← q3, Array.toList_map]
theorem buildA_ok {t e : TypeId} {n : Nat} (hu : Γ.P.underlying t = some (.array n e)) {z : List V} (hz : zeroL Γ t = some z) {s : Nat} (hsz : sizeT Γ e = some s) {ps : Array (Nat × Operand)}
    {l : List (Nat × Nat × A)} (hc : cParts Γ w (fun i => some (i * s, s)) ps.toList = some l) : OpOK Γ w ⟨dst, .build t ps, ty, pos, after, guard⟩ (I.build z l) := by
  intro F hA tm h v h' w0 E wd ar ds hr hs ht
  obtain ⟨i, zv, h1, h2, h3, h4⟩ := zeroL_some hz
  obtain ⟨i0, hi0, hi1⟩ := sizeT_some hsz
  obtain ⟨z', zs', e', q2, q3⟩ := fill_ok (ds := ds) (place' := fun i => some (i * s, s)) hΓ (fun j q hq => hq) ht _ ps.toList l z zv.cells.toList _ hc (h3 E) hr
  refine pure_end (x := .agg zs'.toArray) e' hs (by rw [RV]; exact ⟨zs', rfl, q2⟩) (yields_value ?_)
  refine run_build wd t _ _ ?_
  rw [Program.built, h1, hu]
  dsimp only
  rw [h2, hi0]
  dsimp only
  rw [hi1]
  rw [Array.toArray_toList] at q3
  rw [← q3, Array.toList_map]
theorem slit_ok {t e : TypeId} {n : Nat} (hu : Γ.P.underlying t = some (.slice e)) {z : List V} (hz : zeroL Γ e = some z) (h1z : 1 ≤ z.length) (hn : n * z.length ≤ 65536) {ps : Array (Nat × Operand)}
    {l : List (Nat × Nat × A)} (hc : cParts Γ w (fun i => some (i * z.length, z.length)) ps.toList = some l) : OpOK Γ w ⟨dst, .buildSlice t n ps, ty, pos, after, guard⟩ (I.slit ((List.replicate n z).flatten) z.length n l) := by
  intro F hA tm h v h' w0 E wd ar ds hr hs ht
  obtain ⟨i, zv, h1, h2, h3, h4⟩ := zeroL_some hz
  have hlz := RVs_length (h3 E)
  have hz0 := RVs_rep (h3 E) n
  rw [rep_eq] at hz0
  obtain ⟨z', zs', e', q2, q3⟩ := fill_ok (ds := ds) (place' := fun i => some (i * z.length, z.length)) hΓ (fun j q hq => hq) ht _ ps.toList l _ _ _ hc hz0 hr
  obtain ⟨_, hnx, e'⟩ := (newCells_some _ _ h _ _).1 e'
  obtain ⟨hE, hs'⟩ := hs.cellsNew hnx [] q2 e true 0 TyOK.none
  simp only [Option.some.injEq, Prod.mk.injEq] at e'
  obtain ⟨rfl, rfl⟩ := e'
  refine ⟨_, _, .slice (some ⟨wd.heap.size, 0, none⟩) n n, hE, hs', by rw [RV]; exact ⟨h1z, _, n, En.set_mu _ _ _ _, rfl, Nat.le_refl _, rfl⟩, yields_value ?_⟩
  rw [← range_cells zv.cells (s := z.length) (by rw [← Array.length_toList, hlz]) n] at q3
  rw [List.append_nil]
  by_cases h0 : n = 0
  · subst h0
    rw [Nat.zero_mul] at q3
    have q4 : Instr.fill (fun i => some (i * z.length, z.length)) #[] ((ps.map fun x => (x.1, Act.eval ⟨ar, ds⟩ x.2))).toList = some zs'.toArray := by
      rw [← q3, Array.toList_map, Array.range_zero', Array.map_empty]
    rw [Array.toList_map] at q4
    simp [Instr.buildSlice, run_underlying hu, sizeOf, typeInfo, zeroValue, h1, ← h4, newRow]
    rw [Array.range_zero', Array.map_empty, q4]
    simp [run_newObj_alloc]
  · refine run_buildSlice wd t e n _ _ i zv hu h1 h2 (by rw [← h4]; omega) (by rw [← h4]; exact Nat.mul_ne_zero h0 (by omega)) ?_
    rw [← h4, ← q3, Array.toList_map]
theorem mkmap_ok {t : TypeId} : OpOK Γ w ⟨dst, .makeMap t none, ty, pos, after, guard⟩ I.mkmap := by
  intro F hA tm h v h' w0 E wd ar ds hr hs ht
  obtain ⟨hn, e⟩ := (new_some (.map []) (V × H) h (fun b h => some (V.map b, h)) _).1 hr
  have hE := En.le_set (hs.dom _ hn) wd.heap.size 0
  have hs' := hs.made hn (.map []) rfl (.map #[] 0) 0 ⟨wd.heap.size, #[], 0, En.set_mu _ _ _ _, by show (wd.heap.push _)[wd.heap.size]? = _; rw [Array.getElem?_push_size], rfl⟩
  simp only [Option.some.injEq, Prod.mk.injEq] at e
  obtain ⟨rfl, rfl⟩ := e
  refine ⟨_, _, .map (some wd.heap.size), hE, hs', by rw [RV]; exact ⟨_, En.set_mu _ _ _ _, rfl⟩, yields_value ?_⟩
  simp [Instr.makeMap, run_newObj_alloc]
theorem mkslice_ok {t e : TypeId} (hu : Γ.P.underlying t = some (.slice e)) {z : List V} (hz : zeroL Γ e = some z) {bytes : Nat} (hb : bytesT Γ e = some bytes) (h1z : 1 ≤ z.length) (h1b : 1 ≤ bytes) {x y : Operand} {a b : A}
    (hx : cA Γ w x = some a) (hy : cA Γ w y = some b) : OpOK Γ w ⟨dst, .makeSlice t x y, ty, pos, after, guard⟩ (I.mkslice z z.length bytes a b) := by
  intro F hA tm h v h' w0 E wd ar ds hr hs ht
  rw [I.mkslice_def] at hr
  obtain ⟨i, zv, h1, h2, h3, h4⟩ := zeroL_some hz
  have hby : i.bytes = bytes := by
    unfold bytesT at hb
    rw [h1] at hb
    simpa using hb
  obtain ⟨u, hu1, e1⟩ := (evK_some tm _ a _).1 hr
  have hxv := cA_ok (ds := ds) hΓ hx ht hu1
  cases u with
  | int k m =>
    cases k with
    | i64 =>
      cases m with
      | ofNat lN =>
        obtain ⟨u2, hu2, e2⟩ := (evK_some tm _ b _).1 e1
        have hyv := cA_ok (ds := ds) hΓ hy ht hu2
        cases u2 with
        | int k2 m2 =>
          cases k2 with
          | i64 =>
            cases m2 with
            | ofNat cN =>
              obtain ⟨hle, e3⟩ := ble_and e2
              obtain ⟨hroom, e4⟩ := ble_and e3
              obtain ⟨_, hnx, e5⟩ := (newCells_some _ _ h _ _).1 e4
              obtain ⟨hE, hs'⟩ := hs.cellsNew hnx [] (RVs_rep (h3 E) cN) e true 0 TyOK.none
              simp only [Option.some.injEq, Prod.mk.injEq] at e5
              obtain ⟨rfl, rfl⟩ := e5
              rw [RV] at hxv
              rw [RV] at hyv
              have hroom' : cN * bytes ≤ 1048576 := hroom
              have hcN : cN ≤ 1048576 := Nat.le_trans (Nat.le_mul_of_pos_right _ h1b) hroom'
              have hlz := RVs_length (h3 E)
              refine ⟨_, _, .slice (some ⟨wd.heap.size, 0, none⟩) lN cN, hE, hs', by rw [RV]; exact ⟨h1z, _, cN, En.set_mu _ _ _ _, rfl, hle, rfl⟩, yields_value ?_⟩
              rw [hxv, hyv]
              have hmk := run_make (P := Γ.P) wd t e i zv hu h1 h2 .i64 .i64 (Int.ofNat lN) (Int.ofNat cN) (Int.natCast_nonneg _) (Int.ofNat_le.2 hle) (by
                rw [hby]
                have : ((bytes * cN : Nat) : Int) ≤ 281474976710656 := by rw [Nat.mul_comm]; omega
                rw [Int.natCast_mul] at this; exact this) (by show (cN : Int) ≤ _; omega)
              rw [hmk]
              show Result.ok _ _ = _
              simp only [Int.ofNat_eq_natCast, Int.toNat_natCast, List.append_nil]
              rw [madeCells, ← h4, range_cells zv.cells (s := z.length) (by rw [← Array.length_toList, hlz]) cN]
            | _ => exact nomatch e2
          | _ => exact nomatch e2
        | _ => exact nomatch e2
      | _ => exact nomatch e1
    | _ => exact nomatch e1
  | _ => exact nomatch e1
theorem look_ok {t kt e : TypeId} {d : TypeDesc} (hu : Γ.P.underlying t = some (.map kt e)) (hd : Γ.P.underlying kt = some d) {str : Bool} (hk : KeyT str d) {i : TypeInfo} (hi : Γ.P.info? e = some i) {zv : Value} (hz : i.zero = some zv) {z : V} (hz' : ofV zv = some z)
    {x y : Operand} {a b : A} {ok : Bool} (hx : cA Γ w x = some a) (hy : cA Γ w y = some b) : OpOK Γ w ⟨dst, .lookup t x y ok, ty, pos, after, guard⟩ (I.look str ok z a b) := by
  intro F hA tm h v h' w0 E wd ar ds hr hs ht
  rw [I.look_def] at hr
  obtain ⟨u, hu1, e1⟩ := (evK_some tm _ a _).1 hr
  have hxv := cA_ok (ds := ds) hΓ hx ht hu1
  cases u with
  | map bl =>
    obtain ⟨kv, hk1, e2⟩ := (evK_some tm _ b _).1 e1
    have hyv := cA_ok (ds := ds) hΓ hy ht hk1
    obtain ⟨q, hq, _, e3⟩ := (read_some _ _ _ _ _).1 e2
    cases q with
    | map es =>
      obtain ⟨hik, e4⟩ := (boolRec_some _ _ _).1 e3
      obtain ⟨r, hr1, e5⟩ := (optRec_some _ _ _).1 e4
      rw [RV] at hxv
      obtain ⟨rr, hrr, hxv⟩ := hxv
      obtain ⟨ents, clock, g1, g2⟩ := hs.map hq hrr
      obtain ⟨fa, g3, g4⟩ := lookup_find hk hik hyv es ents.toList 0 r g2 hr1
      have hz2 := ofV_RV E zv z hz'
      simp only [Option.some.injEq, Prod.mk.injEq] at e5
      obtain ⟨e5, rfl⟩ := e5
      have hck := checkKey_ok (w := wd) (P := Γ.P) hd hk (Act.eval ⟨ar, ds⟩ y) ents.isEmpty 9999
      have hfk := MapKept.run_findKey (P := Γ.P) (w := wd) hd g3
      have hrz := r_zero (P := Γ.P) wd hi hz
      cases r with
      | none =>
        dsimp only at g4
        subst g4
        cases ok with
        | false =>
          refine ⟨E, wd, zv, En.le_refl E, hs.note bl, by rw [← e5]; exact hz2, yields_value ?_⟩
          simp [Instr.lookup, run_underlying hu, hxv, MapKept.run_getObj_map g1, hck, hfk, hrz]
        | true =>
          refine ⟨E, wd, .tuple #[zv, .bool false], En.le_refl E, hs.note bl, by rw [← e5, RV]; exact ⟨[zv, .bool false], rfl, RVs_mk hz2 (RVs_one (by rw [RV]))⟩, yields_value ?_⟩
          simp [Instr.lookup, run_underlying hu, hxv, MapKept.run_getObj_map g1, hck, hfk, hrz]
      | some v1 =>
        obtain ⟨j, y1, rfl, g5⟩ := g4
        cases ok with
        | false =>
          refine ⟨E, wd, y1, En.le_refl E, hs.note bl, by rw [← e5]; exact g5, yields_value ?_⟩
          simp [Instr.lookup, run_underlying hu, hxv, MapKept.run_getObj_map g1, hck, hfk]
        | true =>
          refine ⟨E, wd, .tuple #[y1, .bool true], En.le_refl E, hs.note bl, by rw [← e5, RV]; exact ⟨[y1, .bool true], rfl, RVs_mk g5 (RVs_one (by rw [RV]))⟩, yields_value ?_⟩
          simp [Instr.lookup, run_underlying hu, hxv, MapKept.run_getObj_map g1, hck, hfk]
    | _ => exact nomatch e3
  | _ => exact nomatch e1
theorem insert_ok {t kt e : TypeId} {d : TypeDesc} (hu : Γ.P.underlying t = some (.map kt e)) (hd : Γ.P.underlying kt = some d) {str : Bool} (hk : KeyT str d)
    {x y z : Operand} {a b c : A} (hx : cA Γ w x = some a) (hy : cA Γ w y = some b) (hz : cA Γ w z = some c) : OpOK Γ w ⟨dst, .insert t x y z, ty, pos, after, guard⟩ (I.insert str a b c) := by
  intro F hA tm h v h' w0 E wd ar ds hr hs ht
  rw [I.insert_def] at hr
  obtain ⟨u, hu1, e1⟩ := (evK_some tm _ a _).1 hr
  have hxv := cA_ok (ds := ds) hΓ hx ht hu1
  cases u with
  | map bl =>
    obtain ⟨kv, hk1, e2⟩ := (evK_some tm _ b _).1 e1
    have hyv := cA_ok (ds := ds) hΓ hy ht hk1
    obtain ⟨xv, hz1, e3⟩ := (evK_some tm _ c _).1 e2
    have hzv := cA_ok (ds := ds) hΓ hz ht hz1
    obtain ⟨q, hq, _, e4⟩ := (read_some _ _ _ _ _).1 e3
    cases q with
    | map es =>
      obtain ⟨hik, e5⟩ := (boolRec_some _ _ _).1 e4
      cases hl : lookupM kv es with
      | none => rw [hl] at e5; exact nomatch e5
      | some r =>
        cases r with
        | some _ => rw [hl] at e5; exact nomatch e5
        | none =>
          rw [hl] at e5
          obtain ⟨_, _, e6⟩ := (write_some _ _ _ _ _ _).1 e5
          rw [RV] at hxv
          obtain ⟨rr, hrr, hxv⟩ := hxv
          obtain ⟨ents, clock, g1, g2⟩ := hs.map hq hrr
          obtain ⟨fa, g3, g4⟩ := lookup_find hk hik hyv es ents.toList 0 none g2 hl
          dsimp only at g4
          subst g4
          simp only [Option.some.injEq, Prod.mk.injEq] at e6
          obtain ⟨rfl, rfl⟩ := e6
          have hck := checkKey_ok (w := wd) (P := Γ.P) hd hk (Act.eval ⟨ar, ds⟩ y) false 9999
          have hfk := MapKept.run_findKey (P := Γ.P) (w := wd) hd g3
          obtain ⟨hset1, hset2⟩ := MapKept.heap_set (o' := .map (ents.push { key := Act.eval ⟨ar, ds⟩ y, val := Act.eval ⟨ar, ds⟩ z, born := clock }) (clock + 1)) g1
          refine ⟨E, { wd with heap := wd.heap.setIfInBounds rr (.map (ents.push { key := Act.eval ⟨ar, ds⟩ y, val := Act.eval ⟨ar, ds⟩ z, born := clock }) (clock + 1)) }, Go.undef, En.le_refl E, ?_, by rw [undef, RV]; exact ⟨[], rfl, RVs_none⟩, yields_unit ?_⟩
          · refine (hs.note bl).wrote (k := .map es) (by rw [H.note_at]; exact hq) rfl hrr _ (fun _ => rfl) _ ⟨rr, _, _, hrr, hset1, ?_⟩ hset2 (by simp) rfl rfl rfl
            rw [Array.toList_push]
            exact RMap_snoc (p := (kv, xv)) g2 hyv hzv
          · simp [Instr.mapUpdate, run_underlying hu, hxv, MapKept.run_getObj_map g1, hck, hfk, MapKept.run_setObj_map _ g1]
    | _ => exact nomatch e4
  | _ => exact nomatch e1
theorem clear_ok {t e : TypeId} (hu : Γ.P.underlying t = some (.slice e)) {z : List V} (hz : zeroL Γ e = some z) {x : Operand} {a : A} (hx : cA Γ w x = some a) :
    OpOK Γ w ⟨dst, .call ⟨.builtin .clear, #[x], #[t]⟩, ty, pos, after, guard⟩ (I.clear z a) := by
  intro F hA tm h v h' w0 E wd ar ds hr hs ht
  rw [I.clear_def] at hr
  obtain ⟨i, zv, h1, h2, h3, h4⟩ := zeroL_some hz
  have hlz := RVs_length (h3 E)
  obtain ⟨u, hu1, e1⟩ := (evK_some tm _ a _).1 hr
  have hxv := cA_ok (ds := ds) hΓ hx ht hu1
  have hud : RV E undef Go.undef := by rw [undef, RV]; exact ⟨[], rfl, RVs_none⟩
  cases u with
  | slice b o n es cap =>
    obtain ⟨hes, e2⟩ := beq_and e1
    obtain ⟨h0, c, y1, hb, hle, e3⟩ := stN_some _ _ _ _ _ _ _ e2
    rw [RV] at hxv
    obtain ⟨_, r, cp, hr1, hxv, _, _⟩ := hxv
    have hrep := RVs_rep (h3 E) n
    simp only [Option.some.injEq, Prod.mk.injEq] at e3
    obtain ⟨rfl, rfl⟩ := e3
    have hst := hs.stores (P := Γ.P) hb hr1 hrep h0 hle
    refine ⟨E, _, Go.undef, En.le_refl E, hs.stored hb hr1 hrep hle, hud, .inl ?_⟩
    cases n with
    | zero =>
      simp [execOp, resolve, invoke, builtin, hxv, Builtin.clear_, run_underlying hu, World.setCells, Go.undef]
    | succ n =>
      have hzc : (Builtin.zeroCells zv.cells (n + 1)).toList = (List.replicate (n + 1) zv.cells.toList).flatten := by
        rw [Builtin.zeroCells, range_cells zv.cells rfl]
      simp [execOp, resolve, invoke, builtin, hxv, Builtin.clear_, run_underlying hu, r_zero wd h1 h2, hzc, hst, Go.undef]
  | emp =>
    rw [RV] at hxv
    obtain ⟨q, cp, hxv⟩ := hxv
    refine pure_end (x := Go.undef) e1 hs hud (.inl ?_)
    simp [execOp, resolve, invoke, builtin, hxv, Builtin.clear_, run_underlying hu, Go.undef]
  | nils =>
    rw [RV] at hxv
    refine pure_end (x := Go.undef) e1 hs hud (.inl ?_)
    simp [execOp, resolve, invoke, builtin, hxv, Builtin.clear_, run_underlying hu, Go.undef]
  | _ => exact nomatch e1
end
end Go.X
namespace Go.X
open Go.RowKit
variable [Nu]
theorem RVs_bytes {E : En} : ∀ (l : List UInt8), RVs E ((l.map (·.toNat)).map fun n => V.int .u8 (Int.ofNat n)) (l.map fun b => Value.int .u8 b.toNat)
  | [] => RVs_none
  | b :: l => RVs_mk (by rw [RV]; rfl) (RVs_bytes l)
theorem allOne_append (a b : List V) : allOne (a ++ b) = (allOne a && allOne b) := by
  induction a with
  | nil => rfl
  | cons v a ih => rw [List.cons_append, allOne_cons, allOne_cons, ih, Bool.and_assoc]
section
variable {P : Program} (wd : World)
theorem r_append0 {t tx ty e : TypeId} {i : TypeInfo} (ht : P.underlying t = some (.slice e)) (hi : P.info? e = some i) (base : Option Addr) (sLen sCap : Nat) (x : Value) (hs : Src P i.size tx x 0 [] wd) (h : sLen ≤ sCap) :
    (Builtin.append_ #[t, tx] ty #[.slice base sLen sCap, x]).run P wd = .ok (.slice base sLen sCap) wd := by
  cases base <;> rcases hs.kind with ⟨e', hk⟩ | hk <;> simp [Builtin.append_, run_underlying ht, run_underlying hk, sizeOf, typeInfo, hi, hs.len, h, hs.cells, storeCells]
theorem appended_some (es : Nat) (y : V) (R : Type) (h : H) (K : List V → H → Option R) (r : R) (e : appended es y R h K = some r) :
    ∃ l h1, K l h1 = some r ∧ (h1 = h ∨ ∃ b, h1 = h.note b) ∧
      ∀ (w0 : World) (E : En), Sim w0 E h wd → 1 ≤ es → ∀ (tx : TypeId) (yv : Value), RV E y yv → ((∃ e', P.underlying tx = some (.slice e')) ∨ P.underlying tx = some .string) →
        ∃ n news, RVs E l news ∧ l.length = n * es ∧ (allOne l = true → Src P es tx yv n news wd) := by
  cases y with
  | nils =>
    refine ⟨[], h, e, .inl rfl, fun w0 E hs hes tx yv hy hk => ⟨0, [], RVs_none, by simp, fun _ => ?_⟩⟩
    rw [RV] at hy
    subst hy
    exact ⟨hk, fun _ => rfl, run_firstCells_none wd es 0 0 0, run_firstCells_none wd.drew es 0 0 0, by simp, fun _ h => by cases h⟩
  | emp =>
    refine ⟨[], h, e, .inl rfl, fun w0 E hs hes tx yv hy hk => ⟨0, [], RVs_none, by simp, fun _ => ?_⟩⟩
    rw [RV] at hy
    obtain ⟨a, c, rfl⟩ := hy
    exact ⟨hk, fun _ => rfl, run_firstCells_some wd es 0 a 0 c [] (by simp) (fun j v hv => by simp at hv), run_firstCells_some wd.drew es 0 a 0 c [] (by simp) (fun j v hv => by simp at hv), by simp, fun _ h => by cases h⟩
  | slice b o n es' cap =>
    obtain ⟨he, e1⟩ := beq_and e
    subst he
    obtain ⟨c, q, y1, hb, hn, e2⟩ := ldN_some _ _ _ _ _ _ _ e1
    refine ⟨_, _, e2, .inr ⟨b, rfl⟩, fun w0 E hs hes tx yv hy hk => ?_⟩
    rw [RV] at hy
    obtain ⟨_, r0, cp, hr0, rfl, hcp, _⟩ := hy
    obtain ⟨us, h1, h2, h3⟩ := hs.loads hb hr0 hn
    refine ⟨n, us, h2, by rw [← RVs_length h2, h1]; rfl, fun ha => ⟨hk, fun _ => rfl, ?_, ?_, h1, RVs_ones h2 ha⟩⟩
    · exact run_firstCells_some wd es n ⟨r0, o, none⟩ n cp us h1 (fun j u hu => by rw [Addr.add_lit]; exact h3 j u hu)
    · exact run_firstCells_some wd.drew es n ⟨r0, o, none⟩ n cp us h1 (fun j u hu => by rw [Addr.add_lit]; exact h3 j u hu)
  | str t =>
    obtain ⟨he, e1⟩ := beq_and e
    subst he
    refine ⟨_, h, e1, .inl rfl, fun w0 E hs hes tx yv hy hk => ?_⟩
    rw [RV] at hy
    obtain ⟨s, rfl, hs2⟩ := hy
    refine ⟨s.size, byteCells s, by rw [← hs2]; exact RVs_bytes _, by rw [List.length_map, ← hs2, List.length_map, Nat.mul_one]; simp, fun _ => ⟨hk, fun _ => rfl, firstCells_string s wd, firstCells_string s wd.drew, by rw [byteCells_length, Nat.mul_one], fun u hu => ?_⟩⟩
    obtain ⟨_, _, rfl⟩ := List.mem_map.1 hu
    rfl
  | bigs es' l m =>
    obtain ⟨n, hn, e1⟩ := (optRec_some _ _ _).1 e
    obtain ⟨he, e2⟩ := beq_and e1
    obtain ⟨hl, e3⟩ := beq_and e2
    subst he
    rw [len_eq] at hl
    refine ⟨l, h, e3, .inl rfl, fun w0 E hs hes tx yv hy hk => ?_⟩
    rw [RV] at hy
    obtain ⟨a, L, c, ys, rfl, hc, _, hL, hys, ho⟩ := hy
    have hnL : n = L := by
      cases m with
      | int k z =>
        cases z with
        | ofNat q =>
          have hq : some q = some n := hn
          simp only [Option.some.injEq] at hq
          subst hq
          rw [RV] at hL
          simp only [Value.int.injEq] at hL
          have := hL.2
          simp only [Int.ofNat_eq_natCast] at this
          omega
        | negSucc q => exact nomatch hn
      | _ => exact nomatch hn
    subst hnL
    have h1 : ys.length = n * es := by rw [RVs_length hys]; exact hl.symm
    refine ⟨n, ys, hys, hl.symm, fun ha => ⟨hk, fun _ => rfl, ?_, ?_, h1, RVs_ones hys ha⟩⟩
    · exact run_firstCells_some wd es n a n c ys h1 (fun j u hu => ho.2 wd hs.olds j u hu)
    · exact run_firstCells_some wd.drew es n a n c ys h1 (fun j u hu => ho.2 wd hs.olds j u hu)
  | _ => exact nomatch e
end
theorem grow_some (es : Nat) (y : Nat) (l : List V) (n : Nat) (R : Type) (h : H) (K : V → H → Option R) (r : R) : grow es y l n R h K = some r ↔ allOne l = true ∧ h.at h.nx = none ∧ K (.slice h.nx 0 n es none) (h.made (.cells l true y)) = some r :=
  newCellsY_some l y R h _ r
theorem Sim.adopt {w0 : World} {E : En} {h : H} {w : World} (s : Sim w0 E h w) (hn : h.at h.nx = none) {r : Nat} (hno : ∀ b k, h.at b = some k → live k = true → E.mu b ≠ some r) (hr0 : w0.heap.size ≤ r) (hrd : r ∉ E.df) (k : Blk) (hl : live k = true) (n : Nat)
    (w' : World) (hb : BR (E.set h.nx r n) w' h.nx k) (he : ∀ i, i ≠ r → w'.heap[i]? = w.heap[i]?) (hs : w.heap.size ≤ w'.heap.size) (ho : w'.os = w.os) (ht : w'.tape = w.tape) (hu : w'.output = w.output) :
    Sim w0 (E.set h.nx r n) (h.made k) w' := by
  have hE := En.le_set (s.dom _ hn) r n
  have hmu : ∀ b r', b ≠ h.nx → (E.set h.nx r n).mu b = some r' → E.mu b = some r' := fun b r' hb hr => by simpa [En.set, hb] using hr
  refine ⟨?_, ?_, ?_, ?_, s.kept.trans ⟨ho, ht, hu, hs, fun i hi => he i (by omega)⟩, s.old,
    fun r' hr' => ⟨(he r' (fun e => hrd (by rw [← e]; exact hr'))).trans (s.defd r' hr').1, (s.defd r' hr').2.1, fun b k' hb' hl' hm => ?_⟩, s.once⟩
  · intro b k' hb'
    rw [H.made_at] at hb'
    by_cases e : b = h.nx
    · subst e; rw [if_pos rfl] at hb'; simp only [Option.some.injEq] at hb'; subst hb'; exact hb
    · rw [if_neg e] at hb'
      exact BR_world (BR_mono hE (s.blk b k' hb')) fun r' hl' hr' => he r' fun er => hno b k' hb' hl' (by rw [hmu b r' e hr', er])
  · intro b b' k1 k2 r' h1 h2 l1 l2 m1 m2
    rw [H.made_at] at h1 h2
    by_cases e : b = h.nx
    · by_cases e' : b' = h.nx
      · rw [e, e']
      · rw [if_neg e'] at h2
        rw [e, En.set_mu] at m1
        exact absurd ((hmu _ _ e' m2).trans m1.symm) (hno _ _ h2 l2)
    · rw [if_neg e] at h1
      by_cases e' : b' = h.nx
      · rw [e', En.set_mu] at m2
        exact absurd ((hmu _ _ e m1).trans m2.symm) (hno _ _ h1 l1)
      · rw [if_neg e'] at h2
        exact s.inj b b' k1 k2 r' h1 h2 l1 l2 (hmu _ _ e m1) (hmu _ _ e' m2)
  · intro b k' r' hb' hw hr
    rw [H.made_at] at hb'
    by_cases e : b = h.nx
    · rw [e, En.set_mu] at hr; simp only [Option.some.injEq] at hr; rw [← hr]; exact hr0
    · rw [if_neg e] at hb'; exact s.fresh b k' r' hb' hw (hmu _ _ e hr)
  · intro b hb'
    rw [H.made_at] at hb'
    by_cases e : b = h.nx
    · rw [if_pos e] at hb'; exact nomatch hb'
    · rw [if_neg e] at hb'; simpa [En.set, e] using s.dom b hb'
  · rw [H.made_at] at hb'
    by_cases e : b = h.nx
    · rw [e, En.set_mu] at hm
      simp only [Option.some.injEq] at hm
      exact hrd (by rw [hm]; exact hr')
    · rw [if_neg e] at hb'; exact (s.defd r' hr').2.2 b k' hb' hl' (hmu _ _ e hm)
section
variable {P : Program} {wd w0 : World} {E : En} {h : H} {t tx ty e : TypeId} {i : TypeInfo} {z : Value}
theorem grow_ok (hs : Sim w0 E h wd) (hn : h.at h.nx = none) (ht : P.underlying t = some (.slice e)) (hi : P.info? e = some i) (hz : i.zero = some z) (hzs : z.cells.size = i.size) (h1 : 1 ≤ i.size) (h1b : 1 ≤ i.bytes)
    (base : Option Addr) (sLen sCap : Nat) {old l : List V} {olds news : List Value} (ho : RVs E old olds) (hl : RVs E l news)
    (hold : (Builtin.firstCells i.size sLen (.slice base sLen sCap)).run P wd.drew = .ok olds.toArray wd.drew) (holdl : olds.length = sLen * i.size) (x : Value) (n : Nat) (hsrc : Src P i.size tx x n news wd)
    (hg : sCap < sLen + n) (hroom : (sLen + n) * i.bytes ≤ 1048576) (y : Nat) (hy : TyOK y e) :
    ∃ E' w' xv, E.le E' ∧ Sim w0 E' (h.made (.cells (old ++ l) true y)) w' ∧ RV E' (.slice h.nx 0 (sLen + n) i.size none) xv ∧ (Builtin.append_ #[t, tx] ty #[.slice base sLen sCap, x]).run P wd = .ok xv w' := by
  have hb1 : sLen + n ≤ 1048576 := Nat.le_trans (Nat.le_mul_of_pos_right _ h1b) hroom
  have hgr := run_append_grow_src (P := P) wd t tx ty e i z ht hi hz base sLen sCap olds hold x n news hsrc hg (by omega) (growslice_fits hg (by omega))
  have hge := grownCap_ge wd (sLen + n) sCap e
  obtain ⟨hE, hs'⟩ := hs.drew.cellsNew hn (Builtin.zeroCells z.cells (grownCap wd (sLen + n) sCap e - (sLen + n))).toList (RVs_append ho hl) e true y hy
  have ecells : (olds ++ news).toArray ++ Builtin.zeroCells z.cells (grownCap wd (sLen + n) sCap e - (sLen + n)) = ((olds ++ news) ++ (Builtin.zeroCells z.cells (grownCap wd (sLen + n) sCap e - (sLen + n))).toList).toArray := by
    apply Array.ext'; simp
  rw [ecells] at hgr
  refine ⟨_, _, _, hE, hs', ?_, hgr⟩
  rw [RV]
  refine ⟨h1, wd.heap.size, grownCap wd (sLen + n) sCap e, En.set_mu _ _ _ _, rfl, hge, ?_⟩
  show 0 + _ = (En.set _ _ _ _).sz _
  have hnl : news.length = n * i.size := hsrc.newsLen
  have hzl : (Builtin.zeroCells z.cells (grownCap wd (sLen + n) sCap e - (sLen + n))).toList.length = (grownCap wd (sLen + n) sCap e - (sLen + n)) * i.size := by
    rw [Array.length_toList, size_zeroCells, hzs]
  rw [En.set_sz, List.length_append, List.length_append, holdl, hnl, hzl, ← Nat.add_mul, ← Nat.add_mul, Nat.zero_add, Nat.add_sub_cancel' hge]
theorem room_ok (hs : Sim w0 E h wd) (ht : P.underlying t = some (.slice e)) (hi : P.info? e = some i) {b o sLen sCap r : Nat} {c l : List V} {y : Nat} {news : List Value} (hb : h.at b = some (.cells c true y)) (hr : E.mu b = some r) (hl : RVs E l news)
    (hle : o + sLen * i.size + l.length ≤ c.length) (x : Value) (n : Nat) (hsrc : Src P i.size tx x n news wd) (hroom : sLen + n ≤ sCap) :
    (Builtin.append_ #[t, tx] ty #[.slice (some ⟨r, o, none⟩) sLen sCap, x]).run P wd = .ok (.slice (some ⟨r, o, none⟩) (sLen + n) sCap) (wd.setCells r (o + sLen * i.size) news) := by
  obtain ⟨ys, zs, el, fz, h1, h2, h3, h4⟩ := hs.cells hb hr
  have hlen := RVs_length h2
  have hll := RVs_length hl
  refine run_append_room_src wd t tx ty e i ht hi r o sLen sCap x n news hsrc hroom (fun j hj => ?_) (fun j hj => frozen_of wd h1 (h4 rfl) _ (by rw [List.length_append]; omega))
  rw [cell_of wd h1, List.getElem?_append_left (by omega), List.getElem?_eq_getElem (by omega)]
  rfl
end
end Go.X
namespace Go.X
open Go.RowKit
variable [Nu]
theorem boolRec_if' {R : Type} (b : Bool) (x y : R) : (Bool.rec x y b : R) = if b = true then y else x := by cases b <;> rfl
theorem growV_some (es bytes : Nat) (y : Nat) (b o n : Nat) (cap : Option Nat) (l c : List V) (w : Bool) (R : Type) (h : H) (K : V → H → Option R) (r : R) (e : growV es bytes y b o n cap l c w R h K = some r) :
    (n + l.length / es) * bytes ≤ 1048576 ∧ n * es ≤ (c.drop o).length ∧ ∃ h1, (match cap with
      | none => o = 0 ∧ n * es = c.length ∧ w = true ∧ h1 = h.wrote b .dead
      | some _ => h1 = h) ∧ allOne ((c.drop o).take (n * es) ++ l) = true ∧ h1.at h1.nx = none ∧
        K (.slice h1.nx 0 (n + l.length / es) es none) (h1.made (.cells ((c.drop o).take (n * es) ++ l) true y)) = some r := by
  rw [growV_def] at e
  obtain ⟨h0, e1⟩ := ble_and e
  obtain ⟨h2, e2⟩ := (takeK_some r _ _ _).1 e1
  rw [dropN_eq] at h2 e2
  refine ⟨h0, h2, ?_⟩
  cases cap with
  | none =>
    obtain ⟨q1, e3⟩ := (boolRec_some _ _ _).1 e2
    obtain ⟨q2, e4⟩ := (boolRec_some _ _ _).1 e3
    obtain ⟨q3, e5⟩ := (boolRec_some _ _ _).1 e4
    obtain ⟨_, _, e6⟩ := (write_some _ _ _ _ _ _).1 e5
    obtain ⟨q4, q5, q6⟩ := (grow_some _ _ _ _ _ _ _ _).1 e6
    exact ⟨_, ⟨beq_true.1 q1, beq_true.1 q2, q3, rfl⟩, q4, q5, q6⟩
  | some q =>
    obtain ⟨q4, q5, q6⟩ := (grow_some _ _ _ _ _ _ _ _).1 e2
    exact ⟨h, rfl, q4, q5, q6⟩
section
variable {Γ : Cx} (hΓ : Γ.Ok) {w : Nat} {dst : Option Tmp} {ty : TypeId} {pos : String} {after : Array Edge} {guard : Option (Nat × Bool)}
include hΓ
theorem append_val {t tx e : TypeId} {i : TypeInfo} {z : Value} (hu : Γ.P.underlying t = some (.slice e)) (hk : (∃ e', Γ.P.underlying tx = some (.slice e')) ∨ Γ.P.underlying tx = some .string)
    (hi : Γ.P.info? e = some i) (hz : i.zero = some z) (hzs : z.cells.size = i.size) (h1z : 1 ≤ i.size) (h1b : 1 ≤ i.bytes) {w0 : World} {E : En} {h : H} {wd : World} (hs : Sim w0 E h wd) {u y : V} {xv yv : Value} (hx : RV E u xv) (hy : RV E y yv)
    {v : V} {h' : H} (q0 : Nat) (hq0 : TyOK q0 e) (hr : run (appendV i.size i.bytes q0 u y) h = some (v, h')) :
    ∃ E' w' rv, E.le E' ∧ Sim w0 E' h' w' ∧ RV E' v rv ∧ (Builtin.append_ #[t, tx] ty #[xv, yv]).run Γ.P wd = .ok rv w' := by
  have hrA : appended i.size y (V × H) h (fun l h => (Bool.rec (appendL i.size i.bytes q0 u l (V × H) h fun a h' => some (a, h')) (Bool.rec none (some (u, h)) (isSlice u)) (isNil l) : Option (V × H))) = some (v, h') := hr
  obtain ⟨l, h1, e1, hh1, hfun⟩ := appended_some (P := Γ.P) wd i.size y (V × H) h _ (v, h') hrA
  obtain ⟨n, news, hnews, hlen, hsrc⟩ := hfun w0 E hs h1z tx yv hy hk
  have hs1 : Sim w0 E h1 wd := by
    rcases hh1 with rfl | ⟨b, rfl⟩
    · exact hs
    · exact hs.note b
  clear hr hrA hfun
  rw [boolRec_if'] at e1
  have hdiv : l.length / i.size = n := by rw [hlen]; exact Nat.mul_div_cancel _ h1z
  by_cases hnil : isNil l = true
  · rw [if_pos hnil] at e1
    obtain ⟨hsl, e2⟩ := (boolRec_some _ _ _).1 e1
    have hl0 := (isNil_iff l).1 hnil
    subst hl0
    have hn0 : n = 0 := by rw [← hdiv]; simp
    subst hn0
    have hnews0 := RVs_nil.1 hnews
    subst hnews0
    simp only [Option.some.injEq, Prod.mk.injEq] at e2
    obtain ⟨rfl, rfl⟩ := e2
    have hsrc0 := hsrc rfl
    refine ⟨E, wd, xv, En.le_refl E, hs1, hx, ?_⟩
    cases u with
    | nils => rw [RV] at hx; subst hx; exact r_append0 wd hu hi none 0 0 yv hsrc0 (Nat.le_refl _)
    | emp => rw [RV] at hx; obtain ⟨a, c, rfl⟩ := hx; exact r_append0 wd hu hi (some a) 0 c yv hsrc0 (Nat.zero_le _)
    | slice b o m es cap => rw [RV] at hx; obtain ⟨_, r0, c, _, rfl, hc, _⟩ := hx; exact r_append0 wd hu hi _ m c yv hsrc0 hc
    | _ => exact nomatch hsl
  · rw [if_neg hnil, appendL_def] at e1
    have hlne : l ≠ [] := fun hh => hnil ((isNil_iff l).2 hh)
    have hnpos : 0 < n := by
      rcases Nat.eq_zero_or_pos n with h0 | h0
      · rw [h0, Nat.zero_mul] at hlen; exact absurd (List.eq_nil_of_length_eq_zero hlen) hlne
      · exact h0
    cases u with
    | nils =>
      obtain ⟨hroom, e2⟩ := ble_and e1
      obtain ⟨ha, hn, e3⟩ := (grow_some _ _ _ _ _ _ _ _).1 e2
      rw [RV] at hx
      subst hx
      have hroom' : (0 + n) * i.bytes ≤ 1048576 := by rw [Nat.zero_add, ← hdiv]; exact hroom
      obtain ⟨E', w', rv, g1, g2, g3, g4⟩ := grow_ok (P := Γ.P) (tx := tx) (ty := ty) hs1 hn hu hi hz hzs h1z h1b none 0 0 (old := []) (olds := []) RVs_none hnews (run_firstCells_none wd.drew i.size 0 0 0) (by simp) yv n (hsrc ha) (by omega) hroom' q0 hq0
      simp only [Option.some.injEq, Prod.mk.injEq] at e3
      obtain ⟨e4, e5⟩ := e3
      have e4' : V.slice h1.nx 0 n i.size none = v := by rw [← e4, ← hdiv]; rfl
      rw [Nat.zero_add] at g3
      rw [List.nil_append] at g2
      exact ⟨E', w', rv, g1, by rw [← e5]; exact g2, by rw [← e4']; exact g3, g4⟩
    | slice b o m es cap =>
      obtain ⟨hes, e2⟩ := beq_and e1
      subst hes
      obtain ⟨k, hb, _, e3⟩ := (read_some _ _ _ _ _).1 e2
      have hxx := hx
      rw [RV] at hx
      obtain ⟨_, r0, sc, hr0, rfl, hsc, hcap⟩ := hx
      cases k with
      | cells c wr' y0 =>
        have hqe : TyOK (Bool.rec 0 q0 (Nat.beq q0 y0)) e := by
          cases Nat.beq q0 y0 with
          | false => exact TyOK.none
          | true => exact hq0
        have hqy : ∀ el, TyOK y0 el → TyOK (Bool.rec 0 q0 (Nat.beq q0 y0)) el := fun el hh => by
          cases eb : Nat.beq q0 y0 with
          | false => exact TyOK.none
          | true => rw [Nat.eq_of_beq_eq_true eb]; exact hh
        have e3' : (Bool.rec (growV i.size i.bytes (Bool.rec 0 q0 (Nat.beq q0 y0)) b o m cap l c wr' (V × H) (h1.note b) (fun a h' => some (a, h'))) (stN b (Nat.add o (Nat.mul m i.size)) l (V × H) (h1.note b) fun _ h => some (.slice b o (Nat.add m (Nat.div l.length i.size)) i.size cap, h))
          (Option.rec (Nat.ble (Nat.add o (Nat.mul (Nat.add m (Nat.div l.length i.size)) i.size)) c.length) (fun cap => Nat.ble (Nat.add m (Nat.div l.length i.size)) cap) cap : Bool) : Option (V × H)) = some (v, h') := by
          have e4 := e3
          rw [appendB_def] at e4
          exact e4
        rw [boolRec_if'] at e3'
        have hsn := hs1.note b
        have hbn : (h1.note b).at b = some (.cells c wr' y0) := by rw [H.note_at]; exact hb
        have hdiv' : Nat.div l.length i.size = n := hdiv
        rw [hdiv'] at e3'
        obtain ⟨ys, zs, el, fz, c1, c2, c3, c4, c5⟩ := hs1.cellsY hb hr0
        have hcl := RVs_length c2
        split at e3'
        · -- it fits
          rename_i hfit
          obtain ⟨ha, c', y1, hb', hle, e4⟩ := stN_some _ _ _ _ _ _ _ e3'
          simp only [Option.some.injEq, Prod.mk.injEq] at e4
          obtain ⟨e5, e6⟩ := e4
          have hroom : m + n ≤ sc := by
            cases cap with
            | some q =>
              have hq : m + n ≤ q := Nat.le_of_ble_eq_true hfit
              have hcap' : sc = q := hcap
              omega
            | none =>
              have hq : o + (m + n) * i.size ≤ c.length := Nat.le_of_ble_eq_true hfit
              have hcap' : o + sc * i.size = E.sz b := hcap
              rw [c3, List.length_append, hcl] at hcap'
              have : (m + n) * i.size ≤ sc * i.size := by omega
              exact Nat.le_of_mul_le_mul_right this h1z
          have hle' : o + m * i.size + l.length ≤ c'.length := hle
          refine ⟨E, _, _, En.le_refl E, by rw [← e6]; exact hsn.stored hb' hr0 hnews hle', ?_, room_ok (P := Γ.P) hsn hu hi hb' hr0 hnews hle' yv n (hsrc ha) hroom⟩
          rw [← e5, RV]
          exact ⟨h1z, r0, sc, hr0, rfl, hroom, hcap⟩
        · -- it may not
          rename_i hfit
          obtain ⟨hroom, hdr, h2, hcases, ha, hn, e4⟩ := growV_some _ _ _ _ _ _ _ _ _ _ _ _ _ _ e3'
          simp only [Option.some.injEq, Prod.mk.injEq] at e4
          obtain ⟨e5, e6⟩ := e4
          have hroom' : (m + n) * i.bytes ≤ 1048576 := by rw [← hdiv]; exact hroom
          rw [hdiv] at e5
          have hall : allOne l = true := by rw [allOne_append, Bool.and_eq_true] at ha; exact ha.2
          obtain ⟨us, u1, u2, u3⟩ := hs1.loads hb hr0 hdr
          have hold : (Builtin.firstCells i.size m (.slice (some ⟨r0, o, none⟩) m sc)).run Γ.P wd.drew = .ok us.toArray wd.drew :=
            run_firstCells_some wd.drew i.size m ⟨r0, o, none⟩ m sc us u1 (fun j u hu => by rw [Addr.add_lit]; exact u3 j u hu)
          cases cap with
          | some q =>
            dsimp only at hcases
            subst hcases
            have hq : ¬ m + n ≤ q := fun hh => hfit (Nat.ble_eq_true_of_le hh)
            have hcap' : sc = q := hcap
            obtain ⟨E', w', rv, g1, g2, g3, g4⟩ := grow_ok (P := Γ.P) (tx := tx) (ty := ty) hsn hn hu hi hz hzs h1z h1b (some ⟨r0, o, none⟩) m sc u2 hnews hold u1 yv n (hsrc hall) (by omega) hroom' _ hqe
            exact ⟨E', w', rv, g1, by rw [← e6]; exact g2, by rw [← e5]; exact g3, g4⟩
          | none =>
            dsimp only at hcases
            obtain ⟨ho, hmc, hw, rfl⟩ := hcases
            subst ho
            subst hw
            have hcap' : 0 + sc * i.size = E.sz b := hcap
            have hdead : Sim w0 E ((h1.note b).wrote b .dead) wd := hsn.wrote (k := .cells c true y0) hbn rfl hr0 .dead (fun hh => nomatch hh) wd trivial (fun _ _ => rfl) (Nat.le_refl _) rfl rfl rfl
            by_cases hfits : m + n ≤ sc
            · -- in place
              have hlen2 : m * i.size + news.length ≤ (ys ++ zs).length := by
                rw [← c3, ← hcap', Nat.zero_add, (hsrc hall).newsLen, ← Nat.add_mul]
                exact Nat.mul_le_mul_right _ hfits
              have hys : ys.length = m * i.size := by rw [hcl, hmc]
              have hov : over news (ys ++ zs) (m * i.size) = (ys ++ news) ++ zs.drop news.length := by
                rw [over, ← hys, List.take_left', List.drop_append]
                · simp
                · rfl
              have hset := setCells_heap r0 news (m * i.size) wd (ys ++ zs) el fz c1 hlen2
              have hlo := over_length news (ys ++ zs) (m * i.size) hlen2
              rw [hov] at hset hlo
              have hrun : (Builtin.append_ #[t, tx] ty #[.slice (some ⟨r0, 0, none⟩) m sc, yv]).run Γ.P wd = .ok (.slice (some ⟨r0, 0, none⟩) (m + n) sc) (wd.setCells r0 (0 + m * i.size) news) := by
                refine run_append_room_src wd t tx ty e i hu hi r0 0 m sc yv n news (hsrc hall) hfits (fun j hj => ?_) (fun j hj => frozen_of wd c1 (c4 rfl) _ (by omega))
                rw [cell_of wd c1, List.getElem?_eq_getElem (by omega)]
                rfl
              rw [Nat.zero_add] at hrun
              have hEz : E.sz b = ((ys ++ news) ++ zs.drop news.length).length := by rw [hlo, c3]
              refine ⟨E.set ((h1.note b).wrote b .dead).nx r0 (E.sz b), _, _, En.le_set (hdead.dom _ hn) _ _, ?_, ?_, hrun⟩
              · rw [← e6]
                have hE := En.le_set (hdead.dom _ hn) r0 (E.sz b)
                have htake : (c.drop 0).take (m * i.size) = c := by rw [List.drop_zero, hmc, List.take_length]
                rw [htake]
                refine hdead.adopt hn (fun b' k' hb' hl' hm' => ?_) (hsn.fresh b _ r0 hbn rfl hr0) (fun hr => (hsn.defd r0 hr).2.2 b _ hbn rfl hr0) _ rfl _ _ ⟨r0, ys ++ news, zs.drop news.length, el, fz, En.set_mu _ _ _ _, hset, RVs_mono hE _ _ (RVs_append c2 hnews), by rw [En.set_sz]; exact hEz, fun q i hi => c4 q i (by rw [hlo] at hi; exact hi), hqy _ c5⟩
                  (fun i hi => setCells_other r0 news _ wd i hi) (by rw [setCells_size]; exact Nat.le_refl _) (setCells_os r0 news _ wd) (setCells_tape r0 news _ wd) (setCells_output r0 news _ wd)
                rw [H.wrote_at] at hb'
                by_cases eb : b' = b
                · rw [if_pos eb] at hb'; simp only [Option.some.injEq] at hb'; rw [← hb'] at hl'; exact nomatch hl'
                · rw [if_neg eb] at hb'
                  exact eb (hsn.inj b' b k' _ r0 hb' hbn hl' rfl hm' hr0)
              · rw [← e5, RV]
                exact ⟨h1z, r0, sc, En.set_mu _ _ _ _, rfl, hfits, by show 0 + sc * i.size = _; rw [En.set_sz]; exact hcap'⟩
            · -- a new block
              obtain ⟨E', w', rv, g1, g2, g3, g4⟩ := grow_ok (P := Γ.P) (tx := tx) (ty := ty) hdead hn hu hi hz hzs h1z h1b (some ⟨r0, 0, none⟩) m sc u2 hnews hold u1 yv n (hsrc hall) (by omega) hroom' _ hqe
              exact ⟨E', w', rv, g1, by rw [← e6]; exact g2, by rw [← e5]; exact g3, g4⟩
      | _ => exact nomatch e3
    | _ => exact nomatch e1
theorem append_ok {t tx e : TypeId} (hu : Γ.P.underlying t = some (.slice e)) (hk : (∃ e', Γ.P.underlying tx = some (.slice e')) ∨ Γ.P.underlying tx = some .string)
    {n m : Nat} {z : List V} (hn : sizeT Γ e = some n) (hm : bytesT Γ e = some m) (hz : zeroL Γ e = some z) (h1n : 1 ≤ n) (h1m : 1 ≤ m) {x y : Operand} {a b : A} (hx : cA Γ w x = some a) (hy : cA Γ w y = some b)
    (q0 : Nat) (hq0 : TyOK q0 e) : OpOK Γ w ⟨dst, .call ⟨.builtin .append, #[x, y], #[t, tx]⟩, ty, pos, after, guard⟩ (I.appendQ q0 n m a b) := by
  intro F hA tm h v h' w0 E wd ar ds hr hs ht
  obtain ⟨i, zv, h1, h2, h3, h4⟩ := zeroL_some hz
  have hlz := RVs_length (h3 E)
  obtain ⟨i0, hi0, hi1⟩ := sizeT_some hn
  rw [h1] at hi0
  simp only [Option.some.injEq] at hi0
  subst hi0
  have hby : i.bytes = m := by
    unfold bytesT at hm
    rw [h1] at hm
    simpa using hm
  subst hi1
  subst hby
  obtain ⟨u, hu1, e1⟩ := (evK_some tm _ a _).1 hr
  obtain ⟨u2, hu2, e2⟩ := (evK_some tm _ b _).1 e1
  obtain ⟨E', w', rv, g1, g2, g3, g4⟩ := append_val (ty := ty) hΓ hu hk h1 h2 (by rw [← Array.length_toList, hlz, h4]) h1n h1m hs (cA_ok (ds := ds) hΓ hx ht hu1) (cA_ok (ds := ds) hΓ hy ht hu2) q0 hq0 e2
  refine ⟨E', w', rv, g1, g2, g3, .inl ?_⟩
  simp [execOp, resolve, invoke, builtin, g4]
end
end Go.X
