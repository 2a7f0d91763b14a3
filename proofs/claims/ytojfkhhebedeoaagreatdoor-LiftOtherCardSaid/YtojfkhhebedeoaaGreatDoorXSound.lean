/- A verified executor, part 23: code. -/
import Derived.Test.YtojfkhhebedeoaaGreatDoorXDraw2
set_option linter.unusedVariables false
set_option linter.unusedSimpArgs false
set_option linter.unusedSectionVars false
namespace Go.X
open Go.RowKit
variable [Nu]

theorem filter_lt {p q : Nat → Bool} : ∀ (l : List Nat), (∀ x, q x = true → p x = true) → (∃ x ∈ l, p x = true ∧ q x = false) → (l.filter q).length < (l.filter p).length
  | [], _, h => by obtain ⟨x, hx, _⟩ := h; exact nomatch hx
  | a :: l, hpq, h => by
    have hle : (l.filter q).length ≤ (l.filter p).length := by
      clear h
      induction l with
      | nil => exact Nat.le_refl _
      | cons b l ih =>
        rw [List.filter_cons, List.filter_cons]
        cases hq : q b with
        | true => rw [hpq b hq]; simpa using ih
        | false => cases hp : p b <;> simp <;> omega
    rw [List.filter_cons, List.filter_cons]
    obtain ⟨x, hx, h1, h2⟩ := h
    rcases List.mem_cons.1 hx with rfl | hx
    · rw [h1, h2]; simp; omega
    · have ih := filter_lt l hpq ⟨x, hx, h1, h2⟩
      cases hq : q a with
      | true => rw [hpq a hq]; simpa using ih
      | false => cases hp : p a <;> simp <;> omega

section
variable {Γ : Cx} {w nt : Nat} {ops : Array Oper} {F : CallF} {L : List (Oper × Ins)} {tm : Tm} {h : H} {sts : List St} {tm' : Tm} {hf : H} (D : DR Γ w nt ops F L tm h sts tm' hf)
include D

theorem DR.main (hn : nt ≤ lim w) (hF : CallOK Γ.P F) (rd : Option Nat) {ds : List Deferred} {w0 : World} {E0 : En} {Q : Exit → Act → World → Prop}
    (hQ : ∀ E' a' w', E0.le E' → Sim w0 E' hf w' → TR E' w tm' a'.tmps → a'.tmps.size = nt → a'.defers = ds → Q .normal a' w') : ∀ (fuel : Nat) (listed : Array Bool) (a : Act) (wd : World), listed.size = ops.size →
    ((List.range ops.size).filter fun j => !listed.getD j false).length ≤ fuel → Closed ops (fun j => listed.getD j false = true) → ∀ (E : En) (gS : H) (tmS : Tm), E0.le E → Sim w0 E gS wd → TR E w tmS a.tmps → a.tmps.size = nt → a.defers = ds →
    (∀ b, gS.at b = blkAt h sts (fun j => listed.getD j false = true) b) → (∀ t, tmAt w tmS t = tempAt w tm sts (fun j => listed.getD j false = true) t) → wpAnyIn (FC rd) 0 Γ.P .any ops Q fuel listed a wd := by
  have hlen : sts.length = ops.size := by rw [D.tr.length, D.len]
  have hchB := D.tr.blocks D.lg D.log D.good
  have hchT := D.tr.temps hn (fun p hp => by
    obtain ⟨k, hk⟩ := List.getElem?_of_mem hp
    have := (D.each k p.1 p.2 hk).2
    exact ⟨this.dst, this.low⟩)
  have fin : ∀ (listed : Array Bool) (a : Act) (wd : World), (∀ j, j < ops.size → listed.getD j false = true) → ∀ (E : En) (gS : H) (tmS : Tm), E0.le E → Sim w0 E gS wd → TR E w tmS a.tmps → a.tmps.size = nt → a.defers = ds →
      (∀ b, gS.at b = blkAt h sts (fun j => listed.getD j false = true) b) → (∀ t, tmAt w tmS t = tempAt w tm sts (fun j => listed.getD j false = true) t) → Q .normal a wd := by
    intro listed a wd hall E gS tmS hE hs ht hsz hdf hb htm
    refine hQ E a wd hE (hs.ext fun b => ?_) (fun t v hl hv => ?_) hsz hdf
    · rw [hb b]
      exact (hchB.all (c := b) 0 (fun j _ hj => hall j (by omega))).symm
    · have h1 := htm t
      have h2 : tempAt w tm sts (fun j => listed.getD j false = true) t = tmAt w tm' t := hchT.all (c := t) 0 (fun j _ hj => hall j (by omega))
      rw [h2] at h1
      unfold tmAt at h1
      rw [if_pos hl, if_pos hl] at h1
      exact ht t v hl (by rw [h1]; exact hv)
  have done : ∀ (listed : Array Bool), listed.size = ops.size → Region.ready .any ops listed = [] → ∀ j, j < ops.size → listed.getD j false = true := by
    intro listed hsz hr j
    induction j using Nat.strongRecOn with
    | _ j ih =>
      intro hj
      cases hl : listed.getD j false with
      | true => rfl
      | false =>
        exfalso
        have ho : ops[j]? = some ops[j] := Array.getElem?_eq_getElem hj
        have hm : j ∈ Region.ready .any ops listed := by
          rw [mem_ready]
          refine ⟨?_, ops[j], ho, fun e he hb => ?_⟩
          · have hjl : j < listed.size := by omega
            simp only [Array.getD_eq_getD_getElem?, Array.getElem?_eq_getElem hjl, Option.getD_some] at hl ⊢
            exact hl
          · have := drawOk_back D.dr (i := j) (o := ops[j]) (by rw [← ho]; simp) he hb
            exact ih e.on this (by omega)
        rw [hr] at hm
        exact nomatch hm
  intro fuel
  induction fuel with
  | zero =>
    intro listed a wd hsz hcnt hcl E gS tmS hE hs ht hts hdf hb htm
    have hall : ∀ j, j < ops.size → listed.getD j false = true := by
      intro j hj
      have hnil : (List.range ops.size).filter (fun j => !listed.getD j false) = [] := List.eq_nil_of_length_eq_zero (Nat.le_zero.1 hcnt)
      have := List.filter_eq_nil_iff.1 hnil j (List.mem_range.2 hj)
      simpa using this
    refine ⟨?_, fin listed a wd hall E gS tmS hE hs ht hts hdf hb htm⟩
    cases hr : Region.ready .any ops listed with
    | nil => rfl
    | cons i r =>
      have hm : i ∈ Region.ready .any ops listed := by rw [hr]; exact List.mem_cons_self
      obtain ⟨q1, o, q2, _⟩ := mem_ready.1 hm
      have hi : i < ops.size := (Array.getElem?_eq_some_iff.1 q2).1
      have := hall i hi
      have hil : i < listed.size := by omega
      simp only [Array.getD_eq_getD_getElem?, Array.getElem?_eq_getElem hil, Option.getD_some] at q1 this
      rw [q1] at this; exact nomatch this
  | succ fuel ih =>
    intro listed a wd hsz hcnt hcl E gS tmS hE hs ht hts hdf hb htm
    refine ⟨fun hr => fin listed a wd (done listed hsz hr) E gS tmS hE hs ht hts hdf hb htm, fun i hi => ?_⟩
    obtain ⟨q1, o, q2, q3⟩ := mem_ready.1 hi
    have hil : i < ops.size := (Array.getElem?_eq_some_iff.1 q2).1
    have hill : i < listed.size := by omega
    have hist : i < sts.length := by omega
    have hsi : sts[i]? = some sts[i] := List.getElem?_eq_getElem hist
    generalize hsd : sts[i] = s at hsi
    obtain ⟨o1, hok, _, _, _, _⟩ := D.at hsi
    have hoe : s.o = o := by
      have : ops.toList[i]? = some o := by rw [← q2]; simp
      rw [this] at o1; simpa using o1.symm
    have hnS : ¬ listed.getD i false = true := by
      simp only [Array.getD_eq_getD_getElem?, Array.getElem?_eq_getElem hill, Option.getD_some] at q1 ⊢
      rw [q1]; simp
    obtain ⟨g', r1, r2, r3⟩ := D.step hn hcl hsi (fun e he hbd => q3 e (by rw [← hoe]; exact he) hbd) hnS hb htm
    have hset : ∀ j, ((listed.setIfInBounds i true).getD j false = true) = (listed.getD j false = true ∨ j = i) := by
      intro j
      by_cases hji : j = i
      · subst hji
        simp [hill]
      · rw [getD_set_ne false (Ne.symm hji)]
        simp [hji]
    have hSeq : (fun j => (listed.setIfInBounds i true).getD j false = true) = (fun j => listed.getD j false = true ∨ j = i) := funext hset
    unfold wpOpIn
    rw [q2]
    dsimp only
    have key := hok.wp F hF rd tmS ⟨gS.hp, s.h.nx, true, []⟩ s.v g' w0 E wd a r1 (hs.ext fun b => rfl) ht (wpAnyIn (FC rd) 0 Γ.P .any ops Q fuel (listed.setIfInBounds i true)) Q (fun E' w' x hE' hs' hv => by
      obtain ⟨p1, p2, p3⟩ := TR_putD (TR_mono hE' ht) hn hts hok.dst hok.low hv
      refine ih (listed.setIfInBounds i true) _ w' (by simpa using hsz) ?_ ?_ E' g' _ (En.le_trans hE hE') hs' p1 p2 (by rw [p3, hdf]) (by rw [hSeq]; exact r2) (by rw [hSeq]; exact r3)
      · have := filter_lt (p := fun j => !listed.getD j false) (q := fun j => !(listed.setIfInBounds i true).getD j false) (List.range ops.size) (fun x hx => by
          simp only [Bool.not_eq_true'] at hx ⊢
          cases hh : listed.getD x false with
          | false => rfl
          | true => rw [(hset x).mpr (.inl hh)] at hx; exact nomatch hx) ⟨i, List.mem_range.2 hil, by simpa using hnS, by rw [(hset i).mpr (.inr rfl)]; rfl⟩
        omega
      · rw [hSeq]
        refine ⟨fun j oj hoj hSj e he hbd => ?_⟩
        rcases hSj with hSj | rfl
        · exact .inl (hcl.closed j oj hoj hSj e he hbd)
        · have : oj = o := by
            have : ops.toList[j]? = some o := by rw [← q2]; simp
            rw [this] at hoj; simpa using hoj.symm
          subst this
          exact .inl (q3 e he hbd))
    rw [hoe] at key
    split
    · rename_i hw
      rw [if_pos hw] at key
      exact key
    · rename_i hw
      rw [if_neg hw] at key
      exact ⟨fun _ _ => trivial, key⟩
end

universe u v
theorem allSome_zip {α : Type u} {β : Type v} {f : α → Option β} : ∀ {l : List α} {r : List β}, allSome f l = some r → l.length = r.length ∧ ∀ (i : Nat) (x : α) (y : β), (l.zip r)[i]? = some (x, y) → l[i]? = some x ∧ f x = some y
  | [], r, h => by
    simp only [allSome, Option.some.injEq] at h
    subst h
    exact ⟨rfl, fun i x y h => by simp at h⟩
  | x :: l, r, h => by
    obtain ⟨a, b, h1, h2, rfl⟩ := (allSome_cons _ _ _ _).1 h
    obtain ⟨q1, q2⟩ := allSome_zip h2
    refine ⟨by simp [q1], fun i u y hi => ?_⟩
    cases i with
    | zero => simp at hi; obtain ⟨rfl, rfl⟩ := hi; exact ⟨rfl, h1⟩
    | succ i => have := q2 i u y (by simpa using hi); simpa using this

theorem regionN_good {F : CallF} : ∀ (l : List Ins), (∀ o ∈ l, ∀ tm, Good (o.i F tm)) → ∀ tm, Good (regionN F l tm)
  | [], h, tm => Good.pure tm
  | o :: l, h, tm => Good.bind (h o List.mem_cons_self tm) (k := fun v => regionN F l (putD tm o.dst v)) fun v => regionN_good l (fun p hp => h p (List.mem_cons_of_mem _ hp)) _
theorem regionD_good {F : CallF} {ps : List (Nat × Nat)} : ∀ (l : List Ins), (∀ o ∈ l, ∀ tm, Good (o.i F tm)) → ∀ tm notes lo, Good (regionD F ps l tm notes lo)
  | [], h, tm, notes, lo => Good.bool (pairsOk notes ps) (f := fun _ h K => K tm h) (Good.pure tm)
  | o :: l, h, tm, notes, lo => by
    have key : Good (fun R h K => logged (o.i F tm) R h fun r h1 => regionD F ps l (putD tm o.dst r.1) (cat notes [⟨r.2.1, lo, r.2.2⟩]) r.2.2 R h1 K) :=
      Good.bind (h o List.mem_cons_self tm).logged fun r => regionD_good l (fun p hp => h p (List.mem_cons_of_mem _ hp)) (putD tm o.dst r.1) (cat notes [⟨r.2.1, lo, r.2.2⟩]) r.2.2
    exact key

theorem next_good : Good nextOf := by
  refine ⟨fun R h K r => ?_, ?_, ?_⟩
  · exact ⟨fun e => ⟨h.nx, h, rfl, e⟩, fun ⟨a, h', e1, e2⟩ => by
      have e1' : some (h.nx, h) = some (a, h') := e1
      simp only [Option.some.injEq, Prod.mk.injEq] at e1'
      obtain ⟨rfl, rfl⟩ := e1'
      exact e2⟩
  · intro h a h' e hl
    have e' : some (h.nx, h) = some (a, h') := e
    simp only [Option.some.injEq, Prod.mk.injEq] at e'
    obtain ⟨rfl, rfl⟩ := e'
    refine ⟨[], rfl, hl, Nat.le_refl _, fun b w hm => (nomatch hm), fun b _ _ => rfl, fun g hg hgn _ _ => ⟨g, ?_, rfl, hg, hgn, fun b hb => ?_, fun b _ _ => rfl⟩⟩
    · show some (g.nx, g) = _; rw [hgn]
    · rcases hb with hm | ⟨h1, h2⟩
      · exact nomatch hm
      · omega
  · intro h a h' e
    have e' : some (h.nx, h) = some (a, h') := e
    simp only [Option.some.injEq, Prod.mk.injEq] at e'
    obtain ⟨rfl, rfl⟩ := e'
    exact ⟨Nat.le_refl _, fun _ hb _ => hb, fun g s _ => ⟨g, by show some (g.nx, g) = _; rw [s.nx], s, fun _ _ _ => rfl⟩⟩

/-- How a piece of code ends. -/
def exOf : Out → Exit
  | .normal => .normal
  | .exit id => .exit id
  | .ret => .ret

/-- A loop's mark. -/
def markOf (r : Nat) : Deferred := { target := .collected r, args := #[] }
/-- The activation's deferred calls are loops' marks. -/
def DS (rd : Option Nat) (base : List Nat) (E : En) (a : Act) : Prop := ∃ l : List Nat, a.defers = l.map markOf ∧ E.df = l ++ base ∧ (rd.isSome = true → l = [])
theorem DS.next {rd : Option Nat} {base : List Nat} {E E' : En} {a a' : Act} (h : DS rd base E a) (he : E'.df = E.df) (ha : a'.defers = a.defers) : DS rd base E' a' := by
  obtain ⟨l, h1, h2, h3⟩ := h
  exact ⟨l, ha.trans h1, he.trans h2, h3⟩
/-- The round that the code is in. -/
def RndOK (E : En) (F : CallF) (rd : Option Nat) : Prop := match F.rnd, rd with
  | none, none => True
  | some b, some r => E.mu b = some r
  | _, _ => False
theorem RndOK.next {E E' : En} {F : CallF} {rd : Option Nat} (h : RndOK E F rd) (hE : E.leM E') : RndOK E' F rd := by
  unfold RndOK at h ⊢
  cases hr : F.rnd with
  | none => rw [hr] at h; cases rd <;> exact h
  | some b =>
    rw [hr] at h
    cases rd with
    | none => exact h
    | some r => exact (hE b r h).1
/-- Compact code does what the code does. -/
structure CodeOK (Γ : Cx) (w nt : Nat) (F : CallF) (c : Code) (cc : C) : Prop where
  good : ∀ tm, Good (cc F tm)
  wp : ∀ (tm : Tm) (h : H) (o : Out) (tm' : Tm) (h' : H) (w0 : World) (E : En) (a : Act) (wd : World) (rd : Option Nat) (base : List Nat), run (cc F tm) h = some ((o, tm'), h') → Sim w0 E h wd → TR E w tm a.tmps → a.tmps.size = nt → DS rd base E a → RndOK E F rd →
    ∀ (Q : Exit → Act → World → Prop), (∀ E' a' w', E.leM E' → Sim w0 E' h' w' → TR E' w tm' a'.tmps → a'.tmps.size = nt → DS rd base E' a' → Q (exOf o) a' w') → c.wpIn (FC rd) 0 Γ.P Q a wd

section
variable {Γ : Cx} (hΓ : Γ.Ok) (hm : Γ.P.follows .mixedOrders = true) {w nt : Nat} (hn : nt ≤ lim w) {F : CallF} (hF : CallOK Γ.P F) (hG : GoodF F)
include hΓ hn hF hG

theorem reg_ok {id : Nat} {ops : Array Oper} {l : List Ins} (hc : allSome (cOper Γ w nt ops.toList) ops.toList = some l) : CodeOK Γ w nt F (.region id ops false) (C.reg l) := by
  obtain ⟨hlen, hz⟩ := allSome_zip hc
  have hgood : ∀ o ∈ l, ∀ tm, Good (o.i F tm) := by
    intro o ho tm
    obtain ⟨i, hi⟩ := List.getElem?_of_mem ho
    have hil : i < l.length := (List.getElem?_eq_some_iff.1 hi).1
    have hx : ops.toList[i]? = some (ops.toList[i]'(by omega)) := List.getElem?_eq_getElem (by omega)
    have := (hz i _ o (by rw [List.getElem?_zip_eq_some]; exact ⟨hx, hi⟩)).2
    exact (cOper_ok hΓ this).good F hG tm
  refine ⟨fun tm => Good.bind (regionN_good l hgood tm) (k := fun tm _ h K => K (Out.normal, tm) h) fun tm => Good.pure _, fun tm h o tm' h' w0 E a wd rd base hr hs ht hsz hdf hrd Q hQ => ?_⟩
  obtain ⟨tm1, h1, e1, e2⟩ := (Good.run_bind (k := fun tm _ h K => K (Out.normal, tm) h) (regionN_good l hgood tm)).1 hr
  obtain ⟨q1, q2⟩ := run_pure.1 e2
  simp only [Prod.mk.injEq] at q1
  obtain ⟨rfl, rfl⟩ := q1
  subst q2
  refine wpIn_region ?_
  rw [List.range_eq_range', ← Array.length_toList]
  exact regionN_ok hΓ hn hF hG rd ops.toList l 0 (fun i => by simp) hc tm _ h _ E a wd e1 hs ht hsz rfl fun E' a' w' hE hs' ht' hsz' hd' => hQ E' a' w' hE.app hs' ht' hsz' (hdf.next hE.df hd')

include hm in
theorem drw_ok {id : Nat} {ops : Array Oper} {l : List Ins} (hc : allSome (cOper Γ w nt ops.toList) ops.toList = some l) (hd : drawOk ops.toList = true) : CodeOK Γ w nt F (.region id ops true) (C.drw l (pairs ops.toList)) := by
  obtain ⟨hlen, hz⟩ := allSome_zip hc
  have hmapz : (ops.toList.zip l).map (·.2) = l := List.map_snd_zip (by omega)
  have heach : ∀ (i : Nat) (o : Oper) (io : Ins), (ops.toList.zip l)[i]? = some (o, io) → ops[i]? = some o ∧ OperOK Γ w nt ops o io := by
    intro i o io hi
    obtain ⟨h1, h2⟩ := hz i o io hi
    exact ⟨by rw [← h1]; simp, cOper_ok hΓ h2⟩
  have hgoodz : ∀ p ∈ ops.toList.zip l, ∀ tm, Good (p.2.i F tm) := by
    intro p hp tm
    obtain ⟨i, hi⟩ := List.getElem?_of_mem hp
    exact (heach i p.1 p.2 hi).2.good F hG tm
  have hgood : ∀ o ∈ l, ∀ tm, Good (o.i F tm) := by
    intro o ho tm
    rw [← hmapz] at ho
    obtain ⟨p, hp, rfl⟩ := List.mem_map.1 ho
    exact hgoodz p hp tm
  have g1 : ∀ tm, Good (fun R h K => nextOf R h fun lo h => regionD F (pairs ops.toList) l tm [] lo R h K) := fun tm => Good.bind next_good (k := fun lo => regionD F (pairs ops.toList) l tm [] lo) fun lo => regionD_good l hgood tm [] lo
  refine ⟨fun tm => Good.bind (g1 tm) (k := fun tm _ h K => K (Out.normal, tm) h) fun tm => Good.pure _, fun tm h o tm' h' w0 E a wd rd base hr hs ht hsz hdf hrd Q hQ => ?_⟩
  obtain ⟨tm1, h1, e1, e2⟩ := (Good.run_bind (k := fun tm _ h K => K (Out.normal, tm) h) (g1 tm)).1 hr
  obtain ⟨q1, q2⟩ := run_pure.1 e2
  simp only [Prod.mk.injEq] at q1
  obtain ⟨rfl, rfl⟩ := q1
  subst q2
  have e3 : run (regionD F (pairs ops.toList) ((ops.toList.zip l).map (·.2)) tm [] h.nx) h = some (tm', h') := by rw [hmapz]; exact e1
  obtain ⟨sts, hf, t1, t2, t3⟩ := regionD_trace (ops.toList.zip l) tm [] h.nx h tm' h' hgoodz rfl e3
  have D : DR Γ w nt ops F (ops.toList.zip l) tm (norm h) sts tm' hf := ⟨t1, rfl, rfl, heach, by rw [List.length_zip, ← hlen, Nat.min_self]; simp, hgoodz, hd, by simpa using t3⟩
  refine wpIn_region_any hm ?_
  refine D.main hn hF rd (w0 := w0) (E0 := E) (fun E' a' w' hE hs' ht' hsz' hd' => hQ E' a' w' hE.app (hs'.ext t2) ht' hsz' (hdf.next hE.df hd')) ops.size (Array.replicate ops.size false) a { wd with drawn := wd.drawn + 1 } (by simp) ?_ ⟨fun j oj _ hj => ?_⟩ E h tm (En.le_refl E) hs.drew ht hsz rfl (fun b => ?_) (fun t => ?_)
  · exact Nat.le_trans (List.length_filter_le _ _) (by simp)
  · exfalso
    simp [Array.getD] at hj
  · refine (cur_none sts 0 _ (fun i s _ _ => ?_)).symm
    simp [Array.getD]
  · refine (cur_none sts 0 _ (fun i s _ _ => ?_)).symm
    simp [Array.getD]
end
end Go.X
