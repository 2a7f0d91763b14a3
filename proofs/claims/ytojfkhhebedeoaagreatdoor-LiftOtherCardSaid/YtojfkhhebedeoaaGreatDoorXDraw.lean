/- A verified executor, part 21: regions whose order is drawn: what is left of the order. -/
import Derived.Test.YtojfkhhebedeoaaGreatDoorXReg
set_option linter.unusedVariables false
set_option linter.unusedSimpArgs false
set_option linter.unusedSectionVars false
namespace Go.X
open Go.RowKit
variable [Nu]

/-! what a place holds when some steps are done, in the order of the text -/
universe u
section
variable {σ : Type u} {κ X : Type}
open Classical in
noncomputable def cur (S : Nat → Prop) (W : σ → κ → Prop) (val : σ → κ → X) : List σ → Nat → (κ → X) → κ → X
  | [], _, f, c => f c
  | s :: r, k, f, c => cur S W val r (k + 1) (fun c => if S k ∧ W s c then val s c else f c) c

theorem cur_congr {S S' : Nat → Prop} {W : σ → κ → Prop} {val : σ → κ → X} {c : κ} : ∀ (l : List σ) (k : Nat) (f f' : κ → X), (∀ i s, l[i]? = some s → W s c → (S (k + i) ↔ S' (k + i))) → f c = f' c → cur S W val l k f c = cur S' W val l k f' c
  | [], k, f, f', hS, hf => hf
  | s :: r, k, f, f', hS, hf => by
    refine cur_congr r (k + 1) _ _ (fun i s' h hw => by have := hS (i + 1) s' (by simpa using h) hw; rw [show k + 1 + i = k + (i + 1) from by omega]; exact this) ?_
    by_cases hw : W s c
    · have h0 := hS 0 s (by simp) hw
      rw [Nat.add_zero] at h0
      by_cases h1 : S k
      · rw [if_pos ⟨h1, hw⟩, if_pos ⟨h0.1 h1, hw⟩]
      · rw [if_neg (fun h => h1 h.1), if_neg (fun h => h1 (h0.2 h.1)), hf]
    · rw [if_neg (fun h => hw h.2), if_neg (fun h => hw h.2), hf]
theorem cur_none {S : Nat → Prop} {W : σ → κ → Prop} {val : σ → κ → X} {c : κ} : ∀ (l : List σ) (k : Nat) (f : κ → X), (∀ i s, l[i]? = some s → W s c → ¬ S (k + i)) → cur S W val l k f c = f c
  | [], k, f, hS => rfl
  | s :: r, k, f, hS => by
    show cur S W val r (k + 1) _ c = _
    rw [cur_none r (k + 1) _ (fun i s' h hw => by have := hS (i + 1) s' (by simpa using h) hw; rw [show k + 1 + i = k + (i + 1) from by omega]; exact this)]
    refine if_neg (fun h => ?_)
    have := hS 0 s (by simp) h.2
    exact this h.1

def Chained (W : σ → κ → Prop) (val pre post : σ → κ → X) : List σ → (κ → X) → (κ → X) → Prop
  | [], f, f' => ∀ c, f' c = f c
  | s :: r, f, f' => (∀ c, pre s c = f c) ∧ (∀ c, W s c → post s c = val s c) ∧ (∀ c, ¬ W s c → post s c = pre s c) ∧ Chained W val pre post r (post s) f'

section
variable {W : σ → κ → Prop} {val pre post : σ → κ → X} {c : κ}
open Classical in
theorem Chained.step {s : σ} {f : κ → X} (h1 : ∀ c, pre s c = f c) (h2 : ∀ c, W s c → post s c = val s c) (h3 : ∀ c, ¬ W s c → post s c = pre s c) {p : Prop} (hp : p) : (if p ∧ W s c then val s c else f c) = post s c := by
  by_cases hw : W s c
  · rw [if_pos ⟨hp, hw⟩, h2 c hw]
  · rw [if_neg (fun h => hw h.2), h3 c hw, h1 c]
theorem Chained.pre_at : ∀ {l : List σ} {f f' : κ → X} (k i : Nat) {s : σ}, Chained W val pre post l f f' → l[i]? = some s → cur (fun j => j < k + i) W val l k f c = pre s c
  | [], f, f', k, i, s, h, hs => by simp at hs
  | s0 :: r, f, f', k, 0, s, h, hs => by
    simp at hs
    subst hs
    rw [cur_none _ _ _ (fun i s' _ _ => by omega), h.1 c]
  | s0 :: r, f, f', k, i + 1, s, h, hs => by
    obtain ⟨h1, h2, h3, h4⟩ := h
    rw [← Chained.pre_at (k + 1) i h4 (by simpa using hs)]
    exact cur_congr r (k + 1) _ _ (fun i' s' _ _ => by omega) (Chained.step h1 h2 h3 (by omega))
theorem Chained.post_at : ∀ {l : List σ} {f f' : κ → X} (k i : Nat) {s : σ}, Chained W val pre post l f f' → l[i]? = some s → cur (fun j => j < k + i + 1) W val l k f c = post s c
  | [], f, f', k, i, s, h, hs => by simp at hs
  | s0 :: r, f, f', k, 0, s, h, hs => by
    simp at hs
    subst hs
    obtain ⟨h1, h2, h3, h4⟩ := h
    show cur _ W val r (k + 1) _ c = _
    rw [cur_none _ _ _ (fun i s' _ _ => by omega)]
    exact Chained.step h1 h2 h3 (by omega)
  | s0 :: r, f, f', k, i + 1, s, h, hs => by
    obtain ⟨h1, h2, h3, h4⟩ := h
    rw [← Chained.post_at (k + 1) i h4 (by simpa using hs)]
    exact cur_congr r (k + 1) _ _ (fun i' s' _ _ => by omega) (Chained.step h1 h2 h3 (by omega))
theorem Chained.all {S : Nat → Prop} : ∀ {l : List σ} {f f' : κ → X} (k : Nat), Chained W val pre post l f f' → (∀ j, k ≤ j → j < k + l.length → S j) → cur S W val l k f c = f' c
  | [], f, f', k, h, hS => (h c).symm
  | s0 :: r, f, f', k, h, hS => by
    obtain ⟨h1, h2, h3, h4⟩ := h
    rw [← Chained.all (k + 1) h4 (fun j h5 h6 => hS j (by omega) (by rw [List.length_cons]; omega))]
    exact cur_congr r (k + 1) _ _ (fun i' s' _ _ => Iff.rfl) (Chained.step h1 h2 h3 (hS k (Nat.le_refl _) (by rw [List.length_cons]; omega)))
end
end

/-! the steps of a region, as the text has them -/
structure St where
  o : Oper
  io : Ins
  tm : Tm
  h : H
  v : V
  g : H
def norm (h : H) : H := ⟨h.hp, h.nx, true, []⟩
def St.note (s : St) : Note := ⟨s.g.log, s.h.nx, s.g.nx⟩
def Trace (F : CallF) : List (Oper × Ins) → Tm → H → List St → Tm → H → Prop
  | [], tm, h, sts, tm', h' => sts = [] ∧ tm' = tm ∧ h' = h
  | p :: l, tm, h, sts, tm', h' => ∃ v g r, sts = ⟨p.1, p.2, tm, h, v, g⟩ :: r ∧ run (p.2.i F tm) h = some (v, g) ∧ Trace F l (putD tm p.2.dst v) (norm g) r tm' h'

theorem regionD_trace {F : CallF} {ps : List (Nat × Nat)} : ∀ (L : List (Oper × Ins)) (tm : Tm) (notes : List Note) (lo : Nat) (h : H) (tm' : Tm) (h' : H), (∀ p ∈ L, ∀ tm, Good (p.2.i F tm)) → lo = h.nx →
    run (regionD F ps (L.map (·.2)) tm notes lo) h = some (tm', h') → ∃ sts hf, Trace F L tm (norm h) sts tm' hf ∧ (∀ b, h'.at b = hf.at b) ∧ pairsOk (notes ++ sts.map St.note) ps = true
  | [], tm, notes, lo, h, tm', h', hg, hlo, hr => by
    have hr' : (Bool.rec none (some (tm, h)) (pairsOk notes ps) : Option (Tm × H)) = some (tm', h') := hr
    obtain ⟨h1, h2⟩ := (boolRec_some _ _ _).1 hr'
    simp only [Option.some.injEq, Prod.mk.injEq] at h2
    obtain ⟨rfl, rfl⟩ := h2
    exact ⟨[], norm h, ⟨rfl, rfl, rfl⟩, fun b => rfl, by simpa using h1⟩
  | p :: L, tm, notes, lo, h, tm', h', hg, hlo, hr => by
    have hgood := hg p List.mem_cons_self tm
    have hr' : run (fun R h K => logged (p.2.i F tm) R h fun r h1 => regionD F ps (L.map (·.2)) (putD tm p.2.dst r.1) (cat notes [⟨r.2.1, lo, r.2.2⟩]) r.2.2 R h1 K) h = some (tm', h') := hr
    obtain ⟨⟨v, lg, n⟩, h1, e1, e2⟩ := (Good.run_bind (k := fun r => regionD F ps (L.map (·.2)) (putD tm p.2.dst r.1) (cat notes [⟨r.2.1, lo, r.2.2⟩]) r.2.2) hgood.logged).1 hr'
    obtain ⟨g, e3, rfl, rfl, rfl⟩ := (run_logged hgood).1 e1
    obtain ⟨sts, hf, t1, t2, t3⟩ := regionD_trace L _ _ _ _ tm' h' (fun q hq => hg q (List.mem_cons_of_mem _ hq)) (by rfl) e2
    refine ⟨⟨p.1, p.2, tm, norm h, v, g⟩ :: sts, hf, ⟨v, g, sts, rfl, e3, t1⟩, t2, ?_⟩
    rw [List.map_cons]
    have : (⟨p.1, p.2, tm, norm h, v, g⟩ : St).note = ⟨g.log, lo, g.nx⟩ := by rw [hlo]; rfl
    rw [this]
    rw [cat_eq, List.append_assoc] at t3
    exact t3

theorem Trace.length {F : CallF} : ∀ {L : List (Oper × Ins)} {tm : Tm} {h : H} {sts : List St} {tm' : Tm} {h' : H}, Trace F L tm h sts tm' h' → sts.length = L.length
  | [], _, _, _, _, _, ht => by rw [ht.1]; rfl
  | p :: L, _, _, _, _, _, ht => by obtain ⟨v, g, r, rfl, _, h2⟩ := ht; simp [h2.length]

/-- Each step. -/
theorem Trace.at {F : CallF} : ∀ {L : List (Oper × Ins)} {tm : Tm} {h : H} {sts : List St} {tm' : Tm} {h' : H}, Trace F L tm h sts tm' h' → h.lg = true → h.log = [] → ∀ {i : Nat} {s : St}, sts[i]? = some s →
    L[i]? = some (s.o, s.io) ∧ run (s.io.i F s.tm) s.h = some (s.v, s.g) ∧ s.h.lg = true ∧ s.h.log = []
  | [], _, _, _, _, _, ht, hl, hl', i, s, hs => by rw [ht.1] at hs; simp at hs
  | p :: L, _, _, _, _, _, ht, hl, hl', i, s, hs => by
    obtain ⟨v, g, r, rfl, h1, h2⟩ := ht
    cases i with
    | zero => simp at hs; subst hs; exact ⟨rfl, h1, hl, hl'⟩
    | succ i =>
      have hs' : r[i]? = some s := by simpa using hs
      have := h2.at rfl rfl hs'
      simpa using this

/-- What a step writes or makes; what it touches. -/
def WB (s : St) (b : Nat) : Prop := (b, true) ∈ s.g.log ∨ (s.h.nx ≤ b ∧ b < s.g.nx)
def TB (s : St) (b : Nat) : Prop := (∃ u, (b, u) ∈ s.g.log) ∨ (s.h.nx ≤ b ∧ b < s.g.nx)

theorem Trace.grows {F : CallF} : ∀ {L : List (Oper × Ins)} {tm : Tm} {h : H} {sts : List St} {tm' : Tm} {h' : H}, Trace F L tm h sts tm' h' → h.lg = true → (∀ p ∈ L, ∀ tm, Good (p.2.i F tm)) →
    ∀ {i : Nat} {s : St}, sts[i]? = some s → h.nx ≤ s.h.nx ∧ s.h.nx ≤ s.g.nx
  | [], _, _, _, _, _, ht, hl, hg, i, s, hs => by rw [ht.1] at hs; simp at hs
  | p :: L, _, _, _, _, _, ht, hl, hg, i, s, hs => by
    obtain ⟨v, g, r, rfl, h1, h2⟩ := ht
    obtain ⟨l1, e1, hl1, n1, _⟩ := (hg p List.mem_cons_self _).loc _ v g h1 hl
    cases i with
    | zero => simp at hs; subst hs; exact ⟨Nat.le_refl _, n1⟩
    | succ i =>
      have hs' : r[i]? = some s := by simpa using hs
      obtain ⟨q1, q2⟩ := h2.grows rfl (fun q hq => hg q (List.mem_cons_of_mem _ hq)) hs'
      exact ⟨Nat.le_trans n1 q1, q2⟩
theorem Trace.order {F : CallF} : ∀ {L : List (Oper × Ins)} {tm : Tm} {h : H} {sts : List St} {tm' : Tm} {h' : H}, Trace F L tm h sts tm' h' → h.lg = true → (∀ p ∈ L, ∀ tm, Good (p.2.i F tm)) →
    ∀ {i j : Nat} {s t : St}, sts[i]? = some s → sts[j]? = some t → i < j → s.g.nx ≤ t.h.nx
  | [], _, _, _, _, _, ht, hl, hg, i, j, s, t, hs, hs', hij => by rw [ht.1] at hs; simp at hs
  | p :: L, _, _, _, _, _, ht, hl, hg, i, j, s, t, hs, hs', hij => by
    obtain ⟨v, g, r, rfl, h1, h2⟩ := ht
    cases j with
    | zero => omega
    | succ j =>
      have ht' : r[j]? = some t := by simpa using hs'
      cases i with
      | zero =>
        simp at hs; subst hs
        exact (h2.grows rfl (fun q hq => hg q (List.mem_cons_of_mem _ hq)) ht').1
      | succ i => exact h2.order rfl (fun q hq => hg q (List.mem_cons_of_mem _ hq)) (by simpa using hs) ht' (by omega)

theorem Trace.blocks {F : CallF} : ∀ {L : List (Oper × Ins)} {tm : Tm} {h : H} {sts : List St} {tm' : Tm} {h' : H}, Trace F L tm h sts tm' h' → h.lg = true → h.log = [] → (∀ p ∈ L, ∀ tm, Good (p.2.i F tm)) →
    Chained WB (fun (s : St) (b : Nat) => s.g.at b) (fun (s : St) (b : Nat) => s.h.at b) (fun (s : St) (b : Nat) => s.g.at b) sts (fun b => h.at b) (fun b => h'.at b)
  | [], _, _, _, _, _, ht, hl, hl', hg => by obtain ⟨rfl, rfl, rfl⟩ := ht; exact fun b => rfl
  | p :: L, _, _, _, _, _, ht, hl, hl', hg => by
    obtain ⟨v, g, r, rfl, h1, h2⟩ := ht
    obtain ⟨l1, e1, hl1, n1, b1, u1, _⟩ := (hg p List.mem_cons_self _).loc _ v g h1 hl
    refine ⟨fun b => rfl, fun b _ => rfl, fun b hw => ?_, h2.blocks rfl rfl (fun q hq => hg q (List.mem_cons_of_mem _ hq))⟩
    rw [hl', List.append_nil] at e1
    refine u1 b (fun hm => hw (.inl ?_)) (fun hm => hw (.inr hm))
    show (b, true) ∈ g.log
    rw [e1]; exact hm

noncomputable def tmAt (w : Nat) (tm : Tm) (t : Nat) : Option V := if t < lim w then tm.get (path w t) else none
def WT (s : St) (t : Nat) : Prop := s.o.dst = some t
theorem tmAt_put {w nt : Nat} (hn : nt ≤ lim w) {tm : Tm} {o : Oper} {io : Ins} (hd : io.dst = o.dst.map (path w)) (hl : ∀ d, o.dst = some d → d < nt) (v : V) (t : Nat) :
    (o.dst = some t → tmAt w (putD tm io.dst v) t = some v) ∧ (¬ o.dst = some t → tmAt w (putD tm io.dst v) t = tmAt w tm t) := by
  rw [hd]
  cases ho : o.dst with
  | none => exact ⟨fun h => (nomatch h), fun _ => rfl⟩
  | some d =>
    have hdl : d < lim w := Nat.lt_of_lt_of_le (hl d ho) hn
    constructor
    · intro e
      simp only [Option.some.injEq] at e
      subst e
      unfold tmAt
      rw [if_pos hdl]
      show (Tp.put v (path w d) tm).get (path w d) = _
      rw [Tp.get_put _ _ _ _, if_pos rfl]
    · intro e
      unfold tmAt
      by_cases ht : t < lim w
      · rw [if_pos ht, if_pos ht]
        show (Tp.put v (path w d) tm).get (path w t) = _
        rw [Tp.get_put _ _ _ _, if_neg (fun hp => e (by rw [path_inj w t d ht hdl hp]))]
      · rw [if_neg ht, if_neg ht]
theorem Trace.temps {F : CallF} {w nt : Nat} (hn : nt ≤ lim w) : ∀ {L : List (Oper × Ins)} {tm : Tm} {h : H} {sts : List St} {tm' : Tm} {h' : H}, Trace F L tm h sts tm' h' → (∀ p ∈ L, p.2.dst = p.1.dst.map (path w) ∧ ∀ d, p.1.dst = some d → d < nt) →
    Chained WT (fun (s : St) (_ : Nat) => some s.v) (fun (s : St) (t : Nat) => tmAt w s.tm t) (fun (s : St) (t : Nat) => tmAt w (putD s.tm s.io.dst s.v) t) sts (tmAt w tm) (tmAt w tm')
  | [], _, _, _, _, _, ht, hd => by obtain ⟨rfl, rfl, rfl⟩ := ht; exact fun b => rfl
  | p :: L, _, _, _, _, _, ht, hd => by
    obtain ⟨v, g, r, rfl, h1, h2⟩ := ht
    obtain ⟨d1, d2⟩ := hd p List.mem_cons_self
    exact ⟨fun t => rfl, fun t ht => (tmAt_put hn d1 d2 v t).1 ht, fun t ht => (tmAt_put hn d1 d2 v t).2 ht, h2.temps hn (fun q hq => hd q (List.mem_cons_of_mem _ hq))⟩

/-! two operations that touch the same -/
theorem hits_of {b : Nat} {u w : Bool} : ∀ {y : List (Nat × Bool)}, (b, u) ∈ y → (w = true ∨ u = true) → hits b w y = true
  | [], h, _ => nomatch h
  | p :: y, h, hw => by
    show (Bool.rec (hits b w y) (Bool.rec (Bool.rec (hits b w y) true p.2) true w) (Nat.beq b p.1) : Bool) = true
    rcases List.mem_cons.1 h with rfl | h
    · rw [Nat.beq_refl]
      rcases hw with rfl | hw
      · rfl
      · dsimp only at hw ⊢
        rw [hw]; cases w <;> rfl
    · have := hits_of h hw
      rw [this]
      cases Nat.beq b p.1 <;> cases w <;> cases p.2 <;> rfl
theorem anyHit_of {y : List (Nat × Bool)} {b : Nat} {w : Bool} (hh : hits b w y = true) : ∀ {x : List (Nat × Bool)}, (b, w) ∈ x → anyHit y x = true
  | [], h => nomatch h
  | p :: x, h => by
    show (Bool.rec (anyHit y x) true (hits p.1 p.2 y) : Bool) = true
    rcases List.mem_cons.1 h with rfl | h
    · rw [hh]
    · rw [anyHit_of hh h]; cases hits p.1 p.2 y <;> rfl
theorem anyIn_of {b lo hi : Nat} {u : Bool} (h1 : lo ≤ b) (h2 : b < hi) : ∀ {y : List (Nat × Bool)}, (b, u) ∈ y → anyIn lo hi y = true
  | [], h => nomatch h
  | p :: y, h => by
    show (Bool.rec (anyIn lo hi y) (Bool.rec (anyIn lo hi y) true (Nat.ble (Nat.succ p.1) hi)) (Nat.ble lo p.1) : Bool) = true
    rcases List.mem_cons.1 h with rfl | h
    · rw [Nat.ble_eq_true_of_le h1, Nat.ble_eq_true_of_le (show Nat.succ b ≤ hi from h2)]
    · rw [anyIn_of h1 h2 h]; cases Nat.ble lo p.1 <;> cases Nat.ble (Nat.succ p.1) hi <;> rfl
theorem clash_of {x y : St} {b : Nat} (h : (WB x b ∧ ∃ u, (b, u) ∈ y.g.log) ∨ (TB x b ∧ (b, true) ∈ y.g.log)) : clash x.note y.note = true := by
  show (Bool.rec (anyIn x.h.nx x.g.nx y.g.log) true (anyHit y.g.log x.g.log) : Bool) = true
  have a1 : anyHit y.g.log x.g.log = true ∨ anyIn x.h.nx x.g.nx y.g.log = true := by
    rcases h with ⟨hw, u, hu⟩ | ⟨ht, hu⟩
    · rcases hw with hw | ⟨h1, h2⟩
      · exact .inl (anyHit_of (hits_of hu (.inl rfl)) hw)
      · exact .inr (anyIn_of h1 h2 hu)
    · rcases ht with ⟨u, ht⟩ | ⟨h1, h2⟩
      · exact .inl (anyHit_of (hits_of hu (.inr rfl)) ht)
      · exact .inr (anyIn_of h1 h2 hu)
  rcases a1 with h | h
  · rw [h]
  · rw [h]; cases anyHit y.g.log x.g.log <;> rfl
theorem noteAt_eq : ∀ (l : List Note) (n : Nat), noteAt l n = l[n]?
  | [], n => rfl
  | x :: l, 0 => rfl
  | x :: l, n + 1 => by show noteAt l n = _; rw [noteAt_eq l n]; simp
theorem pairsOk_mem {notes : List Note} {i j : Nat} {x y : Note} (hx : notes[i]? = some x) (hy : notes[j]? = some y) : ∀ {ps : List (Nat × Nat)}, pairsOk notes ps = true → (i, j) ∈ ps → clash x y = false
  | [], _, h => nomatch h
  | p :: ps, h, hm => by
    have h' : (Bool.rec false (pairsOk notes ps) (pairOk notes p) : Bool) = true := h
    have hp : pairOk notes p = true := by
      cases e : pairOk notes p with
      | true => rfl
      | false => rw [e] at h'; exact nomatch h'
    rw [hp] at h'
    rcases List.mem_cons.1 hm with rfl | hm
    · have hp' : (Option.rec false (fun x => Option.rec false (fun y => Bool.not (clash x y)) (noteAt notes j)) (noteAt notes i) : Bool) = true := hp
      rw [noteAt_eq, noteAt_eq, hx, hy] at hp'
      have hp2 : Bool.not (clash x y) = true := hp'
      simpa using hp2
    · exact pairsOk_mem hx hy h' hm
end Go.X
