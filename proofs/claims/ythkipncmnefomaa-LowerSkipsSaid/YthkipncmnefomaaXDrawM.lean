/- A text of the verified executor, of contracts, or of this law; joined and trimmed by a program of mine (wip/gen). -/
import Derived.Test.YthkipncmnefomaaXReg
set_option linter.unusedVariables false
set_option linter.unusedSimpArgs false
set_option linter.unusedSectionVars false
namespace Go.X
open Go.RowKit
variable [Nu]
/-! what a place holds when some steps are done, in the order of the text -/
universe u
section
variable {σ : Type u} {κ X : Type}
open Classical in
noncomputable def cur (S : Nat → Prop) (W : σ → κ → Prop) (val : σ → κ → X) : List σ → Nat → (κ → X) → κ → X
  | [], _, f, c => f c
  | s :: r, k, f, c => cur S W val r (k + 1) (fun c => if S k ∧ W s c then val s c else f c) c
theorem cur_congr {S S' : Nat → Prop} {W : σ → κ → Prop} {val : σ → κ → X} {c : κ} : ∀ (l : List σ) (k : Nat) (f f' : κ → X), (∀ i s, l[i]? = some s → W s c → (S (k + i) ↔ S' (k + i))) → f c = f' c → cur S W val l k f c = cur S' W val l k f' c
  | [], k, f, f', hS, hf => hf
  | s :: r, k, f, f', hS, hf => by
    refine cur_congr r (k + 1) _ _ (fun i s' h hw => by have := hS (i + 1) s' (by simpa using h) hw; rw [show k + 1 + i = k + (i + 1) from by omega]; exact this) ?_
    by_cases hw : W s c
    · have h0 := hS 0 s (by simp) hw
      rw [Nat.add_zero] at h0
      by_cases h1 : S k
      · rw [if_pos ⟨h1, hw⟩, if_pos ⟨h0.1 h1, hw⟩]
      · rw [if_neg (fun h => h1 h.1), if_neg (fun h => h1 (h0.2 h.1)), hf]
    · rw [if_neg (fun h => hw h.2), if_neg (fun h => hw h.2), hf]
theorem cur_none {S : Nat → Prop} {W : σ → κ → Prop} {val : σ → κ → X} {c : κ} : ∀ (l : List σ) (k : Nat) (f : κ → X), (∀ i s, l[i]? = some s → W s c → ¬ S (k + i)) → cur S W val l k f c = f c
  | [], k, f, hS => rfl
  | s :: r, k, f, hS => by
    show cur S W val r (k + 1) _ c = _
    rw [cur_none r (k + 1) _ (fun i s' h hw => by have := hS (i + 1) s' (by simpa using h) hw; rw [show k + 1 + i = k + (i + 1) from by omega]; exact this)]
    refine if_neg (fun h => ?_)
    have := hS 0 s (by simp) h.2
    exact this h.1
def Chained (W : σ → κ → Prop) (val pre post : σ → κ → X) : List σ → (κ → X) → (κ → X) → Prop
  | [], f, f' => ∀ c, f' c = f c
  | s :: r, f, f' => (∀ c, pre s c = f c) ∧ (∀ c, W s c → post s c = val s c) ∧ (∀ c, ¬ W s c → post s c = pre s c) ∧ Chained W val pre post r (post s) f'
section
variable {W : σ → κ → Prop} {val pre post : σ → κ → X} {c : κ}
open Classical in
theorem Chained.step {s : σ} {f : κ → X} (h1 : ∀ c, pre s c = f c) (h2 : ∀ c, W s c → post s c = val s c) (h3 : ∀ c, ¬ W s c → post s c = pre s c) {p : Prop} (hp : p) : (if p ∧ W s c then val s c else f c) = post s c := by
  by_cases hw : W s c
  · rw [if_pos ⟨hp, hw⟩, h2 c hw]
  · rw [if_neg (fun h => hw h.2), h3 c hw, h1 c]
theorem Chained.pre_at : ∀ {l : List σ} {f f' : κ → X} (k i : Nat) {s : σ}, Chained W val pre post l f f' → l[i]? = some s → cur (fun j => j < k + i) W val l k f c = pre s c
  | [], f, f', k, i, s, h, hs => by simp at hs
  | s0 :: r, f, f', k, 0, s, h, hs => by
    simp at hs
    subst hs
    rw [cur_none _ _ _ (fun i s' _ _ => by omega), h.1 c]
  | s0 :: r, f, f', k, i + 1, s, h, hs => by
    obtain ⟨h1, h2, h3, h4⟩ := h
    rw [← Chained.pre_at (k + 1) i h4 (by simpa using hs)]
    exact cur_congr r (k + 1) _ _ (fun i' s' _ _ => by omega) (Chained.step h1 h2 h3 (by omega))
theorem Chained.post_at : ∀ {l : List σ} {f f' : κ → X} (k i : Nat) {s : σ}, Chained W val pre post l f f' → l[i]? = some s → cur (fun j => j < k + i + 1) W val l k f c = post s c
  | [], f, f', k, i, s, h, hs => by simp at hs
  | s0 :: r, f, f', k, 0, s, h, hs => by
    simp at hs
    subst hs
    obtain ⟨h1, h2, h3, h4⟩ := h
    show cur _ W val r (k + 1) _ c = _
    rw [cur_none _ _ _ (fun i s' _ _ => by omega)]
    exact Chained.step h1 h2 h3 (by omega)
  | s0 :: r, f, f', k, i + 1, s, h, hs => by
    obtain ⟨h1, h2, h3, h4⟩ := h
    rw [← Chained.post_at (k + 1) i h4 (by simpa using hs)]
    exact cur_congr r (k + 1) _ _ (fun i' s' _ _ => by omega) (Chained.step h1 h2 h3 (by omega))
theorem Chained.all {S : Nat → Prop} : ∀ {l : List σ} {f f' : κ → X} (k : Nat), Chained W val pre post l f f' → (∀ j, k ≤ j → j < k + l.length → S j) → cur S W val l k f c = f' c
  | [], f, f', k, h, hS => (h c).symm
  | s0 :: r, f, f', k, h, hS => by
    obtain ⟨h1, h2, h3, h4⟩ := h
    rw [← Chained.all (k + 1) h4 (fun j h5 h6 => hS j (by omega) (by rw [List.length_cons]; omega))]
    exact cur_congr r (k + 1) _ _ (fun i' s' _ _ => Iff.rfl) (Chained.step h1 h2 h3 (hS k (Nat.le_refl _) (by rw [List.length_cons]; omega)))
end
end
/-! the steps of a region, as the text has them -/
structure St where
  o : Oper
  io : Ins
  tm : Tm
  h : H
  v : V
  g : H
def norm (h : H) : H := ⟨h.hp, h.nx, true, []⟩
def St.note (s : St) : Note := ⟨s.g.log, s.h.nx, s.g.nx⟩
def Trace (F : CallF) : List (Oper × Ins) → Tm → H → List St → Tm → H → Prop
  | [], tm, h, sts, tm', h' => sts = [] ∧ tm' = tm ∧ h' = h
  | p :: l, tm, h, sts, tm', h' => ∃ v g r, sts = ⟨p.1, p.2, tm, h, v, g⟩ :: r ∧ run (p.2.i F tm) h = some (v, g) ∧ Trace F l (putD tm p.2.dst v) (norm g) r tm' h'
theorem regionD_trace {F : CallF} {ps : List (Nat × Nat)} : ∀ (L : List (Oper × Ins)) (tm : Tm) (notes : List Note) (lo : Nat) (h : H) (tm' : Tm) (h' : H), (∀ p ∈ L, ∀ tm, Good (p.2.i F tm)) → lo = h.nx →
    run (regionD F ps (L.map (·.2)) tm notes lo) h = some (tm', h') → ∃ sts hf, Trace F L tm (norm h) sts tm' hf ∧ (∀ b, h'.at b = hf.at b) ∧ pairsOk (notes ++ sts.map St.note) ps = true
  | [], tm, notes, lo, h, tm', h', hg, hlo, hr => by
    have hr' : (Bool.rec none (some (tm, h)) (pairsOk notes ps) : Option (Tm × H)) = some (tm', h') := hr
    obtain ⟨h1, h2⟩ := (boolRec_some _ _ _).1 hr'
    simp only [Option.some.injEq, Prod.mk.injEq] at h2
    obtain ⟨rfl, rfl⟩ := h2
    exact ⟨[], norm h, ⟨rfl, rfl, rfl⟩, fun b => rfl, by simpa using h1⟩
  | p :: L, tm, notes, lo, h, tm', h', hg, hlo, hr => by
    have hgood := hg p List.mem_cons_self tm
    have hr' : run (fun R h K => logged (p.2.i F tm) R h fun r h1 => regionD F ps (L.map (·.2)) (putD tm p.2.dst r.1) (cat notes [⟨r.2.1, lo, r.2.2⟩]) r.2.2 R h1 K) h = some (tm', h') := hr
    obtain ⟨⟨v, lg, n⟩, h1, e1, e2⟩ := (Good.run_bind (k := fun r => regionD F ps (L.map (·.2)) (putD tm p.2.dst r.1) (cat notes [⟨r.2.1, lo, r.2.2⟩]) r.2.2) hgood.logged).1 hr'
    obtain ⟨g, e3, rfl, rfl, rfl⟩ := (run_logged hgood).1 e1
    obtain ⟨sts, hf, t1, t2, t3⟩ := regionD_trace L _ _ _ _ tm' h' (fun q hq => hg q (List.mem_cons_of_mem _ hq)) (by rfl) e2
    refine ⟨⟨p.1, p.2, tm, norm h, v, g⟩ :: sts, hf, ⟨v, g, sts, rfl, e3, t1⟩, t2, ?_⟩
    rw [List.map_cons]
    have : (⟨p.1, p.2, tm, norm h, v, g⟩ : St).note = ⟨g.log, lo, g.nx⟩ := by rw [hlo]; rfl
    rw [this]
    rw [cat_eq, List.append_assoc] at t3
    exact t3
theorem Trace.length {F : CallF} : ∀ {L : List (Oper × Ins)} {tm : Tm} {h : H} {sts : List St} {tm' : Tm} {h' : H}, Trace F L tm h sts tm' h' → sts.length = L.length
  | [], _, _, _, _, _, ht => by rw [ht.1]; rfl
  | p :: L, _, _, _, _, _, ht => by obtain ⟨v, g, r, rfl, _, h2⟩ := ht; simp [h2.length]
theorem Trace.at {F : CallF} : ∀ {L : List (Oper × Ins)} {tm : Tm} {h : H} {sts : List St} {tm' : Tm} {h' : H}, Trace F L tm h sts tm' h' → h.lg = true → h.log = [] → ∀ {i : Nat} {s : St}, sts[i]? = some s →
    L[i]? = some (s.o, s.io) ∧ run (s.io.i F s.tm) s.h = some (s.v, s.g) ∧ s.h.lg = true ∧ s.h.log = []
  | [], _, _, _, _, _, ht, hl, hl', i, s, hs => by rw [ht.1] at hs; simp at hs
  | p :: L, _, _, _, _, _, ht, hl, hl', i, s, hs => by
    obtain ⟨v, g, r, rfl, h1, h2⟩ := ht
    cases i with
    | zero => simp at hs; subst hs; exact ⟨rfl, h1, hl, hl'⟩
    | succ i =>
      have hs' : r[i]? = some s := by simpa using hs
      have := h2.at rfl rfl hs'
      simpa using this
def WB (s : St) (b : Nat) : Prop := (b, true) ∈ s.g.log ∨ (s.h.nx ≤ b ∧ b < s.g.nx)
def TB (s : St) (b : Nat) : Prop := (∃ u, (b, u) ∈ s.g.log) ∨ (s.h.nx ≤ b ∧ b < s.g.nx)
theorem Trace.grows {F : CallF} : ∀ {L : List (Oper × Ins)} {tm : Tm} {h : H} {sts : List St} {tm' : Tm} {h' : H}, Trace F L tm h sts tm' h' → h.lg = true → (∀ p ∈ L, ∀ tm, Good (p.2.i F tm)) →
    ∀ {i : Nat} {s : St}, sts[i]? = some s → h.nx ≤ s.h.nx ∧ s.h.nx ≤ s.g.nx
  | [], _, _, _, _, _, ht, hl, hg, i, s, hs => by rw [ht.1] at hs; simp at hs
  | p :: L, _, _, _, _, _, ht, hl, hg, i, s, hs => by
    obtain ⟨v, g, r, rfl, h1, h2⟩ := ht
    obtain ⟨l1, e1, hl1, n1, _⟩ := (hg p List.mem_cons_self _).loc _ v g h1 hl
    cases i with
    | zero => simp at hs; subst hs; exact ⟨Nat.le_refl _, n1⟩
    | succ i =>
      have hs' : r[i]? = some s := by simpa using hs
      obtain ⟨q1, q2⟩ := h2.grows rfl (fun q hq => hg q (List.mem_cons_of_mem _ hq)) hs'
      exact ⟨Nat.le_trans n1 q1, q2⟩
theorem Trace.order {F : CallF} : ∀ {L : List (Oper × Ins)} {tm : Tm} {h : H} {sts : List St} {tm' : Tm} {h' : H}, Trace F L tm h sts tm' h' → h.lg = true → (∀ p ∈ L, ∀ tm, Good (p.2.i F tm)) →
    ∀ {i j : Nat} {s t : St}, sts[i]? = some s → sts[j]? = some t → i < j → s.g.nx ≤ t.h.nx
  | [], _, _, _, _, _, ht, hl, hg, i, j, s, t, hs, hs', hij => by rw [ht.1] at hs; simp at hs
  | p :: L, _, _, _, _, _, ht, hl, hg, i, j, s, t, hs, hs', hij => by
    obtain ⟨v, g, r, rfl, h1, h2⟩ := ht
    cases j with
    | zero => omega
    | succ j =>
      have ht' : r[j]? = some t := by simpa using hs'
      cases i with
      | zero =>
        simp at hs; subst hs
        exact (h2.grows rfl (fun q hq => hg q (List.mem_cons_of_mem _ hq)) ht').1
      | succ i => exact h2.order rfl (fun q hq => hg q (List.mem_cons_of_mem _ hq)) (by simpa using hs) ht' (by omega)
theorem Trace.blocks {F : CallF} : ∀ {L : List (Oper × Ins)} {tm : Tm} {h : H} {sts : List St} {tm' : Tm} {h' : H}, Trace F L tm h sts tm' h' → h.lg = true → h.log = [] → (∀ p ∈ L, ∀ tm, Good (p.2.i F tm)) →
    Chained WB (fun (s : St) (b : Nat) => s.g.at b) (fun (s : St) (b : Nat) => s.h.at b) (fun (s : St) (b : Nat) => s.g.at b) sts (fun b => h.at b) (fun b => h'.at b)
  | [], _, _, _, _, _, ht, hl, hl', hg => by obtain ⟨rfl, rfl, rfl⟩ := ht; exact fun b => rfl
  | p :: L, _, _, _, _, _, ht, hl, hl', hg => by
    obtain ⟨v, g, r, rfl, h1, h2⟩ := ht
    obtain ⟨l1, e1, hl1, n1, b1, u1, _⟩ := (hg p List.mem_cons_self _).loc _ v g h1 hl
    refine ⟨fun b => rfl, fun b _ => rfl, fun b hw => ?_, h2.blocks rfl rfl (fun q hq => hg q (List.mem_cons_of_mem _ hq))⟩
    rw [hl', List.append_nil] at e1
    refine u1 b (fun hm => hw (.inl ?_)) (fun hm => hw (.inr hm))
    show (b, true) ∈ g.log
    rw [e1]; exact hm
noncomputable def tmAt (w : Nat) (tm : Tm) (t : Nat) : Option V := if t < lim w then tm.get (path w t) else none
def WT (s : St) (t : Nat) : Prop := s.o.dst = some t
theorem tmAt_put {w nt : Nat} (hn : nt ≤ lim w) {tm : Tm} {o : Oper} {io : Ins} (hd : io.dst = o.dst.map (path w)) (hl : ∀ d, o.dst = some d → d < nt) (v : V) (t : Nat) :
    (o.dst = some t → tmAt w (putD tm io.dst v) t = some v) ∧ (¬ o.dst = some t → tmAt w (putD tm io.dst v) t = tmAt w tm t) := by
  rw [hd]
  cases ho : o.dst with
  | none => exact ⟨fun h => (nomatch h), fun _ => rfl⟩
  | some d =>
    have hdl : d < lim w := Nat.lt_of_lt_of_le (hl d ho) hn
    constructor
    · intro e
      simp only [Option.some.injEq] at e
      subst e
      unfold tmAt
      rw [if_pos hdl]
      show (Tp.put v (path w d) tm).get (path w d) = _
      rw [Tp.get_put _ _ _ _, if_pos rfl]
    · intro e
      unfold tmAt
      by_cases ht : t < lim w
      · rw [if_pos ht, if_pos ht]
        show (Tp.put v (path w d) tm).get (path w t) = _
        rw [Tp.get_put _ _ _ _, if_neg (fun hp => e (by rw [path_inj w t d ht hdl hp]))]
      · rw [if_neg ht, if_neg ht]
theorem Trace.temps {F : CallF} {w nt : Nat} (hn : nt ≤ lim w) : ∀ {L : List (Oper × Ins)} {tm : Tm} {h : H} {sts : List St} {tm' : Tm} {h' : H}, Trace F L tm h sts tm' h' → (∀ p ∈ L, p.2.dst = p.1.dst.map (path w) ∧ ∀ d, p.1.dst = some d → d < nt) →
    Chained WT (fun (s : St) (_ : Nat) => some s.v) (fun (s : St) (t : Nat) => tmAt w s.tm t) (fun (s : St) (t : Nat) => tmAt w (putD s.tm s.io.dst s.v) t) sts (tmAt w tm) (tmAt w tm')
  | [], _, _, _, _, _, ht, hd => by obtain ⟨rfl, rfl, rfl⟩ := ht; exact fun b => rfl
  | p :: L, _, _, _, _, _, ht, hd => by
    obtain ⟨v, g, r, rfl, h1, h2⟩ := ht
    obtain ⟨d1, d2⟩ := hd p List.mem_cons_self
    exact ⟨fun t => rfl, fun t ht => (tmAt_put hn d1 d2 v t).1 ht, fun t ht => (tmAt_put hn d1 d2 v t).2 ht, h2.temps hn (fun q hq => hd q (List.mem_cons_of_mem _ hq))⟩
/-! two operations that touch the same -/
theorem hits_of {b : Nat} {u w : Bool} : ∀ {y : List (Nat × Bool)}, (b, u) ∈ y → (w = true ∨ u = true) → hits b w y = true
  | [], h, _ => nomatch h
  | p :: y, h, hw => by
    show (Bool.rec (hits b w y) (Bool.rec (Bool.rec (hits b w y) true p.2) true w) (Nat.beq b p.1) : Bool) = true
    rcases List.mem_cons.1 h with rfl | h
    · rw [Nat.beq_refl]
      rcases hw with rfl | hw
      · rfl
      · dsimp only at hw ⊢
        rw [hw]; cases w <;> rfl
    · have := hits_of h hw
      rw [this]
      cases Nat.beq b p.1 <;> cases w <;> cases p.2 <;> rfl
theorem anyHit_of {y : List (Nat × Bool)} {b : Nat} {w : Bool} (hh : hits b w y = true) : ∀ {x : List (Nat × Bool)}, (b, w) ∈ x → anyHit y x = true
  | [], h => nomatch h
  | p :: x, h => by
    show (Bool.rec (anyHit y x) true (hits p.1 p.2 y) : Bool) = true
    rcases List.mem_cons.1 h with rfl | h
    · rw [hh]
    · rw [anyHit_of hh h]; cases hits p.1 p.2 y <;> rfl
theorem anyIn_of {b lo hi : Nat} {u : Bool} (h1 : lo ≤ b) (h2 : b < hi) : ∀ {y : List (Nat × Bool)}, (b, u) ∈ y → anyIn lo hi y = true
  | [], h => nomatch h
  | p :: y, h => by
    show (Bool.rec (anyIn lo hi y) (Bool.rec (anyIn lo hi y) true (Nat.ble (Nat.succ p.1) hi)) (Nat.ble lo p.1) : Bool) = true
    rcases List.mem_cons.1 h with rfl | h
    · rw [Nat.ble_eq_true_of_le h1, Nat.ble_eq_true_of_le (show Nat.succ b ≤ hi from h2)]
    · rw [anyIn_of h1 h2 h]; cases Nat.ble lo p.1 <;> cases Nat.ble (Nat.succ p.1) hi <;> rfl
theorem clash_of {x y : St} {b : Nat} (h : (WB x b ∧ ∃ u, (b, u) ∈ y.g.log) ∨ (TB x b ∧ (b, true) ∈ y.g.log)) : clash x.note y.note = true := by
  show (Bool.rec (anyIn x.h.nx x.g.nx y.g.log) true (anyHit y.g.log x.g.log) : Bool) = true
  have a1 : anyHit y.g.log x.g.log = true ∨ anyIn x.h.nx x.g.nx y.g.log = true := by
    rcases h with ⟨hw, u, hu⟩ | ⟨ht, hu⟩
    · rcases hw with hw | ⟨h1, h2⟩
      · exact .inl (anyHit_of (hits_of hu (.inl rfl)) hw)
      · exact .inr (anyIn_of h1 h2 hu)
    · rcases ht with ⟨u, ht⟩ | ⟨h1, h2⟩
      · exact .inl (anyHit_of (hits_of hu (.inr rfl)) ht)
      · exact .inr (anyIn_of h1 h2 hu)
  rcases a1 with h | h
  · rw [h]
  · rw [h]; cases anyHit y.g.log x.g.log <;> rfl
theorem noteAt_eq : ∀ (l : List Note) (n : Nat), noteAt l n = l[n]?
  | [], n => rfl
  | x :: l, 0 => rfl
  | x :: l, n + 1 => by show noteAt l n = _; rw [noteAt_eq l n]; simp
theorem pairsOk_mem {notes : List Note} {i j : Nat} {x y : Note} (hx : notes[i]? = some x) (hy : notes[j]? = some y) : ∀ {ps : List (Nat × Nat)}, pairsOk notes ps = true → (i, j) ∈ ps → clash x y = false
  | [], _, h => nomatch h
  | p :: ps, h, hm => by
    have h' : (Bool.rec false (pairsOk notes ps) (pairOk notes p) : Bool) = true := h
    have hp : pairOk notes p = true := by
      cases e : pairOk notes p with
      | true => rfl
      | false => rw [e] at h'; exact nomatch h'
    rw [hp] at h'
    rcases List.mem_cons.1 hm with rfl | hm
    · have hp' : (Option.rec false (fun x => Option.rec false (fun y => Bool.not (clash x y)) (noteAt notes j)) (noteAt notes i) : Bool) = true := hp
      rw [noteAt_eq, noteAt_eq, hx, hy] at hp'
      have hp2 : Bool.not (clash x y) = true := hp'
      simpa using hp2
    · exact pairsOk_mem hx hy h' hm
end Go.X
namespace Go.X
open Go.RowKit
variable [Nu]
/-! what must come before -/
theorem ancFold_bit {done : List Nat} {i : Nat} : ∀ (l : List Edge) (s0 : Nat), (l.foldl (fun s e => if Region.binds .any e then s ||| (1 <<< e.on) ||| (done.getD e.on 0) else s) s0).testBit i = true →
    s0.testBit i = true ∨ ∃ e ∈ l, Region.binds .any e = true ∧ (i = e.on ∨ (done.getD e.on 0).testBit i = true)
  | [], s0, h => .inl h
  | e :: l, s0, h => by
    rw [List.foldl_cons] at h
    rcases ancFold_bit l _ h with h | ⟨e', h1, h2, h3⟩
    · by_cases hb : Region.binds .any e = true
      · rw [if_pos hb, Nat.testBit_or, Nat.testBit_or, Bool.or_eq_true, Bool.or_eq_true] at h
        rcases h with (h | h) | h
        · exact .inl h
        · rw [Nat.one_shiftLeft, Nat.testBit_two_pow] at h
          exact .inr ⟨e, List.mem_cons_self, hb, .inl (by simpa using (of_decide_eq_true h).symm)⟩
        · exact .inr ⟨e, List.mem_cons_self, hb, .inr h⟩
      · rw [if_neg hb] at h; exact .inl h
    · exact .inr ⟨e', List.mem_cons_of_mem _ h1, h2, h3⟩
theorem ancOf_bit {done : List Nat} {o : Oper} {i : Nat} (h : (ancOf done o).testBit i = true) : ∃ e ∈ o.after, Region.binds .any e = true ∧ (i = e.on ∨ (done.getD e.on 0).testBit i = true) := by
  rcases ancFold_bit _ _ h with h | ⟨e, h1, h2, h3⟩
  · simp at h
  · exact ⟨e, by simpa using h1, h2, h3⟩
theorem ancs_pre : ∀ (r : List Oper) (done : List Nat), ∃ X, ancs r done = done ++ X ∧ X.length = r.length
  | [], done => ⟨[], by simp [ancs], rfl⟩
  | o :: r, done => by
    obtain ⟨X, h1, h2⟩ := ancs_pre r (done ++ [ancOf done o])
    exact ⟨ancOf done o :: X, by rw [ancs, h1]; simp, by simp [h2]⟩
theorem ancs_get : ∀ (r : List Oper) (done : List Nat) (j : Nat) (o : Oper), r[j]? = some o → (ancs r done).getD (done.length + j) 0 = ancOf ((ancs r done).take (done.length + j)) o
  | [], done, j, o, h => by simp at h
  | p :: r, done, 0, o, h => by
    simp at h
    subst h
    obtain ⟨X, h1, h2⟩ := ancs_pre r (done ++ [ancOf done p])
    rw [ancs, h1]
    simp
  | p :: r, done, j + 1, o, h => by
    have := ancs_get r (done ++ [ancOf done p]) j o (by simpa using h)
    rw [List.length_append, List.length_singleton] at this
    rw [ancs, show done.length + (j + 1) = done.length + 1 + j from by omega]
    exact this
theorem anc_closed {ops : List Oper} {S : Nat → Prop} (hc : ∀ j o, ops[j]? = some o → S j → ∀ e ∈ o.after, Region.binds .any e = true → S e.on) {i : Nat} : ∀ (n j : Nat), j < n → ∀ o, ops[j]? = some o →
    (∀ e ∈ o.after, Region.binds .any e = true → S e.on) → ((ancs ops []).getD j 0).testBit i = true → S i
  | 0, j, hj, o, ho, ha, hb => by omega
  | n + 1, j, hj, o, ho, ha, hb => by
    have hg := ancs_get ops [] j o ho
    rw [List.length_nil, Nat.zero_add] at hg
    rw [hg] at hb
    obtain ⟨e, h1, h2, h3⟩ := ancOf_bit hb
    rcases h3 with rfl | h3
    · exact ha e h1 h2
    · have hlen : (ancs ops []).length = ops.length := by obtain ⟨X, q1, q2⟩ := ancs_pre ops []; rw [q1]; simpa using q2
      have hjl : j < ops.length := (List.getElem?_eq_some_iff.1 ho).1
      have hlt : e.on < j := by
        rcases Nat.lt_or_ge e.on j with hh | hh
        · exact hh
        · have : ((ancs ops []).take j).getD e.on 0 = 0 := by
            rw [List.getD_eq_getElem?_getD, List.getElem?_eq_none (by simp; omega)]; rfl
          rw [this] at h3; simp at h3
      have heq : ((ancs ops []).take j).getD e.on 0 = (ancs ops []).getD e.on 0 := by
        rw [List.getD_eq_getElem?_getD, List.getD_eq_getElem?_getD, List.getElem?_take_of_lt hlt]
      rw [heq] at h3
      have hol : e.on < ops.length := by omega
      have hoo : ops[e.on]? = some ops[e.on] := List.getElem?_eq_getElem hol
      exact anc_closed hc n e.on (by omega) _ hoo (hc e.on _ hoo (ha e h1 h2)) h3
theorem mem_zipIdx {ops : List Oper} {i : Nat} {o : Oper} (h : ops[i]? = some o) : (o, i) ∈ ops.zipIdx := List.mk_mem_zipIdx_iff_getElem?.2 h
theorem drawOk_back {ops : List Oper} (h : drawOk ops = true) {i : Nat} {o : Oper} (ho : ops[i]? = some o) {e : Edge} (he : e ∈ o.after) (hb : Region.binds .any e = true) : e.on < i := by
  unfold drawOk at h
  rw [Bool.and_eq_true] at h
  have h1 := List.all_eq_true.1 h.1 _ (mem_zipIdx ho)
  have h2 := List.all_eq_true.1 h1 e (by simpa using he)
  rw [hb] at h2
  simpa using h2
theorem drawOk_dst {ops : List Oper} (h : drawOk ops = true) {i j : Nat} {o p : Oper} {d : Nat} (ho : ops[i]? = some o) (hp : ops[j]? = some p) (hd : p.dst = some d) (hne : i ≠ j) (hu : o.dst = some d ∨ d ∈ usesOf ops o) :
    ((ancs ops []).getD (Nat.max i j) 0).testBit (Nat.min i j) = true := by
  unfold drawOk at h
  rw [Bool.and_eq_true] at h
  have h1 := List.all_eq_true.1 h.2 _ (mem_zipIdx ho)
  have h2 := List.all_eq_true.1 h1 _ (mem_zipIdx hp)
  dsimp only at h2
  rw [hd] at h2
  dsimp only at h2
  rw [Bool.or_eq_true, Bool.or_eq_true] at h2
  rcases h2 with (h2 | h2) | h2
  · exact absurd (by simpa using h2) hne
  · have h3 : (o.dst == some d || (usesOf ops o).contains d) = true := by
      rcases hu with hu | hu
      · rw [hu]; simp
      · rw [Bool.or_eq_true]; exact .inr (by simpa using hu)
    rw [h3] at h2; exact nomatch h2
  · exact h2
theorem pairs_mem {ops : List Oper} {i j : Nat} {o p : Oper} (hp : ops[i]? = some p) (ho : ops[j]? = some o) (hij : i < j) (tp : touches p.op = true) (to : touches o.op = true) (hb : ¬ ((ancs ops []).getD j 0).testBit i = true) : (i, j) ∈ pairs ops := by
  unfold pairs
  refine List.mem_flatten.2 ⟨pairsFrom ops j ((ancs ops []).getD j 0), List.mem_map.2 ⟨(o, j), mem_zipIdx ho, by dsimp only; rw [if_pos to]⟩, ?_⟩
  unfold pairsFrom
  refine List.mem_map.2 ⟨(p, i), List.mem_filter.2 ⟨mem_zipIdx hp, ?_⟩, rfl⟩
  simp only [Bool.and_eq_true, decide_eq_true_eq, Bool.not_eq_true']
  exact ⟨⟨hij, tp⟩, by simpa using hb⟩
theorem WB.tb {s : St} {b : Nat} (h : WB s b) : TB s b := by
  rcases h with h | h
  · exact .inl ⟨true, h⟩
  · exact .inr h
structure DR (Γ : Cx) (w nt : Nat) (ops : Array Oper) (F : CallF) (L : List (Oper × Ins)) (tm : Tm) (h : H) (sts : List St) (tm' : Tm) (hf : H) : Prop where
  tr : Trace F L tm h sts tm' hf
  lg : h.lg = true
  log : h.log = []
  each : ∀ (i : Nat) (o : Oper) (io : Ins), L[i]? = some (o, io) → ops[i]? = some o ∧ OperOK Γ w nt ops o io
  len : L.length = ops.size
  good : ∀ p ∈ L, ∀ tm, Good (p.2.i F tm)
  dr : drawOk ops.toList = true
  ps : pairsOk (sts.map St.note) (pairs ops.toList) = true
section
variable {Γ : Cx} {w nt : Nat} {ops : Array Oper} {F : CallF} {L : List (Oper × Ins)} {tm : Tm} {h : H} {sts : List St} {tm' : Tm} {hf : H} (D : DR Γ w nt ops F L tm h sts tm' hf)
include D
theorem DR.at {i : Nat} {s : St} (hs : sts[i]? = some s) : ops.toList[i]? = some s.o ∧ OperOK Γ w nt ops s.o s.io ∧ run (s.io.i F s.tm) s.h = some (s.v, s.g) ∧ s.h.lg = true ∧ s.h.log = [] ∧ Good (s.io.i F s.tm) := by
  obtain ⟨h1, h2, h3, h4⟩ := D.tr.at D.lg D.log hs
  obtain ⟨h5, h6⟩ := D.each i _ _ h1
  exact ⟨by rw [← h5]; simp, h6, h2, h3, h4, D.good _ (List.mem_of_getElem? h1) _⟩
theorem DR.touch {i : Nat} {s : St} (hs : sts[i]? = some s) {b : Nat} (ht : TB s b) : touches s.o.op = true := by
  obtain ⟨_, h1, h2, h3, h4, _⟩ := D.at hs
  cases e : touches s.o.op with
  | true => rfl
  | false =>
    have := (h1.calm e F s.tm).stays h2
    rcases ht with ⟨u, hu⟩ | hu
    · rw [this, h4] at hu; exact nomatch hu
    · rw [this] at hu; omega
theorem DR.below {i : Nat} {s : St} (hs : sts[i]? = some s) {b : Nat} (ht : TB s b) : b < s.g.nx := by
  obtain ⟨_, h1, h2, h3, h4, h5⟩ := D.at hs
  obtain ⟨l1, e1, hl1, n1, b1, _⟩ := h5.loc _ _ _ h2 h3
  rw [h4, List.append_nil] at e1
  rcases ht with ⟨u, hu⟩ | hu
  · rw [e1] at hu; exact b1 b u hu
  · exact hu.2
structure Closed (ops : Array Oper) (S : Nat → Prop) : Prop where
  closed : ∀ j o, ops.toList[j]? = some o → S j → ∀ e ∈ o.after, Region.binds .any e = true → S e.on
theorem DR.before {S : Nat → Prop} (hc : Closed ops S) {i : Nat} {s : St} (hs : sts[i]? = some s) (hr : ∀ e ∈ s.o.after, Region.binds .any e = true → S e.on) {j : Nat} (hb : ((ancs ops.toList []).getD i 0).testBit j = true) : S j :=
  anc_closed hc.closed (i + 1) i (Nat.lt_succ_self i) s.o (D.at hs).1 hr hb
theorem DR.key {S : Nat → Prop} (hc : Closed ops S) {i j : Nat} {s t : St} (hs : sts[i]? = some s) (hr : ∀ e ∈ s.o.after, Region.binds .any e = true → S e.on) (hi : ¬ S i) (ht : sts[j]? = some t) (hne : j ≠ i) {b : Nat} (htb : TB s b) (hwb : WB t b) : S j ↔ j < i := by
  obtain ⟨o1, _, _, _, _, _⟩ := D.at hs
  obtain ⟨o2, _, _, _, _, _⟩ := D.at ht
  have n1 : (sts.map St.note)[i]? = some s.note := by rw [List.getElem?_map, hs]; rfl
  have n2 : (sts.map St.note)[j]? = some t.note := by rw [List.getElem?_map, ht]; rfl
  rcases Nat.lt_or_ge j i with hji | hji
  · refine ⟨fun _ => hji, fun _ => ?_⟩
    have hord := D.tr.order D.lg D.good ht hs hji
    have hlow := D.below ht hwb.tb
    have hlog : ∃ u, (b, u) ∈ s.g.log := by
      rcases htb with h | h
      · exact h
      · omega
    have hcl : clash t.note s.note = true := clash_of (.inl ⟨hwb, hlog⟩)
    by_cases hb : ((ancs ops.toList []).getD i 0).testBit j = true
    · exact D.before hc hs hr hb
    · have := pairsOk_mem n2 n1 D.ps (pairs_mem o2 o1 hji (D.touch ht hwb.tb) (D.touch hs htb) hb)
      rw [hcl] at this; exact nomatch this
  · have hij : i < j := by omega
    refine ⟨fun hSj => ?_, fun h => by omega⟩
    exfalso
    have hord := D.tr.order D.lg D.good hs ht hij
    have hlow := D.below hs htb
    have hlog : (b, true) ∈ t.g.log := by
      rcases hwb with h | h
      · exact h
      · omega
    have hcl : clash s.note t.note = true := clash_of (.inr ⟨htb, hlog⟩)
    by_cases hb : ((ancs ops.toList []).getD j 0).testBit i = true
    · exact hi (D.before hc ht (hc.closed j t.o o2 hSj) hb)
    · have := pairsOk_mem n1 n2 D.ps (pairs_mem o1 o2 hij (D.touch hs htb) (D.touch ht hwb.tb) hb)
      rw [hcl] at this; exact nomatch this
theorem DR.keyT {S : Nat → Prop} (hc : Closed ops S) {i j : Nat} {s t : St} (hs : sts[i]? = some s) (hr : ∀ e ∈ s.o.after, Region.binds .any e = true → S e.on) (hi : ¬ S i) (ht : sts[j]? = some t) (hne : j ≠ i) {d : Nat}
    (hu : s.o.dst = some d ∨ d ∈ usesOf ops.toList s.o) (hd : t.o.dst = some d) : S j ↔ j < i := by
  obtain ⟨o1, _, _, _, _, _⟩ := D.at hs
  obtain ⟨o2, _, _, _, _, _⟩ := D.at ht
  have hb := drawOk_dst D.dr o1 o2 hd (Ne.symm hne) hu
  rcases Nat.lt_or_ge j i with hji | hji
  · rw [show Nat.max i j = i from Nat.max_eq_left (Nat.le_of_lt hji), show Nat.min i j = j from Nat.min_eq_right (Nat.le_of_lt hji)] at hb
    exact ⟨fun _ => hji, fun _ => D.before hc hs hr hb⟩
  · have hij : i < j := by omega
    rw [show Nat.max i j = j from Nat.max_eq_right (Nat.le_of_lt hij), show Nat.min i j = i from Nat.min_eq_left (Nat.le_of_lt hij)] at hb
    exact ⟨fun hSj => absurd (D.before hc ht (hc.closed j t.o o2 hSj) hb) hi, fun h => by omega⟩
noncomputable def blkAt (h : H) (sts : List St) (S : Nat → Prop) (b : Nat) : Option Blk := cur S WB (fun (s : St) (b : Nat) => s.g.at b) sts 0 (fun b => h.at b) b
noncomputable def tempAt (w : Nat) (tm : Tm) (sts : List St) (S : Nat → Prop) (t : Nat) : Option V := cur S WT (fun (s : St) (_ : Nat) => some s.v) sts 0 (tmAt w tm) t
theorem DR.step (hn : nt ≤ lim w) {S : Nat → Prop} (hc : Closed ops S) {i : Nat} {s : St} (hs : sts[i]? = some s) (hr : ∀ e ∈ s.o.after, Region.binds .any e = true → S e.on) (hi : ¬ S i) {gS : H} {tmS : Tm}
    (hg : ∀ b, gS.at b = blkAt h sts S b) (ht : ∀ t, tmAt w tmS t = tempAt w tm sts S t) :
    ∃ g', run (s.io.i F tmS) ⟨gS.hp, s.h.nx, true, []⟩ = some (s.v, g') ∧ (∀ b, g'.at b = blkAt h sts (fun j => S j ∨ j = i) b) ∧ (∀ t, tmAt w (putD tmS s.io.dst s.v) t = tempAt w tm sts (fun j => S j ∨ j = i) t) := by
  obtain ⟨o1, hok, hrun, hlg, hlog, hgood⟩ := D.at hs
  have hchB := D.tr.blocks D.lg D.log D.good
  have hchT := D.tr.temps hn (fun p hp => by
    obtain ⟨k, hk⟩ := List.getElem?_of_mem hp
    have := (D.each k p.1 p.2 hk).2
    exact ⟨this.dst, this.low⟩)
  have hcong : s.io.i F tmS = s.io.i F s.tm := hok.cong tmS s.tm (fun t hu hl => by
    have h1 := ht t
    have h2 : tempAt w tm sts S t = tmAt w s.tm t := by
      rw [← hchT.pre_at 0 i hs]
      refine cur_congr sts 0 _ _ (fun j t' hj hw => ?_) rfl
      rw [Nat.zero_add, Nat.zero_add]
      by_cases hji : j = i
      · subst hji; exact ⟨fun hh => absurd hh hi, fun hh => by omega⟩
      · exact D.keyT hc hs hr hi hj hji (.inr hu) hw
    rw [h2] at h1
    unfold tmAt at h1
    rw [if_pos hl, if_pos hl] at h1
    exact h1) F
  obtain ⟨l1, e1, hl1, n1, b1, u1, hrep⟩ := hgood.loc _ _ _ hrun hlg
  rw [hlog, List.append_nil] at e1
  subst e1
  have hagree : ∀ b, TB s b → gS.at b = s.h.at b := fun b hb => by
    rw [hg b, ← hchB.pre_at (c := b) 0 i hs]
    refine cur_congr sts 0 _ _ (fun j t' hj hw => ?_) rfl
    rw [Nat.zero_add, Nat.zero_add]
    by_cases hji : j = i
    · subst hji; exact ⟨fun hh => absurd hh hi, fun hh => by omega⟩
    · exact D.key hc hs hr hi hj hji hb hw
  obtain ⟨g', q1, q2, q3, q4, q5, q6⟩ := hrep ⟨gS.hp, s.h.nx, true, []⟩ rfl rfl (fun b u hm _ => hagree b (.inl ⟨u, hm⟩)) (fun b h1 h2 => hagree b (.inr ⟨h1, h2⟩))
  refine ⟨g', by rw [hcong]; exact q1, fun b => ?_, fun t => ?_⟩
  · by_cases hw : WB s b
    · rw [q5 b hw]
      have : s.g.at b = blkAt h sts (fun j => S j ∨ j = i) b := by
        rw [← hchB.post_at (c := b) 0 i hs]
        refine (cur_congr sts 0 _ _ (fun j t' hj hw' => ?_) rfl)
        rw [Nat.zero_add, Nat.zero_add]
        by_cases hji : j = i
        · subst hji; exact ⟨fun _ => .inr rfl, fun _ => by omega⟩
        · have := D.key hc hs hr hi hj hji hw.tb hw'
          constructor
          · intro hh; exact .inl (this.2 (by omega))
          · intro hh; have := this.1 (hh.resolve_right hji); omega
      exact this
    · have h6 : g'.at b = gS.at b := q6 b (fun hm => hw (.inl hm)) (fun hm => hw (.inr hm))
      rw [h6, hg b]
      refine cur_congr sts 0 _ _ (fun j t' hj hw' => ?_) rfl
      rw [Nat.zero_add]
      have hji : j ≠ i := fun e => by subst e; rw [hs] at hj; simp only [Option.some.injEq] at hj; subst hj; exact hw hw'
      exact ⟨fun hh => .inl hh, fun hh => hh.resolve_right hji⟩
  · obtain ⟨p1, p2⟩ := tmAt_put (tm := tmS) hn hok.dst hok.low s.v t
    by_cases hw : s.o.dst = some t
    · rw [p1 hw]
      have : some s.v = tempAt w tm sts (fun j => S j ∨ j = i) t := by
        have hpost := hchT.post_at (c := t) 0 i hs
        rw [(tmAt_put (tm := s.tm) hn hok.dst hok.low s.v t).1 hw] at hpost
        rw [← hpost]
        refine (cur_congr sts 0 _ _ (fun j t' hj hw' => ?_) rfl)
        rw [Nat.zero_add, Nat.zero_add]
        by_cases hji : j = i
        · subst hji; exact ⟨fun _ => .inr rfl, fun _ => by omega⟩
        · have := D.keyT hc hs hr hi hj hji (.inl hw) hw'
          constructor
          · intro hh; exact .inl (this.2 (by omega))
          · intro hh; have := this.1 (hh.resolve_right hji); omega
      exact this
    · rw [p2 hw, ht t]
      refine cur_congr sts 0 _ _ (fun j t' hj hw' => ?_) rfl
      rw [Nat.zero_add]
      have hji : j ≠ i := fun e => by subst e; rw [hs] at hj; simp only [Option.some.injEq] at hj; subst hj; exact hw hw'
      exact ⟨fun hh => .inl hh, fun hh => hh.resolve_right hji⟩
end
end Go.X
