/- A verified executor, part 22: regions whose order is drawn. -/
import Derived.Test.YtojfkhhebedeoaaGreatDoorXDraw
set_option linter.unusedVariables false
set_option linter.unusedSimpArgs false
set_option linter.unusedSectionVars false
namespace Go.X
open Go.RowKit
variable [Nu]

/-! what must come before -/
theorem ancFold_bit {done : List Nat} {i : Nat} : ∀ (l : List Edge) (s0 : Nat), (l.foldl (fun s e => if Region.binds .any e then s ||| (1 <<< e.on) ||| (done.getD e.on 0) else s) s0).testBit i = true →
    s0.testBit i = true ∨ ∃ e ∈ l, Region.binds .any e = true ∧ (i = e.on ∨ (done.getD e.on 0).testBit i = true)
  | [], s0, h => .inl h
  | e :: l, s0, h => by
    rw [List.foldl_cons] at h
    rcases ancFold_bit l _ h with h | ⟨e', h1, h2, h3⟩
    · by_cases hb : Region.binds .any e = true
      · rw [if_pos hb, Nat.testBit_or, Nat.testBit_or, Bool.or_eq_true, Bool.or_eq_true] at h
        rcases h with (h | h) | h
        · exact .inl h
        · rw [Nat.one_shiftLeft, Nat.testBit_two_pow] at h
          exact .inr ⟨e, List.mem_cons_self, hb, .inl (by simpa using (of_decide_eq_true h).symm)⟩
        · exact .inr ⟨e, List.mem_cons_self, hb, .inr h⟩
      · rw [if_neg hb] at h; exact .inl h
    · exact .inr ⟨e', List.mem_cons_of_mem _ h1, h2, h3⟩
theorem ancOf_bit {done : List Nat} {o : Oper} {i : Nat} (h : (ancOf done o).testBit i = true) : ∃ e ∈ o.after, Region.binds .any e = true ∧ (i = e.on ∨ (done.getD e.on 0).testBit i = true) := by
  rcases ancFold_bit _ _ h with h | ⟨e, h1, h2, h3⟩
  · simp at h
  · exact ⟨e, by simpa using h1, h2, h3⟩
theorem ancs_pre : ∀ (r : List Oper) (done : List Nat), ∃ X, ancs r done = done ++ X ∧ X.length = r.length
  | [], done => ⟨[], by simp [ancs], rfl⟩
  | o :: r, done => by
    obtain ⟨X, h1, h2⟩ := ancs_pre r (done ++ [ancOf done o])
    exact ⟨ancOf done o :: X, by rw [ancs, h1]; simp, by simp [h2]⟩
theorem ancs_get : ∀ (r : List Oper) (done : List Nat) (j : Nat) (o : Oper), r[j]? = some o → (ancs r done).getD (done.length + j) 0 = ancOf ((ancs r done).take (done.length + j)) o
  | [], done, j, o, h => by simp at h
  | p :: r, done, 0, o, h => by
    simp at h
    subst h
    obtain ⟨X, h1, h2⟩ := ancs_pre r (done ++ [ancOf done p])
    rw [ancs, h1]
    simp
  | p :: r, done, j + 1, o, h => by
    have := ancs_get r (done ++ [ancOf done p]) j o (by simpa using h)
    rw [List.length_append, List.length_singleton] at this
    rw [ancs, show done.length + (j + 1) = done.length + 1 + j from by omega]
    exact this
theorem anc_closed {ops : List Oper} {S : Nat → Prop} (hc : ∀ j o, ops[j]? = some o → S j → ∀ e ∈ o.after, Region.binds .any e = true → S e.on) {i : Nat} : ∀ (n j : Nat), j < n → ∀ o, ops[j]? = some o →
    (∀ e ∈ o.after, Region.binds .any e = true → S e.on) → ((ancs ops []).getD j 0).testBit i = true → S i
  | 0, j, hj, o, ho, ha, hb => by omega
  | n + 1, j, hj, o, ho, ha, hb => by
    have hg := ancs_get ops [] j o ho
    rw [List.length_nil, Nat.zero_add] at hg
    rw [hg] at hb
    obtain ⟨e, h1, h2, h3⟩ := ancOf_bit hb
    rcases h3 with rfl | h3
    · exact ha e h1 h2
    · have hlen : (ancs ops []).length = ops.length := by obtain ⟨X, q1, q2⟩ := ancs_pre ops []; rw [q1]; simpa using q2
      have hjl : j < ops.length := (List.getElem?_eq_some_iff.1 ho).1
      have hlt : e.on < j := by
        rcases Nat.lt_or_ge e.on j with hh | hh
        · exact hh
        · have : ((ancs ops []).take j).getD e.on 0 = 0 := by
            rw [List.getD_eq_getElem?_getD, List.getElem?_eq_none (by simp; omega)]; rfl
          rw [this] at h3; simp at h3
      have heq : ((ancs ops []).take j).getD e.on 0 = (ancs ops []).getD e.on 0 := by
        rw [List.getD_eq_getElem?_getD, List.getD_eq_getElem?_getD, List.getElem?_take_of_lt hlt]
      rw [heq] at h3
      have hol : e.on < ops.length := by omega
      have hoo : ops[e.on]? = some ops[e.on] := List.getElem?_eq_getElem hol
      exact anc_closed hc n e.on (by omega) _ hoo (hc e.on _ hoo (ha e h1 h2)) h3

theorem mem_zipIdx {ops : List Oper} {i : Nat} {o : Oper} (h : ops[i]? = some o) : (o, i) ∈ ops.zipIdx := List.mk_mem_zipIdx_iff_getElem?.2 h
theorem drawOk_back {ops : List Oper} (h : drawOk ops = true) {i : Nat} {o : Oper} (ho : ops[i]? = some o) {e : Edge} (he : e ∈ o.after) (hb : Region.binds .any e = true) : e.on < i := by
  unfold drawOk at h
  rw [Bool.and_eq_true] at h
  have h1 := List.all_eq_true.1 h.1 _ (mem_zipIdx ho)
  have h2 := List.all_eq_true.1 h1 e (by simpa using he)
  rw [hb] at h2
  simpa using h2
theorem drawOk_dst {ops : List Oper} (h : drawOk ops = true) {i j : Nat} {o p : Oper} {d : Nat} (ho : ops[i]? = some o) (hp : ops[j]? = some p) (hd : p.dst = some d) (hne : i ≠ j) (hu : o.dst = some d ∨ d ∈ usesOf ops o) :
    ((ancs ops []).getD (Nat.max i j) 0).testBit (Nat.min i j) = true := by
  unfold drawOk at h
  rw [Bool.and_eq_true] at h
  have h1 := List.all_eq_true.1 h.2 _ (mem_zipIdx ho)
  have h2 := List.all_eq_true.1 h1 _ (mem_zipIdx hp)
  dsimp only at h2
  rw [hd] at h2
  dsimp only at h2
  rw [Bool.or_eq_true, Bool.or_eq_true] at h2
  rcases h2 with (h2 | h2) | h2
  · exact absurd (by simpa using h2) hne
  · have h3 : (o.dst == some d || (usesOf ops o).contains d) = true := by
      rcases hu with hu | hu
      · rw [hu]; simp
      · rw [Bool.or_eq_true]; exact .inr (by simpa using hu)
    rw [h3] at h2; exact nomatch h2
  · exact h2
theorem pairs_mem {ops : List Oper} {i j : Nat} {o p : Oper} (hp : ops[i]? = some p) (ho : ops[j]? = some o) (hij : i < j) (tp : touches p.op = true) (to : touches o.op = true) (hb : ¬ ((ancs ops []).getD j 0).testBit i = true) : (i, j) ∈ pairs ops := by
  unfold pairs
  refine List.mem_flatten.2 ⟨pairsFrom ops j ((ancs ops []).getD j 0), List.mem_map.2 ⟨(o, j), mem_zipIdx ho, by dsimp only; rw [if_pos to]⟩, ?_⟩
  unfold pairsFrom
  refine List.mem_map.2 ⟨(p, i), List.mem_filter.2 ⟨mem_zipIdx hp, ?_⟩, rfl⟩
  simp only [Bool.and_eq_true, decide_eq_true_eq, Bool.not_eq_true']
  exact ⟨⟨hij, tp⟩, by simpa using hb⟩

theorem WB.tb {s : St} {b : Nat} (h : WB s b) : TB s b := by
  rcases h with h | h
  · exact .inl ⟨true, h⟩
  · exact .inr h
/-- All that is known of a region whose order is drawn. -/
structure DR (Γ : Cx) (w nt : Nat) (ops : Array Oper) (F : CallF) (L : List (Oper × Ins)) (tm : Tm) (h : H) (sts : List St) (tm' : Tm) (hf : H) : Prop where
  tr : Trace F L tm h sts tm' hf
  lg : h.lg = true
  log : h.log = []
  each : ∀ (i : Nat) (o : Oper) (io : Ins), L[i]? = some (o, io) → ops[i]? = some o ∧ OperOK Γ w nt ops o io
  len : L.length = ops.size
  good : ∀ p ∈ L, ∀ tm, Good (p.2.i F tm)
  dr : drawOk ops.toList = true
  ps : pairsOk (sts.map St.note) (pairs ops.toList) = true

section
variable {Γ : Cx} {w nt : Nat} {ops : Array Oper} {F : CallF} {L : List (Oper × Ins)} {tm : Tm} {h : H} {sts : List St} {tm' : Tm} {hf : H} (D : DR Γ w nt ops F L tm h sts tm' hf)
include D

theorem DR.at {i : Nat} {s : St} (hs : sts[i]? = some s) : ops.toList[i]? = some s.o ∧ OperOK Γ w nt ops s.o s.io ∧ run (s.io.i F s.tm) s.h = some (s.v, s.g) ∧ s.h.lg = true ∧ s.h.log = [] ∧ Good (s.io.i F s.tm) := by
  obtain ⟨h1, h2, h3, h4⟩ := D.tr.at D.lg D.log hs
  obtain ⟨h5, h6⟩ := D.each i _ _ h1
  exact ⟨by rw [← h5]; simp, h6, h2, h3, h4, D.good _ (List.mem_of_getElem? h1) _⟩
theorem DR.touch {i : Nat} {s : St} (hs : sts[i]? = some s) {b : Nat} (ht : TB s b) : touches s.o.op = true := by
  obtain ⟨_, h1, h2, h3, h4, _⟩ := D.at hs
  cases e : touches s.o.op with
  | true => rfl
  | false =>
    have := (h1.calm e F s.tm).stays h2
    rcases ht with ⟨u, hu⟩ | hu
    · rw [this, h4] at hu; exact nomatch hu
    · rw [this] at hu; omega
theorem DR.below {i : Nat} {s : St} (hs : sts[i]? = some s) {b : Nat} (ht : TB s b) : b < s.g.nx := by
  obtain ⟨_, h1, h2, h3, h4, h5⟩ := D.at hs
  obtain ⟨l1, e1, hl1, n1, b1, _⟩ := h5.loc _ _ _ h2 h3
  rw [h4, List.append_nil] at e1
  rcases ht with ⟨u, hu⟩ | hu
  · rw [e1] at hu; exact b1 b u hu
  · exact hu.2

/-- Some of the operations are done: so many as need be. -/
structure Closed (ops : Array Oper) (S : Nat → Prop) : Prop where
  closed : ∀ j o, ops.toList[j]? = some o → S j → ∀ e ∈ o.after, Region.binds .any e = true → S e.on

theorem DR.before {S : Nat → Prop} (hc : Closed ops S) {i : Nat} {s : St} (hs : sts[i]? = some s) (hr : ∀ e ∈ s.o.after, Region.binds .any e = true → S e.on) {j : Nat} (hb : ((ancs ops.toList []).getD i 0).testBit j = true) : S j :=
  anc_closed hc.closed (i + 1) i (Nat.lt_succ_self i) s.o (D.at hs).1 hr hb

/-- The step that is next sees the blocks that it touches as the text has them. -/
theorem DR.key {S : Nat → Prop} (hc : Closed ops S) {i j : Nat} {s t : St} (hs : sts[i]? = some s) (hr : ∀ e ∈ s.o.after, Region.binds .any e = true → S e.on) (hi : ¬ S i) (ht : sts[j]? = some t) (hne : j ≠ i) {b : Nat} (htb : TB s b) (hwb : WB t b) : S j ↔ j < i := by
  obtain ⟨o1, _, _, _, _, _⟩ := D.at hs
  obtain ⟨o2, _, _, _, _, _⟩ := D.at ht
  have n1 : (sts.map St.note)[i]? = some s.note := by rw [List.getElem?_map, hs]; rfl
  have n2 : (sts.map St.note)[j]? = some t.note := by rw [List.getElem?_map, ht]; rfl
  rcases Nat.lt_or_ge j i with hji | hji
  · refine ⟨fun _ => hji, fun _ => ?_⟩
    have hord := D.tr.order D.lg D.good ht hs hji
    have hlow := D.below ht hwb.tb
    have hlog : ∃ u, (b, u) ∈ s.g.log := by
      rcases htb with h | h
      · exact h
      · omega
    have hcl : clash t.note s.note = true := clash_of (.inl ⟨hwb, hlog⟩)
    by_cases hb : ((ancs ops.toList []).getD i 0).testBit j = true
    · exact D.before hc hs hr hb
    · have := pairsOk_mem n2 n1 D.ps (pairs_mem o2 o1 hji (D.touch ht hwb.tb) (D.touch hs htb) hb)
      rw [hcl] at this; exact nomatch this
  · have hij : i < j := by omega
    refine ⟨fun hSj => ?_, fun h => by omega⟩
    exfalso
    have hord := D.tr.order D.lg D.good hs ht hij
    have hlow := D.below hs htb
    have hlog : (b, true) ∈ t.g.log := by
      rcases hwb with h | h
      · exact h
      · omega
    have hcl : clash s.note t.note = true := clash_of (.inr ⟨htb, hlog⟩)
    by_cases hb : ((ancs ops.toList []).getD j 0).testBit i = true
    · exact hi (D.before hc ht (hc.closed j t.o o2 hSj) hb)
    · have := pairsOk_mem n1 n2 D.ps (pairs_mem o1 o2 hij (D.touch hs htb) (D.touch ht hwb.tb) hb)
      rw [hcl] at this; exact nomatch this
theorem DR.keyT {S : Nat → Prop} (hc : Closed ops S) {i j : Nat} {s t : St} (hs : sts[i]? = some s) (hr : ∀ e ∈ s.o.after, Region.binds .any e = true → S e.on) (hi : ¬ S i) (ht : sts[j]? = some t) (hne : j ≠ i) {d : Nat}
    (hu : s.o.dst = some d ∨ d ∈ usesOf ops.toList s.o) (hd : t.o.dst = some d) : S j ↔ j < i := by
  obtain ⟨o1, _, _, _, _, _⟩ := D.at hs
  obtain ⟨o2, _, _, _, _, _⟩ := D.at ht
  have hb := drawOk_dst D.dr o1 o2 hd (Ne.symm hne) hu
  rcases Nat.lt_or_ge j i with hji | hji
  · rw [show Nat.max i j = i from Nat.max_eq_left (Nat.le_of_lt hji), show Nat.min i j = j from Nat.min_eq_right (Nat.le_of_lt hji)] at hb
    exact ⟨fun _ => hji, fun _ => D.before hc hs hr hb⟩
  · have hij : i < j := by omega
    rw [show Nat.max i j = j from Nat.max_eq_right (Nat.le_of_lt hij), show Nat.min i j = i from Nat.min_eq_left (Nat.le_of_lt hij)] at hb
    exact ⟨fun hSj => absurd (D.before hc ht (hc.closed j t.o o2 hSj) hb) hi, fun h => by omega⟩

/-- What the places hold when the operations of S are done. -/
noncomputable def blkAt (h : H) (sts : List St) (S : Nat → Prop) (b : Nat) : Option Blk := cur S WB (fun (s : St) (b : Nat) => s.g.at b) sts 0 (fun b => h.at b) b
noncomputable def tempAt (w : Nat) (tm : Tm) (sts : List St) (S : Nat → Prop) (t : Nat) : Option V := cur S WT (fun (s : St) (_ : Nat) => some s.v) sts 0 (tmAt w tm) t

theorem DR.step (hn : nt ≤ lim w) {S : Nat → Prop} (hc : Closed ops S) {i : Nat} {s : St} (hs : sts[i]? = some s) (hr : ∀ e ∈ s.o.after, Region.binds .any e = true → S e.on) (hi : ¬ S i) {gS : H} {tmS : Tm}
    (hg : ∀ b, gS.at b = blkAt h sts S b) (ht : ∀ t, tmAt w tmS t = tempAt w tm sts S t) :
    ∃ g', run (s.io.i F tmS) ⟨gS.hp, s.h.nx, true, []⟩ = some (s.v, g') ∧ (∀ b, g'.at b = blkAt h sts (fun j => S j ∨ j = i) b) ∧ (∀ t, tmAt w (putD tmS s.io.dst s.v) t = tempAt w tm sts (fun j => S j ∨ j = i) t) := by
  obtain ⟨o1, hok, hrun, hlg, hlog, hgood⟩ := D.at hs
  have hchB := D.tr.blocks D.lg D.log D.good
  have hchT := D.tr.temps hn (fun p hp => by
    obtain ⟨k, hk⟩ := List.getElem?_of_mem hp
    have := (D.each k p.1 p.2 hk).2
    exact ⟨this.dst, this.low⟩)
  have hcong : s.io.i F tmS = s.io.i F s.tm := hok.cong tmS s.tm (fun t hu hl => by
    have h1 := ht t
    have h2 : tempAt w tm sts S t = tmAt w s.tm t := by
      rw [← hchT.pre_at 0 i hs]
      refine cur_congr sts 0 _ _ (fun j t' hj hw => ?_) rfl
      rw [Nat.zero_add, Nat.zero_add]
      by_cases hji : j = i
      · subst hji; exact ⟨fun hh => absurd hh hi, fun hh => by omega⟩
      · exact D.keyT hc hs hr hi hj hji (.inr hu) hw
    rw [h2] at h1
    unfold tmAt at h1
    rw [if_pos hl, if_pos hl] at h1
    exact h1) F
  obtain ⟨l1, e1, hl1, n1, b1, u1, hrep⟩ := hgood.loc _ _ _ hrun hlg
  rw [hlog, List.append_nil] at e1
  subst e1
  have hagree : ∀ b, TB s b → gS.at b = s.h.at b := fun b hb => by
    rw [hg b, ← hchB.pre_at (c := b) 0 i hs]
    refine cur_congr sts 0 _ _ (fun j t' hj hw => ?_) rfl
    rw [Nat.zero_add, Nat.zero_add]
    by_cases hji : j = i
    · subst hji; exact ⟨fun hh => absurd hh hi, fun hh => by omega⟩
    · exact D.key hc hs hr hi hj hji hb hw
  obtain ⟨g', q1, q2, q3, q4, q5, q6⟩ := hrep ⟨gS.hp, s.h.nx, true, []⟩ rfl rfl (fun b u hm _ => hagree b (.inl ⟨u, hm⟩)) (fun b h1 h2 => hagree b (.inr ⟨h1, h2⟩))
  refine ⟨g', by rw [hcong]; exact q1, fun b => ?_, fun t => ?_⟩
  · by_cases hw : WB s b
    · rw [q5 b hw]
      have : s.g.at b = blkAt h sts (fun j => S j ∨ j = i) b := by
        rw [← hchB.post_at (c := b) 0 i hs]
        refine (cur_congr sts 0 _ _ (fun j t' hj hw' => ?_) rfl)
        rw [Nat.zero_add, Nat.zero_add]
        by_cases hji : j = i
        · subst hji; exact ⟨fun _ => .inr rfl, fun _ => by omega⟩
        · have := D.key hc hs hr hi hj hji hw.tb hw'
          constructor
          · intro hh; exact .inl (this.2 (by omega))
          · intro hh; have := this.1 (hh.resolve_right hji); omega
      exact this
    · have h6 : g'.at b = gS.at b := q6 b (fun hm => hw (.inl hm)) (fun hm => hw (.inr hm))
      rw [h6, hg b]
      refine cur_congr sts 0 _ _ (fun j t' hj hw' => ?_) rfl
      rw [Nat.zero_add]
      have hji : j ≠ i := fun e => by subst e; rw [hs] at hj; simp only [Option.some.injEq] at hj; subst hj; exact hw hw'
      exact ⟨fun hh => .inl hh, fun hh => hh.resolve_right hji⟩
  · obtain ⟨p1, p2⟩ := tmAt_put (tm := tmS) hn hok.dst hok.low s.v t
    by_cases hw : s.o.dst = some t
    · rw [p1 hw]
      have : some s.v = tempAt w tm sts (fun j => S j ∨ j = i) t := by
        have hpost := hchT.post_at (c := t) 0 i hs
        rw [(tmAt_put (tm := s.tm) hn hok.dst hok.low s.v t).1 hw] at hpost
        rw [← hpost]
        refine (cur_congr sts 0 _ _ (fun j t' hj hw' => ?_) rfl)
        rw [Nat.zero_add, Nat.zero_add]
        by_cases hji : j = i
        · subst hji; exact ⟨fun _ => .inr rfl, fun _ => by omega⟩
        · have := D.keyT hc hs hr hi hj hji (.inl hw) hw'
          constructor
          · intro hh; exact .inl (this.2 (by omega))
          · intro hh; have := this.1 (hh.resolve_right hji); omega
      exact this
    · rw [p2 hw, ht t]
      refine cur_congr sts 0 _ _ (fun j t' hj hw' => ?_) rfl
      rw [Nat.zero_add]
      have hji : j ≠ i := fun e => by subst e; rw [hs] at hj; simp only [Option.some.injEq] at hj; subst hj; exact hw hw'
      exact ⟨fun hh => .inl hh, fun hh => hh.resolve_right hji⟩
end
end Go.X
