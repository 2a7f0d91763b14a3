/- A text of the verified executor, of contracts, or of this law; joined and trimmed by a program of mine (wip/gen). -/
import Derived.Test.YthkipncmnefomaaLowQM
import Derived.Test.YthkipncmnefomaaLowIM
import Derived.Test.YthkipncmnefomaaXRowM
set_option linter.unusedVariables false
set_option linter.unusedSimpArgs false
set_option linter.unusedSectionVars false
set_option maxRecDepth 100000
set_option maxHeartbeats 4000000
namespace Go.Proofs.Ythkipncmnefomaa.XCodeL
open Go Go.X
noncomputable section
variable [Nu] {R : Type} {Q : Option R → Prop} {B : Nat} {A : Nat → Prop} {S : Nat} {L : Kn}
theorem sameT_c {K : V → H → Option R} {m : Nat} {vs : List V} {e : List (Int × Int)} {v w : V} (hvs : vs = [v, w]) (hv : Tk L v e) (hw : Tk L w e) (hl : e.length < 100000) (q : W Q B A S L (K (.bool true))) : W Q B A S L fun h => J.call (F (m + 1)) (.fn (.func 36) [] []) vs R h K :=
  sameE_c hvs hv hw hl (by rw [decide_eq_true rfl]; exact q)
theorem PThr.idxM {M : Kn} {v : V} {ps : List (List PIn)} {a : Int} {K : V → H → Option R} (h : PThr M v ps) (i : Nat) (x : List PIn) (ha : a = (i : Int)) (hx : ps[i]? = some x) (q : ∀ p vt r, PR M vt x → Pl M p (vt :: r) → W Q B A S L (K p)) : W Q B A S L fun h => J.idxL 1 v (.int .i64 a) R h K := by
  obtain ⟨l, h1, h2⟩ := h
  refine W.idxM h1 i ha (List.getElem?_eq_some_iff.1 hx).1 fun p hp => ?_
  have key : ∀ {ps : List (List PIn)} {l : List V} (i : Nat) (x : List PIn), PT M ps l → ps[i]? = some x → ∃ v r, l.drop (i * 1) = v :: r ∧ PR M v x := by
    intro ps
    induction ps with
    | nil => intro l i x _ e; exact nomatch e
    | cons y is ih =>
      intro l i x h e
      obtain ⟨v, r, h1, h2, h3⟩ := h
      cases i with
      | zero =>
        simp only [List.getElem?_cons_zero, Option.some.injEq] at e
        subst e; exact ⟨v, r, by rw [Nat.zero_mul, List.drop_zero, h1], h2⟩
      | succ i =>
        obtain ⟨v', r', h4, h5⟩ := ih i x h3 e
        refine ⟨v', r', ?_, h5⟩
        rw [h1, show (i + 1) * 1 = i * 1 + 1 by omega]
        exact h4
  obtain ⟨ve, r, h3, h4⟩ := key i x h2 hx
  exact q p ve r h4 (h3 ▸ hp)
theorem PThr.len {M : Kn} {v : V} {ps : List (List PIn)} {K : V → H → Option R} (h : PThr M v ps) (q : W Q B A S L (K (.int .i64 ps.length))) : W Q B A S L fun h => J.lenL v R h K := by
  obtain ⟨l, h1, h2⟩ := h; exact W.lenM h1 q
theorem PThr.one {M : Kn} {v : V} {ps : List (List PIn)} (h : PThr M v ps) : v.one = true := by obtain ⟨l, h1, h2⟩ := h; exact h1.one
theorem PR.len {M : Kn} {v : V} {ps : List PIn} {K : V → H → Option R} (h : PR M v ps) (q : W Q B A S L (K (.int .i64 ps.length))) : W Q B A S L fun h => J.lenL v R h K := by
  obtain ⟨l, h1, h2⟩ := h; exact W.lenM h1 q
theorem PR.idxP {M : Kn} {v : V} {is : List PIn} {a : Int} {K : V → H → Option R} (h : PR M v is) (i : Nat) (x : PIn) (ha : a = (i : Int)) (hx : is[i]? = some x) (q : ∀ p ve r, Tk M ve x.e → Pl M p (pinC x ve ++ r) → W Q B A S L (K p)) : W Q B A S L fun h => J.idxL 5 v (.int .i64 a) R h K := by
  obtain ⟨l, h1, h2⟩ := h
  refine W.idxM h1 i ha (List.getElem?_eq_some_iff.1 hx).1 fun p hp => ?_
  obtain ⟨ve, r, h3, h4⟩ := PC.at' i x h2 hx
  exact q p ve r h4 (h3 ▸ hp)
theorem same1_c {K : V → H → Option R} {m : Nat} {vs : List V} {p : PIn} {ve we : V} (hvs : vs = [.agg (pinC p ve), .agg (pinC p we)]) (hv : Tk L ve p.e) (hw : Tk L we p.e) (hl : p.e.length < 100000) (q : W Q B A S L (K (.bool true))) : W Q B A S (L) fun h => J.call (F (m + 2)) (.fn (.func 18) [] []) vs R h K := by
  subst hvs
  refine W.callE (d := d18) (c := c18) (by kernel_rfl) rfl (by rfl) ?_
  unfold c18
  refine W.hd (W.hd (W.en (W.box (pin_one hv.one p) fun b hb => W.box (pin_one hw.one p) fun b' hb' => ?_)))
  (refine .fl ?_; refine .fl ?_; refine .eqlT om_ ?_; refine .whenTT ?_; refine .fldP ?_; refine .whenTT ?_; refine .load1P mm_ _ rf_ ?_; refine .whenTT ?_; refine .fldP ?_; refine .whenTT ?_; refine .load1P mm_ _ rf_ ?_; refine .whenTT ?_; refine .eqlT om_ ?_; refine .pickT ?_; refine .whenTT ?_; refine .fldP ?_; refine .whenTT ?_; refine .load1P mm_ _ rf_ ?_; refine .whenTT ?_; refine .fldP ?_; refine .whenTT ?_; refine .load1P mm_ _ rf_ ?_; refine .whenTT ?_; refine .eqlT om_ ?_; refine .pickT ?_; refine .whenTT ?_; refine .fldP ?_; refine .whenTT ?_; refine .load1P mm_ _ rf_ ?_; refine .whenTT ?_; refine .fldP ?_; refine .whenTT ?_; refine .load1P mm_ _ rf_ ?_; refine .whenTT ?_; refine .eqlT om_ ?_; refine .pickT ?_; refine .whenTT ?_; refine .fldP ?_; refine .whenTT ?_; refine .load1P mm_ _ rf_ ?_; refine .whenTT ?_; refine .fldP ?_; refine .whenTT ?_; refine .load1P mm_ _ rf_ ?_; refine .whenTT ?_; refine sameT_c rf_ rc_ rc_ hl ?_; refine .pickT ?_)
  exact W.drop (W.drop q)
theorem sameP_c {K : V → H → Option R} {m : Nat} {vs : List V} {locs : Int} {ts : List (List PIn)} {w u : V} {M : Kn} (hvs : vs = [.agg [.int .i64 locs, w], .agg [.int .i64 locs, u]]) (hw : PThr M w ts) (hu : PThr M u ts) (hM : ∀ q ∈ M, q ∈ L) (hl : ts.length < 1000) (hf : ∀ t ∈ ts, t.length < 1000 ∧ ∀ x ∈ t, x.e.length < 1000) (q : W Q B A S L (K (.bool true))) : W Q B A S (L) fun h => J.call (F (m + 3)) (.fn (.func 9) [] []) vs R h K := by
  subst hvs
  refine W.callE (d := d9) (c := c9) (by kernel_rfl) rfl (by rfl) ?_
  unfold c9
  have hw1 := hw.one
  have hu1 := hu.one
  have hbw : allOne (V.agg [.int .i64 locs, w]).cells = true := allOne_c rfl (allOne_c hw1 rfl)
  have hbu : allOne (V.agg [.int .i64 locs, u]).cells = true := allOne_c rfl (allOne_c hu1 rfl)
  refine W.hd (W.hd (W.en (W.box hbw fun b3 hb3 => W.box hbu fun b4 hb4 => ?_)))
  have hsub : ∀ q ∈ M, q ∈ (b4, Blk.cells [.int .i64 locs, u] true 0) :: (b3, Blk.cells [.int .i64 locs, w] true 0) :: L := by grind
  (refine .fl ?_; refine .fl ?_; refine .neqF om_ ?_; refine .whenFF ?_; refine .fldP ?_; refine .whenFF ?_; refine .load1P mm_ _ rf_ ?_; refine .whenFF ?_; refine hw.len ?_; refine .whenFF ?_; refine .fldP ?_; refine .whenFF ?_; refine .load1P mm_ _ rf_ ?_; refine .whenFF ?_; refine hu.len ?_; refine .whenFF ?_; refine .neqF om_ ?_; refine .pickF ?_; refine .condF ?_)
  refine W.loop3 (I := fun d x1 x2 x3 L' => ∃ i : Nat, ts.length ≤ i + d ∧ i ≤ ts.length ∧ x1 = .ptr b3 0 ∧ x2 = .ptr b4 0 ∧ x3 = .int .i64 i ∧ L' = (b4, Blk.cells [.int .i64 locs, u] true 0) :: (b3, Blk.cells [.int .i64 locs, w] true 0) :: L) ?_ ts.length om_
    ⟨0, by omega, by omega, rfl, rfl, rfl, rfl⟩
  rintro d k x1 x2 x3 L' ⟨i, e1, e2, rfl, rfl, rfl, rfl⟩ hk
  refine W.fldP (W.load1P (List.mem_cons_of_mem _ List.mem_cons_self) w rfl (hw.len ?_))
  rcases Nat.lt_or_ge i ts.length with hi | hi
  · obtain ⟨t, ht, _⟩ := drop_at hi
    have htl := hf t (List.mem_of_getElem? ht)
    refine W.lssT om_ (W.condT (W.nextOf fun n0 hn0 hids => W.fldP (W.lload1P (List.mem_cons_of_mem _ List.mem_cons_self) w rfl fun B1 lgs1 hi1 hS1 ro1 hh1 => ?_)))
    dsimp only
    refine hw.idxM i t rfl ht fun p1 wt r1 hwt hp1 => W.lload1M hp1 hsub wt rfl fun B2 lgs2 hi2 hS2 ro2 hh2 => ?_
    dsimp only
    refine hwt.len (W.fldP (W.lload1P List.mem_cons_self u rfl fun B3 lgs3 hi3 hS3 ro3 hh3 => ?_))
    dsimp only
    refine hu.idxM i t rfl ht fun p2 ut r2 hut hp2 => W.lload1M hp2 hsub ut rfl fun B4 lgs4 hi4 hS4 ro4 hh4 => ?_
    dsimp only
    refine hut.len (W.neqF rfl (W.okP S om_ (St.psC rf_ rf_ (W.clashRO ro1 ro3 (n := n0) om_ om_ (fun i hi => hids i (W.ids_one List.mem_cons_self hi)) om_) (St.psC rf_ rf_ (W.clashRO ro2 ro3 (n := n0) om_ om_ (fun i hi => hids i (W.ids_one List.mem_cons_self hi)) om_) (St.psC rf_ rf_ (W.clashRO ro1 ro4 (n := n0) om_ om_ (fun i hi => hids i (W.ids_sub hsub hi)) om_) (St.psC rf_ rf_ (W.clashRO ro2 ro4 (n := n0) om_ om_ (fun i hi => hids i (W.ids_sub hsub hi)) om_) St.ps0)))) (W.condF ?_)))
    clear ro1 ro2 ro3 ro4 hids
    refine W.loop4 (I := fun d x1 x2 x3 x4 L' => ∃ j : Nat, t.length ≤ j + d ∧ j ≤ t.length ∧ x1 = .ptr b3 0 ∧ x2 = .ptr b4 0 ∧ x3 = .int .i64 i ∧ x4 = .int .i64 j ∧ L' = (b4, Blk.cells [.int .i64 locs, u] true 0) :: (b3, Blk.cells [.int .i64 locs, w] true 0) :: L) ?_ t.length om_
      ⟨0, by omega, by omega, rfl, rfl, rfl, rfl, rfl⟩
    rintro d2 k2 x1 x2 x3 x4 L' ⟨j, f1, f2, rfl, rfl, rfl, rfl, rfl⟩ hk2
    refine W.fldP (W.load1P (List.mem_cons_of_mem _ List.mem_cons_self) w rfl ?_)
    refine hw.idxM i t rfl ht fun p1 wt r1 hwt hp1 => W.load1A (hp1.sub hsub) wt rfl (hwt.len ?_)
    rcases Nat.lt_or_ge j t.length with hj | hj
    · obtain ⟨x, hx, _⟩ := drop_at hj
      have hxl := htl.2 x (List.mem_of_getElem? hx)
      refine W.lssT om_ (W.condT (W.nextOf fun n0 hn0 hids => W.fldP (W.lload1P (List.mem_cons_of_mem _ List.mem_cons_self) w rfl fun B1 lgs1 hi1 hS1 ro1 hh1 => ?_)))
      dsimp only
      refine hw.idxM i t rfl ht fun p1 wt r1 hwt hp1 => W.lload1M hp1 hsub wt rfl fun B2 lgs2 hi2 hS2 ro2 hh2 => ?_
      dsimp only
      refine hwt.idxP j x rfl hx fun p3 we r3 hwe hp3 => W.lloadNM hp3 hsub (by simp) fun B3 lgs3 hi3 hS3 ro3 hh3 => ?_
      dsimp only
      refine W.fldP (W.lload1P List.mem_cons_self u rfl fun B4 lgs4 hi4 hS4 ro4 hh4 => ?_)
      dsimp only
      refine hu.idxM i t rfl ht fun p2 ut r2 hut hp2 => W.lload1M hp2 hsub ut rfl fun B5 lgs5 hi5 hS5 ro5 hh5 => ?_
      dsimp only
      refine hut.idxP j x rfl hx fun p4 ue r4 hue hp4 => W.lloadNM hp4 hsub (by simp) fun B6 lgs6 hi6 hS6 ro6 hh6 => ?_
      dsimp only
      refine W.logged fun B7 hB7 hS7 K7 hK0 hK1 => ?_
      refine same1_c (p := x) (ve := we) (we := ue) rfl (hwe.sub hsub) (hue.sub hsub) om_ (hK0 _ fun lgs7 hi7 ro7 hh7 => ?_)
      dsimp only
      refine W.notT (W.okP S om_ (St.psC rf_ rf_ (W.clashRO ro1 ro4 (n := n0) om_ om_ (fun i hi => hids i (W.ids_one List.mem_cons_self hi)) om_) (St.psC rf_ rf_ (W.clashRO ro2 ro4 (n := n0) om_ om_ (fun i hi => hids i (W.ids_one List.mem_cons_self hi)) om_) (St.psC rf_ rf_ (W.clashRO ro3 ro4 (n := n0) om_ om_ (fun i hi => hids i (W.ids_one List.mem_cons_self hi)) om_) (St.psC rf_ rf_ (W.clashRO ro1 ro5 (n := n0) om_ om_ (fun i hi => hids i (W.ids_sub hsub hi)) om_) (St.psC rf_ rf_ (W.clashRO ro2 ro5 (n := n0) om_ om_ (fun i hi => hids i (W.ids_sub hsub hi)) om_) (St.psC rf_ rf_ (W.clashRO ro3 ro5 (n := n0) om_ om_ (fun i hi => hids i (W.ids_sub hsub hi)) om_) (St.psC rf_ rf_ (W.clashRO ro1 ro6 (n := n0) om_ om_ (fun i hi => hids i hi) om_) (St.psC rf_ rf_ (W.clashRO ro2 ro6 (n := n0) om_ om_ (fun i hi => hids i hi) om_) (St.psC rf_ rf_ (W.clashRO ro3 ro6 (n := n0) om_ om_ (fun i hi => hids i hi) om_) St.ps0))))))))) (W.condF (W.add om_ om_ ?_)))
      exact hk2 (d2 - 1) _ _ _ _ _ om_ ⟨j + 1, by omega, by omega, rfl, rfl, rfl, by rw [Int.natCast_add]; rfl, rfl⟩
    · refine W.lssF om_ (W.condF (W.add om_ om_ ?_))
      exact hk (d - 1) _ _ _ _ om_ ⟨i + 1, by omega, by omega, rfl, rfl, by rw [Int.natCast_add]; rfl, rfl⟩
  · exact W.lssF om_ (W.condF (W.drop (W.drop q)))
end
end Go.Proofs.Ythkipncmnefomaa.XCodeL
set_option maxRecDepth 100000
set_option maxHeartbeats 4000000
namespace Go.Proofs.Ythkipncmnefomaa.XCodeL
open Go Go.X
noncomputable section
variable [Nu] {R : Type} {Q : Option R → Prop} {B : Nat} {A : Nat → Prop} {S : Nat} {L : Kn}
theorem len_thr {M : Kn} {v : V} {ps : List (List Ins)} {K : V → H → Option R} (h : ThrR M v ps) (q : W Q B A S L (K (.int .i64 ps.length))) : W Q B A S L fun h => J.lenL v R h K := by
  obtain ⟨l, h1, h2⟩ := h; exact W.lenM h1 q
theorem len_ins {M : Kn} {v : V} {is : List Ins} {K : V → H → Option R} (h : InsR M v is) (q : W Q B A S L (K (.int .i64 is.length))) : W Q B A S L fun h => J.lenL v R h K := by
  obtain ⟨l, h1, h2⟩ := h; exact W.lenM h1 q
def good (t : List Ins) : Prop := t.length ≤ 16 ∧ ∀ x ∈ t, x.e.length ≤ 12
theorem any_take_succ {α : Type} {P : α → Prop} {l : List α} {i : Nat} {x : α} (hx : l[i]? = some x) (h : ∀ y ∈ l.take i, P y) (hP : P x) : ∀ y ∈ l.take (i + 1), P y := fun y hy => by
  rw [List.take_add_one, hx] at hy
  rcases List.mem_append.1 hy with h' | h'
  · exact h y h'
  · simp at h'; rw [h']; exact hP
theorem fewProg_c {K : V → H → Option R} {m : Nat} {vs : List V} {locs : Int} {ps : List (List Ins)} {v : V} (hvs : vs = [.agg [.int .i64 locs, v]]) (hv : ThrR L v ps) (q : Few ps → W Q B A S L (K (.bool true))) (q' : ¬ Few ps → W Q B A S L (K (.bool false))) : W Q B A S (L) fun h => J.call (F (m + 1)) (.fn (.func 5) [] []) vs R h K := by
  subst hvs
  refine W.callE (d := d5) (c := c5) (by kernel_rfl) rfl (by rfl) ?_
  unfold c5
  have hone := hv.one
  have hbx : allOne (V.agg [.int .i64 locs, v]).cells = true := by show (Bool.rec false true v.one : Bool) = true; rw [hone]
  refine W.hd (W.en (W.box hbx fun b hb => ?_))
  have hsub : ∀ q ∈ L, q ∈ (b, Blk.cells [.int .i64 locs, v] true 0) :: L := by grind
  refine W.loop2 (I := fun d x1 x2 L' => ∃ i : Nat, 6 ≤ i + d ∧ i ≤ 6 ∧ i ≤ ps.length ∧ x1 = .ptr b 0 ∧ x2 = .int .i64 i ∧ L' = (b, Blk.cells [.int .i64 locs, v] true 0) :: L ∧ ∀ t ∈ ps.take i, good t) ?_ 6 om_
    ⟨0, by omega, by omega, by omega, rfl, rfl, rfl, by simp⟩
  rintro d k x1 x2 L' ⟨i, e1, e2, e3, rfl, rfl, rfl, hok⟩ hk
  rcases Nat.lt_or_ge i ps.length with hi | hi
  · rcases Nat.lt_or_ge i 6 with hi6 | hi6
    · obtain ⟨t, ht, _⟩ := drop_at hi
      have htm : t ∈ ps := List.mem_of_getElem? ht
      have qbad : ¬ good t → W Q B A S L (K (.bool false)) := fun h => q' fun hf => h (hf.2 t htm)
      (refine .fl ?_; refine len_thr hv ?_; refine .lssT om_ ?_; refine .whenTT ?_; refine .pure ?_; refine .whenTT ?_; refine .lssT om_ ?_; refine .pickT ?_; refine .condT ?_)
      refine W.loop3 (I := fun d x1 x2 x3 L' => ∃ j : Nat, 16 ≤ j + d ∧ j ≤ 16 ∧ j ≤ t.length ∧ x1 = .ptr b 0 ∧ x2 = .int .i64 i ∧ x3 = .int .i64 j ∧ L' = (b, Blk.cells [.int .i64 locs, v] true 0) :: L ∧ ∀ x ∈ t.take j, x.e.length ≤ 12) ?_ 16 om_
        ⟨0, by omega, by omega, by omega, rfl, rfl, rfl, rfl, by simp⟩
      rintro d2 k2 x1 x2 x3 L' ⟨j, f1, f2, f3, rfl, rfl, rfl, rfl, hoj⟩ hk2
      rcases Nat.lt_or_ge j t.length with hj | hj
      · obtain ⟨x, hx, _⟩ := drop_at hj
        have hxm : x ∈ t := List.mem_of_getElem? hx
        rcases Nat.lt_or_ge j 16 with hj6 | hj6
        · (refine .fl ?_; refine hv.idxM hsub i t rfl ht fun p vt r hvt hp => ?_; refine .load1A hp vt rfl ?_; refine len_ins hvt ?_; refine .lssT om_ ?_; refine .whenTT ?_; refine .pure ?_; refine .whenTT ?_; refine .lssT om_ ?_; refine .pickT ?_; refine .condT ?_; refine .fl ?_; refine hv.idxM hsub i t rfl ht fun p vt r hvt hp => ?_; refine .load1A hp vt rfl ?_)
          refine hvt.idxM hsub j x rfl hx fun p ve r hve hp => W.fldA hp (by simp) fun p hp => W.load1A hp ve rfl (W.lenM hve ?_)
          rcases Nat.lt_or_ge 12 x.e.length with hc | hc
          · (refine .gtrT om_ ?_; refine .condT ?_)
            exact W.drop (qbad fun h => by have := h.2 x hxm; omega)
          · (refine .gtrF om_ ?_; refine .condF ?_; refine .add om_ om_ ?_)
            exact hk2 (d2 - 1) _ _ _ _ om_ ⟨j + 1, by omega, by omega, by omega, rfl, rfl, by rw [Int.natCast_add]; rfl, rfl, any_take_succ hx hoj hc⟩
        · (refine .fl ?_; refine hv.idxM hsub i t rfl ht fun p vt r hvt hp => ?_; refine .load1A hp vt rfl ?_; refine len_ins hvt ?_; refine .lssT om_ ?_; refine .whenTT ?_; refine .pure ?_; refine .whenTT ?_; refine .lssF om_ ?_; refine .pickT ?_; refine .condF ?_; refine .fl ?_; refine hv.idxM hsub i t rfl ht fun p vt r hvt hp => ?_; refine .load1A hp vt rfl ?_; refine len_ins hvt ?_; refine .gtrT om_ ?_; refine .condT ?_)
          exact W.drop (qbad fun h => by have := h.1; omega)
      · rw [List.take_of_length_le hj] at hoj
        (refine .fl ?_; refine hv.idxM hsub i t rfl ht fun p vt r hvt hp => ?_; refine .load1A hp vt rfl ?_; refine len_ins hvt ?_; refine .lssF om_ ?_; (iterate 2 refine .whenFT ?_); refine .pickF ?_; refine .condF ?_; refine .fl ?_; refine hv.idxM hsub i t rfl ht fun p vt r hvt hp => ?_; refine .load1A hp vt rfl ?_; refine len_ins hvt ?_; refine .gtrF om_ ?_; refine .condF ?_; refine .add om_ om_ ?_)
        exact hk (d - 1) _ _ _ om_ ⟨i + 1, by omega, by omega, by omega, rfl, by rw [Int.natCast_add]; rfl, rfl, any_take_succ ht hok ⟨by omega, hoj⟩⟩
    · (refine .fl ?_; refine len_thr hv ?_; refine .lssT om_ ?_; refine .whenTT ?_; refine .pure ?_; refine .whenTT ?_; refine .lssF om_ ?_; refine .pickT ?_; refine .condF ?_; refine .fl ?_; refine len_thr hv ?_; refine .leqF om_ ?_)
      exact W.drop (q' fun h => by have := h.1; omega)
  · rw [List.take_of_length_le hi] at hok
    (refine .fl ?_; refine len_thr hv ?_; refine .lssF om_ ?_; (iterate 2 refine .whenFT ?_); refine .pickF ?_; refine .condF ?_; refine .fl ?_; refine len_thr hv ?_; refine .leqT om_ ?_)
    exact W.drop (q ⟨by omega, hok⟩)
theorem lowerAll_c {K : V → H → Option R} {m : Nat} {vs : List V} {locs : Int} {ps : List (List Ins)} {v : V} (hvs : vs = [.agg [.int .i64 locs, v]]) (hv : ThrR L v ps) (q : W Q B A S L (K (.bool true))) : W Q B A S (L) fun h => J.call (F (m + 10)) (.fn (.func 3) [] []) vs R h K := by
  subst hvs
  refine W.callE (d := d3) (c := c3) (by kernel_rfl) rfl (by rfl) ?_
  unfold c3
  have hone := hv.one
  have hbx : allOne (V.agg [.int .i64 locs, v]).cells = true := by show (Bool.rec false true v.one : Bool) = true; rw [hone]
  refine W.hd (W.en (W.box hbx fun b hb => W.loadNP List.mem_cons_self nl_ ?_))
  refine fewProg_c rf_ hv.cons (fun hf => ?_) (fun hf => ?_)
  · refine W.notT (W.condF (W.loadNP List.mem_cons_self nl_ ?_))
    have fin : ∀ (M : Kn) (n e : Int) (w u : V) (ts : List (List PIn)), PThr M w ts → PThr M u ts → (∀ q ∈ L, q ∈ M) → ts.length < 1000 → (∀ t ∈ ts, t.length < 1000 ∧ ∀ x ∈ t, x.e.length < 1000) → ∀ b16 : Nat, W Q B A S M (K (.bool true)) → W Q B A S M fun h => J.call (F (m + 9)) (.fn (.func 9) [] []) [.agg [.int .i64 n, w], .agg [.int .i64 n, u]] R h fun v20 h => runK (whenK v20 true (J.pure (.int .i64 e))) R h fun v21 h => runK (whenK v20 true (J.pure (.int .i64 e))) R h fun v22 h => runK (whenK v20 true (J.bin (F (m + 9)) .eql v21 v22)) R h fun v23 h => J.pick v20 v23 (.bool false) R h fun v24 h => runK (whenK v24 true (J.call (F (m + 9)) (.fn (.func 6) [] []) [])) R h fun v25 h => J.pick v24 v25 (.bool false) R h fun v26 h => K v26 h := by
      intro M n e w u ts hw hu hLM hl hf b16 q
      refine sameP_c rfl hw hu (fun q hq => hq) hl hf ?_
      refine W.whenTT (W.pure (W.whenTT (W.pure (W.whenTT (W.eqlT rfl (W.pickT (W.whenTT (W.callR (by rfl) (W.pickT q)))))))))
    refine lowerA_c rfl hv.cons hf (fun hck w N hN hPT => ?_) (fun hck => ?_)
    · have hw1 := hPT.one
      refine W.ext _ rfl (W.ext _ rfl (W.newT fun b10 hb10 => W.storeN om_ rf_ (by decide) (allOne_c rfl (allOne_c hw1 rfl)) ?_))
      refine W.loadNP (List.mem_cons_of_mem _ (List.mem_append_right _ List.mem_cons_self)) nl_ ?_
      refine lowerR_c rfl (hv.sub (by grind)) hf (fun _ u N' hN' hPU => ?_) (fun h => absurd hck h)
      have hu1 := hPU.one
      refine W.ext _ rfl (W.ext _ rfl (W.newT fun b16 hb16 => W.storeN om_ rf_ (by decide) (allOne_c rfl (allOne_c hu1 rfl)) ?_))
      refine W.loadNP (List.mem_cons_of_mem _ (List.mem_append_right _ List.mem_cons_self)) nl_ (W.loadNP List.mem_cons_self nl_ ?_)
      refine fin _ locs 0 w u (ps.map lowT) (hPT.sub (by grind)) (hPU.sub (by grind)) (by grind) (by rw [List.length_map]; have := hf.1; omega) (fun t ht => ?_) b16 ?_
      · obtain ⟨t0, h0, rfl⟩ := List.mem_map.1 ht
        have h1 := hf.2 t0 h0
        have h2 := lowT_len t0
        exact ⟨by omega, fun x hx => by have := lowT_e h1.2 x hx; omega⟩
      · exact W.drop (W.dropN N' (W.drop (W.dropN N (W.drop q))))
    · refine W.ext _ rfl (W.ext _ rfl (W.newT fun b10 hb10 => W.storeN om_ rf_ (by decide) rfl ?_))
      refine W.loadNP (List.mem_cons_of_mem _ List.mem_cons_self) nl_ ?_
      refine lowerR_c rfl hv.cons.cons hf (fun h => absurd h hck) (fun _ => ?_)
      refine W.ext _ rfl (W.ext _ rfl (W.newT fun b16 hb16 => W.storeN om_ rf_ (by decide) rfl ?_))
      refine W.loadNP (List.mem_cons_of_mem _ List.mem_cons_self) nl_ (W.loadNP List.mem_cons_self nl_ ?_)
      refine fin _ 0 (checkP locs ps) .nils .nils [] ⟨[], Rd.nils (by decide), rfl⟩ ⟨[], Rd.nils (by decide), rfl⟩ (by grind) (by simp) (fun _ h => nomatch h) b16 (W.drop (W.drop (W.drop q)))
  · exact W.notF (W.condT (W.callR (by rfl) (W.drop q)))
theorem tokArg {v : V} (h : SlV 2 (StT [IntT, IntT]) v) : ∃ ts, Tk L v ts := by
  rcases h with rfl | rfl | ⟨ls, h1, h2, rfl⟩
  · exact ⟨[], Rd.nils (by decide)⟩
  · exact ⟨[], by decide, rfl, .inl ⟨.inr rfl, rfl⟩⟩
  · have key : ∀ ls : List (List V), (∀ l ∈ ls, StT [IntT, IntT] l ∧ l.length = 2) → ∃ ts, tokCells ts = ls.flatten ∧ ts.length = ls.length := by
      intro ls
      induction ls with
      | nil => exact fun _ => ⟨[], rfl, rfl⟩
      | cons l ls ih =>
        intro h
        obtain ⟨ts, e1, e2⟩ := ih fun l hl => h l (List.mem_cons_of_mem _ hl)
        obtain ⟨a, r, rfl, ⟨x, rfl, _⟩, ⟨a', r', rfl, ⟨y, rfl, _⟩, hr⟩⟩ := (h l List.mem_cons_self).1
        have hr : r' = [] := hr
        subst hr
        exact ⟨(x, y) :: ts, by rw [List.flatten_cons, ← e1]; rfl, by simp [e2]⟩
    obtain ⟨ts, e1, e2⟩ := key ls h2
    exact ⟨ts, by decide, tokCells_len ts, .inr (.inr (by rw [e1, e2]))⟩
def InsA : List V → Prop := StT [IntT, IntT, IntT, IntT, IntT, SlT 2 (StT [IntT, IntT]), IntT]
theorem insArg {v : V} (h : SlV 7 InsA v) : ∃ is, InsR L v is := by
  rcases h with rfl | rfl | ⟨ls, h1, h2, rfl⟩
  · exact ⟨[], [], Rd.nils (by decide), rfl⟩
  · exact ⟨[], [], ⟨by decide, rfl, .inl ⟨.inr rfl, rfl⟩⟩, rfl⟩
  · have key : ∀ ls : List (List V), (∀ l ∈ ls, InsA l ∧ l.length = 7) → ∃ is, InsCells L is ls.flatten ∧ is.length = ls.length := by
      intro ls
      induction ls with
      | nil => exact fun _ => ⟨[], rfl, rfl⟩
      | cons l ls ih =>
        intro h
        obtain ⟨is, e1, e2⟩ := ih fun l hl => h l (List.mem_cons_of_mem _ hl)
        obtain ⟨_, _, rfl, ⟨k, rfl, _⟩, _, _, rfl, ⟨m1, rfl, _⟩, _, _, rfl, ⟨m2, rfl, _⟩, _, _, rfl, ⟨r, rfl, _⟩, _, _, rfl, ⟨lc, rfl, _⟩, _, _, rfl, ⟨ve, rfl, hve⟩, _, _, rfl, ⟨n, rfl, _⟩, hr⟩ := (h l List.mem_cons_self).1
        have hr : _ = [] := hr
        subst hr
        obtain ⟨e, he⟩ := tokArg (L := L) hve
        exact ⟨⟨k, m1, m2, r, lc, e, n⟩ :: is, ⟨ve, ls.flatten, by rw [List.flatten_cons]; rfl, he, e1⟩, by simp [e2]⟩
    obtain ⟨is, e1, e2⟩ := key ls h2
    refine ⟨is, ls.flatten, ⟨by decide, ?_, .inr (.inr (by rw [e2]))⟩, e1⟩
    have key2 : ∀ {is : List Ins} {l : List V}, InsCells L is l → l.length = is.length * 7 := by
      intro is
      induction is with
      | nil => intro l h; rw [show l = [] from h]; rfl
      | cons x is ih => intro l h; obtain ⟨v, r, h1, _, h3⟩ := h; rw [h1, List.length_append, ih h3, List.length_cons]; simp; omega
    exact key2 e1
theorem thrArg {v : V} (h : SlV 1 (SlT 7 InsA) v) : ∃ ps, ThrR L v ps := by
  rcases h with rfl | rfl | ⟨ls, h1, h2, rfl⟩
  · exact ⟨[], [], Rd.nils (by decide), rfl⟩
  · exact ⟨[], [], ⟨by decide, rfl, .inl ⟨.inr rfl, rfl⟩⟩, rfl⟩
  · have key : ∀ ls : List (List V), (∀ l ∈ ls, SlT 7 InsA l ∧ l.length = 1) → ∃ ps, ThrCells L ps ls.flatten ∧ ps.length = ls.length ∧ ls.flatten.length = ls.length := by
      intro ls
      induction ls with
      | nil => exact fun _ => ⟨[], rfl, rfl, rfl⟩
      | cons l ls ih =>
        intro h
        obtain ⟨is, e1, e2, e3⟩ := ih fun l hl => h l (List.mem_cons_of_mem _ hl)
        obtain ⟨v, rfl, hv⟩ := (h l List.mem_cons_self).1
        obtain ⟨t, ht⟩ := insArg (L := L) hv
        exact ⟨t :: is, ⟨v, ls.flatten, rfl, ht, e1⟩, by simp [e2], by simp [e3]⟩
    obtain ⟨ps, e1, e2, e3⟩ := key ls h2
    exact ⟨ps, ls.flatten, ⟨by decide, by omega, .inr (.inr (by rw [e2]))⟩, e1⟩
theorem lowerAll_run {m : Nat} {locs : Int} {v : V} (h : SlV 1 (SlT 7 InsA) v) : isTrue (run ((F (m + 10)).call 3 [.agg [.int .i64 locs, v]]) h0) = true := by
  obtain ⟨ps, hv⟩ := thrArg (L := []) h
  exact W.run (Q := fun o => isTrue o = true) (P := fun h => J.call (F (m + 10)) (.fn (.func 3) [] []) [.agg [.int .i64 locs, v]] (V × H) h fun v h => some (v, h)) (lowerAll_c (K := fun v h => some (v, h)) rfl hv fun h m => rfl)
end
end Go.Proofs.Ythkipncmnefomaa.XCodeL
