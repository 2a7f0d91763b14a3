/- A text of the verified executor, of contracts, or of this law; joined and trimmed by a program of mine (wip/gen). -/
import Derived.Test.YthkipncmnefomaaLowAM
import Derived.Test.YthkipncmnefomaaXSep3M
set_option linter.unusedVariables false
set_option linter.unusedSimpArgs false
set_option linter.unusedSectionVars false
set_option maxRecDepth 100000
set_option maxHeartbeats 4000000
namespace Go.Proofs.Ythkipncmnefomaa.XCodeL
open Go Go.X
noncomputable section
variable [Nu] {R : Type} {Q : Option R → Prop} {B : Nat} {A : Nat → Prop} {S : Nat} {L : Kn}
theorem tokCells_at2 {L : Kn} {p : V} {ts : List (Int × Int)} {i : Nat} {t : Int × Int} (ht : ts[i]? = some t) (h : Pl L p ((tokCells ts).drop (i * 2))) : Pl L p (.int .i64 t.1 :: .int .i64 t.2 :: tokCells (ts.drop (i + 1))) := by
  rw [tokCells_at ts i t ht] at h; exact h
theorem Tk.idx {M : Kn} {v : V} {ts : List (Int × Int)} {a : Int} {K : V → H → Option R} (hv : Tk M v ts) (i : Nat) (x : Int × Int) (ha : a = (i : Int)) (hx : ts[i]? = some x) (q : ∀ p, Pl M p (.int .i64 x.1 :: .int .i64 x.2 :: tokCells (ts.drop (i + 1))) → W Q B A S L (K p)) : W Q B A S L fun h => J.idxL 2 v (.int .i64 a) R h K :=
  W.idxM hv i ha (List.getElem?_eq_some_iff.1 hx).1 fun p hp => q p (tokCells_at2 hx hp)
theorem Iv.idx {M : Kn} {v : V} {l : List Int} {a : Int} {K : V → H → Option R} (hv : Iv M v l) (i : Nat) (x : Int) (ha : a = (i : Int)) (hx : l[i]? = some x) (q : ∀ p, Pl M p (.int .i64 x :: intsC (l.drop (i + 1))) → W Q B A S L (K p)) : W Q B A S L fun h => J.idxL 1 v (.int .i64 a) R h K :=
  W.idxM hv i ha (List.getElem?_eq_some_iff.1 hx).1 fun p hp => q p (by
    have hi := (List.getElem?_eq_some_iff.1 hx).1
    rw [Nat.mul_one, intsC_drop, List.drop_eq_getElem_cons hi, (List.getElem?_eq_some_iff.1 hx).2] at hp; exact hp)
theorem sameE_c {K : V → H → Option R} {m : Nat} {vs : List V} {as bs : List (Int × Int)} {v w : V} (hvs : vs = [v, w]) (hv : Tk L v as) (hw : Tk L w bs) (hl : as.length < 100000) (q : W Q B A S L (K (.bool (decide (as = bs))))) : W Q B A S (L) fun h => J.call (F (m + 1)) (.fn (.func 36) [] []) vs R h K := by
  subst hvs
  refine W.callE (d := d36) (c := c36) (by kernel_rfl) rfl (by rfl) ?_
  unfold c36
  refine W.hd (W.hd (W.en (W.lenR hv (W.lenR hw ?_))))
  refine W.neqC (fun c => ?_) (fun c => ?_)
  · (refine .condT ?_)
    rw [decide_eq_false (fun h => c (by rw [h]))] at q; exact q
  (refine .condF ?_)
  refine W.loop3 (I := fun d x1 x2 x3 L' => ∃ i : Nat, as.length ≤ i + d ∧ i ≤ as.length ∧ v = x1 ∧ w = x2 ∧ x3 = .int .i64 i ∧ L = L' ∧ as.take i = bs.take i) ?_ as.length om_
    ⟨0, by omega, by omega, rfl, rfl, rfl, rfl, by simp⟩
  rintro d k x1 x2 x3 L' ⟨i, e1, e2, rfl, rfl, rfl, rfl, ht⟩ hk
  rcases Nat.lt_or_ge i as.length with hi | hi
  · obtain ⟨x, hx, _⟩ := drop_at hi
    obtain ⟨y, hy, _⟩ := drop_at (l := bs) (i := i) om_
    have ne : x ≠ y → W Q B A S L (K (.bool false)) := fun h => by
      rw [decide_eq_false (fun e => h (by rw [e, hy] at hx; exact (Option.some.inj hx).symm))] at q; exact q
    refine .lenR rc_ ?_
    refine .lssT om_ ?_
    refine .condT ?_
    refine .nd fun hnd => W.nextOf fun n0 hn0 hids => ?_
    refine Tk.idx hv i x rfl hx fun p hp => ?_
    (refine .fldA rc_ sd_ fun p hp => ?_)
    refine .logged fun B1 hB1 hS1 K1 hK0 hK1 => ?_
    refine .load1A rc_ _ rf_ ?_
    (refine hK0 _ (fun lgs1 hi1 ro1 hh1 => ?_); clear hK0 hK1; dsimp only)
    refine Tk.idx hw i y rfl hy fun p hp => ?_
    (refine .fldA rc_ sd_ fun p hp => ?_)
    refine .logged fun B1 hB1 hS1 K1 hK0 hK1 => ?_
    refine .load1A rc_ _ rf_ ?_
    (refine hK0 _ (fun lgs1 hi1 ro1 hh1 => ?_); clear hK0 hK1; dsimp only)
    refine .neqC (fun c => ?_) (fun c => ?_)
    (iterate 4 refine .whenTF ?_)
    (refine .lwhenTF fun B1 hi1 hS1 ro1 hh1 => ?_; dsimp only)
    (iterate 4 refine .whenTF ?_)
    (refine .lwhenTF fun B1 hi1 hS1 ro1 hh1 => ?_; dsimp only)
    refine .whenTF ?_
    refine .pickT ?_
    refine .ok S ?_
    refine .condT ?_
    exact ne (fun e => by simp_all)
    refine .whenFF ?_
    refine .pure ?_
    refine .whenFF ?_
    refine .pure ?_
    refine .whenFF ?_
    refine Tk.idx hv i x rfl hx fun p hp => ?_
    refine .whenFF ?_
    (refine .fldA rc_ sd_ fun p hp => ?_)
    refine .lwhenFF ?_
    refine .logged fun B1 hB1 hS1 K1 hK0 hK1 => ?_
    refine .load1A rc_ _ rf_ ?_
    (refine hK0 _ (fun lgs1 hi1 ro1 hh1 => ?_); clear hK0 hK1; dsimp only)
    refine .whenFF ?_
    refine .pure ?_
    refine .whenFF ?_
    refine .pure ?_
    refine .whenFF ?_
    refine Tk.idx hw i y rfl hy fun p hp => ?_
    refine .whenFF ?_
    (refine .fldA rc_ sd_ fun p hp => ?_)
    refine .lwhenFF ?_
    refine .logged fun B1 hB1 hS1 K1 hK0 hK1 => ?_
    refine .load1A rc_ _ rf_ ?_
    (refine hK0 _ (fun lgs1 hi1 ro1 hh1 => ?_); clear hK0 hK1; dsimp only)
    refine .whenFF ?_
    refine .neqC (fun c => ?_) (fun c => ?_)
    refine .pickF ?_
    refine .ok S ?_
    refine .condT ?_
    exact ne (fun e => by simp_all)
    refine .pickF ?_
    refine .ok S ?_
    refine .condF ?_
    refine .add om_ om_ ?_
    (exact hk (d - 1) _ _ _ _ om_ ⟨i + 1, by omega, by omega, rfl, rfl, by rw [Int.natCast_add]; rfl, rfl, by rw [List.take_add_one, List.take_add_one, ht, hx, hy, show x = y from Prod.ext om_ om_]⟩)
  · (refine .lenR rc_ ?_; refine .lssF om_ ?_; refine .condF ?_)
    rw [List.take_of_length_le hi, List.take_of_length_le om_] at ht
    rw [decide_eq_true ht] at q; exact q
end
end Go.Proofs.Ythkipncmnefomaa.XCodeL
set_option maxRecDepth 100000
set_option maxHeartbeats 4000000
namespace Go.Proofs.Ythkipncmnefomaa.XCodeL
open Go Go.X
noncomputable section
variable [Nu] {R : Type} {Q : Option R → Prop} {B : Nat} {A : Nat → Prop} {S : Nat} {L : Kn}
theorem regsR_c {K : V → H → Option R} {m : Nat} {vs : List V} {ts : List (Int × Int)} {v : V} (hvs : vs = [v]) (hv : Tk L v ts) (hl : ts.length ≤ 12) (q : ∀ v l' N, (∀ x, x ∈ l' ↔ x ∈ regL ts) → l'.length ≤ ts.length → (∀ p ∈ N, B ≤ p.1) → Iv (N ++ L) v l' → W Q B A S (N ++ L) (K v)) : W Q B A S (L) fun h => J.call (F (m + 2)) (.fn (.func 55) [] []) vs R h K := by
  subst hvs
  refine W.callE (d := d55) (c := c55) (by kernel_rfl) rfl (by rfl) ?_
  unfold c55
  refine W.hd (W.en ?_)
  refine W.loop3 (I := fun d x1 x2 x3 L' => ∃ (i : Nat) (lr : List Int) (pk : Kn), ts.length ≤ i + d ∧ i ≤ ts.length ∧ v = x1 ∧ Own B 1 4 x2 (intsC lr) pk ∧ x3 = .int .i64 i ∧ L' = pk ++ L ∧ (∀ x, x ∈ lr ↔ x ∈ regL (ts.take i)) ∧ lr.length ≤ i) ?_ ts.length om_
    ⟨0, [], [], by omega, by omega, rfl, Own.nil, rfl, rfl, by simp [regL], by simp⟩
  rintro d k x1 x2 x3 L' ⟨i, lr, pk, e1, e2, rfl, hown, rfl, rfl, hm, hll⟩ hk
  have hrd : Iv (pk ++ L) x2 lr := hown.rd L lr.length (Nat.le_refl _) (by rw [intsC_len, Nat.mul_one])
  have hpB : ∀ q ∈ pk, B ≤ q.1 := by
    rcases hown with ⟨_, _, rfl⟩ | ⟨b, n, c, y', _, _, _, _, rfl, hb⟩
    · intro q hq; exact nomatch hq
    · intro q hq; rw [List.mem_singleton.1 hq]; exact hb
  rcases Nat.lt_or_ge i ts.length with hi | hi
  · obtain ⟨t, ht, _⟩ := drop_at hi
    have hrt := regL_take ht
    have go : ∀ (lr' : List Int) (x' : V) (p' : Kn), Own B 1 4 x' (intsC lr') p' → (∀ x, x ∈ lr' ↔ x ∈ regL (ts.take (i + 1))) → lr'.length ≤ i + 1 → W Q B A S (p' ++ L) (k v x' (.int .i64 ((i : Int) + 1))) := fun lr' x' p' ho hm' hl' => hk (d - 1) _ _ _ _ om_ ⟨i + 1, lr', p', by omega, by omega, rfl, ho, by rw [Int.natCast_add]; rfl, rfl, hm', hl'⟩
    refine W.lenR (hv.app pk) ?_
    (refine .lssT om_ ?_; refine .condT ?_; refine .join ?_; refine Tk.idx hv i t rfl ht fun p hp => ?_; (refine .fldM hp sd_ fun p hp => ?_); refine .load1A (hp.app _) _ rf_ ?_)
    refine W.neqC (fun c => ?_) (fun c => ?_)
    · rw [if_neg c, List.append_nil] at hrt
      (refine .condT ?_; refine .add om_ om_ ?_)
      exact go lr x2 pk hown (by rw [hrt]; exact hm) om_
    · rw [if_pos c] at hrt
      (refine .condF ?_)
      refine W.loop4 (I := fun d x1 x2' x3 x4 L' => ∃ j : Nat, lr.length ≤ j + d ∧ j ≤ lr.length ∧ v = x1 ∧ x2 = x2' ∧ x3 = .int .i64 i ∧ x4 = .int .i64 j ∧ L' = pk ++ L) ?_ lr.length om_
        ⟨0, by omega, by omega, rfl, rfl, rfl, rfl, rfl⟩
      rintro d2 k2 x1 x2' x3 x4 L' ⟨j, f1, f2, rfl, rfl, rfl, rfl, rfl⟩ hk2
      have hsub : ∀ q ∈ L, q ∈ pk ++ L := fun q hq => List.mem_append_right _ hq
      rcases Nat.lt_or_ge j lr.length with hj | hj
      · obtain ⟨z, hz, _⟩ := drop_at hj
        refine .nd fun hnd => W.nextOf fun n0 hn0 hids => ?_
        refine .lenR hrd ?_
        refine .lssT om_ ?_
        refine .whenTT ?_
        refine .pure ?_
        refine .whenTT ?_
        refine .pure ?_
        refine .whenTT ?_
        refine Iv.idx hrd j z rfl hz fun p hp => ?_
        refine .lwhenTT ?_
        (refine .lload1M hp (fun _ h => h) _ rf_ fun B1 lgs1 hi1 hS1 ro1 hh1 => ?_; dsimp only)
        refine .whenTT ?_
        refine .pure ?_
        refine .whenTT ?_
        refine .pure ?_
        refine .whenTT ?_
        refine Tk.idx hv i t rfl ht fun p hp => ?_
        refine .whenTT ?_
        (refine .fldM hp sd_ fun p hp => ?_)
        refine .lwhenTT ?_
        (refine .lload1M hp hsub _ rf_ fun B1 lgs1 hi1 hS1 ro1 hh1 => ?_; dsimp only)
        refine .whenTT ?_
        refine .lssC (fun c => ?_) (fun c => ?_)
        refine .pickT ?_
        refine .ok S ?_
        refine .condT ?_
        refine .add om_ om_ ?_
        rotate_left
        refine .pickT ?_
        refine .ok S ?_
        refine .condF ?_
        refine .nd fun hnd => W.nextOf fun n0 hn0 hids => ?_
        refine .lenR hrd ?_
        refine .lssT om_ ?_
        refine .whenTT ?_
        refine .pure ?_
        refine .whenTT ?_
        refine .pure ?_
        refine .whenTT ?_
        refine Iv.idx hrd j z rfl hz fun p hp => ?_
        refine .lwhenTT ?_
        (refine .lload1M hp (fun _ h => h) _ rf_ fun B1 lgs1 hi1 hS1 ro1 hh1 => ?_; dsimp only)
        refine .whenTT ?_
        refine .pure ?_
        refine .whenTT ?_
        refine .pure ?_
        refine .whenTT ?_
        refine Tk.idx hv i t rfl ht fun p hp => ?_
        refine .whenTT ?_
        (refine .fldM hp sd_ fun p hp => ?_)
        refine .lwhenTT ?_
        (refine .lload1M hp hsub _ rf_ fun B1 lgs1 hi1 hS1 ro1 hh1 => ?_; dsimp only)
        refine .whenTT ?_
        refine .eqlC (fun c => ?_) (fun c => ?_)
        refine .pickT ?_
        refine .ok S ?_
        refine .condT ?_
        rotate_left
        refine .pickT ?_
        refine .ok S ?_
        refine .condF ?_
        refine .nd fun hnd => W.nextOf fun n0 hn0 hids => ?_
        rotate_right
        rotate_right
        all_goals (first
          | exact hk2 (d2 - 1) _ _ _ _ _ om_ ⟨j + 1, by omega, by omega, rfl, rfl, rfl, by rw [Int.natCast_add]; rfl, rfl⟩
          | (with_reducible refine W.add om_ om_ ?_; exact go lr x2 pk hown (fun x => by
              rw [hrt, List.mem_append, ← hm x, List.mem_singleton]
              exact ⟨fun h => .inl h, fun h => h.elim id fun h => by
                have h9 := List.mem_of_getElem? hz
                rw [show z = t.2 by assumption] at h9
                rw [h]; exact h9⟩) om_)
          | skip)
        all_goals (
          refine W.get fun S' hS' hBS hidS hAS => ?_
          (refine W.lcutR hrd (.inl ⟨rfl, rfl⟩) (.inr rfl) (Nat.zero_le _) f2 fun w1 B1 hi1 hw1 hS1 ro1 hh1 => ?_; dsimp only)
          have hw1 : Rd (pk ++ L) 1 w1 j (intsC (lr.take j)) := by rw [Nat.zero_mul, List.drop_zero, Nat.sub_zero, Nat.mul_one, intsC_take] at hw1; exact hw1
          refine W.loggedN (n0 := S') (L0 := pk ++ L) hBS om_ (fun q hq _ => List.mem_map_of_mem hq) hAS fun S1 hS1' K1 hK => ?_
          refine W.append (p := []) (n := 0) (m := j) Own.nil hw1 (by simp) (by rw [List.nil_append]; exact intsC_one _) om_ fun x1' p1 ho1 => ?_
          rw [List.nil_append] at ho1
          (refine hK _ _ fun lgs2 hi2 ro2 hh2 => ?_; dsimp only)
          have hsub1 : ∀ q ∈ L, q ∈ p1 ++ (pk ++ L) := fun q hq => List.mem_append_right _ (List.mem_append_right _ hq)
          refine Tk.idx hv i t rfl ht fun p hp => W.fldM hp (by simp) fun p hp => ?_
          (refine W.lload1M hp hsub1 _ rf_ fun B3 lgs3 hi3 hS3 ro3 hh3 => ?_; dsimp only)
          (refine W.lslit1 rfl rfl rfl fun b4 hi4 hS4 hb4 => ?_; dsimp only)
          have hmay : ∀ (M : Kn), (∀ q ∈ M, S' ≤ q.1) → ∀ q ∈ M ++ (pk ++ L), q.1 < S' → q.1 ∈ ids (pk ++ L) := fun M hM q hq c => (List.mem_append.1 hq).elim (fun h => absurd (hM q h) (Nat.not_le.2 c)) fun h => List.mem_map_of_mem h
          have ho1g := ho1.ge
          refine W.loggedN (n0 := S') (L0 := pk ++ L) hBS om_ (hmay ((b4, _) :: p1) (fun q hq => (List.mem_cons.1 hq).elim (fun h => by rw [h]; show S' ≤ b4; omega) (ho1g q))) hAS fun S5 hS5 K5 hK5 => ?_
          refine W.perm (L' := p1 ++ ((b4, .cells [.int .i64 t.2] true 0) :: (pk ++ L))) List.perm_middle.symm ?_
          refine W.append (n := j) (m := 1) ho1 (it := [.int .i64 t.2]) ⟨Nat.le_refl _, rfl, .inr (.inl ⟨b4, 0, some 1, _, true, 0, rfl, List.mem_cons_self, rfl, fun q hq => by simp at hq; omega⟩)⟩ (by rw [intsC_len, List.length_take]; omega) (by rw [allOne_app, intsC_one]; rfl) om_ fun x2' p2 ho2 => ?_
          (refine hK5 _ _ fun lgs5 hi5 ro5 hh5 => ?_; dsimp only)
          refine W.drop2 ?_
          have ho2g := ho2.ge
          obtain ⟨w2, hw2, he2⟩ := W.cutR_eq (L := pk ++ L) (lo := some (.int .i64 j)) (hi := none) hrd (.inr rfl) (.inl ⟨rfl, rfl⟩) f2 (Nat.le_refl _)
          (refine W.lval (he2 _) fun B6 hi6 hS6 ro6 hh6 => ?_; dsimp only)
          refine W.loggedN (n0 := S') (L0 := pk ++ L) hBS om_ (hmay p2 ho2g) hAS fun S7 hS7 K7 hK7 => ?_
          refine W.append (n := j + 1) (m := lr.length - j) ho2 hw2 (by rw [List.length_append, intsC_len, List.length_take]; simp; omega) (by rw [allOne_app, allOne_app, intsC_one, Nat.mul_one, intsC_drop, intsC_take, intsC_one]; rfl) om_ fun x3' p3 ho3 => ?_
          (refine hK7 _ _ fun lgs7 hi7 ro7 hh7 => ?_; dsimp only)
          refine W.okP S om_ (St.psC rf_ rf_ (W.clashRN ro1 ro3 (n := n0) om_ om_ (fun i hi => hids i (W.ids_sub hsub hi)) om_) (St.psC rf_ rf_ (W.clashRN ro2 ro3 (n := n0) om_ om_ (fun i hi => hids i (W.ids_sub hsub hi)) om_) (St.psC rf_ rf_ W.clashE (St.psC rf_ rf_ W.clashE (St.psC rf_ rf_ W.clashE (St.psC rf_ rf_ W.clashE (St.psC rf_ rf_ W.clashE (St.psC rf_ rf_ W.clashE (St.psC rf_ rf_ W.clashE St.ps0))))))))) ?_
          have ho3' : Own B 1 4 x3' (intsC (lr.take j ++ [t.2] ++ lr.drop j)) p3 := by
            have e : List.take ((lr.length - j) * 1) (List.drop (j * 1) (intsC lr)) = intsC (lr.drop j) := by rw [Nat.mul_one, Nat.mul_one, intsC_drop, intsC_take, List.take_of_length_le (by rw [List.length_drop]; omega)]
            rw [e] at ho3
            rw [intsC_app, intsC_app]; exact ho3.mono hBS
          refine W.weak (List.Sublist.append_left (List.sublist_append_right pk L) p3) ?_
          (refine .add om_ om_ ?_)
          exact go _ x3' p3 ho3' (fun x => by
            have h10 : x ∈ lr ↔ x ∈ lr.take j ∨ x ∈ lr.drop j := by rw [← List.mem_append, List.take_append_drop]
            rw [hrt]
            simp only [List.mem_append, List.mem_singleton, ← hm x, h10]
            constructor
            · rintro ((h | h) | h)
              · exact .inl (.inl h)
              · exact .inr h
              · exact .inl (.inr h)
            · rintro ((h | h) | h)
              · exact .inl (.inl h)
              · exact .inr h
              · exact .inl (.inr h)) (by simp; omega))
      · have hje : j = lr.length := by omega
        refine .nd fun hnd => W.nextOf fun n0 hn0 hids => ?_
        refine .lenR hrd ?_
        refine .lssF om_ ?_
        (iterate 3 refine .whenFT ?_)
        (refine .lwhenFT fun B1 hi1 hS1 ro1 hh1 => ?_; dsimp only)
        (iterate 4 refine .whenFT ?_)
        (refine .lwhenFT fun B1 hi1 hS1 ro1 hh1 => ?_; dsimp only)
        refine .whenFT ?_
        refine .pickF ?_
        refine .ok S ?_
        refine .condF ?_
        refine .nd fun hnd => W.nextOf fun n0 hn0 hids => ?_
        refine .lenR hrd ?_
        refine .lssF om_ ?_
        (iterate 3 refine .whenFT ?_)
        (refine .lwhenFT fun B1 hi1 hS1 ro1 hh1 => ?_; dsimp only)
        (iterate 4 refine .whenFT ?_)
        (refine .lwhenFT fun B1 hi1 hS1 ro1 hh1 => ?_; dsimp only)
        refine .whenFT ?_
        refine .pickF ?_
        refine .ok S ?_
        refine .condF ?_
        refine .nd fun hnd => W.nextOf fun n0 hn0 hids => ?_
        all_goals (
          refine W.get fun S' hS' hBS hidS hAS => ?_
          (refine W.lcutR hrd (.inl ⟨rfl, rfl⟩) (.inr rfl) (Nat.zero_le _) f2 fun w1 B1 hi1 hw1 hS1 ro1 hh1 => ?_; dsimp only)
          have hw1 : Rd (pk ++ L) 1 w1 j (intsC (lr.take j)) := by rw [Nat.zero_mul, List.drop_zero, Nat.sub_zero, Nat.mul_one, intsC_take] at hw1; exact hw1
          refine W.loggedN (n0 := S') (L0 := pk ++ L) hBS om_ (fun q hq _ => List.mem_map_of_mem hq) hAS fun S1 hS1' K1 hK => ?_
          refine W.append (p := []) (n := 0) (m := j) Own.nil hw1 (by simp) (by rw [List.nil_append]; exact intsC_one _) om_ fun x1' p1 ho1 => ?_
          rw [List.nil_append] at ho1
          (refine hK _ _ fun lgs2 hi2 ro2 hh2 => ?_; dsimp only)
          have hsub1 : ∀ q ∈ L, q ∈ p1 ++ (pk ++ L) := fun q hq => List.mem_append_right _ (List.mem_append_right _ hq)
          refine Tk.idx hv i t rfl ht fun p hp => W.fldM hp (by simp) fun p hp => ?_
          (refine W.lload1M hp hsub1 _ rf_ fun B3 lgs3 hi3 hS3 ro3 hh3 => ?_; dsimp only)
          (refine W.lslit1 rfl rfl rfl fun b4 hi4 hS4 hb4 => ?_; dsimp only)
          have hmay : ∀ (M : Kn), (∀ q ∈ M, S' ≤ q.1) → ∀ q ∈ M ++ (pk ++ L), q.1 < S' → q.1 ∈ ids (pk ++ L) := fun M hM q hq c => (List.mem_append.1 hq).elim (fun h => absurd (hM q h) (Nat.not_le.2 c)) fun h => List.mem_map_of_mem h
          have ho1g := ho1.ge
          refine W.loggedN (n0 := S') (L0 := pk ++ L) hBS om_ (hmay ((b4, _) :: p1) (fun q hq => (List.mem_cons.1 hq).elim (fun h => by rw [h]; show S' ≤ b4; omega) (ho1g q))) hAS fun S5 hS5 K5 hK5 => ?_
          refine W.perm (L' := p1 ++ ((b4, .cells [.int .i64 t.2] true 0) :: (pk ++ L))) List.perm_middle.symm ?_
          refine W.append (n := j) (m := 1) ho1 (it := [.int .i64 t.2]) ⟨Nat.le_refl _, rfl, .inr (.inl ⟨b4, 0, some 1, _, true, 0, rfl, List.mem_cons_self, rfl, fun q hq => by simp at hq; omega⟩)⟩ (by rw [intsC_len, List.length_take]; omega) (by rw [allOne_app, intsC_one]; rfl) om_ fun x2' p2 ho2 => ?_
          (refine hK5 _ _ fun lgs5 hi5 ro5 hh5 => ?_; dsimp only)
          refine W.drop2 ?_
          have ho2g := ho2.ge
          obtain ⟨w2, hw2, he2⟩ := W.cutR_eq (L := pk ++ L) (lo := some (.int .i64 j)) (hi := none) hrd (.inr rfl) (.inl ⟨rfl, rfl⟩) f2 (Nat.le_refl _)
          (refine W.lval (he2 _) fun B6 hi6 hS6 ro6 hh6 => ?_; dsimp only)
          refine W.loggedN (n0 := S') (L0 := pk ++ L) hBS om_ (hmay p2 ho2g) hAS fun S7 hS7 K7 hK7 => ?_
          refine W.append (n := j + 1) (m := lr.length - j) ho2 hw2 (by rw [List.length_append, intsC_len, List.length_take]; simp; omega) (by rw [allOne_app, allOne_app, intsC_one, Nat.mul_one, intsC_drop, intsC_take, intsC_one]; rfl) om_ fun x3' p3 ho3 => ?_
          (refine hK7 _ _ fun lgs7 hi7 ro7 hh7 => ?_; dsimp only)
          refine W.okP S om_ (St.psC rf_ rf_ (W.clashRN ro1 ro3 (n := n0) om_ om_ (fun i hi => hids i (W.ids_sub hsub hi)) om_) (St.psC rf_ rf_ (W.clashRN ro2 ro3 (n := n0) om_ om_ (fun i hi => hids i (W.ids_sub hsub hi)) om_) (St.psC rf_ rf_ W.clashE (St.psC rf_ rf_ W.clashE (St.psC rf_ rf_ W.clashE (St.psC rf_ rf_ W.clashE (St.psC rf_ rf_ W.clashE (St.psC rf_ rf_ W.clashE (St.psC rf_ rf_ W.clashE St.ps0))))))))) ?_
          have ho3' : Own B 1 4 x3' (intsC (lr.take j ++ [t.2] ++ lr.drop j)) p3 := by
            have e : List.take ((lr.length - j) * 1) (List.drop (j * 1) (intsC lr)) = intsC (lr.drop j) := by rw [Nat.mul_one, Nat.mul_one, intsC_drop, intsC_take, List.take_of_length_le (by rw [List.length_drop]; omega)]
            rw [e] at ho3
            rw [intsC_app, intsC_app]; exact ho3.mono hBS
          refine W.weak (List.Sublist.append_left (List.sublist_append_right pk L) p3) ?_
          (refine .add om_ om_ ?_)
          exact go _ x3' p3 ho3' (fun x => by
            have h10 : x ∈ lr ↔ x ∈ lr.take j ∨ x ∈ lr.drop j := by rw [← List.mem_append, List.take_append_drop]
            rw [hrt]
            simp only [List.mem_append, List.mem_singleton, ← hm x, h10]
            constructor
            · rintro ((h | h) | h)
              · exact .inl (.inl h)
              · exact .inr h
              · exact .inl (.inr h)
            · rintro ((h | h) | h)
              · exact .inl (.inl h)
              · exact .inr h
              · exact .inl (.inr h)) (by simp; omega))
  · refine W.lenR (hv.app pk) ?_
    (refine .lssF om_ ?_; refine .condF ?_)
    rw [List.take_of_length_le hi] at hm
    exact q x2 lr pk hm om_ hpB hrd
end
end Go.Proofs.Ythkipncmnefomaa.XCodeL
