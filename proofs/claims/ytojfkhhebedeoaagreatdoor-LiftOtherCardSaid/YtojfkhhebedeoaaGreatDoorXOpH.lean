/- A verified executor, part 14: append. -/
import Derived.Test.YtojfkhhebedeoaaGreatDoorXOpG
import Derived.Deep.AppendSrc
import Derived.Laws.AppendOwn
set_option linter.unusedVariables false
set_option linter.unusedSimpArgs false
set_option linter.unusedSectionVars false
namespace Go.X
open Go.RowKit
variable [Nu]

theorem RVs_bytes {E : En} : ∀ (l : List UInt8), RVs E ((l.map (·.toNat)).map fun n => V.int .u8 (Int.ofNat n)) (l.map fun b => Value.int .u8 b.toNat)
  | [] => RVs_none
  | b :: l => RVs_mk (by rw [RV]; rfl) (RVs_bytes l)

theorem allOne_append (a b : List V) : allOne (a ++ b) = (allOne a && allOne b) := by
  induction a with
  | nil => rfl
  | cons v a ih => rw [List.cons_append, allOne_cons, allOne_cons, ih, Bool.and_assoc]

section
variable {P : Program} (wd : World)

/-- Nothing is appended. -/
theorem r_append0 {t tx ty e : TypeId} {i : TypeInfo} (ht : P.underlying t = some (.slice e)) (hi : P.info? e = some i) (base : Option Addr) (sLen sCap : Nat) (x : Value) (hs : Src P i.size tx x 0 [] wd) (h : sLen ≤ sCap) :
    (Builtin.append_ #[t, tx] ty #[.slice base sLen sCap, x]).run P wd = .ok (.slice base sLen sCap) wd := by
  cases base <;> rcases hs.kind with ⟨e', hk⟩ | hk <;> simp [Builtin.append_, run_underlying ht, run_underlying hk, sizeOf, typeInfo, hi, hs.len, h, hs.cells, storeCells]

/-- What is appended: so many items, so many cells. -/
theorem appended_some (es : Nat) (y : V) (R : Type) (h : H) (K : List V → H → Option R) (r : R) (e : appended es y R h K = some r) :
    ∃ l h1, K l h1 = some r ∧ (h1 = h ∨ ∃ b, h1 = h.note b) ∧
      ∀ (w0 : World) (E : En), Sim w0 E h wd → 1 ≤ es → ∀ (tx : TypeId) (yv : Value), RV E y yv → ((∃ e', P.underlying tx = some (.slice e')) ∨ P.underlying tx = some .string) →
        ∃ n news, RVs E l news ∧ l.length = n * es ∧ (allOne l = true → Src P es tx yv n news wd) := by
  cases y with
  | nils =>
    refine ⟨[], h, e, .inl rfl, fun w0 E hs hes tx yv hy hk => ⟨0, [], RVs_none, by simp, fun _ => ?_⟩⟩
    rw [RV] at hy
    subst hy
    exact ⟨hk, fun _ => rfl, run_firstCells_none wd es 0 0 0, run_firstCells_none wd.drew es 0 0 0, by simp, fun _ h => by cases h⟩
  | emp =>
    refine ⟨[], h, e, .inl rfl, fun w0 E hs hes tx yv hy hk => ⟨0, [], RVs_none, by simp, fun _ => ?_⟩⟩
    rw [RV] at hy
    obtain ⟨a, c, rfl⟩ := hy
    exact ⟨hk, fun _ => rfl, run_firstCells_some wd es 0 a 0 c [] (by simp) (fun j v hv => by simp at hv), run_firstCells_some wd.drew es 0 a 0 c [] (by simp) (fun j v hv => by simp at hv), by simp, fun _ h => by cases h⟩
  | slice b o n es' cap =>
    obtain ⟨he, e1⟩ := beq_and e
    subst he
    obtain ⟨c, q, y1, hb, hn, e2⟩ := ldN_some _ _ _ _ _ _ _ e1
    refine ⟨_, _, e2, .inr ⟨b, rfl⟩, fun w0 E hs hes tx yv hy hk => ?_⟩
    rw [RV] at hy
    obtain ⟨_, r0, cp, hr0, rfl, hcp, _⟩ := hy
    obtain ⟨us, h1, h2, h3⟩ := hs.loads hb hr0 hn
    refine ⟨n, us, h2, by rw [← RVs_length h2, h1]; rfl, fun ha => ⟨hk, fun _ => rfl, ?_, ?_, h1, RVs_ones h2 ha⟩⟩
    · exact run_firstCells_some wd es n ⟨r0, o, none⟩ n cp us h1 (fun j u hu => by rw [Addr.add_lit]; exact h3 j u hu)
    · exact run_firstCells_some wd.drew es n ⟨r0, o, none⟩ n cp us h1 (fun j u hu => by rw [Addr.add_lit]; exact h3 j u hu)
  | str t =>
    obtain ⟨he, e1⟩ := beq_and e
    subst he
    refine ⟨_, h, e1, .inl rfl, fun w0 E hs hes tx yv hy hk => ?_⟩
    rw [RV] at hy
    obtain ⟨s, rfl, hs2⟩ := hy
    refine ⟨s.size, byteCells s, by rw [← hs2]; exact RVs_bytes _, by rw [List.length_map, ← hs2, List.length_map, Nat.mul_one]; simp, fun _ => ⟨hk, fun _ => rfl, firstCells_string s wd, firstCells_string s wd.drew, by rw [byteCells_length, Nat.mul_one], fun u hu => ?_⟩⟩
    obtain ⟨_, _, rfl⟩ := List.mem_map.1 hu
    rfl
  | bigs es' l m =>
    obtain ⟨n, hn, e1⟩ := (optRec_some _ _ _).1 e
    obtain ⟨he, e2⟩ := beq_and e1
    obtain ⟨hl, e3⟩ := beq_and e2
    subst he
    rw [len_eq] at hl
    refine ⟨l, h, e3, .inl rfl, fun w0 E hs hes tx yv hy hk => ?_⟩
    rw [RV] at hy
    obtain ⟨a, L, c, ys, rfl, hc, _, hL, hys, ho⟩ := hy
    have hnL : n = L := by
      cases m with
      | int k z =>
        cases z with
        | ofNat q =>
          have hq : some q = some n := hn
          simp only [Option.some.injEq] at hq
          subst hq
          rw [RV] at hL
          simp only [Value.int.injEq] at hL
          have := hL.2
          simp only [Int.ofNat_eq_natCast] at this
          omega
        | negSucc q => exact nomatch hn
      | _ => exact nomatch hn
    subst hnL
    have h1 : ys.length = n * es := by rw [RVs_length hys]; exact hl.symm
    refine ⟨n, ys, hys, hl.symm, fun ha => ⟨hk, fun _ => rfl, ?_, ?_, h1, RVs_ones hys ha⟩⟩
    · exact run_firstCells_some wd es n a n c ys h1 (fun j u hu => ho.2 wd hs.olds j u hu)
    · exact run_firstCells_some wd.drew es n a n c ys h1 (fun j u hu => ho.2 wd hs.olds j u hu)
  | _ => exact nomatch e

end

theorem grow_some (es : Nat) (y : Nat) (l : List V) (n : Nat) (R : Type) (h : H) (K : V → H → Option R) (r : R) : grow es y l n R h K = some r ↔ allOne l = true ∧ h.at h.nx = none ∧ K (.slice h.nx 0 n es none) (h.made (.cells l true y)) = some r :=
  newCellsY_some l y R h _ r

/-- The old block, taken over by a new name. -/
theorem Sim.adopt {w0 : World} {E : En} {h : H} {w : World} (s : Sim w0 E h w) (hn : h.at h.nx = none) {r : Nat} (hno : ∀ b k, h.at b = some k → live k = true → E.mu b ≠ some r) (hr0 : w0.heap.size ≤ r) (hrd : r ∉ E.df) (k : Blk) (hl : live k = true) (n : Nat)
    (w' : World) (hb : BR (E.set h.nx r n) w' h.nx k) (he : ∀ i, i ≠ r → w'.heap[i]? = w.heap[i]?) (hs : w.heap.size ≤ w'.heap.size) (ho : w'.os = w.os) (ht : w'.tape = w.tape) (hu : w'.output = w.output) :
    Sim w0 (E.set h.nx r n) (h.made k) w' := by
  have hE := En.le_set (s.dom _ hn) r n
  have hmu : ∀ b r', b ≠ h.nx → (E.set h.nx r n).mu b = some r' → E.mu b = some r' := fun b r' hb hr => by simpa [En.set, hb] using hr
  refine ⟨?_, ?_, ?_, ?_, s.kept.trans ⟨ho, ht, hu, hs, fun i hi => he i (by omega)⟩, s.old,
    fun r' hr' => ⟨(he r' (fun e => hrd (by rw [← e]; exact hr'))).trans (s.defd r' hr').1, (s.defd r' hr').2.1, fun b k' hb' hl' hm => ?_⟩, s.once⟩
  · intro b k' hb'
    rw [H.made_at] at hb'
    by_cases e : b = h.nx
    · subst e; rw [if_pos rfl] at hb'; simp only [Option.some.injEq] at hb'; subst hb'; exact hb
    · rw [if_neg e] at hb'
      exact BR_world (BR_mono hE (s.blk b k' hb')) fun r' hl' hr' => he r' fun er => hno b k' hb' hl' (by rw [hmu b r' e hr', er])
  · intro b b' k1 k2 r' h1 h2 l1 l2 m1 m2
    rw [H.made_at] at h1 h2
    by_cases e : b = h.nx
    · by_cases e' : b' = h.nx
      · rw [e, e']
      · rw [if_neg e'] at h2
        rw [e, En.set_mu] at m1
        exact absurd ((hmu _ _ e' m2).trans m1.symm) (hno _ _ h2 l2)
    · rw [if_neg e] at h1
      by_cases e' : b' = h.nx
      · rw [e', En.set_mu] at m2
        exact absurd ((hmu _ _ e m1).trans m2.symm) (hno _ _ h1 l1)
      · rw [if_neg e'] at h2
        exact s.inj b b' k1 k2 r' h1 h2 l1 l2 (hmu _ _ e m1) (hmu _ _ e' m2)
  · intro b k' r' hb' hw hr
    rw [H.made_at] at hb'
    by_cases e : b = h.nx
    · rw [e, En.set_mu] at hr; simp only [Option.some.injEq] at hr; rw [← hr]; exact hr0
    · rw [if_neg e] at hb'; exact s.fresh b k' r' hb' hw (hmu _ _ e hr)
  · intro b hb'
    rw [H.made_at] at hb'
    by_cases e : b = h.nx
    · rw [if_pos e] at hb'; exact nomatch hb'
    · rw [if_neg e] at hb'; simpa [En.set, e] using s.dom b hb'
  · rw [H.made_at] at hb'
    by_cases e : b = h.nx
    · rw [e, En.set_mu] at hm
      simp only [Option.some.injEq] at hm
      exact hrd (by rw [hm]; exact hr')
    · rw [if_neg e] at hb'; exact (s.defd r' hr').2.2 b k' hb' hl' (hmu _ _ e hm)

section
variable {P : Program} {wd w0 : World} {E : En} {h : H} {t tx ty e : TypeId} {i : TypeInfo} {z : Value}

/-- It grows: a new block. -/
theorem grow_ok (hs : Sim w0 E h wd) (hn : h.at h.nx = none) (ht : P.underlying t = some (.slice e)) (hi : P.info? e = some i) (hz : i.zero = some z) (hzs : z.cells.size = i.size) (h1 : 1 ≤ i.size) (h1b : 1 ≤ i.bytes)
    (base : Option Addr) (sLen sCap : Nat) {old l : List V} {olds news : List Value} (ho : RVs E old olds) (hl : RVs E l news)
    (hold : (Builtin.firstCells i.size sLen (.slice base sLen sCap)).run P wd.drew = .ok olds.toArray wd.drew) (holdl : olds.length = sLen * i.size) (x : Value) (n : Nat) (hsrc : Src P i.size tx x n news wd)
    (hg : sCap < sLen + n) (hroom : (sLen + n) * i.bytes ≤ 1048576) (y : Nat) (hy : TyOK y e) :
    ∃ E' w' xv, E.le E' ∧ Sim w0 E' (h.made (.cells (old ++ l) true y)) w' ∧ RV E' (.slice h.nx 0 (sLen + n) i.size none) xv ∧ (Builtin.append_ #[t, tx] ty #[.slice base sLen sCap, x]).run P wd = .ok xv w' := by
  have hb1 : sLen + n ≤ 1048576 := Nat.le_trans (Nat.le_mul_of_pos_right _ h1b) hroom
  have hgr := run_append_grow_src (P := P) wd t tx ty e i z ht hi hz base sLen sCap olds hold x n news hsrc hg (by omega) (growslice_fits hg (by omega))
  have hge := grownCap_ge wd (sLen + n) sCap e
  obtain ⟨hE, hs'⟩ := hs.drew.cellsNew hn (Builtin.zeroCells z.cells (grownCap wd (sLen + n) sCap e - (sLen + n))).toList (RVs_append ho hl) e true y hy
  have ecells : (olds ++ news).toArray ++ Builtin.zeroCells z.cells (grownCap wd (sLen + n) sCap e - (sLen + n)) = ((olds ++ news) ++ (Builtin.zeroCells z.cells (grownCap wd (sLen + n) sCap e - (sLen + n))).toList).toArray := by
    apply Array.ext'; simp
  rw [ecells] at hgr
  refine ⟨_, _, _, hE, hs', ?_, hgr⟩
  rw [RV]
  refine ⟨h1, wd.heap.size, grownCap wd (sLen + n) sCap e, En.set_mu _ _ _ _, rfl, hge, ?_⟩
  show 0 + _ = (En.set _ _ _ _).sz _
  have hnl : news.length = n * i.size := hsrc.newsLen
  have hzl : (Builtin.zeroCells z.cells (grownCap wd (sLen + n) sCap e - (sLen + n))).toList.length = (grownCap wd (sLen + n) sCap e - (sLen + n)) * i.size := by
    rw [Array.length_toList, size_zeroCells, hzs]
  rw [En.set_sz, List.length_append, List.length_append, holdl, hnl, hzl, ← Nat.add_mul, ← Nat.add_mul, Nat.zero_add, Nat.add_sub_cancel' hge]

/-- It fits. -/
theorem room_ok (hs : Sim w0 E h wd) (ht : P.underlying t = some (.slice e)) (hi : P.info? e = some i) {b o sLen sCap r : Nat} {c l : List V} {y : Nat} {news : List Value} (hb : h.at b = some (.cells c true y)) (hr : E.mu b = some r) (hl : RVs E l news)
    (hle : o + sLen * i.size + l.length ≤ c.length) (x : Value) (n : Nat) (hsrc : Src P i.size tx x n news wd) (hroom : sLen + n ≤ sCap) :
    (Builtin.append_ #[t, tx] ty #[.slice (some ⟨r, o, none⟩) sLen sCap, x]).run P wd = .ok (.slice (some ⟨r, o, none⟩) (sLen + n) sCap) (wd.setCells r (o + sLen * i.size) news) := by
  obtain ⟨ys, zs, el, fz, h1, h2, h3, h4⟩ := hs.cells hb hr
  have hlen := RVs_length h2
  have hll := RVs_length hl
  refine run_append_room_src wd t tx ty e i ht hi r o sLen sCap x n news hsrc hroom (fun j hj => ?_) (fun j hj => frozen_of wd h1 (h4 rfl) _ (by rw [List.length_append]; omega))
  rw [cell_of wd h1, List.getElem?_append_left (by omega), List.getElem?_eq_getElem (by omega)]
  rfl
end
end Go.X
