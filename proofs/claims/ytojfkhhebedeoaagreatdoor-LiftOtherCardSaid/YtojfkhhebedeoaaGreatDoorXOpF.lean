/- A verified executor, part 12: new blocks, loads, stores. -/
import Derived.Test.YtojfkhhebedeoaaGreatDoorXOpE
import Derived.Laws.Tables
import Derived.Great.BuildSlice
import Derived.Laws.MakeOwn
set_option linter.unusedVariables false
set_option linter.unusedSimpArgs false
set_option linter.unusedSectionVars false
namespace Go.X
open Go.RowKit
variable [Nu]

theorem zeroL_some {Γ : Cx} {t : Nat} {l : List V} (h : zeroL Γ t = some l) : ∃ i z, Γ.P.info? t = some i ∧ i.zero = some z ∧ (∀ E, RVs E l z.cells.toList) ∧ l.length = i.size := by
  unfold zeroL at h
  cases hi : Γ.P.info? t with
  | none => rw [hi] at h; exact nomatch h
  | some i =>
    rw [hi] at h
    dsimp only at h
    cases hz : i.zero with
    | none => rw [hz] at h; exact nomatch h
    | some z =>
      rw [hz] at h
      dsimp only at h
      cases hv : ofV z with
      | none => rw [hv] at h; exact nomatch h
      | some v =>
        rw [hv] at h
        dsimp only at h
        by_cases c : v.cells.length = i.size
        · rw [if_pos c] at h
          simp only [Option.some.injEq] at h
          subst h
          exact ⟨i, z, rfl, hz, fun E => RV_cells (ofV_RV E z v hv), c⟩
        · rw [if_neg c] at h; exact nomatch h

/-- A new block of cells, with room behind it. -/
theorem Sim.cellsNew {w0 : World} {E : En} {h : H} {w : World} (s : Sim w0 E h w) (hn : h.at h.nx = none) {l : List V} {ys : List Value} (zs : List Value) (hl : RVs E l ys) (el : TypeId) (q : Bool) (y : Nat) (hy : TyOK y el) :
    E.le (E.set h.nx w.heap.size (ys ++ zs).length) ∧ Sim w0 (E.set h.nx w.heap.size (ys ++ zs).length) (h.made (.cells l q y)) (w.alloc (.cells (ys ++ zs).toArray el)) := by
  have hE := En.le_set (s.dom _ hn) w.heap.size (ys ++ zs).length
  refine ⟨hE, s.made hn _ rfl _ _ ⟨w.heap.size, ys, zs, el, (0, 0), En.set_mu _ _ _ _, ?_, RVs_mono hE _ _ hl, En.set_sz _ _ _ _, ?_, hy⟩⟩
  · show (w.heap.push _)[w.heap.size]? = _
    rw [Array.getElem?_push_size]
  · intro _ i _ h; exact absurd h.2 (Nat.not_lt_zero _)

theorem newCellsY_some (l : List V) (y : Nat) (R : Type) (h : H) (K : Nat → H → Option R) (r : R) : newCellsY l y R h K = some r ↔ allOne l = true ∧ h.at h.nx = none ∧ K h.nx (h.made (.cells l true y)) = some r := by
  unfold newCellsY
  rw [boolRec_some, new_some]
theorem newCells_some (l : List V) (R : Type) (h : H) (K : Nat → H → Option R) (r : R) : newCells l R h K = some r ↔ allOne l = true ∧ h.at h.nx = none ∧ K h.nx (h.made (.cells l true 0)) = some r := by
  unfold newCells newCellsY
  rw [boolRec_some, new_some]

/-- What a block of cells tells. -/
theorem Sim.cellsY {w0 : World} {E : En} {h : H} {w : World} (s : Sim w0 E h w) {b : Nat} {c : List V} {q : Bool} {y : Nat} (hb : h.at b = some (.cells c q y)) {r : Nat} (hr : E.mu b = some r) :
    ∃ ys zs el fz, w.heap[r]? = some (.cells (ys ++ zs).toArray el fz) ∧ RVs E c ys ∧ E.sz b = (ys ++ zs).length ∧ (q = true → ∀ i, i < (ys ++ zs).length → ¬(fz.1 ≤ i ∧ i < fz.2)) ∧ TyOK y el := by
  obtain ⟨r', ys, zs, el, fz, h1, h2, h3, h4, h5⟩ := s.blk b _ hb
  rw [hr] at h1
  simp only [Option.some.injEq] at h1
  subst h1
  exact ⟨ys, zs, el, fz, h2, h3, h4, h5⟩
theorem Sim.cells {w0 : World} {E : En} {h : H} {w : World} (s : Sim w0 E h w) {b : Nat} {c : List V} {q : Bool} {y : Nat} (hb : h.at b = some (.cells c q y)) {r : Nat} (hr : E.mu b = some r) :
    ∃ ys zs el fz, w.heap[r]? = some (.cells (ys ++ zs).toArray el fz) ∧ RVs E c ys ∧ E.sz b = (ys ++ zs).length ∧ (q = true → ∀ i, i < (ys ++ zs).length → ¬(fz.1 ≤ i ∧ i < fz.2)) := by
  obtain ⟨r', ys, zs, el, fz, h1, h2, h3, h4, h5⟩ := s.blk b _ hb
  rw [hr] at h1
  simp only [Option.some.injEq] at h1
  subst h1
  exact ⟨ys, zs, el, fz, h2, h3, h4, h5.1⟩

theorem ld1_some (b o : Nat) (R : Type) (h : H) (K : V → H → Option R) (r : R) (e : ld1 b o R h K = some r) : ∃ c q y v, h.at b = some (.cells c q y) ∧ c[o]? = some v ∧ K v (h.note b) = some r := by
  obtain ⟨k, h1, _, h2⟩ := (read_some b R h _ r).1 e
  cases k with
  | cells c q y =>
    obtain ⟨v, h3, h4⟩ := (nthK_some _ r c o).1 h2
    exact ⟨c, q, y, v, h1, h3, h4⟩
  | _ => exact nomatch h2
theorem ldN_some (n b o : Nat) (R : Type) (h : H) (K : List V → H → Option R) (r : R) (e : ldN n b o R h K = some r) :
    ∃ c q y, h.at b = some (.cells c q y) ∧ n ≤ (c.drop o).length ∧ K ((c.drop o).take n) (h.note b) = some r := by
  obtain ⟨k, h1, _, h2⟩ := (read_some b R h _ r).1 e
  cases k with
  | cells c q y =>
    obtain ⟨h3, h4⟩ := (takeK_some r n _ _).1 h2
    rw [dropN_eq] at h3 h4
    exact ⟨c, q, y, h1, h3, h4⟩
  | _ => exact nomatch h2
theorem stW_some (b o : Nat) (l : List V) (k : Blk) (R : Type) (h : H) (K : Unit → H → Option R) (r : R) (e : stW b o l k R h K = some r) :
    ∃ c y, k = .cells c true y ∧ o + l.length ≤ c.length ∧ K () (h.wrote b (.cells (c.take o ++ (l ++ c.drop (o + l.length))) true y)) = some r := by
  cases k with
  | cells c q y =>
    obtain ⟨h3, h4⟩ := (boolRec_some _ _ _).1 e
    subst h3
    obtain ⟨h5, h6⟩ := (putAtK_some r l o c _).1 h4
    obtain ⟨_, _, h7⟩ := (write_some b _ R h K r).1 h6
    exact ⟨c, y, rfl, h5, h7⟩
  | _ => exact nomatch e
theorem stN_some (b o : Nat) (l : List V) (R : Type) (h : H) (K : Unit → H → Option R) (r : R) (e : stN b o l R h K = some r) :
    allOne l = true ∧ ∃ c y, h.at b = some (.cells c true y) ∧ o + l.length ≤ c.length ∧ K () ((h.note b).wrote b (.cells (c.take o ++ (l ++ c.drop (o + l.length))) true y)) = some r := by
  obtain ⟨h0, h1⟩ := (boolRec_some _ _ _).1 e
  obtain ⟨k, h2, _, h3⟩ := (read_some b R h _ r).1 h1
  obtain ⟨c, y, rfl, h4, h5⟩ := stW_some b o l k R _ K r h3
  exact ⟨h0, c, y, h2, h4, h5⟩
theorem st1_some (b o : Nat) (v : V) (R : Type) (h : H) (K : Unit → H → Option R) (r : R) (e : st1 b o v R h K = some r) :
    v.one = true ∧ ∃ c y, h.at b = some (.cells c true y) ∧ o + 1 ≤ c.length ∧ K () ((h.note b).wrote b (.cells (c.take o ++ ([v] ++ c.drop (o + 1))) true y)) = some r := by
  obtain ⟨h0, h1⟩ := (boolRec_some _ _ _).1 e
  obtain ⟨k, h2, _, h3⟩ := (read_some b R h _ r).1 h1
  obtain ⟨c, y, rfl, h4, h5⟩ := stW_some b o [v] k R _ K r h3
  exact ⟨h0, c, y, h2, h4, h5⟩

/-- A store. -/
theorem Sim.stored {w0 : World} {E : En} {h : H} {w : World} (s : Sim w0 E h w) {b : Nat} {c : List V} {y : Nat} (hb : h.at b = some (.cells c true y)) {r : Nat} (hr : E.mu b = some r) {o : Nat} {l : List V} {us : List Value} (hl : RVs E l us)
    (ho : o + l.length ≤ c.length) : Sim w0 E ((h.note b).wrote b (.cells (c.take o ++ (l ++ c.drop (o + l.length))) true y)) (w.setCells r o us) := by
  obtain ⟨ys, zs, el, fz, h1, h2, h3, h4, h5⟩ := s.cellsY hb hr
  have hlen := RVs_length h2
  have hlu := RVs_length hl
  have hle : o + us.length ≤ ys.length := by omega
  have e : over us (ys ++ zs) o = over us ys o ++ zs := by
    have q1 : (ys ++ zs).take o = ys.take o := List.take_append_of_le_length (by omega)
    have q2 : (ys ++ zs).drop (o + us.length) = ys.drop (o + us.length) ++ zs := List.drop_append_of_le_length (by omega)
    rw [over, over, q1, q2]
    simp [List.append_assoc]
  have hs1 := setCells_heap r us o w (ys ++ zs) el fz h1 (by rw [List.length_append]; omega)
  rw [e] at hs1
  have hl1 : (over us ys o ++ zs).length = (ys ++ zs).length := by rw [List.length_append, over_length _ _ _ hle, List.length_append]
  refine (s.note b).wrote (k := .cells c true y) (by rw [H.note_at]; exact hb) rfl hr _ (fun _ => rfl) _ ⟨r, over us ys o, zs, el, fz, hr, hs1, RVs_over o hl h2, by rw [hl1, h3], fun q i hi => h4 q i (by rw [hl1] at hi; exact hi), h5⟩
    (fun i hi => setCells_other r us o w i hi) (by rw [setCells_size]; exact Nat.le_refl _) (setCells_os r us o w) (setCells_tape r us o w) (setCells_output r us o w)
theorem Sim.stores {P : Program} {w0 : World} {E : En} {h : H} {w : World} (s : Sim w0 E h w) {b : Nat} {c : List V} {y : Nat} (hb : h.at b = some (.cells c true y)) {r : Nat} (hr : E.mu b = some r) {o : Nat} {l : List V} {us : List Value} (hl : RVs E l us)
    (h1 : allOne l = true) (ho : o + l.length ≤ c.length) : (storeCells ⟨r, o, none⟩ us).run P w = .ok () (w.setCells r o us) := by
  obtain ⟨ys, zs, el, fz, h2, h3, h4, h5⟩ := s.cells hb hr
  have hlen := RVs_length h3
  have hlu := RVs_length hl
  exact r_storeCells w h2 (h5 rfl) o us (by rw [List.length_append]; omega) (RVs_ones hl h1)
theorem Sim.loads {w0 : World} {E : En} {h : H} {w : World} (s : Sim w0 E h w) {b : Nat} {c : List V} {q : Bool} {y : Nat} (hb : h.at b = some (.cells c q y)) {r : Nat} (hr : E.mu b = some r) {o n : Nat} (hn : n ≤ (c.drop o).length) :
    ∃ us, us.length = n ∧ RVs E ((c.drop o).take n) us ∧ ∀ j u, us[j]? = some u → w.cell? ⟨r, o + j, none⟩ = some u := by
  obtain ⟨ys, zs, el, fz, h1, h2, h3, h4⟩ := s.cells hb hr
  have hlen := RVs_length h2
  have hr := RVs_take n (RVs_drop o h2)
  refine ⟨(ys.drop o).take n, by rw [List.length_drop] at hn; simp; omega, hr, fun j u hu => ?_⟩
  rw [cell_of w h1]
  rw [List.getElem?_take] at hu
  split at hu
  · rw [List.getElem?_drop] at hu
    have : o + j < ys.length := by
      rcases Nat.lt_or_ge (o + j) ys.length with hh | hh
      · exact hh
      · rw [List.getElem?_eq_none hh] at hu; exact nomatch hu
    rw [List.getElem?_append_left this]; exact hu
  · exact nomatch hu

/-! parts laid into cells -/
theorem setMany (off : Nat) : ∀ (ys zs : List Value) (k : Nat), off + k + ys.length ≤ zs.length →
    (ys.zipIdx k).foldl (fun cs (x : Value × Nat) => cs.setIfInBounds (off + x.2) x.1) zs.toArray = (over ys zs (off + k)).toArray
  | [], zs, k, h => by simp [over]
  | y :: ys, zs, k, h => by
    have e : zs.toArray.setIfInBounds (off + k) y = (zs.set (off + k) y).toArray := by simp
    rw [List.zipIdx_cons, List.foldl_cons, e, setMany off ys (zs.set (off + k) y) (k + 1) (by simp at h ⊢; omega), ← Nat.add_assoc, over_cons y ys zs (off + k) (by simp at h ⊢; omega)]

theorem cParts_cons {Γ : Cx} {w : Nat} {place : Nat → Option (Nat × Nat)} {p : Nat × Operand} {ps : List (Nat × Operand)} {l : List (Nat × Nat × A)} (h : cParts Γ w place (p :: ps) = some l) :
    ∃ o n a r, place p.1 = some (o, n) ∧ cA Γ w p.2 = some a ∧ cParts Γ w place ps = some r ∧ l = (o, n, a) :: r := by
  obtain ⟨x, r, h1, h2, h3⟩ := (allSome_cons _ _ _ _).1 h
  cases hp : place p.1 with
  | none => rw [hp] at h1; exact nomatch h1
  | some q =>
    cases ha : cA Γ w p.2 with
    | none => rw [hp, ha] at h1; exact nomatch h1
    | some a =>
      rw [hp, ha] at h1
      simp only [Option.some.injEq] at h1
      exact ⟨q.1, q.2, a, r, rfl, rfl, h2, by rw [h3, ← h1]⟩

section
variable {Γ : Cx} (hΓ : Γ.Ok) {w : Nat} {dst : Option Tmp} {ty : TypeId} {pos : String} {after : Array Edge} {guard : Option (Nat × Bool)}
include hΓ

theorem fill_ok {place place' : Nat → Option (Nat × Nat)} (hp : ∀ i q, place i = some q → place' i = some q) {E : En} {tm : Tm} {ar : Array Value} {ds : List Deferred} (ht : TR E w tm ar) {R : Type} (r : R) :
    ∀ (ps : List (Nat × Operand)) (l : List (Nat × Nat × A)) (z : List V) (zs : List Value) (K : List V → Option R), cParts Γ w place ps = some l → RVs E z zs → fillK tm l z K = some r →
      ∃ z' zs', K z' = some r ∧ RVs E z' zs' ∧ Instr.fill place' zs.toArray (ps.map fun p => (p.1, Act.eval ⟨ar, ds⟩ p.2)) = some zs'.toArray
  | [], l, z, zs, K, hc, hz, hr => by
    have : l = [] := by simpa [cParts, allSome] using hc.symm
    subst this
    exact ⟨z, zs, hr, hz, rfl⟩
  | p :: ps, l, z, zs, K, hc, hz, hr => by
    obtain ⟨o, n, a, l', h1, h2, h3, rfl⟩ := cParts_cons hc
    obtain ⟨v, hv, hr⟩ := (evK_some tm _ a _).1 hr
    obtain ⟨hb, hr⟩ := (boolRec_some _ _ _).1 hr
    obtain ⟨hle, hr⟩ := (putAtK_some r v.cells o z _).1 hr
    have hcell := RV_cells (cA_ok (ds := ds) hΓ h2 ht hv)
    have hlen := RVs_length hcell
    have hlz := RVs_length hz
    rw [len_eq] at hb
    have hn : n = v.cells.length := beq_true.1 hb
    obtain ⟨z', zs', q1, q2, q3⟩ := fill_ok (ds := ds) hp ht r ps l' _ _ K h3 (RVs_over o hcell hz) hr
    refine ⟨z', zs', q1, q2, ?_⟩
    have hsz : (Act.eval ⟨ar, ds⟩ p.2).cells.size = n := by rw [← Array.length_toList, hlen, hn]
    have hsz2 : (Act.eval ⟨ar, ds⟩ p.2).cells.toList.length = n := by rw [Array.length_toList, hsz]
    have c1 : (decide ((Act.eval ⟨ar, ds⟩ p.2).cells.size ≠ n) || decide (o + (Act.eval ⟨ar, ds⟩ p.2).cells.size > zs.toArray.size)) = false := by
      rw [hsz]
      simp
      omega
    have hset := setMany o (Act.eval ⟨ar, ds⟩ p.2).cells.toList zs 0 (by omega)
    rw [List.map_cons, Instr.fill, hp _ _ h1]
    dsimp only
    rw [c1]
    simp only [Bool.false_eq_true, if_false]
    rw [Nat.add_zero] at hset
    rw [← q3, ← hset, ← Array.foldl_toList, Array.toList_zipIdx]

theorem new_ok {t : TypeId} {z : List V} (hz : zeroL Γ t = some z) : OpOK Γ w ⟨dst, .alloc t, ty, pos, after, guard⟩ (I.newT (t + 1) z) := by
  intro F hA tm h v h' w0 E wd ar ds hr hs ht
  obtain ⟨i, zv, h1, h2, h3, h4⟩ := zeroL_some hz
  obtain ⟨hn, e⟩ := (new_some (.cells z true (t + 1)) (V × H) h (fun b h => some (V.ptr b 0, h)) _).1 hr
  obtain ⟨hE, hs'⟩ := hs.cellsNew hn [] (h3 E) t true (t + 1) TyOK.own
  simp only [Option.some.injEq, Prod.mk.injEq] at e
  obtain ⟨rfl, rfl⟩ := e
  refine ⟨_, _, .pointer (some ⟨wd.heap.size, 0, none⟩), hE, hs', by rw [RV]; exact ⟨_, En.set_mu _ _ _ _, rfl⟩, yields_value ?_⟩
  simp only [Instr.alloc, Sem.run_bind, r_zero wd h1 h2, Result.andThen_ok, newVar, newRow, run_newObj_alloc, Sem.run_pure]
  simp
theorem box_ok {t : TypeId} {x : Operand} {a : A} (hc : cA Γ w x = some a) : OpOK Γ w ⟨dst, .box t x, ty, pos, after, guard⟩ (I.box a) := by
  intro F hA tm h v h' w0 E wd ar ds hr hs ht
  obtain ⟨u, hu, e⟩ := (evK_some tm _ a _).1 hr
  have hu' := RV_cells (cA_ok (ds := ds) hΓ hc ht hu)
  obtain ⟨_, hn, e⟩ := (newCells_some _ _ h _ _).1 e
  obtain ⟨hE, hs'⟩ := hs.cellsNew hn [] hu' t true 0 TyOK.none
  simp only [Option.some.injEq, Prod.mk.injEq] at e
  obtain ⟨rfl, rfl⟩ := e
  refine ⟨_, _, .pointer (some ⟨wd.heap.size, 0, none⟩), hE, hs', by rw [RV]; exact ⟨_, En.set_mu _ _ _ _, rfl⟩, yields_value ?_⟩
  simp only [Instr.box, Sem.run_bind, newVar, newRow, run_newObj_alloc, Result.andThen_ok, Sem.run_pure]
  simp
theorem load1_ok {t : TypeId} (hg : isAggT Γ t = some false) {x : Operand} {a : A} (hc : cA Γ w x = some a) : OpOK Γ w ⟨dst, .load t x, ty, pos, after, guard⟩ (I.load1 a) := by
  intro F hA tm h v h' w0 E wd ar ds hr hs ht
  rw [I.load1_def] at hr
  obtain ⟨d, hd, hd1⟩ := isAggT_some hg
  obtain ⟨u, hu, e⟩ := (evK_some tm _ a _).1 hr
  have hu' := cA_ok (ds := ds) hΓ hc ht hu
  cases u with
  | ptr b o =>
    obtain ⟨c, q, y1, v1, h1, h2, h3⟩ := ld1_some _ _ _ _ _ _ e
    rw [RV] at hu'
    obtain ⟨r, hr1, hp⟩ := hu'
    obtain ⟨ys, zs, el, fz, g1, g2, g3, g4⟩ := hs.cells h1 hr1
    obtain ⟨y, hy, hy2⟩ := RVs_get g2 h2
    have hlt : o < ys.length := by
      rcases Nat.lt_or_ge o ys.length with hh | hh
      · exact hh
      · rw [List.getElem?_eq_none hh] at hy; exact nomatch hy
    simp only [Option.some.injEq, Prod.mk.injEq] at h3
    obtain ⟨rfl, rfl⟩ := h3
    refine ⟨E, wd, y, En.le_refl E, hs.note b, hy2, yields_value ?_⟩
    simp only [hp, Instr.loadAt, Instr.sureAddr, Sem.run_bind, Sem.run_pure, Result.andThen_ok]
    exact r_load1 wd hd hd1 (by rw [cell_of wd g1, List.getElem?_append_left hlt]; exact hy)
  | view l =>
    rw [RV] at hu'
    obtain ⟨a0, ys, hp, h3, h4⟩ := hu'
    obtain ⟨v1, h5, h6⟩ := (nthK_some _ _ l 0).1 e
    obtain ⟨y, hy, hy2⟩ := RVs_get h3 h5
    refine pure_end h6 hs hy2 (yields_value ?_)
    simp only [hp, Instr.loadAt, Instr.sureAddr, Sem.run_bind, Sem.run_pure, Result.andThen_ok]
    exact r_load1 wd hd hd1 (h4.zero hs.olds hy)
  | _ => exact nomatch e
theorem loadN_ok {t : TypeId} (hg : isAggT Γ t = some true) {n : Nat} (hz : sizeT Γ t = some n) {x : Operand} {a : A} (hc : cA Γ w x = some a) : OpOK Γ w ⟨dst, .load t x, ty, pos, after, guard⟩ (I.loadN n a) := by
  intro F hA tm h v h' w0 E wd ar ds hr hs ht
  rw [I.loadN_def] at hr
  obtain ⟨d, hd, hd1⟩ := isAggT_some hg
  obtain ⟨i0, hi0, hi1⟩ := sizeT_some hz
  obtain ⟨u, hu, e⟩ := (evK_some tm _ a _).1 hr
  have hu' := cA_ok (ds := ds) hΓ hc ht hu
  cases u with
  | ptr b o =>
    obtain ⟨c, q, y1, h1, h2, h3⟩ := ldN_some _ _ _ _ _ _ _ e
    rw [RV] at hu'
    obtain ⟨r, hr1, hp⟩ := hu'
    obtain ⟨us, g1, g2, g3⟩ := hs.loads h1 hr1 h2
    simp only [Option.some.injEq, Prod.mk.injEq] at h3
    obtain ⟨rfl, rfl⟩ := h3
    refine ⟨E, wd, .agg us.toArray, En.le_refl E, hs.note b, by rw [RV]; exact ⟨us, rfl, g2⟩, yields_value ?_⟩
    simp only [hp, Instr.loadAt, Instr.sureAddr, Sem.run_bind, Sem.run_pure, Result.andThen_ok]
    exact r_loadN wd hd hd1 hi0 (by omega) (fun j u hu => by rw [Addr.add_lit]; exact g3 j u hu)
  | view l =>
    rw [RV] at hu'
    obtain ⟨a0, ys, hp, h3, h4⟩ := hu'
    obtain ⟨h5, h6⟩ := (takeK_some _ n l _).1 e
    have hlen := RVs_length h3
    refine pure_end (x := .agg (ys.take n).toArray) h6 hs (by rw [RV]; exact ⟨_, rfl, RVs_take n h3⟩) (yields_value ?_)
    simp only [hp, Instr.loadAt, Instr.sureAddr, Sem.run_bind, Sem.run_pure, Result.andThen_ok]
    exact r_loadN wd hd hd1 hi0 (by rw [List.length_take]; omega) (fun j u hu => h4.2 wd hs.olds j u (by
      rw [List.getElem?_take] at hu
      by_cases c : j < n
      · rw [if_pos c] at hu; exact hu
      · rw [if_neg c] at hu; exact nomatch hu))
  | _ => exact nomatch e
theorem store1_ok {t : TypeId} (hz : sizeT Γ t = some 1) {x y : Operand} {a b : A} (hx : cA Γ w x = some a) (hy : cA Γ w y = some b) : OpOK Γ w ⟨dst, .store t x y, ty, pos, after, guard⟩ (I.store1 a b) := by
  intro F hA tm h v h' w0 E wd ar ds hr hs ht
  rw [I.store1_def] at hr
  obtain ⟨i0, hi0, hi1⟩ := sizeT_some hz
  obtain ⟨u, hu, e⟩ := (evK_some tm _ a _).1 hr
  have hu' := cA_ok (ds := ds) hΓ hx ht hu
  cases u with
  | ptr bl o =>
    obtain ⟨v1, hv1, e⟩ := (evK_some tm _ b _).1 e
    have hv' := cA_ok (ds := ds) hΓ hy ht hv1
    obtain ⟨h0, c, y1, h1, h2, h3⟩ := st1_some _ _ _ _ _ _ _ e
    rw [RV] at hu'
    obtain ⟨r, hr1, hp⟩ := hu'
    simp only [Option.some.injEq, Prod.mk.injEq] at h3
    obtain ⟨rfl, rfl⟩ := h3
    have hc1 : v1.cells = [v1] := by cases v1 <;> first | rfl | exact nomatch h0
    have hcell := RV_cells hv'
    rw [hc1] at hcell
    have ha : allOne [v1] = true := by rw [allOne_cons, h0]; rfl
    have hlen := RVs_length hcell
    refine ⟨E, _, Go.undef, En.le_refl E, hs.stored h1 hr1 hcell h2, by rw [undef, RV]; exact ⟨[], rfl, RVs_none⟩, yields_unit ?_⟩
    have hst := hs.stores (P := Γ.P) h1 hr1 hcell ha h2
    have hsz : ¬ ((Act.eval ⟨ar, ds⟩ y).cells.size ≠ i0.size) := by rw [← Array.length_toList, hlen, hi1]; simp
    simp only [hp, Instr.storeAt, Instr.sureAddr, Sem.run_bind, Sem.run_pure, Result.andThen_ok, storeVar, r_size wd hi0, if_neg hsz, hst]
  | _ => exact nomatch e
theorem storeN_ok {t : TypeId} {n : Nat} (hz : sizeT Γ t = some n) {x y : Operand} {a b : A} (hx : cA Γ w x = some a) (hy : cA Γ w y = some b) : OpOK Γ w ⟨dst, .store t x y, ty, pos, after, guard⟩ (I.storeN n a b) := by
  intro F hA tm h v h' w0 E wd ar ds hr hs ht
  rw [I.storeN_def] at hr
  obtain ⟨i0, hi0, hi1⟩ := sizeT_some hz
  obtain ⟨u, hu, e⟩ := (evK_some tm _ a _).1 hr
  have hu' := cA_ok (ds := ds) hΓ hx ht hu
  cases u with
  | ptr bl o =>
    obtain ⟨v1, hv1, e⟩ := (evK_some tm _ b _).1 e
    have hv' := cA_ok (ds := ds) hΓ hy ht hv1
    obtain ⟨hn, e⟩ := (boolRec_some _ _ _).1 e
    obtain ⟨h0, c, y1, h1, h2, h3⟩ := stN_some _ _ _ _ _ _ _ e
    rw [RV] at hu'
    obtain ⟨r, hr1, hp⟩ := hu'
    simp only [Option.some.injEq, Prod.mk.injEq] at h3
    obtain ⟨rfl, rfl⟩ := h3
    have hcell := RV_cells hv'
    have hlen := RVs_length hcell
    have hn' : n = v1.cells.length := beq_true.1 hn
    refine ⟨E, _, Go.undef, En.le_refl E, hs.stored h1 hr1 hcell h2, by rw [undef, RV]; exact ⟨[], rfl, RVs_none⟩, yields_unit ?_⟩
    have hst := hs.stores (P := Γ.P) h1 hr1 hcell h0 h2
    have hsz : ¬ ((Act.eval ⟨ar, ds⟩ y).cells.size ≠ i0.size) := by rw [← Array.length_toList, hlen, hi1, hn']; simp
    simp only [hp, Instr.storeAt, Instr.sureAddr, Sem.run_bind, Sem.run_pure, Result.andThen_ok, storeVar, r_size wd hi0, if_neg hsz, hst]
  | _ => exact nomatch e

end
end Go.X
