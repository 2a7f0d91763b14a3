/- A verified executor: rows by snapshots, part 2: what comes out is brought in. -/
import Derived.Test.YtheojbhaajbecaaGreatXSnap
set_option linter.unusedVariables false
set_option linter.unusedSimpArgs false
set_option linter.unusedSectionVars false
namespace Go.X
open Go.RowKit
noncomputable section

mutual
/-- Blocks are numbered otherwise. -/
def ren (f : Nat → Nat) : V → V
  | .int k n => .int k n
  | .bool b => .bool b
  | .str s => .str s
  | .ptr b o => .ptr (f b) o
  | .nilp => .nilp
  | .slice b o n es c => .slice (f b) o n es c
  | .nils => .nils
  | .emp => .emp
  | .map b => .map (f b)
  | .nilmap => .nilmap
  | .fn g a c => .fn g (rens f a) (rens f c)
  | .nilfn => .nilfn
  | .iface t v => .iface t (ren f v)
  | .nili => .nili
  | .agg l => .agg (rens f l)
  | .sym k i => .sym k i
  | .bigs es l n => .bigs es l n
  | .view l => .view l
  | .tup l => .tup (rens f l)
  | .yld b => .yld b
def rens (f : Nat → Nat) : List V → List V
  | [] => []
  | v :: l => ren f v :: rens f l
end
mutual
/-- Of blocks of its own it names just the first so many; nothing of other memory. -/
def okV (m : Nat) : V → Bool
  | .int _ _ => true
  | .bool _ => true
  | .str _ => true
  | .ptr b _ => Nat.ble (Nat.succ b) m
  | .nilp => true
  | .slice b _ _ _ _ => Nat.ble (Nat.succ b) m
  | .nils => true
  | .emp => true
  | .map _ => false
  | .nilmap => true
  | .fn _ a c => Bool.rec false (okVs m c) (okVs m a)
  | .nilfn => true
  | .iface _ v => okV m v
  | .nili => true
  | .agg l => okVs m l
  | .sym _ _ => true
  | .bigs _ _ _ => false
  | .view _ => false
  | .tup l => okVs m l
  | .yld _ => false
def okVs (m : Nat) : List V → Bool
  | [] => true
  | v :: l => Bool.rec false (okVs m l) (okV m v)
end
def renB (f : Nat → Nat) : Blk → Blk
  | .cells c w y => .cells (rens f c) w y
  | k => k
def okB (m : Nat) : Blk → Bool
  | .cells c w _ => Bool.rec false (okVs m c) w
  | .dead => true
  | _ => false
/-- What a call comes to by itself: its blocks are numbered from 0 on. -/
structure Res where
  v : V
  blks : List Blk
def okRes (r : Res) : Bool := Bool.rec false (r.blks.all (okB r.blks.length)) (okV r.blks.length r.v)
def newBs (d : Nat) : List Blk → Kal Unit := List.rec (fun _ h K => K () h) (fun k _ ih R h K => newB (renB (Nat.add d) k) R h fun _ h => ih R h K)
def importK (r : Res) : Kal V := fun R h K => nextOf R h fun d h => newBs d r.blks R h fun _ h => K (ren (Nat.add d) r.v) h

variable [N : Nu]
theorem newBs_good (d : Nat) : ∀ l, Good (newBs d l)
  | [] => Good.pure ()
  | k :: l => Good.bind (Good.new (renB (Nat.add d) k)) (k := fun _ => newBs d l) fun _ => newBs_good d l
theorem importK_good (r : Res) : Good (importK r) := Good.bind next_good (k := fun d R h K => newBs d r.blks R h fun _ h => K (ren (Nat.add d) r.v) h) fun d => Good.bind (newBs_good d r.blks) (k := fun _ _ h K => K (ren (Nat.add d) r.v) h) fun _ => Good.pure _
theorem newBs_run (d : Nat) : ∀ (l : List Blk) (h : H) (u : Unit) (h' : H), run (newBs d l) h = some (u, h') → (∀ j, j < l.length → h.at (h.nx + j) = none) ∧ h'.nx = h.nx + l.length ∧ ∀ b, h'.at b = if h.nx ≤ b ∧ b < h.nx + l.length then (l[b - h.nx]?).map (renB (Nat.add d)) else h.at b
  | [], h, u, h', e => by
    obtain ⟨_, rfl⟩ := run_pure.1 e
    exact ⟨fun j hj => absurd hj (Nat.not_lt_zero _), rfl, fun b => by rw [if_neg (by simp only [List.length_nil]; omega)]⟩
  | k :: l, h, u, h', e => by
    obtain ⟨b0, h1, e1, e2⟩ := (Good.run_bind (Good.new (renB (Nat.add d) k)) (k := fun _ => newBs d l)).1 e
    obtain ⟨hn, rfl, rfl⟩ := run_new.1 e1
    obtain ⟨p1, p2, p3⟩ := newBs_run d l _ u h' e2
    rw [H.made_nx] at p1 p2 p3
    refine ⟨fun j hj => ?_, by rw [p2, List.length_cons]; omega, fun b => ?_⟩
    · cases j with
      | zero => exact hn
      | succ j =>
        have := p1 j (by simpa using hj)
        rw [H.made_at, if_neg (by omega), show h.nx + 1 + j = h.nx + (j + 1) by omega] at this
        exact this
    · rw [p3, List.length_cons]
      by_cases c1 : b = h.nx
      · subst c1
        rw [if_neg (by omega), if_pos (by omega), H.made_at, if_pos rfl, Nat.sub_self]
        rfl
      · by_cases c2 : h.nx + 1 ≤ b ∧ b < h.nx + 1 + l.length
        · rw [if_pos c2, if_pos (by omega), show b - h.nx = (b - (h.nx + 1)) + 1 by omega, List.getElem?_cons_succ]
        · rw [if_neg c2, if_neg (by omega), H.made_at, if_neg c1]

theorem recAnd {a b : Bool} (h : (Bool.rec false a b : Bool) = true) : b = true ∧ a = true := by
  cases b with
  | false => exact nomatch h
  | true => exact ⟨rfl, h⟩
theorem ltOf {b m : Nat} (h : Nat.ble (Nat.succ b) m = true) : b < m := Nat.le_of_ble_eq_true h

section
variable {wd : World} {m d : Nat} {c : Nat → Nat} {E' E1 : En} (hmu : ∀ j, j < m → ∀ r, E'.mu (c j) = some r → E1.mu (d + j) = some r) (hsz : ∀ j, j < m → E1.sz (d + j) = E'.sz (c j))
include hmu hsz
mutual
theorem rv_ren : ∀ (v : V) (x : Value), okV m v = true → @RV (nuAt N wd) E' (ren c v) x → RV E1 (ren (Nat.add d) v) x
  | .int k n, x, _, h => by rw [ren] at h ⊢; exact rvQ_int.2 ((@rvQ_int (nuAt N wd) _ _ _ _ ).1 h)
  | .bool b, x, _, h => by rw [ren] at h ⊢; exact rvQ_bool.2 ((@rvQ_bool (nuAt N wd) _ _ _ ).1 h)
  | .str s, x, _, h => by rw [ren] at h ⊢; exact rvQ_str.2 ((@rvQ_str (nuAt N wd) _ _ _ ).1 h)
  | .nilp, x, _, h => by rw [ren] at h ⊢; exact rvQ_nilp.2 ((@rvQ_nilp (nuAt N wd) _ _ ).1 h)
  | .nils, x, _, h => by rw [ren] at h ⊢; exact rvQ_nils.2 ((@rvQ_nils (nuAt N wd) _ _ ).1 h)
  | .emp, x, _, h => by rw [ren] at h ⊢; exact rvQ_emp.2 ((@rvQ_emp (nuAt N wd) _ _ ).1 h)
  | .nilmap, x, _, h => by rw [ren] at h ⊢; exact rvQ_nilmap.2 ((@rvQ_nilmap (nuAt N wd) _ _ ).1 h)
  | .nilfn, x, _, h => by rw [ren] at h ⊢; exact rvQ_nilfn.2 ((@rvQ_nilfn (nuAt N wd) _ _ ).1 h)
  | .nili, x, _, h => by rw [ren] at h ⊢; exact rvQ_nili.2 ((@rvQ_nili (nuAt N wd) _ _ ).1 h)
  | .sym k i, x, _, h => by rw [ren] at h ⊢; exact rvQ_sym.2 ((@rvQ_sym (nuAt N wd) _ _ _ _ ).1 h)
  | .ptr b o, x, ok, h => by
    rw [ren] at h ⊢
    rw [okV] at ok
    have h := (@rvQ_ptr (nuAt N wd) _ _ _ _ ).1 h
    refine rvQ_ptr.2 ?_
    obtain ⟨r, h1, h2⟩ := h
    exact ⟨r, hmu b (ltOf ok) r h1, h2⟩
  | .slice b o n es cap, x, ok, h => by
    rw [ren] at h ⊢
    rw [okV] at ok
    have h := (@rvQ_slice (nuAt N wd) _ _ _ _ _ _ _ ).1 h
    refine rvQ_slice.2 ?_
    obtain ⟨h0, r, q, h1, h2, h3, h4⟩ := h
    refine ⟨h0, r, q, hmu b (ltOf ok) r h1, h2, h3, ?_⟩
    have e := hsz b (ltOf ok)
    cases cap with
    | some q' => exact h4
    | none => exact Eq.trans h4 e.symm
  | .fn g a e, x, ok, h => by
    rw [ren] at h ⊢
    rw [okV] at ok
    obtain ⟨ok1, ok2⟩ := recAnd ok
    have h := (@rvQ_fn (nuAt N wd) _ _ _ _ _ ).1 h
    refine rvQ_fn.2 ?_
    obtain ⟨l, q, h1, h2, h3⟩ := h
    exact ⟨l, q, h1, rvs_ren a l ok1 h2, rvs_ren e q ok2 h3⟩
  | .iface t v, x, ok, h => by
    rw [ren] at h ⊢
    rw [okV] at ok
    have h := (@rvQ_iface (nuAt N wd) _ _ _ _ ).1 h
    refine rvQ_iface.2 ?_
    obtain ⟨y, h1, h2⟩ := h
    exact ⟨y, h1, rv_ren v y ok h2⟩
  | .agg l, x, ok, h => by
    rw [ren] at h ⊢
    rw [okV] at ok
    have h := (@rvQ_agg (nuAt N wd) _ _ _ ).1 h
    refine rvQ_agg.2 ?_
    obtain ⟨y, h1, h2⟩ := h
    exact ⟨y, h1, rvs_ren l y ok h2⟩
  | .tup l, x, ok, h => by
    rw [ren] at h ⊢
    rw [okV] at ok
    have h := (@rvQ_tup (nuAt N wd) _ _ _ ).1 h
    refine rvQ_tup.2 ?_
    obtain ⟨y, h1, h2⟩ := h
    exact ⟨y, h1, rvs_ren l y ok h2⟩
  | .map _, x, ok, h => by rw [okV] at ok; exact nomatch ok
  | .bigs _ _ _, x, ok, h => by rw [okV] at ok; exact nomatch ok
  | .view _, x, ok, h => by rw [okV] at ok; exact nomatch ok
  | .yld _, x, ok, h => by rw [okV] at ok; exact nomatch ok
theorem rvs_ren : ∀ (l : List V) (xs : List Value), okVs m l = true → @RVs (nuAt N wd) E' (rens c l) xs → RVs E1 (rens (Nat.add d) l) xs
  | [], xs, _, h => by rw [rens] at h ⊢; exact RVs_nil.2 ((@RVs_nil (nuAt N wd) _ _).1 h)
  | v :: l, xs, ok, h => by
    rw [rens] at h ⊢
    rw [okVs] at ok
    obtain ⟨ok1, ok2⟩ := recAnd ok
    obtain ⟨y, r, h1, h2, h3⟩ := (@RVs_cons (nuAt N wd) _ _ _ _).1 h
    exact RVs_cons.2 ⟨y, r, h1, rv_ren v y ok1 h2, rvs_ren l r ok2 h3⟩
end
end

theorem all_get {p : Blk → Bool} {l : List Blk} (h : l.all p = true) {j : Nat} {k : Blk} (hj : l[j]? = some k) : p k = true := List.all_eq_true.1 h k (List.mem_of_getElem? hj)

theorem import_ok {w0 : World} {E : En} {h : H} {wd w' : World} (s : Sim w0 E h wd) (hb : Below wd.heap.size wd w') {E' : En} {h2 : H} (s' : @Sim (nuAt N wd) wd E' h2 w') (r : Res) (hok : okRes r = true) (c : Nat → Nat)
    (hinj : ∀ i j, i < r.blks.length → j < r.blks.length → c i = c j → i = j) (hblk : ∀ j k, r.blks[j]? = some k → k = .dead ∨ h2.at (c j) = some (renB c k)) {x : Value} (hx : @RV (nuAt N wd) E' (ren c r.v) x) {v : V} {h' : H} (hr : run (importK r) h = some (v, h')) :
    ∃ E1, E.le E1 ∧ Sim w0 E1 h' w' ∧ RV E1 v x := by
  obtain ⟨ok1, ok2⟩ := recAnd hok
  obtain ⟨d, h1, e1, e2⟩ := (Good.run_bind next_good (k := fun d R h K => newBs d r.blks R h fun _ h => K (ren (Nat.add d) r.v) h)).1 hr
  obtain ⟨rfl, rfl⟩ : d = h.nx ∧ h1 = h := by
    have e1' : some (h.nx, h) = some (d, h1) := e1
    simp only [Option.some.injEq, Prod.mk.injEq] at e1'
    exact ⟨e1'.1.symm, e1'.2.symm⟩
  obtain ⟨u, h3, e3, e4⟩ := (Good.run_bind (newBs_good h1.nx r.blks) (k := fun _ _ h K => K (ren (Nat.add h1.nx) r.v) h)).1 e2
  obtain ⟨rfl, rfl⟩ := run_pure.1 e4
  obtain ⟨n1, n2, n3⟩ := newBs_run _ _ _ _ _ e3
  generalize hm : r.blks.length = m at *
  have hnone : ∀ b, h1.nx ≤ b ∧ b < h1.nx + m → E.mu b = none := fun b hb => s.dom b (by have := n1 (b - h1.nx) (by omega); rw [show h1.nx + (b - h1.nx) = b by omega] at this; exact this)
  let E1 : En := ⟨fun b => if h1.nx ≤ b ∧ b < h1.nx + m then E'.mu (c (b - h1.nx)) else E.mu b, fun b => if h1.nx ≤ b ∧ b < h1.nx + m then E'.sz (c (b - h1.nx)) else E.sz b, E.df⟩
  have hE : E.le E1 := ⟨fun b r' hb' => by
    have hc : ¬(h1.nx ≤ b ∧ b < h1.nx + m) := fun hc => by rw [hnone b hc] at hb'; exact nomatch hb'
    exact ⟨by show (if _ then _ else _) = _; rw [if_neg hc]; exact hb', by show (if _ then _ else _) = _; rw [if_neg hc]⟩, rfl⟩
  have hmuN : ∀ b, h1.nx ≤ b ∧ b < h1.nx + m → E1.mu b = E'.mu (c (b - h1.nx)) := fun b hb => if_pos hb
  have hmuO : ∀ b, ¬(h1.nx ≤ b ∧ b < h1.nx + m) → E1.mu b = E.mu b := fun b hb => if_neg hb
  have hmu : ∀ j, j < m → ∀ r', E'.mu (c j) = some r' → E1.mu (h1.nx + j) = some r' := fun j hj r' hr' => by
    rw [hmuN _ (by omega), show h1.nx + j - h1.nx = j by omega]; exact hr'
  have hsz : ∀ j, j < m → E1.sz (h1.nx + j) = E'.sz (c j) := fun j hj => by
    show (if _ then _ else _) = _
    rw [if_pos (by omega), show h1.nx + j - h1.nx = j by omega]
  have sb : Sim w0 E h1 w' := s.beside hb
  -- a new block
  have hnew : ∀ b k, h1.nx ≤ b ∧ b < h1.nx + m → h'.at b = some k → ∃ k0, r.blks[b - h1.nx]? = some k0 ∧ k = renB (Nat.add h1.nx) k0 ∧ okB m k0 = true ∧ (live k = true → h2.at (c (b - h1.nx)) = some (renB c k0) ∧ wr (renB c k0) = true ∧ live (renB c k0) = true) := by
    intro b k hb hk
    rw [n3, if_pos hb] at hk
    cases hk0 : r.blks[b - h1.nx]? with
    | none => rw [hk0] at hk; exact nomatch hk
    | some k0 =>
      rw [hk0] at hk
      simp only [Option.map_some, Option.some.injEq] at hk
      have ok0 := all_get ok2 hk0
      refine ⟨k0, rfl, hk.symm, ok0, fun hl => ?_⟩
      subst hk
      cases k0 with
      | cells cs q y =>
        obtain ⟨w1, _⟩ := recAnd (show (Bool.rec false (okVs m cs) q : Bool) = true from ok0)
        subst w1
        rcases hblk _ _ hk0 with hd | hd
        · exact nomatch hd
        · exact ⟨hd, rfl, rfl⟩
      | map es => exact nomatch ok0
      | dead => exact nomatch hl
      | loop g j st p tm => exact nomatch ok0
  have hfr : ∀ b k r', h1.nx ≤ b ∧ b < h1.nx + m → h'.at b = some k → live k = true → E1.mu b = some r' → wd.heap.size ≤ r' := by
    intro b k r' hb hk hl hr'
    obtain ⟨k0, _, _, _, q⟩ := hnew b k hb hk
    obtain ⟨q1, q2, _⟩ := q hl
    rw [hmuN b hb] at hr'
    exact @Sim.fresh (nuAt N wd) _ _ _ _ s' _ _ r' q1 q2 hr'
  have hold : ∀ b k r', ¬(h1.nx ≤ b ∧ b < h1.nx + m) → h1.at b = some k → live k = true → E.mu b = some r' → r' < wd.heap.size := fun b k r' _ hk hl hr' => BR_size (s.blk b k hk) hl hr'
  have hat : ∀ b k, ¬(h1.nx ≤ b ∧ b < h1.nx + m) → h'.at b = some k → h1.at b = some k := fun b k hb hk => by rw [n3, if_neg hb] at hk; exact hk
  refine ⟨E1, hE, ⟨fun b k hk => ?_, fun b b' k k' r' hk hk' hl hl' hr1 hr2 => ?_, fun b k r' hk hw hr' => ?_, fun b hk => ?_, sb.kept, sb.old, fun r' hr' => ⟨(sb.defd r' hr').1, (sb.defd r' hr').2.1, fun b k hk hl hm' => ?_⟩, sb.once⟩, ?_⟩
  · by_cases hc : h1.nx ≤ b ∧ b < h1.nx + m
    · obtain ⟨k0, p1, p2, p3, p4⟩ := hnew b k hc hk
      subst p2
      cases k0 with
      | cells cs q y =>
        obtain ⟨q1, _, _⟩ := p4 rfl
        obtain ⟨w1, w2⟩ := recAnd (show (Bool.rec false (okVs m cs) q : Bool) = true from p3)
        obtain ⟨r', ys, zs, el, fz, m1, m2, m3, m4, m5, m6⟩ := @Sim.blk (nuAt N wd) _ _ _ _ s' _ _ q1
        refine ⟨r', ys, zs, el, fz, by rw [hmuN b hc]; exact m1, m2, rvs_ren hmu hsz cs ys w2 m3, ?_, m5, m6⟩
        show (if _ then _ else _) = _
        rw [if_pos hc]; exact m4
      | map es => exact nomatch p3
      | dead => trivial
      | loop g j st p tm => exact nomatch p3
    · exact BR_mono hE (sb.blk b k (hat b k hc hk))
  · by_cases hc : h1.nx ≤ b ∧ b < h1.nx + m
    · by_cases hc' : h1.nx ≤ b' ∧ b' < h1.nx + m
      · obtain ⟨k0, _, _, _, p4⟩ := hnew b k hc hk
        obtain ⟨k0', _, _, _, p4'⟩ := hnew b' k' hc' hk'
        obtain ⟨q1, _, q3⟩ := p4 hl
        obtain ⟨q1', _, q3'⟩ := p4' hl'
        rw [hmuN b hc] at hr1
        rw [hmuN b' hc'] at hr2
        have := hinj _ _ (by omega) (by omega) (@Sim.inj (nuAt N wd) _ _ _ _ s' _ _ _ _ r' q1 q1' q3 q3' hr1 hr2)
        omega
      · have f1 := hfr b k r' hc hk hl hr1
        rw [hmuO b' hc'] at hr2
        have := hold b' k' r' hc' (hat b' k' hc' hk') hl' hr2
        omega
    · by_cases hc' : h1.nx ≤ b' ∧ b' < h1.nx + m
      · have f1 := hfr b' k' r' hc' hk' hl' hr2
        rw [hmuO b hc] at hr1
        have := hold b k r' hc (hat b k hc hk) hl hr1
        omega
      · rw [hmuO b hc] at hr1
        rw [hmuO b' hc'] at hr2
        exact s.inj b b' k k' r' (hat b k hc hk) (hat b' k' hc' hk') hl hl' hr1 hr2
  · by_cases hc : h1.nx ≤ b ∧ b < h1.nx + m
    · have hl : live k = true := by cases k <;> first | rfl | exact nomatch hw
      exact Nat.le_trans s.kept.size (hfr b k r' hc hk hl hr')
    · rw [hmuO b hc] at hr'
      exact s.fresh b k r' (hat b k hc hk) hw hr'
  · by_cases hc : h1.nx ≤ b ∧ b < h1.nx + m
    · rw [n3, if_pos hc] at hk
      have : b - h1.nx < r.blks.length := by omega
      rw [List.getElem?_eq_getElem this] at hk
      exact nomatch hk
    · rw [n3, if_neg hc] at hk
      rw [hmuO b hc]
      exact s.dom b hk
  · by_cases hc : h1.nx ≤ b ∧ b < h1.nx + m
    · have f1 := hfr b k r' hc hk hl hm'
      have := (s.defd r' hr').1
      rcases Nat.lt_or_ge r' wd.heap.size with q | q
      · omega
      · rw [Array.getElem?_eq_none q] at this; exact nomatch this
    · rw [hmuO b hc] at hm'
      exact (sb.defd r' hr').2.2 b k (hat b k hc hk) hl hm'
  · exact rv_ren hmu hsz r.v x ok1 hx

/-- A row that takes a snapshot of its arguments and brings in what the call comes to. -/
def snapRow (g fuel : Nat) (res : List V → Option Res) : KRow := ⟨g, fun vs R h K => snapsOf (snapN fuel) vs R h fun ts h => Option.rec none (fun r => importK r R h K) (res ts)⟩
/-- By itself the call comes to what is told. -/
structure SelfOK (P : Program) (l : List (Nat × FnD)) (g : Nat) (ts : List V) (r : Res) : Prop where
  ok : okRes r = true
  run : ∃ (Θ : Orc) (n : Nat) (v : V) (h2 : H) (c : Nat → Nat), OrcOK P Θ ∧ run ((callD Θ (tabOf l) n).call g ts) h0 = some (v, h2) ∧ v = ren c r.v ∧ (∀ i j, i < r.blks.length → j < r.blks.length → c i = c j → i = j) ∧ ∀ j k, r.blks[j]? = some k → k = .dead ∨ h2.at (c j) = some (renB c k)
theorem calls_of_runD {Γ : Cx} (hΓ : Γ.Ok) (hm : Γ.P.follows .mixedOrders = true) {l : List (Nat × FnD)} (hl : AllD Γ l) {Θ : Orc} (hΘ : OrcOK Γ.P Θ) {n g : Nat} {vs : List V} {v : V} {h' : H} {args : List Value} (hr : run ((callD Θ (tabOf l) n).call g vs) h0 = some (v, h')) (w : World) (ho : Below Nu.old.heap.size Nu.old w)
    (ha : RVs ⟨fun _ => .none, fun _ => 0, []⟩ vs args) : Calls Γ.P g args.toArray w fun e w' => ∃ x E', e = .returned x ∧ Sim w E' h' w' ∧ RV E' v x := by
  obtain ⟨lS, h1, h2⟩ := hl.table
  have hTS := tableOK_of h1
  exact calls_of_run hΓ hm hTS hΘ ((callD_le hΓ hm hTS hΘ h2 n).call g vs (V × H) h0 _ _ (fun _ _ => Le.refl _) _ hr) w ho ha
theorem snapRow_ok {Γ : Cx} (hm : Γ.P.follows .mixedOrders = true) {l : List (Nat × FnD)} (hΓ : ∀ M : Nu, Γ.P = M.prog → @Cx.Ok M Γ) (hl : AllD Γ l) (hN : Γ.P = N.prog) {g : Nat} {fn : Func} (h1 : Γ.P.funcs[g]? = some fn) (h2 : (fn.name == "runtime.NumGoroutine") = false) (h3 : fn.body.isNone = false)
    {fuel : Nat} {res : List V → Option Res} (hres : ∀ ts r, res ts = some r → ∀ M : Nu, Γ.P = M.prog → M.val = N.val → @SelfOK M Γ.P l g ts r) : KRow.OK Γ.P (snapRow g fuel res) := by
  have gd : ∀ vs, Good (snapsOf (snapN fuel) vs) := snapsOf_good (snapN_good fuel)
  have gk : ∀ ts, Good (fun R h K => (Option.rec none (fun r => importK r R h K) (res ts) : Option R)) := fun ts => Good.opt _ (f := fun r R h K => importK r R h K) fun r => importK_good r
  refine ⟨⟨fn, h1, h2, h3⟩, fun vs => Good.bind (gd vs) (k := fun ts R h K => Option.rec none (fun r => importK r R h K) (res ts)) gk, fun vs h v h' w0 E wd args hr hs ha => ?_⟩
  obtain ⟨ts, h4, e1, e2⟩ := (Good.run_bind (gd vs) (k := fun ts R h K => Option.rec none (fun r => importK r R h K) (res ts))).1 hr
  obtain ⟨q1, q2, q3⟩ := snapsOf_ok (snapN_good fuel) (fun v h v' h' x => snapN_ok fuel v h v' h' x) vs h ts h4 args e1 hs ha
  obtain ⟨r, e3, e4⟩ := (optRec_some _ _ _).1 e2
  have hself := hres ts r e3 (nuAt N wd) hN rfl
  obtain ⟨Θ, n, v2, h5, c, t1, t2, t3, t4, t5⟩ := @SelfOK.run (nuAt N wd) _ _ _ _ _ hself
  have hM : Γ.P = (nuAt N wd).prog := hN
  refine Calls.mono (@calls_of_runD (nuAt N wd) Γ (hΓ _ hM) hm l hl Θ t1 n g ts v2 h5 args t2 wd (Below.refl _ _) q1) fun e w' ⟨x, E', p1, p2, p3⟩ => ?_
  subst t3
  obtain ⟨E1, z1, z2, z3⟩ := import_ok (N := N) (hs.ext q2) (@Sim.kept (nuAt N wd) _ _ _ _ p2) p2 r (@SelfOK.ok (nuAt N wd) _ _ _ _ _ hself) c t4 t5 p3 e4
  exact ⟨x, E1, p1, z1, z2, z3⟩
end
end Go.X
