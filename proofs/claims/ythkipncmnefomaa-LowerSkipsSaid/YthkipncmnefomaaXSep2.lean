/- A text of the verified executor, of contracts, or of this law; joined and trimmed by a program of mine (wip/gen). -/
import Derived.Test.YthkipncmnefomaaXSep
set_option linter.unusedVariables false
set_option linter.unusedSimpArgs false
set_option linter.unusedSectionVars false
namespace Go.X
open Go.RowKit
noncomputable section
variable [Nu]
def Own (B : Nat) (es y : Nat) (x : V) (l : List V) (p : Kn) : Prop :=
  (x = .nils ∧ l = [] ∧ p = []) ∨ ∃ b n c y', x = .slice b 0 n es c ∧ (c = none ∨ c = some n) ∧ l.length = n * es ∧ 1 ≤ n ∧ p = [(b, .cells l true y')] ∧ B ≤ b
theorem Own.nil {B es y : Nat} : Own B es y .nils [] [] := .inl ⟨rfl, rfl, rfl⟩
theorem Own.rd {B es y : Nat} {x : V} {l : List V} {p : Kn} (L : Kn) (n : Nat) (hes : 1 ≤ es) (hl : l.length = n * es) (h : Own B es y x l p) : Rd (p ++ L) es x n l := by
  rcases h with ⟨rfl, rfl, rfl⟩ | ⟨b, n', c, y', rfl, hc, hl', hn, rfl, _⟩
  · have : n = 0 := by
      rcases Nat.eq_zero_or_pos n with h | h
      · exact h
      · have := Nat.mul_pos h hes; simp at hl; omega
    subst this
    exact ⟨hes, by simp, .inl ⟨.inl rfl, rfl⟩⟩
  · obtain rfl : n' = n := Nat.eq_of_mul_eq_mul_right (by omega : 0 < es) (hl'.symm.trans hl)
    exact ⟨hes, hl', .inr (.inl ⟨b, 0, c, l, true, y', rfl, List.mem_cons_self, by rw [List.drop_zero, List.take_of_length_le (by omega)], fun q hq => by rcases hc with rfl | rfl <;> simp at hq; omega⟩)⟩
namespace W
variable {R : Type} {Q : Option R → Prop} {B : Nat} {A : Nat → Prop} {S : Nat} {L : Kn} {K : V → H → Option R}
theorem drop2 {N : Kn} {x : Nat × Blk} {P : H → Option R} (w : W Q B A S (N ++ L) P) : W Q B A S (N ++ x :: L) P := weak (List.Sublist.append_left (List.sublist_cons_self x L) N) w
theorem swap {N M : Kn} {P : H → Option R} (w : W Q B A S (M ++ (N ++ L)) P) : W Q B A S (N ++ (M ++ L)) P := perm (by rw [← List.append_assoc, ← List.append_assoc]; exact List.Perm.append_right L List.perm_append_comm) w
theorem swap1 {N : Kn} {x : Nat × Blk} {P : H → Option R} (w : W Q B A S (x :: (N ++ L)) P) : W Q B A S (N ++ x :: L) P := perm List.perm_middle w
theorem Mem.dead {hp : Th Blk} {nx : Nat} {lg : Bool} {log : List (Nat × Bool)} {b : Nat} {k : Blk} (m : Mem B A S ((b, k) :: L) ⟨hp, nx, lg, log⟩) (hB : B ≤ b) : Mem B A S ((b, .dead) :: L) ⟨hp.put .dead b, nx, lg, Ev.nt lg (b, true) log⟩ := Mem.ntW (Mem.put _ m) hB (m.blk _ List.mem_cons_self).2
theorem append {es y bytes n m : Nat} {x v : V} {l it : List V} {p : Kn} (hs : Own B es y x l p) (hv : Rd L es v m it) (hl : l.length = n * es) (ha : allOne (l ++ it) = true) (hroom : (n + m) * bytes ≤ 1048576)
    (q : ∀ x' p', Own B es y x' (l ++ it) p' → W Q B A S (p' ++ L) (K x')) : W Q B A S (p ++ L) fun h => J.appendQ y es bytes x v R h K := by
  have hes : 1 ≤ es := hv.1
  have hit : it.length = m * es := hv.2.1
  have key : ∀ (P : H → Option R), (W Q B A S (p ++ L) fun h => Bool.rec (appendL es bytes y x it R h K) (Bool.rec none (K x h) (isSlice x)) (isNil it)) → W Q B A S (p ++ L) fun h => J.appendQ y es bytes x v R h K := by
    intro _ w
    have hv' : Rd (p ++ L) es v m it := Rd.app p hv
    intro h mm
    obtain ⟨hp, nx, lg, log⟩ := h
    obtain ⟨_, _, ⟨hn, hm0⟩ | ⟨b, o, c, cs, w', y', rfl, hm, ht, _⟩ | rfl⟩ := hv'
    · have hi0 : it = [] := by subst hm0; simpa using hit
      subst hi0
      rcases hn with rfl | rfl
      · exact w _ mm
      · exact w _ mm
    · have hb := mm.blk _ hm
      show Q (Bool.rec none (X.ldN (m * es) b o R ⟨hp, nx, lg, log⟩ fun l h => (Bool.rec (appendL es bytes y x l R h K) (Bool.rec none (K x h) (isSlice x)) (isNil l) : Option R)) (Nat.beq es es))
      rw [Nat.beq_refl]
      show Q (X.ldN (m * es) b o R ⟨hp, nx, lg, log⟩ _)
      rw [Ev.ldN, hb.1]
      have hlen : m * es ≤ (cs.drop o).length := by rw [← hit, ← ht, List.length_take]; omega
      simp only [Option.bind_some, Ev.cellsOf_cells, if_pos hb.2, if_pos hlen, ht]
      exact w _ (Mem.nt mm hm)
    · show Q (Option.rec none (fun n => Bool.rec none (Bool.rec none (Bool.rec (appendL es bytes y x it R ⟨hp, nx, lg, log⟩ K) (Bool.rec none (K x ⟨hp, nx, lg, log⟩) (isSlice x)) (isNil it)) (Nat.beq (Nat.mul n es) (len it))) (Nat.beq es es)) (some m))
      show Q (Bool.rec none (Bool.rec none (Bool.rec (appendL es bytes y x it R ⟨hp, nx, lg, log⟩ K) (Bool.rec none (K x ⟨hp, nx, lg, log⟩) (isSlice x)) (isNil it)) (Nat.beq (Nat.mul m es) (len it))) (Nat.beq es es))
      have e : Nat.beq (Nat.mul m es) (len it) = true := by rw [len_eq, hit]; exact Nat.beq_refl _
      rw [Nat.beq_refl, e]
      exact w _ mm
  refine key (fun _ => none) ?_
  cases it with
  | nil =>
    rw [List.append_nil] at q
    have hx : isSlice x = true := by
      rcases hs with ⟨rfl, _, _⟩ | ⟨b, n', c, y', rfl, _⟩ <;> rfl
    show W Q B A S (p ++ L) fun h => (Bool.rec none (K x h) (isSlice x) : Option R)
    rw [hx]
    exact q x p hs
  | cons i0 it0 =>
    show W Q B A S (p ++ L) fun h => appendL es bytes y x (i0 :: it0) R h K
    have hm1 : 1 ≤ m := by
      rcases Nat.eq_zero_or_pos m with h | h
      · subst h; simp at hit
      · exact h
    have hdiv : len (i0 :: it0) / es = m := by rw [len_eq, hit]; exact Nat.mul_div_cancel _ hes
    generalize i0 :: it0 = it at *
    rcases hs with ⟨rfl, rfl, rfl⟩ | ⟨b, n', c, y', rfl, hc, hl', hn, rfl, hB⟩
    · have hn0 : n = 0 := by
        rcases Nat.eq_zero_or_pos n with h | h
        · exact h
        · have := Nat.mul_pos h hes; simp at hl; omega
      subst hn0
      show W Q B A S L fun h => (Bool.rec none (grow es y it (len it / es) R h K) (Nat.ble (len it / es * bytes) 1048576) : Option R)
      have hbl : Nat.ble (m * bytes) 1048576 = true := Nat.ble_eq_true_of_le (by rw [Nat.zero_add] at hroom; exact hroom)
      rw [hdiv, hbl]
      intro h mm
      obtain ⟨hp, nx, lg, log⟩ := h
      show Q (newCellsY it y R ⟨hp, nx, lg, log⟩ fun b h => K (.slice b 0 m es none) h)
      rw [Ev.newCells (hl := by simpa using ha), mm.free nx (Nat.le_refl _)]
      exact q _ _ (.inr ⟨nx, m, none, y, rfl, .inl rfl, by simpa using hit, hm1, rfl, mm.low⟩) _ (Mem.new _ mm)
    · obtain rfl : n' = n := Nat.eq_of_mul_eq_mul_right (by omega : 0 < es) (hl'.symm.trans hl)
      show W Q B A S ((b, .cells l true y') :: L) fun h => (Bool.rec none (X.read b R h fun k h => appendB es bytes y b 0 n' c it k R h K) (Nat.beq es es) : Option R)
      rw [Nat.beq_refl]
      intro h mm
      obtain ⟨hp, nx, lg, log⟩ := h
      have hb := mm.blk _ List.mem_cons_self
      show Q (X.read b R ⟨hp, nx, lg, log⟩ fun k h => appendB es bytes y b 0 n' c it k R h K)
      rw [Ev.read, hb.1]
      simp only [Option.bind_some, if_pos hb.2]
      have mm1 : Mem B A S ((b, .cells l true y') :: L) ⟨hp, nx, lg, Ev.nt lg (b, false) log⟩ := Mem.nt mm List.mem_cons_self
      have hm_es : es ≤ m * es := Nat.le_mul_of_pos_left _ hm1
      -- it grows
      have hgrow : ∀ y0, Q (growV es bytes y0 b 0 n' c it l true R ⟨hp, nx, lg, Ev.nt lg (b, false) log⟩ K) := by
        intro y0
        show Q (Bool.rec none (takeK (n' * es) (X.dropN l 0) fun old => (Option.rec (Bool.rec none (Bool.rec none (Bool.rec none (X.write b .dead R ⟨hp, nx, lg, Ev.nt lg (b, false) log⟩ fun _ h => grow es y0 (cat old it) (n' + len it / es) R h K) true) (Nat.beq (n' * es) (len l))) (Nat.beq 0 0)) (fun _ => grow es y0 (cat old it) (n' + len it / es) R ⟨hp, nx, lg, Ev.nt lg (b, false) log⟩ K) c : Option R)) (Nat.ble ((n' + len it / es) * bytes) 1048576))
        rw [hdiv, ble_if, if_pos hroom, takeK_eq, dropN_eq, List.drop_zero, if_pos (by omega), List.take_of_length_le (by omega)]
        have fin : ∀ (L' : Kn) (h : H), Mem B A S L' h → L.Sublist L' → Q (grow es y0 (cat l it) (n' + m) R h K) := by
          intro L' h mm' hsub
          obtain ⟨hp, nx, lg, log⟩ := h
          show Q (newCellsY (cat l it) y0 R ⟨hp, nx, lg, log⟩ fun b h => K (.slice b 0 (n' + m) es none) h)
          rw [cat_eq, Ev.newCells (hl := ha), mm'.free nx (Nat.le_refl _)]
          refine weak (List.Sublist.cons_cons _ hsub) (q (.slice nx 0 (n' + m) es none) [(nx, .cells (l ++ it) true y0)] (.inr ⟨nx, n' + m, none, y0, rfl, .inl rfl, by rw [List.length_append, hl', hit, Nat.add_mul], by omega, rfl, mm'.low⟩)) _ (Mem.new _ mm')
        rcases hc with rfl | rfl
        · show Q (Bool.rec none (Bool.rec none (X.write b .dead R ⟨hp, nx, lg, Ev.nt lg (b, false) log⟩ fun _ h => grow es y0 (cat l it) (n' + m) R h K) true) (Nat.beq (n' * es) (len l)))
          rw [len_eq, hl', Nat.beq_refl]
          show Q (X.write b .dead R ⟨hp, nx, lg, Ev.nt lg (b, false) log⟩ fun _ h => grow es y0 (cat l it) (n' + m) R h K)
          rw [Ev.write, hb.1]
          simp only [Option.bind_some, if_pos hb.2]
          exact fin _ _ (Mem.dead mm1 hB) (List.sublist_cons_self _ _)
        · exact fin _ _ mm1 (List.sublist_cons_self _ _)
      show Q (Bool.rec (growV es bytes (Bool.rec 0 y (Nat.beq y y')) b 0 n' c it l true R ⟨hp, nx, lg, Ev.nt lg (b, false) log⟩ K) _
        (Option.rec (Nat.ble (0 + (n' + len it / es) * es) (len l)) (fun cap => Nat.ble (n' + len it / es) cap) c))
      have hno : (Option.rec (Nat.ble (0 + (n' + len it / es) * es) (len l)) (fun cap => Nat.ble (n' + len it / es) cap) c : Bool) = false := by
        rw [hdiv]
        rcases hc with rfl | rfl
        · show Nat.ble (0 + (n' + m) * es) (len l) = false
          rw [len_eq, hl', Nat.add_mul]
          cases hbl : Nat.ble (0 + (n' * es + m * es)) (n' * es) with
          | false => rfl
          | true => have := Nat.le_of_ble_eq_true hbl; omega
        · show Nat.ble (n' + m) n' = false
          cases hbl : Nat.ble (n' + m) n' with
          | false => rfl
          | true => have := Nat.le_of_ble_eq_true hbl; omega
      rw [hno]
      exact hgrow _
theorem slit1 {z : List V} {es : Nat} {v : V} (hv : v.cells.length = es) (hz : z.length = es) (h1 : allOne v.cells = true) (q : ∀ b, B ≤ b → W Q B A S ((b, .cells v.cells true 0) :: L) (K (.slice b 0 1 es (some 1)))) : W Q B A S L fun h => J.slit z es 1 [(0, es, v)] R h K := fun h m => by
  obtain ⟨hp, nx, lg, log⟩ := h
  exact St.slit1 hv hz h1 (m.free nx (Nat.le_refl _)) (q nx m.low _ (Mem.new _ m))
theorem push {es y bytes n : Nat} {x v : V} {l z : List V} {p : Kn} (hs : Own B es y x l p) (hes : 1 ≤ es) (hl : l.length = n * es) (hv : v.cells.length = es) (hz : z.length = es) (ha : allOne v.cells = true) (ha' : allOne (l ++ v.cells) = true) (hroom : (n + 1) * bytes ≤ 1048576)
    (q : ∀ x' p', Own B es y x' (l ++ v.cells) p' → W Q B A S (p' ++ L) (K x')) : W Q B A S (p ++ L) fun h => J.slit z es 1 [(0, es, v)] R h fun w h => J.appendQ y es bytes x w R h K :=
  slit1 hv hz ha fun b hb => perm (L' := p ++ (b, .cells v.cells true 0) :: L) List.perm_middle.symm (append (m := 1) hs ⟨hes, by rw [hv, Nat.one_mul], .inr (.inl ⟨b, 0, some 1, v.cells, true, 0, rfl, List.mem_cons_self, by rw [List.drop_zero, Nat.one_mul, ← hv, List.take_length], fun q hq => by simp at hq; omega⟩)⟩ hl ha' hroom fun x' p' h => drop2 (q x' p' h))
theorem idxS {es b o n : Nat} {c : Option Nat} {a : Int} (i : Nat) (ha : a = (i : Int)) (hi : i < n) (q : W Q B A S L (K (.ptr b (o + i * es)))) : W Q B A S L fun h => J.idxL es (.slice b o n es c) (.int .i64 a) R h K := fun h m => St.idxLS i ha hi (q h m)
theorem lenS {b o n es : Nat} {c : Option Nat} (q : W Q B A S L (K (.int .i64 n))) : W Q B A S L fun h => J.lenL (.slice b o n es c) R h K := q
theorem lenN (q : W Q B A S L (K (.int .i64 0))) : W Q B A S L fun h => J.lenL .nils R h K := q
theorem lstore1 {K : V × List (Nat × Bool) × Nat → H → Option R} {b o : Nat} {c : List V} {y : Nat} {v : V} (hB : B ≤ b) (ho : o < c.length) (hv : v.one = true) (q : ∀ lgs hi, S ≤ hi → W Q B A hi ((b, .cells (c.set o v) true y) :: L) (K (X.undef, lgs, hi))) : W Q B A S ((b, .cells c true y) :: L) fun h => X.logged (J.store1 (.ptr b o) v) R h K := fun h m => by
  obtain ⟨hp, nx, lg, log⟩ := h
  have hm := m.blk _ List.mem_cons_self
  show Q (X.logged (J.store1 (.ptr b o) v) R ⟨hp, nx, lg, log⟩ K)
  rw [Ev.logged]
  refine St.store1 hm.1 hm.2 ho hv ?_
  have m1 := Mem.put (.cells (c.set o v) true y) m
  refine q [(b, true), (b, false)] nx m.sz _ ⟨m1.blk, m1.nd, m1.free, m1.low, Nat.le_refl _, m1.may, fun p hp => ?_⟩
  have hbb : ∀ f, (b, f).1 < nx ∧ ((b, f).1 < B → (b, f).2 = false ∧ A (b, f).1) := fun f => ⟨hm.2, fun c => absurd hB (Nat.not_le.2 c)⟩
  cases lg with
  | false => exact m.ro p hp
  | true =>
    rcases List.mem_cons.1 hp with rfl | hp
    · exact hbb true
    · rcases List.mem_cons.1 hp with rfl | hp
      · exact hbb false
      · exact m.ro p hp
theorem maxA {k k' : IntKind} {a b : Int} (c : b ≤ a) (q : W Q B A S L (K (.int k a))) : W Q B A S L fun h => J.max (.int k a) (.int k' b) R h K := max (by rw [if_neg (by omega)]; exact q)
/-! literals; calls of closures -/
theorem slitL {z cells : List V} {es n : Nat} {ps : List (Nat × Nat × V)} (hf : ∀ k : List V → Option R, fillV ps z k = k cells) (h1 : allOne cells = true) (q : ∀ b, B ≤ b → W Q B A S ((b, .cells cells true 0) :: L) (K (.slice b 0 n es (some n)))) : W Q B A S L fun h => J.slit z es n ps R h K := fun h m => by
  obtain ⟨hp, nx, lg, log⟩ := h
  show Q (fillV ps z fun l => X.newCells l R ⟨hp, nx, lg, log⟩ fun b h => K (.slice b 0 n es (some n)) h)
  rw [hf, X.newCells, Ev.newCells (hl := h1), m.free nx (Nat.le_refl _)]
  exact q nx m.low _ (Mem.new _ m)
theorem buildL {z cells : List V} {ps : List (Nat × Nat × V)} (hf : ∀ k : List V → Option R, fillV ps z k = k cells) (q : W Q B A S L (K (.agg cells))) : W Q B A S L fun h => J.build z ps R h K := fun h m => by
  show Q (fillV ps z fun l => K (.agg l) h)
  rw [hf]; exact q h m
theorem eqs {ks : List FK} {a b : List V} {neg r : Bool} (hf : flatEq ks a b = some r) (q : W Q B A S L (K (.bool (bif neg then !r else r)))) : W Q B A S L fun h => J.eqs neg ks (.agg a) (.agg b) R h K := fun h m => by
  show Q (Option.rec none (fun r => K (.bool (Bool.rec r (Bool.not r) neg)) h) (flatEq ks a b))
  rw [hf]
  cases neg <;> exact q h m
theorem eqsNT {ks : List FK} {a b : List V} (hf : flatEq ks a b = some false) (q : W Q B A S L (K (.bool true))) : W Q B A S L fun h => J.eqs true ks (.agg a) (.agg b) R h K := eqs hf q
theorem eqsNF {ks : List FK} {a b : List V} (hf : flatEq ks a b = some true) (q : W Q B A S L (K (.bool false))) : W Q B A S L fun h => J.eqs true ks (.agg a) (.agg b) R h K := eqs hf q
theorem rdCNP {K : List V → H → Option R} {n b o : Nat} {c : List V} {w : Bool} {y : Nat} (hb : (b, Blk.cells c w y) ∈ L) (hl : n ≤ (c.drop o).length) (q : W Q B A S L (K ((c.drop o).take n))) : W Q B A S L fun h => X.rdCN n (.ptr b o) R h K := fun h m => by
  obtain ⟨hp, nx, lg, log⟩ := h
  have hm := m.blk _ hb
  show Q (X.ldN n b o R ⟨hp, nx, lg, log⟩ K)
  rw [Ev.ldN, hm.1]
  simp only [Option.bind_some, Ev.cellsOf_cells, if_pos hm.2, if_pos hl]
  exact q _ (Mem.nt m hb)
theorem callF {Θ : Orc} {T : Uh FnD} {n g : Nat} {d : FnD} {c : CallF → List V → Kal V} {vs a e as : List V} (hg : T.get g = some d) (hc : d.call = c) (has : a ++ (vs ++ e) = as) (ho : Θ.call g as = none) (q : W Q B A S L fun h => c (callD Θ T n) as R h K) : W Q B A S L fun h => J.call (callD Θ T (n + 1)) (.fn (.func g) a e) vs R h K := fun h m => by
  subst has
  have e1 : J.call (callD Θ T (n + 1)) (.fn (.func g) a e) vs R h K = d.call (callD Θ T n) (a ++ (vs ++ e)) R h K := by
    show I.callG _ _ _ R h K = _
    rw [I.callG_def]
    show (Option.rec (Uh.getK (fun f => f.call (callD Θ T n) (a ++ (vs ++ e)) R h K) T g) (fun k => k R h K) (Θ.call g (a ++ (vs ++ e))) : Option R) = _
    rw [ho]
    show Uh.getK (fun f => f.call (callD Θ T n) (a ++ (vs ++ e)) R h K) T g = _
    rw [Uh.getK_get, hg]
  show Q (J.call (callD Θ T (n + 1)) (.fn (.func g) a e) vs R h K)
  rw [e1, hc]; exact q h m
/-! notes of single operations -/
section
variable {K : V × List (Nat × Bool) × Nat → H → Option R}
theorem ids_nil {n : Nat} : ∀ i ∈ ids ([] : Kn), i < n := fun _ h => nomatch h
theorem ids_one {b i : Nat} {k k' : Blk} (hm : (b, k) ∈ L) (hi : i ∈ ids [(b, k')]) : i ∈ ids L := by
  have : i = b := by simpa [ids] using hi
  rw [this]; exact List.mem_map_of_mem (f := (·.1)) hm
theorem lwhenTT {f : Kal V} (q : W Q B A S L fun h => X.logged f R h K) : W Q B A S L fun h => X.logged (runK (whenK (.bool true) true f)) R h K := q
theorem lwhenFF {f : Kal V} (q : W Q B A S L fun h => X.logged f R h K) : W Q B A S L fun h => X.logged (runK (whenK (.bool false) false f)) R h K := q
theorem lnone {f : Kal V} (hf : ∀ (h : H) (K : V → H → Option R), f R h K = K X.undef h) (q : ∀ B' hi, S ≤ B' → RO [] ⟨[], B', hi⟩ → B' ≤ hi → W Q B A hi L (K (X.undef, [], hi))) : W Q B A S L fun h => X.logged f R h K := fun h m => by
  obtain ⟨hp, nx, lg, log⟩ := h
  show Q (X.logged f R ⟨hp, nx, lg, log⟩ K)
  rw [Ev.logged, hf]
  refine q nx nx m.sz ⟨Nat.le_refl _, fun _ h => nomatch h⟩ (Nat.le_refl _) _ ⟨m.blk, m.nd, m.free, m.low, Nat.le_refl _, m.may, fun p hp => ?_⟩
  cases lg <;> exact m.ro p hp
theorem lwhenTF {f : Kal V} (q : ∀ B' hi, S ≤ B' → RO [] ⟨[], B', hi⟩ → B' ≤ hi → W Q B A hi L (K (X.undef, [], hi))) : W Q B A S L fun h => X.logged (runK (whenK (.bool true) false f)) R h K := lnone (fun _ _ => rfl) q
theorem lwhenFT {f : Kal V} (q : ∀ B' hi, S ≤ B' → RO [] ⟨[], B', hi⟩ → B' ≤ hi → W Q B A hi L (K (X.undef, [], hi))) : W Q B A S L fun h => X.logged (runK (whenK (.bool false) true f)) R h K := lnone (fun _ _ => rfl) q
theorem lwhenU {f : Kal V} {d : Bool} (q : ∀ B' hi, S ≤ B' → RO [] ⟨[], B', hi⟩ → B' ≤ hi → W Q B A hi L (K (X.undef, [], hi))) : W Q B A S L fun h => X.logged (runK (whenK X.undef d f)) R h K := lnone (fun _ _ => rfl) q
theorem lload1P {b o : Nat} {c : List V} {w : Bool} {y : Nat} (hb : (b, Blk.cells c w y) ∈ L) (v : V) (hv : c[o]? = some v) (q : ∀ B' lgs hi, S ≤ B' → RO [(b, Blk.cells c w y)] ⟨lgs, B', hi⟩ → B' ≤ hi → W Q B A hi L (K (v, lgs, hi))) : W Q B A S L fun h => X.logged (J.load1 (.ptr b o)) R h K := fun h m => by
  obtain ⟨hp, nx, lg, log⟩ := h
  show Q (X.logged (J.load1 (.ptr b o)) R ⟨hp, nx, lg, log⟩ K)
  rw [Ev.logged]
  have hm := m.blk _ hb
  refine St.load1P v hm.1 hm.2 hv ?_
  refine q nx [(b, false)] nx m.sz ⟨Nat.le_refl _, fun p hp => ?_⟩ (Nat.le_refl _) _ ⟨m.blk, m.nd, m.free, m.low, Nat.le_refl _, m.may, fun p hp => ?_⟩
  · obtain rfl : p = (b, false) := by simpa using hp
    exact ⟨hm.2, fun _ => ⟨rfl, by simp [ids]⟩⟩
  · cases lg with
    | false => exact m.ro p hp
    | true =>
      rcases List.mem_cons.1 hp with rfl | hp
      · exact ⟨hm.2, fun c => ⟨rfl, m.may _ hb c⟩⟩
      · exact m.ro p hp
end
def cutV (es b o n : Nat) (c : Option Nat) (lo hi : Nat) : V := Option.rec (if lo < n then .slice b (o + lo * es) (hi - lo) es none else if lo = 0 then .slice b o (hi - lo) es none else .emp) (fun c => .slice b (if lo = c then o else o + lo * es) (hi - lo) es (some (c - lo))) c
theorem cutS {es bb o n a b : Nat} {c : Option Nat} {lo hi : Option V} (hlo : lo = none ∧ a = 0 ∨ lo = some (.int .i64 a)) (hhi : hi = none ∧ b = n ∨ hi = some (.int .i64 b)) (hab : a ≤ b) (hbn : b ≤ n) (hc : ∀ q, c = some q → n ≤ q) (q : W Q B A S L (K (cutV es bb o n c a b))) : W Q B A S L fun h => J.cutL es lo hi (.slice bb o n es c) R h K := by
  have hb1 : ∀ (h : H), (J.cutL es lo hi (.slice bb o n es c) R h K) = X.sliceK es (.slice bb o n es c) (if lo = none then none else some a) (if hi = none then none else some b) R h K := fun h => by
    rcases hlo with ⟨rfl, rfl⟩ | rfl <;> rcases hhi with ⟨rfl, rfl⟩ | rfl <;> rfl
  have hd1 : X.orD 0 (if lo = none then none else some a) = a := by
    rcases hlo with ⟨rfl, rfl⟩ | rfl <;> rfl
  have hd2 : ∀ k, k = n → X.orD k (if hi = none then none else some b) = b := fun k hk => by
    rcases hhi with ⟨rfl, rfl⟩ | rfl
    · rw [if_pos rfl]; exact hk
    · rfl
  have e : X.sliceL es (.slice bb o n es c) (if lo = none then none else some a) (if hi = none then none else some b) =
      Option.rec (if a < n then some (.slice bb (o + a * es) (b - a) es none) else if a = 0 then some (.slice bb o (b - a) es none) else some .emp)
        (fun c => some (.slice bb (if a = c then o else o + a * es) (b - a) es (some (c - a)))) c := by
    show (Bool.rec none (Bool.rec none (Option.rec
      (Bool.rec none (Bool.rec (Bool.rec (some V.emp) (some (.slice bb o (Nat.sub (X.orD n (if hi = none then none else some b)) (X.orD 0 (if lo = none then none else some a))) es none)) (Nat.beq (X.orD 0 (if lo = none then none else some a)) 0)) (some (.slice bb (Nat.add o (Nat.mul (X.orD 0 (if lo = none then none else some a)) es)) (Nat.sub (X.orD n (if hi = none then none else some b)) (X.orD 0 (if lo = none then none else some a))) es none)) (Nat.ble (Nat.succ (X.orD 0 (if lo = none then none else some a))) n)) (Nat.ble (X.orD n (if hi = none then none else some b)) n))
      (fun c => Bool.rec none (some (.slice bb (Bool.rec (Nat.add o (Nat.mul (X.orD 0 (if lo = none then none else some a)) es)) o (Nat.beq (X.orD 0 (if lo = none then none else some a)) c)) (Nat.sub (X.orD n (if hi = none then none else some b)) (X.orD 0 (if lo = none then none else some a))) es (some (Nat.sub c (X.orD 0 (if lo = none then none else some a)))))) (Nat.ble (X.orD n (if hi = none then none else some b)) c)) c)
      (Nat.ble (X.orD 0 (if lo = none then none else some a)) (X.orD n (if hi = none then none else some b)))) (Nat.beq es es) : Option V) = _
    rw [hd1, hd2 n rfl, Nat.beq_refl]
    show (Bool.rec none (Option.rec _ _ c) (Nat.ble a b) : Option V) = _
    rw [ble_if, if_pos hab]
    cases c with
    | none =>
      show (Bool.rec none (Bool.rec _ _ (Nat.ble (a + 1) n)) (Nat.ble b n) : Option V) = _
      rw [ble_if, if_pos hbn, ble_if]
      by_cases c1 : a < n
      · rw [if_pos (show a + 1 ≤ n from c1)]
        show _ = (if a < n then _ else _)
        rw [if_pos c1]; rfl
      · rw [if_neg (show ¬ a + 1 ≤ n from c1)]
        show _ = (if a < n then _ else _)
        rw [if_neg c1]
        by_cases c2 : a = 0
        · subst c2; rfl
        · rw [if_neg c2]
          have : Nat.beq a 0 = false := by cases a with | zero => exact absurd rfl c2 | succ _ => rfl
          rw [this]
    | some c =>
      have hcn := hc c rfl
      show (Bool.rec none _ (Nat.ble b c) : Option V) = some _
      rw [ble_if, if_pos (by omega)]
      by_cases c2 : a = c
      · rw [if_pos c2]
        have : Nat.beq a c = true := by rw [c2]; exact Nat.beq_refl _
        rw [this]; rfl
      · rw [if_neg c2]
        have : Nat.beq a c = false := by
          cases hh : Nat.beq a c with
          | false => rfl
          | true => exact absurd (Nat.eq_of_beq_eq_true hh) c2
        rw [this]; rfl
  intro h m
  show Q (J.cutL es lo hi (.slice bb o n es c) R h K)
  rw [hb1 h]
  show Q (Option.rec _ (fun r => K r h) (X.sliceL es (.slice bb o n es c) (if lo = none then none else some a) (if hi = none then none else some b)))
  rw [e]
  cases c with
  | none =>
    show Q (Option.rec _ (fun r => K r h) (if a < n then _ else _))
    have q' : Q (K (if a < n then .slice bb (o + a * es) (b - a) es none else if a = 0 then .slice bb o (b - a) es none else .emp) h) := q h m
    by_cases c1 : a < n
    · rw [if_pos c1] at q' ⊢; exact q'
    · rw [if_neg c1] at q' ⊢
      by_cases c2 : a = 0
      · rw [if_pos c2] at q' ⊢; exact q'
      · rw [if_neg c2] at q' ⊢; exact q'
  | some c => exact q h m
theorem clearS {z : V} {b o n : Nat} {c : List V} {y : Nat} {cap : Option Nat} (hB : B ≤ b) (hz : z.one = true) (ho : o + n ≤ c.length) (q : W Q B A S ((b, .cells (c.take o ++ (List.replicate n z ++ c.drop (o + n))) true y) :: L) (K X.undef)) : W Q B A S ((b, .cells c true y) :: L) fun h => J.clear [z] (.slice b o n 1 cap) R h K := fun h m => by
  obtain ⟨hp, nx, lg, log⟩ := h
  have hm := m.blk _ List.mem_cons_self
  have hr : ∀ n, rep n [z] = List.replicate n z := fun n => by
    induction n with
    | zero => rfl
    | succ n ih => show cat [z] (rep n [z]) = _; rw [ih]; rfl
  have ha : ∀ n, allOne (List.replicate n z) = true := fun n => by
    induction n with
    | zero => rfl
    | succ n ih => show (Bool.rec false (allOne (List.replicate n z)) z.one : Bool) = true; rw [hz]; exact ih
  show Q (X.stN b o (rep n [z]) R ⟨hp, nx, lg, log⟩ fun _ h => K X.undef h)
  rw [hr]
  refine St.stN (K := fun _ h => K X.undef h) hm.1 hm.2 (by rw [List.length_replicate]; exact ho) (ha n) ?_
  rw [List.length_replicate]
  exact q _ (Mem.ntW (Mem.ntW (Mem.put _ m) hB hm.2) hB hm.2)
theorem conv {k k' : IntKind} {n : Int} {r : V} (e : intV k n = some r) (q : W Q B A S L (K r)) : W Q B A S L fun h => J.conv k (.int k' n) R h K := fun h m => by
  show Q (Option.rec none (fun r => K r h) (intV k n))
  rw [e]; exact q h m
theorem cutR_eq {es n : Nat} {v : V} {l : List V} {lo hi : Option V} {a b : Nat} (hv : Rd L es v n l) (hlo : lo = none ∧ a = 0 ∨ lo = some (.int .i64 a)) (hhi : hi = none ∧ b = n ∨ hi = some (.int .i64 b)) (hab : a ≤ b) (hbn : b ≤ n)
    : ∃ w, Rd L es w (b - a) ((l.drop (a * es)).take ((b - a) * es)) ∧ ∀ (R : Type) (h : H) (K : V → H → Option R), J.cutL es lo hi v R h K = K w h := by
  obtain ⟨hes, hl, h3⟩ := hv
  have hb1 : ∀ (R : Type) (h : H) (K : V → H → Option R), (J.cutL es lo hi v R h K) = X.sliceK es v (if lo = none then none else some a) (if hi = none then none else some b) R h K := fun R h K => by
    rcases hlo with ⟨rfl, rfl⟩ | rfl <;> rcases hhi with ⟨rfl, rfl⟩ | rfl <;> rfl
  have hd1 : X.orD 0 (if lo = none then none else some a) = a := by
    rcases hlo with ⟨rfl, rfl⟩ | rfl <;> rfl
  have hd2 : ∀ k, k = n → X.orD k (if hi = none then none else some b) = b := fun k hk => by
    rcases hhi with ⟨rfl, rfl⟩ | rfl
    · rw [if_pos rfl]; exact hk
    · rfl
  have hle : b * es ≤ n * es := Nat.mul_le_mul_right _ hbn
  have hle2 : a * es ≤ b * es := Nat.mul_le_mul_right _ hab
  have hsub : (b - a) * es = b * es - a * es := Nat.sub_mul _ _ _
  have hlen : ((l.drop (a * es)).take ((b - a) * es)).length = (b - a) * es := by rw [List.length_take, List.length_drop]; omega
  have nil : n = 0 → (v = .nils ∨ v = .emp) → ∃ w, Rd L es w (b - a) ((l.drop (a * es)).take ((b - a) * es)) ∧ ∀ (R : Type) (h : H) (K : V → H → Option R), J.cutL es lo hi v R h K = K w h := fun hn hv => by
    subst hn
    have ha0 : a = 0 := by omega
    have hb0 : b = 0 := by omega
    refine ⟨v, ⟨hes, hlen, .inl ⟨hv, by omega⟩⟩, fun R h K => ?_⟩
    rw [hb1]
    have e : X.sliceL es v (if lo = none then none else some a) (if hi = none then none else some b) = some v := by
      have h2 : X.orD 0 (if hi = none then none else some b) = 0 := by rw [hd2 0 rfl]; exact hb0
      rcases hv with rfl | rfl
      · show (Bool.rec none (Bool.rec none (Bool.rec none (some V.nils) (Nat.beq (X.orD 0 (if hi = none then none else some b)) 0)) (Nat.beq (X.orD 0 (if lo = none then none else some a)) 0)) true : Option V) = _
        rw [hd1, h2, ha0]; rfl
      · show (Bool.rec none (Bool.rec none (Bool.rec none (some V.emp) (Nat.beq (X.orD 0 (if hi = none then none else some b)) 0)) (Nat.beq (X.orD 0 (if lo = none then none else some a)) 0)) true : Option V) = _
        rw [hd1, h2, ha0]; rfl
    show (Option.rec _ (fun r => K r h) (X.sliceL es v (if lo = none then none else some a) (if hi = none then none else some b)) : Option R) = _
    rw [e]
  rcases h3 with ⟨hv, hn⟩ | ⟨bb, o, c, cs, w, y, rfl, hm, ht, hc⟩ | rfl
  · exact nil hn hv
  · have e : X.sliceL es (.slice bb o n es c) (if lo = none then none else some a) (if hi = none then none else some b) =
        Option.rec (if a < n then some (.slice bb (o + a * es) (b - a) es none) else if a = 0 then some (.slice bb o (b - a) es none) else some .emp)
          (fun c => some (.slice bb (if a = c then o else o + a * es) (b - a) es (some (c - a)))) c := by
      show (Bool.rec none (Bool.rec none (Option.rec
        (Bool.rec none (Bool.rec (Bool.rec (some V.emp) (some (.slice bb o (Nat.sub (X.orD n (if hi = none then none else some b)) (X.orD 0 (if lo = none then none else some a))) es none)) (Nat.beq (X.orD 0 (if lo = none then none else some a)) 0)) (some (.slice bb (Nat.add o (Nat.mul (X.orD 0 (if lo = none then none else some a)) es)) (Nat.sub (X.orD n (if hi = none then none else some b)) (X.orD 0 (if lo = none then none else some a))) es none)) (Nat.ble (Nat.succ (X.orD 0 (if lo = none then none else some a))) n)) (Nat.ble (X.orD n (if hi = none then none else some b)) n))
        (fun c => Bool.rec none (some (.slice bb (Bool.rec (Nat.add o (Nat.mul (X.orD 0 (if lo = none then none else some a)) es)) o (Nat.beq (X.orD 0 (if lo = none then none else some a)) c)) (Nat.sub (X.orD n (if hi = none then none else some b)) (X.orD 0 (if lo = none then none else some a))) es (some (Nat.sub c (X.orD 0 (if lo = none then none else some a)))))) (Nat.ble (X.orD n (if hi = none then none else some b)) c)) c)
        (Nat.ble (X.orD 0 (if lo = none then none else some a)) (X.orD n (if hi = none then none else some b)))) (Nat.beq es es) : Option V) = _
      rw [hd1, hd2 n rfl, Nat.beq_refl]
      show (Bool.rec none (Option.rec _ _ c) (Nat.ble a b) : Option V) = _
      rw [ble_if, if_pos hab]
      cases c with
      | none =>
        show (Bool.rec none (Bool.rec _ _ (Nat.ble (a + 1) n)) (Nat.ble b n) : Option V) = _
        rw [ble_if, if_pos hbn, ble_if]
        by_cases c1 : a < n
        · rw [if_pos (show a + 1 ≤ n from c1)]
          show _ = (if a < n then _ else _)
          rw [if_pos c1]; rfl
        · rw [if_neg (show ¬ a + 1 ≤ n from c1)]
          show _ = (if a < n then _ else _)
          rw [if_neg c1]
          by_cases c2 : a = 0
          · subst c2; rfl
          · rw [if_neg c2]
            have : Nat.beq a 0 = false := by cases a with | zero => exact absurd rfl c2 | succ _ => rfl
            rw [this]
      | some c =>
        have hcn := hc c rfl
        show (Bool.rec none _ (Nat.ble b c) : Option V) = some _
        rw [ble_if, if_pos (by omega)]
        by_cases c2 : a = c
        · rw [if_pos c2]
          have : Nat.beq a c = true := by rw [c2]; exact Nat.beq_refl _
          rw [this]; rfl
        · rw [if_neg c2]
          have : Nat.beq a c = false := by
            cases hh : Nat.beq a c with
            | false => rfl
            | true => exact absurd (Nat.eq_of_beq_eq_true hh) c2
          rw [this]; rfl
    have hpc : (cs.drop (o + a * es)).take ((b - a) * es) = (l.drop (a * es)).take ((b - a) * es) := by
      rw [← ht, List.drop_take, List.take_take, List.drop_drop]
      congr 1
      rw [Nat.min_eq_left]; omega
    have hempty : a = b → (l.drop (a * es)).take ((b - a) * es) = [] := fun h => by
      apply List.eq_nil_of_length_eq_zero
      rw [hlen, h, Nat.sub_self, Nat.zero_mul]
    cases c with
    | none =>
      have e : X.sliceL es (.slice bb o n es none) (if lo = none then none else some a) (if hi = none then none else some b) = (if a < n then some (.slice bb (o + a * es) (b - a) es none) else if a = 0 then some (.slice bb o (b - a) es none) else some .emp) := e
      by_cases c1 : a < n
      · rw [if_pos c1] at e
        exact ⟨_, ⟨hes, hlen, .inr (.inl ⟨bb, _, none, cs, w, y, rfl, hm, hpc, fun _ h => nomatch h⟩)⟩, fun R h K => by rw [hb1]; show (Option.rec _ (fun r => K r h) (X.sliceL es _ (if lo = none then none else some a) (if hi = none then none else some b)) : Option R) = _; rw [e]⟩
      · rw [if_neg c1] at e
        have hab' : a = b := by omega
        by_cases c2 : a = 0
        · rw [if_pos c2] at e
          refine ⟨_, ⟨hes, hlen, .inr (.inl ⟨bb, _, none, cs, w, y, rfl, hm, ?_, fun _ h => nomatch h⟩)⟩, fun R h K => by rw [hb1]; show (Option.rec _ (fun r => K r h) (X.sliceL es _ (if lo = none then none else some a) (if hi = none then none else some b)) : Option R) = _; rw [e]⟩
          rw [hempty hab', ← hab', Nat.sub_self, Nat.zero_mul, List.take_zero]
        · rw [if_neg c2] at e
          exact ⟨_, ⟨hes, hlen, .inl ⟨.inr rfl, by omega⟩⟩, fun R h K => by rw [hb1]; show (Option.rec _ (fun r => K r h) (X.sliceL es _ (if lo = none then none else some a) (if hi = none then none else some b)) : Option R) = _; rw [e]⟩
    | some c =>
      have hcn := hc c rfl
      have e : X.sliceL es (.slice bb o n es (some c)) (if lo = none then none else some a) (if hi = none then none else some b) = some (.slice bb (if a = c then o else o + a * es) (b - a) es (some (c - a))) := e
      refine ⟨.slice bb (if a = c then o else o + a * es) (b - a) es (some (c - a)), ⟨hes, hlen, .inr (.inl ⟨bb, _, some (c - a), cs, w, y, rfl, hm, ?_, fun q hq => by simp at hq; omega⟩)⟩, fun R h K => by rw [hb1]; show (Option.rec _ (fun r => K r h) (X.sliceL es _ (if lo = none then none else some a) (if hi = none then none else some b)) : Option R) = _; rw [e]⟩
      by_cases c2 : a = c
      · have hab' : a = b := by omega
        rw [if_pos c2, hempty hab', ← hab', Nat.sub_self, Nat.zero_mul, List.take_zero]
      · rw [if_neg c2]; exact hpc
  · have e : X.cutBig es es l n (if lo = none then none else some a) (if hi = none then none else some b) = some (.bigs es ((l.drop (a * es)).take ((b - a) * es)) (.int .i64 ((b - a : Nat) : Int))) := by
      unfold X.cutBig
      rw [hd1, hd2 n rfl, Nat.beq_refl]
      show (Bool.rec none (Bool.rec none (some (V.bigs es (X.takeL (X.dropL l (a * es)) ((b - a) * es)) (.int .i64 ((b - a : Nat) : Int)))) (Nat.ble b n)) (Nat.ble a b) : Option V) = _
      rw [ble_if, if_pos hab, ble_if, if_pos hbn, X.dropL_eq, X.takeL_eq]
    exact ⟨_, ⟨hes, hlen, .inr (.inr rfl)⟩, fun R h K => by rw [hb1]; show (Option.rec _ (fun r => K r h) (X.cutBig es es l n (if lo = none then none else some a) (if hi = none then none else some b)) : Option R) = _; rw [e]⟩
theorem lval {f : Kal V} {v : V} {K : V × List (Nat × Bool) × Nat → H → Option R} (hf : ∀ (h : H) (K : V → H → Option R), f R h K = K v h) (q : ∀ B' hi, S ≤ B' → RO [] ⟨[], B', hi⟩ → B' ≤ hi → W Q B A hi L (K (v, [], hi))) : W Q B A S L fun h => X.logged f R h K := fun h m => by
  obtain ⟨hp, nx, lg, log⟩ := h
  show Q (X.logged f R ⟨hp, nx, lg, log⟩ K)
  rw [Ev.logged, hf]
  refine q nx nx m.sz ⟨Nat.le_refl _, fun _ h => nomatch h⟩ (Nat.le_refl _) _ ⟨m.blk, m.nd, m.free, m.low, Nat.le_refl _, m.may, fun p hp => ?_⟩
  cases lg <;> exact m.ro p hp
theorem lcutR {K : V × List (Nat × Bool) × Nat → H → Option R} {es n : Nat} {v : V} {l : List V} {lo hi : Option V} {a b : Nat} (hv : Rd L es v n l) (hlo : lo = none ∧ a = 0 ∨ lo = some (.int .i64 a)) (hhi : hi = none ∧ b = n ∨ hi = some (.int .i64 b)) (hab : a ≤ b) (hbn : b ≤ n)
    (q : ∀ w B' hi, Rd L es w (b - a) ((l.drop (a * es)).take ((b - a) * es)) → S ≤ B' → RO [] ⟨[], B', hi⟩ → B' ≤ hi → W Q B A hi L (K (w, [], hi))) : W Q B A S L fun h => X.logged (J.cutL es lo hi v) R h K := by
  obtain ⟨w, h1, h2⟩ := cutR_eq (L := L) hv hlo hhi hab hbn
  exact lval (h2 R) fun B' hi hS ro hh => q w B' hi h1 hS ro hh
theorem clashE {x : Note} {lo hi : Nat} : clash x ⟨[], lo, hi⟩ = false := by
  have h : ∀ l : List (Nat × Bool), anyHit [] l = false := fun l => by
    induction l with
    | nil => rfl
    | cons p l ih => rw [Ev.anyHit_cons, ih]; rfl
  rw [Ev.clash_def]
  show (anyHit [] x.log || anyIn x.lo x.hi []) = false
  rw [h]; rfl
end W
end
end Go.X
