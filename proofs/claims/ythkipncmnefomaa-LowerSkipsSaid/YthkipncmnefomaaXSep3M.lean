/- A text of the verified executor, of contracts, or of this law; joined and trimmed by a program of mine (wip/gen). -/
import Derived.Test.YthkipncmnefomaaXSep2
set_option linter.unusedVariables false
set_option linter.unusedSimpArgs false
set_option linter.unusedSectionVars false
namespace Go.X
open Go.RowKit
noncomputable section
variable [Nu]
namespace W
variable {R : Type} {Q : Option R → Prop} {B : Nat} {A : Nat → Prop} {S : Nat} {L : Kn}
theorem idxM {M : Kn} {K : V → H → Option R} {es : Nat} {v : V} {n : Nat} {l : List V} {a : Int} (hv : Rd M es v n l) (i : Nat) (ha : a = (i : Int)) (hi : i < n) (q : ∀ p, Pl M p (l.drop (i * es)) → W Q B A S L (K p)) : W Q B A S L fun h => J.idxL es v (.int .i64 a) R h K := by
  obtain ⟨hes, hl, ⟨_, rfl⟩ | ⟨b, o, c, cs, w, y, rfl, hm, ht, _⟩ | rfl⟩ := hv
  · exact absurd hi (Nat.not_lt_zero _)
  · refine fun h m => St.idxLS i ha hi (q _ (.inr ⟨b, o + i * es, cs, w, y, (cs.drop o).drop (n * es), rfl, hm, ?_⟩) h m)
    rw [← ht, ← List.drop_drop]
    conv => lhs; rw [← List.take_append_drop (n * es) (cs.drop o)]
    rw [List.drop_append_of_le_length]
    have h1 : i * es ≤ n * es := Nat.mul_le_mul_right _ (Nat.le_of_lt hi)
    have h2 : (List.take (n * es) (List.drop o cs)).length = n * es := by rw [ht, hl]
    omega
  · have h1 : (i + 1) * es ≤ n * es := Nat.mul_le_mul_right _ hi
    exact fun h m => St.idxLB i ha hes (by omega) (q _ (.inl ⟨[], by rw [List.append_nil]⟩) h m)
theorem ids_sub {M M' : Kn} {i : Nat} (hs : ∀ q ∈ M, q ∈ M') (hi : i ∈ ids M) : i ∈ ids M' := by
  obtain ⟨q, hq, e⟩ := List.mem_map.1 hi
  rw [← e]; exact List.mem_map_of_mem (f := (·.1)) (hs q hq)
theorem RO.sub {M M' : Kn} {x : Note} (h : RO M x) (hs : ∀ q ∈ M, q ∈ M') : RO M' x := ⟨h.le, fun p hp => ⟨(h.ro p hp).1, fun c => ⟨((h.ro p hp).2 c).1, by
  obtain ⟨q, hq, e⟩ := List.mem_map.1 ((h.ro p hp).2 c).2
  rw [← e]; exact List.mem_map_of_mem (f := (·.1)) (hs q hq)⟩⟩⟩
theorem lload1M {M : Kn} {K : V × List (Nat × Bool) × Nat → H → Option R} {p : V} {l : List V} (hp : Pl M p l) (hM : ∀ q ∈ M, q ∈ L) (v : V) (hv : l[0]? = some v) (q : ∀ B' lgs hi, S ≤ B' → RO M ⟨lgs, B', hi⟩ → B' ≤ hi → W Q B A hi L (K (v, lgs, hi))) : W Q B A S L fun h => X.logged (J.load1 p) R h K := by
  have hl : 0 < l.length := (List.getElem?_eq_some_iff.1 hv).1
  rcases hp with ⟨r, rfl⟩ | ⟨b, o, cs, w, y, r, rfl, hm, e⟩
  · refine lval (v := v) (fun h K => ?_) fun B' hi hS ro hh => q B' [] hi hS (ro.sub fun _ h => nomatch h) hh
    rw [Ev.load1V, List.getElem?_append_left hl, hv]; rfl
  · refine lload1P (hM _ hm) v ?_ fun B' lgs hi hS ro hh => q B' lgs hi hS (ro.sub fun x hx => by rw [List.mem_singleton.1 hx]; exact hm) hh
    have h1 : (cs.drop o)[0]? = some v := by rw [e, List.getElem?_append_left hl, hv]
    rw [List.getElem?_drop] at h1
    exact h1
theorem lload1T {K : V × List (Nat × Bool) × Nat → H → Option R} {b o : Nat} {c : List V} {w : Bool} {y : Nat} (hb : (b, Blk.cells c w y) ∈ L) (v : V) (hv : c[o]? = some v) (q : ∀ B' lgs hi, S ≤ B' → RO [(b, Blk.cells c w y)] ⟨lgs, B', hi⟩ → B' ≤ hi → (∀ p ∈ lgs, p.1 = b) → W Q B A hi L (K (v, lgs, hi))) : W Q B A S L fun h => X.logged (J.load1 (.ptr b o)) R h K := fun h m => by
  obtain ⟨hp, nx, lg, log⟩ := h
  show Q (X.logged (J.load1 (.ptr b o)) R ⟨hp, nx, lg, log⟩ K)
  rw [Ev.logged]
  have hm := m.blk _ hb
  refine St.load1P v hm.1 hm.2 hv ?_
  refine q nx [(b, false)] nx m.sz ⟨Nat.le_refl _, fun p hp => ?_⟩ (Nat.le_refl _) (fun p hp => by rw [List.mem_singleton.1 hp]) _ ⟨m.blk, m.nd, m.free, m.low, Nat.le_refl _, m.may, fun p hp => ?_⟩
  · obtain rfl : p = (b, false) := by simpa using hp
    exact ⟨hm.2, fun _ => ⟨rfl, by simp [ids]⟩⟩
  · cases lg with
    | false => exact m.ro p hp
    | true =>
      rcases List.mem_cons.1 hp with rfl | hp
      · exact ⟨hm.2, fun c => ⟨rfl, m.may _ hb c⟩⟩
      · exact m.ro p hp
theorem lstore1T {K : V × List (Nat × Bool) × Nat → H → Option R} {b o : Nat} {c : List V} {y : Nat} {v : V} (hB : B ≤ b) (ho : o < c.length) (hv : v.one = true) (q : ∀ lgs hi, S ≤ hi → (∀ p ∈ lgs, p.1 = b) → W Q B A hi ((b, .cells (c.set o v) true y) :: L) (K (X.undef, lgs, hi))) : W Q B A S ((b, .cells c true y) :: L) fun h => X.logged (J.store1 (.ptr b o) v) R h K := fun h m => by
  obtain ⟨hp, nx, lg, log⟩ := h
  have hm := m.blk _ List.mem_cons_self
  show Q (X.logged (J.store1 (.ptr b o) v) R ⟨hp, nx, lg, log⟩ K)
  rw [Ev.logged]
  refine St.store1 hm.1 hm.2 ho hv ?_
  have m1 := Mem.put (.cells (c.set o v) true y) m
  refine q [(b, true), (b, false)] nx m.sz (fun p hp => by rcases List.mem_cons.1 hp with rfl | hp; · rfl
                                                           · rw [List.mem_singleton.1 hp]) _ ⟨m1.blk, m1.nd, m1.free, m1.low, Nat.le_refl _, m1.may, fun p hp => ?_⟩
  have hbb : ∀ f, (b, f).1 < nx ∧ ((b, f).1 < B → (b, f).2 = false ∧ A (b, f).1) := fun f => ⟨hm.2, fun c => absurd hB (Nat.not_le.2 c)⟩
  cases lg with
  | false => exact m.ro p hp
  | true =>
    rcases List.mem_cons.1 hp with rfl | hp
    · exact hbb true
    · rcases List.mem_cons.1 hp with rfl | hp
      · exact hbb false
      · exact m.ro p hp
theorem clashT {lx ly : List (Nat × Bool)} {lox hix loy hiy b b' n : Nat} (hx : ∀ p ∈ lx, p.1 = b) (hy : ∀ p ∈ ly, p.1 = b') (hne : b ≠ b') (hb : b' < n) (h3 : n ≤ lox) : clash ⟨lx, lox, hix⟩ ⟨ly, loy, hiy⟩ = false := by
  have a3 : ∀ l : List (Nat × Bool), (∀ p ∈ l, p ∈ ly) → anyIn lox hix l = false := fun l => by
    induction l with
    | nil => intro _; rfl
    | cons p l ih =>
      intro hm
      rw [Ev.anyIn_cons, ih (fun p hp => hm p (List.mem_cons_of_mem _ hp)), Bool.or_false]
      have := hy p (hm p List.mem_cons_self)
      exact decide_eq_false fun c => by omega
  have a1 : ∀ (q : Nat × Bool), q ∈ lx → ∀ (l : List (Nat × Bool)), (∀ p ∈ l, p ∈ ly) → hits q.1 q.2 l = false := fun q hq l => by
    induction l with
    | nil => intro _; rfl
    | cons p l ih =>
      intro hm
      have h1 := hx q hq
      have h2 := hy p (hm p List.mem_cons_self)
      rw [Ev.hits_cons, ih (fun p hp => hm p (List.mem_cons_of_mem _ hp)), Bool.or_false, decide_eq_false (fun c => hne (by omega))]; rfl
  have a2 : ∀ l : List (Nat × Bool), (∀ p ∈ l, p ∈ lx) → anyHit ly l = false := fun l => by
    induction l with
    | nil => intro _; rfl
    | cons p l ih =>
      intro hm
      rw [Ev.anyHit_cons, ih (fun p hp => hm p (List.mem_cons_of_mem _ hp)), a1 p (hm p List.mem_cons_self) _ (fun _ h => h)]; rfl
  rw [Ev.clash_def]
  show (anyHit ly lx || anyIn lox hix ly) = false
  rw [a2 _ (fun _ h => h), a3 _ (fun _ h => h)]; rfl
/-! maps -/
section
variable {K : V → H → Option R}
theorem mkmap (q : ∀ b, B ≤ b → W Q B A S ((b, .map []) :: L) (K (.map b))) : W Q B A S L fun h => J.mkmap R h K := fun h m => by
  obtain ⟨hp, nx, lg, log⟩ := h
  show Q (X.newB (.map []) R ⟨hp, nx, lg, log⟩ fun b h => K (.map b) h)
  rw [Ev.newB, m.free nx (Nat.le_refl _)]
  exact q nx m.low _ (Mem.new _ m)
theorem insert {str : Bool} {b : Nat} {es : List (V × V)} {k x : V} (hB : B ≤ b) (hk : isKey str k = true) (hl : lookupM k es = some none) (q : W Q B A S ((b, .map (es ++ [(k, x)])) :: L) (K X.undef)) : W Q B A S ((b, .map es) :: L) fun h => J.insert str (.map b) k x R h K := fun h m => by
  obtain ⟨hp, nx, lg, log⟩ := h
  have hm := m.blk _ List.mem_cons_self
  show Q (X.read b R ⟨hp, nx, lg, log⟩ fun q h => Blk.rec (fun _ _ _ => none) (fun es => Bool.rec none (Option.rec none (fun r => Option.rec (X.write b (.map (cat es [(k, x)])) R h fun _ h => K X.undef h) (fun _ => none) r) (lookupM k es)) (isKey str k)) none (fun _ _ _ _ _ => none) q)
  rw [Ev.read, hm.1]
  simp only [Option.bind_some, if_pos hm.2, hk, hl]
  show Q (X.write b (.map (cat es [(k, x)])) R ⟨hp, nx, lg, Ev.nt lg (b, false) log⟩ fun _ h => K X.undef h)
  rw [Ev.write, hm.1]
  simp only [Option.bind_some, if_pos hm.2, cat_eq]
  exact q _ (Mem.ntW (Mem.ntW (Mem.put _ m) hB hm.2) hB hm.2)
theorem look {str ok : Bool} {z : V} {b : Nat} {es : List (V × V)} {k : V} {r : Option V} (hb : (b, Blk.map es) ∈ L) (hk : isKey str k = true) (hl : lookupM k es = some r) (q : W Q B A S L (K (Option.rec (Bool.rec z (.tup [z, .bool false]) ok) (fun v => Bool.rec v (.tup [v, .bool true]) ok) r))) : W Q B A S L fun h => J.look str ok z (.map b) k R h K := fun h m => by
  obtain ⟨hp, nx, lg, log⟩ := h
  have hm := m.blk _ hb
  show Q (X.read b R ⟨hp, nx, lg, log⟩ fun q h => Blk.rec (fun _ _ _ => none) (fun es => Bool.rec none (Option.rec none (fun r => K (Option.rec (Bool.rec z (.tup [z, .bool false]) ok) (fun v => Bool.rec v (.tup [v, .bool true]) ok) r) h) (lookupM k es)) (isKey str k)) none (fun _ _ _ _ _ => none) q)
  rw [Ev.read, hm.1]
  simp only [Option.bind_some, if_pos hm.2, hk, hl]
  exact q _ (Mem.nt m hb)
end
theorem get {P : H → Option R} (w : ∀ S', S ≤ S' → B ≤ S' → (∀ i ∈ ids L, i < S') → (∀ i ∈ ids L, i < B → A i) → W Q B A S' L P) : W Q B A S L P := fun h m =>
  w h.nx m.sz m.low (fun i hi => by obtain ⟨p, hp, rfl⟩ := List.mem_map.1 hi; exact (m.blk p hp).2) (fun i hi c => by obtain ⟨p, hp, rfl⟩ := List.mem_map.1 hi; exact m.may p hp c) h ⟨m.blk, m.nd, m.free, m.low, Nat.le_refl _, m.may, m.ro⟩
end W
theorem Own.mono {B B' es y : Nat} {x : V} {l : List V} {p : Kn} (hB : B' ≤ B) (h : Own B es y x l p) : Own B' es y x l p := by
  rcases h with h | ⟨b, n, c, y', h1, h2, h3, h4, h5, h6⟩
  · exact .inl h
  · exact .inr ⟨b, n, c, y', h1, h2, h3, h4, h5, Nat.le_trans hB h6⟩
theorem Own.ge {B es y : Nat} {x : V} {l : List V} {p : Kn} (h : Own B es y x l p) : ∀ q ∈ p, B ≤ q.1 := by
  rcases h with ⟨_, _, rfl⟩ | ⟨b, n, c, y', _, _, _, _, rfl, hb⟩
  · intro q hq; exact nomatch hq
  · intro q hq; rw [List.mem_singleton.1 hq]; exact hb
end
end Go.X
namespace Go.X
open Go.RowKit
noncomputable section
variable [Nu]
omit [Nu] in
theorem allOne_c {v : V} {l : List V} (h : v.one = true) (hl : allOne l = true) : allOne (v :: l) = true := by
  show (Bool.rec false (allOne l) v.one : Bool) = true
  rw [h]; exact hl
omit [Nu] in
theorem one_cells : ∀ {v : V}, v.one = true → v.cells = [v] := fun {v} h => by cases v <;> first | rfl | exact nomatch h
omit [Nu] in
theorem putAt_set {R : Type} {v : V} {k : List V → Option R} : ∀ {z : List V} {d : Nat}, d < z.length → putAtK [v] k z d = k (z.set d v)
  | [], d, h => nomatch h
  | x :: z, 0, h => rfl
  | x :: z, d + 1, h => putAt_set (k := fun r => k (x :: r)) (Nat.lt_of_succ_lt_succ h)
omit [Nu] in
theorem fill_t {R : Type} {d : Nat} {v : V} {z : List V} {ps : List (Nat × Nat × V)} {k : List V → Option R} {r : Option R} (hv : v.cells = [v]) (hd : d < z.length) (h : fillV ps (z.set d v) k = r) : fillV ((d, 1, v) :: ps) z k = r := by
  show (Bool.rec none (putAtK v.cells (fun z => fillV ps z k) z d) (Nat.beq 1 (len v.cells)) : Option R) = r
  rw [hv]
  show putAtK [v] (fun z => fillV ps z k) z d = r
  rw [putAt_set hd]; exact h
theorem Rd.of {L : Kn} {es b n : Nat} {c : Option Nat} {cs : List V} {w : Bool} {y : Nat} (hes : 1 ≤ es) (hm : (b, Blk.cells cs w y) ∈ L) (hl : cs.length = n * es) (hc : ∀ q, c = some q → n ≤ q) : Rd L es (.slice b 0 n es c) n cs :=
  ⟨hes, hl, .inr (.inl ⟨b, 0, c, cs, w, y, rfl, hm, by rw [List.drop_zero, List.take_of_length_le (by omega)], hc⟩)⟩
theorem Own.ne {B es y : Nat} {x : V} {l : List V} {p : Kn} (h : Own B es y x l p) (hl : l ≠ []) : ∃ b n c y', x = .slice b 0 n es c ∧ (c = none ∨ c = some n) ∧ l.length = n * es ∧ 1 ≤ n ∧ p = [(b, .cells l true y')] ∧ B ≤ b := by
  rcases h with ⟨_, rfl, _⟩ | h
  · exact absurd rfl hl
  · exact h
theorem Pl.sub {L L' : Kn} {p : V} {l : List V} (hs : ∀ q ∈ L, q ∈ L') (h : Pl L p l) : Pl L' p l := by
  rcases h with h | ⟨b, o, cs, w, y, r, e, m, t⟩
  · exact .inl h
  · exact .inr ⟨b, o, cs, w, y, r, e, hs _ m, t⟩
namespace W
variable {R : Type} {Q : Option R → Prop} {B : Nat} {A : Nat → Prop} {S : Nat} {L : Kn} {K : V → H → Option R}
theorem joinC {α : Type} {b : α} {f : H → α → Option R} (I : α → Prop) (hb : I b) (q : ∀ b', I b' → W Q B A S L fun h => f h b') : W Q B A S L fun h => X.join b (f h) := q b hb
theorem swapE {N M L' : Kn} {P : H → Option R} (h1 : L = N ++ (M ++ L')) (w : W Q B A S (M ++ (N ++ L')) P) : W Q B A S L P := by subst h1; exact swap w
theorem cutM {M : Kn} {es n : Nat} {v : V} {l : List V} {lo hi : Option V} {a b : Nat} (hv : Rd M es v n l) (hlo : lo = none ∧ a = 0 ∨ lo = some (.int .i64 a)) (hhi : hi = none ∧ b = n ∨ hi = some (.int .i64 b)) (hab : a ≤ b) (hbn : b ≤ n)
    (q : ∀ w, Rd M es w (b - a) ((l.drop (a * es)).take ((b - a) * es)) → W Q B A S L (K w)) : W Q B A S L fun h => J.cutL es lo hi v R h K := by
  obtain ⟨w, h1, h2⟩ := cutR_eq (L := M) hv hlo hhi hab hbn
  intro h m
  show Q (J.cutL es lo hi v R h K)
  rw [h2]; exact q w h1 h m
theorem lenM {M : Kn} {es n : Nat} {v : V} {l : List V} (hv : Rd M es v n l) (q : W Q B A S L (K (.int .i64 n))) : W Q B A S L fun h => J.lenL v R h K := by
  obtain ⟨_, _, ⟨rfl | rfl, rfl⟩ | ⟨b, o, c, cs, w, y, rfl, _, _, _⟩ | rfl⟩ := hv
  · exact q
  · exact q
  · exact q
  · exact q
theorem callR {Θ : Orc} {T : Uh FnD} {n g : Nat} {vs : List V} {r : V} (ho : Θ.call g vs = some (fun _ h K => K r h)) (q : W Q B A S L (K r)) : W Q B A S L fun h => J.call (callD Θ T (n + 1)) (.fn (.func g) [] []) vs R h K := fun h m => by
  have e1 : J.call (callD Θ T (n + 1)) (.fn (.func g) [] []) vs R h K = K r h := by
    show I.callG _ _ _ R h K = _
    rw [I.callG_def]
    show (Option.rec (Uh.getK (fun f => f.call (callD Θ T n) ([] ++ (vs ++ [])) R h K) T g) (fun k => k R h K) (Θ.call g ([] ++ (vs ++ []))) : Option R) = _
    rw [List.append_nil, List.nil_append, ho]
  show Q (J.call (callD Θ T (n + 1)) (.fn (.func g) [] []) vs R h K)
  rw [e1]; exact q h m
theorem eqL {L' : Kn} {P : H → Option R} (h : L = L') (w : W Q B A S L' P) : W Q B A S L P := h ▸ w
theorem appendN {es y bytes m : Nat} {v : V} {it : List V} (hv : Rd L es v m it) (hne : 1 ≤ m) (ha : allOne it = true) (hroom : m * bytes ≤ 1048576)
    (q : ∀ b c y', B ≤ b → (c = none ∨ c = some m) → W Q B A S ((b, .cells it true y') :: L) (K (.slice b 0 m es c))) : W Q B A S L fun h => J.appendQ y es bytes .nils v R h K := by
  have hes := hv.1
  have hl := hv.2.1
  have hpos : 0 < it.length := by rw [hl]; exact Nat.mul_pos hne hes
  refine append (p := []) (n := 0) Own.nil hv (by simp) (by simpa using ha) (by simpa using hroom) fun x' p' ho => ?_
  obtain ⟨b, n, c, y', rfl, hc, hl', hn, rfl, hB⟩ := ho.ne (by intro h; simp at h; rw [h] at hpos; exact absurd hpos (by simp))
  rw [List.nil_append] at hl' ⊢
  obtain rfl : n = m := Nat.eq_of_mul_eq_mul_right (by omega : 0 < es) (hl'.symm.trans hl)
  exact q b c y' hB hc
theorem appendG {es y bytes n m b y' : Nat} {c : Option Nat} {v : V} {l it : List V} (hv : Rd L es v m it) (hB : B ≤ b) (hc : c = none ∨ c = some n) (hl : l.length = n * es) (hn : 1 ≤ n) (ha : allOne (l ++ it) = true) (hroom : (n + m) * bytes ≤ 1048576)
    (q : ∀ b c y', B ≤ b → (c = none ∨ c = some (n + m)) → W Q B A S ((b, .cells (l ++ it) true y') :: L) (K (.slice b 0 (n + m) es c))) : W Q B A S ((b, .cells l true y') :: L) fun h => J.appendQ y es bytes (.slice b 0 n es c) v R h K := by
  have hes := hv.1
  refine append (p := [(b, .cells l true y')]) (n := n) (.inr ⟨b, n, c, y', rfl, hc, hl, hn, rfl, hB⟩) hv hl ha hroom fun x' p' ho => ?_
  have hne : l ++ it ≠ [] := by
    intro h
    have h1 := congrArg List.length h
    have := Nat.mul_pos hn hes
    rw [List.length_append, hl] at h1; simp at h1; omega
  obtain ⟨b1, n1, c1, y1, rfl, hc1, hl1, hn1, rfl, hB1⟩ := ho.ne hne
  have e : n1 = n + m := Nat.eq_of_mul_eq_mul_right (by omega : 0 < es) (by rw [← hl1, List.length_append, hl, hv.2.1, Nat.add_mul])
  subst e
  exact q b1 c1 y1 hB1 hc1
end W
end
end Go.X
namespace Go.X
open Go.RowKit
noncomputable section
variable [Nu]
omit [Nu] in
theorem rf_ {P : Prop} (h : P := by with_unfolding_all rfl) : P := h
omit [Nu] in
theorem mm_ {P : Prop} (h : P := by (repeat (first | exact List.mem_cons_self | refine List.mem_cons_of_mem _ ?_ | refine List.mem_append_right _ ?_ | assumption))) : P := h
omit [Nu] in
theorem nl_ {P : Prop} (h : P := by with_unfolding_all exact Nat.le_of_ble_eq_true rfl) : P := h
omit [Nu] in
theorem rg_ {P : Prop} (h : P := by with_unfolding_all exact fun _ => rfl) : P := h
omit [Nu] in
theorem om_ {P : Prop} (h : P := by omega) : P := h
omit [Nu] in
theorem sd_ {P : Prop} (h : P := by first | (simp; done) | fail) : P := h
namespace W
variable {R : Type} {Q : Option R → Prop} {B : Nat} {A : Nat → Prop} {S : Nat} {L : Kn} {K : V → H → Option R} {K1 : V × List (Nat × Bool) × Nat → H → Option R}
theorem fl {d b o : Nat} {c : List V} {w : Bool} {y : Nat} {v : V} (q : W Q B A S L (K v)) (hb : (b, Blk.cells c w y) ∈ L := by (repeat (first | exact List.mem_cons_self | refine List.mem_cons_of_mem _ ?_ | refine List.mem_append_right _ ?_ | assumption))) (hv : c[o + d]? = some v := by with_unfolding_all rfl) : W Q B A S L fun h => J.fld d (.ptr b o) R h fun v h => J.load1 v R h K := fldP (load1P hb v hv q)
theorem ft {d b o : Nat} {c : List V} {w : Bool} {y : Nat} {v : V} (q : ∀ B' lgs hi, S ≤ B' → RO [(b, Blk.cells c w y)] ⟨lgs, B', hi⟩ → B' ≤ hi → (∀ p ∈ lgs, p.1 = b) → W Q B A hi L (K1 (v, lgs, hi))) (hb : (b, Blk.cells c w y) ∈ L := by (repeat (first | exact List.mem_cons_self | refine List.mem_cons_of_mem _ ?_ | refine List.mem_append_right _ ?_ | assumption))) (hv : c[o + d]? = some v := by with_unfolding_all rfl) : W Q B A S L fun h => J.fld d (.ptr b o) R h fun v h => X.logged (J.load1 v) R h K1 := fldP (lload1T hb v hv q)
theorem fs {d b o : Nat} {c : List V} {y : Nat} {v : V} (q : ∀ lgs hi, S ≤ hi → (∀ p ∈ lgs, p.1 = b) → W Q B A hi ((b, .cells (c.set (o + d) v) true y) :: L) (K1 (X.undef, lgs, hi))) (hB : B ≤ b := by omega) (ho : o + d < c.length := by with_unfolding_all exact Nat.le_of_ble_eq_true rfl) (hv : v.one = true := by first | with_unfolding_all rfl | with_unfolding_all assumption | (apply_assumption; done) | fail) : W Q B A S ((b, .cells c true y) :: L) fun h => J.fld d (.ptr b o) R h fun p h => X.logged (J.store1 p v) R h K1 := fldP (lstore1T hB ho hv q)
theorem nx {K : Nat → H → Option R} (q : (ids L).Nodup → ∀ n, S ≤ n → (∀ i ∈ ids L, i < n) → W Q B A n L (K n)) : W Q B A S L fun h => X.nextOf R h K := nd fun a => nextOf (q a)
theorem ejF {F : CallF} {a b : Int} {α : Type} {body : α} {f t : α → H → Option R} (q : W Q B A S L (f body)) (c : a ≠ b := by omega) : W Q B A S L fun h => J.bin F .eql (.int .i64 a) (.int .i64 b) R h fun v h => X.join body fun k => condK v (f k h) (t k h) := eqlF c (join (condF q))
theorem ejT {F : CallF} {a b : Int} {α : Type} {body : α} {f t : α → H → Option R} (q : W Q B A S L (t body)) (c : a = b := by omega) : W Q B A S L fun h => J.bin F .eql (.int .i64 a) (.int .i64 b) R h fun v h => X.join body fun k => condK v (f k h) (t k h) := eqlT c (join (condT q))
theorem bn {z z2 cells : List V} {ps : List (Nat × Nat × V)} {y n : Nat} {K : V → V → V → H → Option R} (q : ∀ b, B ≤ b → W Q B A S ((b, .cells (z2.take 0 ++ ((V.agg cells).cells ++ z2.drop (0 + n))) true y) :: L) (K (.agg cells) (.ptr b 0) X.undef)) (hf : ∀ k : List V → Option R, fillV ps z k = k cells := by with_unfolding_all exact fun _ => rfl) (hu : (V.agg cells).cells.length = n := by with_unfolding_all rfl) (ho : 0 + n ≤ z2.length := by first | (simp; done) | with_unfolding_all exact Nat.le_of_ble_eq_true rfl | fail) (h1 : allOne (V.agg cells).cells = true := by first | with_unfolding_all rfl | with_unfolding_all assumption | (apply_assumption; done) | fail) : W Q B A S L fun h => J.build z ps R h fun v h => J.newT y z2 R h fun p h => J.storeN n p v R h fun u h => K v p u h := buildL hf (newT fun b hb => storeN hb hu ho h1 (q b hb))
theorem wp3 {f1 : Kal V} {f2 : V → Kal V} {f3 : V → V → Kal V} {w : V → V → V → V} {K : V → V → V → V → H → Option R} {z : V} (q : W Q B A S L (K X.undef X.undef X.undef z)) : W Q B A S L fun h => runK (whenK (.bool false) true f1) R h fun a h => runK (whenK (.bool false) true (f2 a)) R h fun b h => runK (whenK (.bool false) true (f3 a b)) R h fun c h => J.pick (.bool false) (w a b c) z R h fun d h => K a b c d h := whenFT (whenFT (whenFT (pickF q)))
end W
theorem rc_ {P : Prop} (h : P := by (repeat (first | assumption | apply Rd.cons | apply Pl.cons | apply Rd.app | apply Pl.app))) : P := h
theorem ok_ {P : Prop} (h : P := by (repeat (first | exact St.ps0 | refine St.psC rf_ rf_ W.clashE ?_ | with_unfolding_all refine St.psC rf_ rf_ (W.clashT (by assumption) (by assumption) (by rintro rfl; have h9 := (by assumption : (ids _).Nodup); simp [ids] at h9) ((by assumption : ∀ i ∈ ids _, i < _) _ (by simp [ids])) (by omega)) ?_ | refine St.psC rf_ rf_ (W.clashRO (by assumption) (by assumption) (by omega) (by omega) (by first | assumption | exact fun i hi => (by assumption : ∀ i ∈ ids _, i < _) i (W.ids_one mm_ hi) | exact fun i hi => (by assumption : ∀ i ∈ ids _, i < _) i (W.ids_sub (by assumption) hi) | exact W.ids_nil (n := 0) | fail) (by omega)) ?_))) : P := h
theorem W.ok {R : Type} {Q : Option R → Prop} {B : Nat} {A : Nat → Prop} {S : Nat} {L : Kn} {notes : List Note} {ps : List (Nat × Nat)} {k : H → Option R} (S' : Nat) (q : W Q B A S' L k) (hS : S' ≤ S := by omega) (e : pairsOk notes ps = true := by exact ok_) : W Q B A S L fun h => X.okP notes ps (k h) := W.okP S' hS e q
theorem rs_ {P : Prop} (h : P := by first | ((repeat (first | assumption | apply Rd.cons)); done) | exact Rd.nils (by decide) | exact Rd.of (by decide) mm_ (by first | rfl | (simp; done)) (by first | (rintro q hq; simp at hq; omega) | grind) | fail) : P := h
omit [Nu] in
theorem ft_ {P : Prop} (h : P := by intro k; (repeat (first | with_unfolding_all rfl | refine fill_t (by first | assumption | with_unfolding_all rfl) (by first | (simp; done) | with_unfolding_all exact Nat.le_of_ble_eq_true rfl) ?_ | fail))) : P := h
omit [Nu] in
theorem bx_ {P : Prop} (h : P := by first | with_unfolding_all rfl | with_unfolding_all assumption | (apply_assumption; done) | fail) : P := h
omit [Nu] in
theorem sn_ {P : Prop} (h : P := by first | (simp; done) | with_unfolding_all exact Nat.le_of_ble_eq_true rfl | fail) : P := h
end
end Go.X
