/- A text of the verified executor, of contracts, or of this law; joined and trimmed by a program of mine (wip/gen). -/
import Derived.Test.YthkipncmnefomaaXWp
set_option linter.unusedVariables false
set_option linter.unusedSimpArgs false
set_option linter.unusedSectionVars false
namespace Go.X
open Go.RowKit
noncomputable section
variable [Nu]
abbrev Kn := List (Nat × Blk)
abbrev ids (L : Kn) : List Nat := L.map (·.1)
structure Mem (B : Nat) (A : Nat → Prop) (S : Nat) (L : Kn) (h : H) : Prop where
  blk : ∀ p ∈ L, h.hp.get p.1 = some p.2 ∧ p.1 < h.nx
  nd : (ids L).Nodup
  free : ∀ i, h.nx ≤ i → h.hp.get i = none
  low : B ≤ h.nx
  sz : S ≤ h.nx
  may : ∀ p ∈ L, p.1 < B → A p.1
  ro : ∀ p ∈ h.log, p.1 < h.nx ∧ (p.1 < B → p.2 = false ∧ A p.1)
def W {R : Type} (Q : Option R → Prop) (B : Nat) (A : Nat → Prop) (S : Nat) (L : Kn) (P : H → Option R) : Prop := ∀ h, Mem B A S L h → Q (P h)
def Rd (L : Kn) (es : Nat) (v : V) (n : Nat) (l : List V) : Prop :=
  1 ≤ es ∧ l.length = n * es ∧ (((v = .nils ∨ v = .emp) ∧ n = 0) ∨ (∃ b o c cs w y, v = .slice b o n es c ∧ (b, Blk.cells cs w y) ∈ L ∧ (cs.drop o).take (n * es) = l ∧ ∀ q, c = some q → n ≤ q) ∨ v = .bigs es l (.int .i64 n))
def Pl (L : Kn) (p : V) (l : List V) : Prop := (∃ r, p = .view (l ++ r)) ∨ ∃ b o cs w y r, p = .ptr b o ∧ (b, Blk.cells cs w y) ∈ L ∧ cs.drop o = l ++ r
theorem Rd.cons {L : Kn} {es : Nat} {v : V} {n : Nat} {l : List V} {x : Nat × Blk} (h : Rd L es v n l) : Rd (x :: L) es v n l := by
  obtain ⟨h1, h2, h3⟩ := h
  refine ⟨h1, h2, ?_⟩
  rcases h3 with h3 | ⟨b, o, c, cs, w, y, e, m, t⟩ | h3
  · exact .inl h3
  · exact .inr (.inl ⟨b, o, c, cs, w, y, e, List.mem_cons_of_mem _ m, t⟩)
  · exact .inr (.inr h3)
theorem Rd.app {L : Kn} {es : Nat} {v : V} {n : Nat} {l : List V} (N : Kn) (h : Rd L es v n l) : Rd (N ++ L) es v n l := by
  induction N with
  | nil => exact h
  | cons x N ih => exact Rd.cons ih
theorem Rd.sub {L L' : Kn} {es : Nat} {v : V} {n : Nat} {l : List V} (hs : ∀ p ∈ L, p ∈ L') (h : Rd L es v n l) : Rd L' es v n l := by
  obtain ⟨h1, h2, h3⟩ := h
  refine ⟨h1, h2, ?_⟩
  rcases h3 with h3 | ⟨b, o, c, cs, w, y, e, m, t⟩ | h3
  · exact .inl h3
  · exact .inr (.inl ⟨b, o, c, cs, w, y, e, hs _ m, t⟩)
  · exact .inr (.inr h3)
theorem Pl.cons {L : Kn} {p : V} {l : List V} {x : Nat × Blk} (h : Pl L p l) : Pl (x :: L) p l := by
  rcases h with h | ⟨b, o, cs, w, y, r, e, m, t⟩
  · exact .inl h
  · exact .inr ⟨b, o, cs, w, y, r, e, List.mem_cons_of_mem _ m, t⟩
theorem Pl.app {L : Kn} {p : V} {l : List V} (N : Kn) (h : Pl L p l) : Pl (N ++ L) p l := by
  induction N with
  | nil => exact h
  | cons x N ih => exact Pl.cons ih
theorem Rd.nils {L : Kn} {es : Nat} (hes : 1 ≤ es) : Rd L es .nils 0 [] := ⟨hes, by simp, .inl ⟨.inl rfl, rfl⟩⟩
theorem Rd.one {L : Kn} {es : Nat} {v : V} {n : Nat} {l : List V} (h : Rd L es v n l) : v.one = true := by
  obtain ⟨_, _, ⟨rfl | rfl, _⟩ | ⟨b, o, c, cs, w, y, rfl, _⟩ | rfl⟩ := h <;> rfl
theorem Rd.len {L : Kn} {es : Nat} {v : V} {n : Nat} {l : List V} (h : Rd L es v n l) : l.length = n * es := h.2.1
namespace W
variable {R : Type} {Q : Option R → Prop} {B : Nat} {A : Nat → Prop} {S : Nat} {L : Kn}
theorem run {P : H → Option R} (w : W Q 0 (fun _ => True) 0 [] P) : Q (P h0) :=
  w h0 ⟨fun _ m => (nomatch m), List.nodup_nil, fun i _ => Th.get_nil i, Nat.zero_le _, Nat.zero_le _, fun _ m => (nomatch m), fun _ m => (nomatch m)⟩
theorem weak {L' : Kn} {P : H → Option R} (hs : L'.Sublist L) (w : W Q B A S L' P) : W Q B A S L P := fun h m =>
  w h ⟨fun p hp => m.blk p (hs.subset hp), m.nd.sublist (hs.map _), m.free, m.low, m.sz, fun p hp => m.may p (hs.subset hp), m.ro⟩
theorem drop {x : Nat × Blk} {P : H → Option R} (w : W Q B A S L P) : W Q B A S (x :: L) P := weak (List.sublist_cons_self x L) w
theorem dropN (N : Kn) {P : H → Option R} (w : W Q B A S L P) : W Q B A S (N ++ L) P := weak (List.sublist_append_right N L) w
theorem perm {L' : Kn} {P : H → Option R} (hs : L.Perm L') (w : W Q B A S L' P) : W Q B A S L P := fun h m =>
  w h ⟨fun p hp => m.blk p (hs.symm.subset hp), (hs.map _).nodup_iff.1 m.nd, m.free, m.low, m.sz, fun p hp => m.may p (hs.symm.subset hp), m.ro⟩
theorem nd {P : H → Option R} (w : (ids L).Nodup → W Q B A S L P) : W Q B A S L P := fun h m => w m.nd h m
/-! straight code -/
section
variable {K : V → H → Option R}
theorem hd {a : V} {l : List V} {f : H → V → List V → Option R} (q : W Q B A S L fun h => f h a l) : W Q B A S L fun h => hdK (a :: l) (f h) := q
theorem en {b : H → Option R} (q : W Q B A S L b) : W Q B A S L fun h => endK [] (b h) := q
theorem pure {v : V} (q : W Q B A S L (K v)) : W Q B A S L fun h => J.pure v R h K := q
theorem pickT {a b : V} (q : W Q B A S L (K a)) : W Q B A S L fun h => J.pick (.bool true) a b R h K := q
theorem pickF {a b : V} (q : W Q B A S L (K b)) : W Q B A S L fun h => J.pick (.bool false) a b R h K := q
theorem whenTT {f : Kal V} (q : W Q B A S L fun h => f R h K) : W Q B A S L fun h => runK (whenK (.bool true) true f) R h K := q
theorem whenFF {f : Kal V} (q : W Q B A S L fun h => f R h K) : W Q B A S L fun h => runK (whenK (.bool false) false f) R h K := q
theorem whenTF {f : Kal V} (q : W Q B A S L (K X.undef)) : W Q B A S L fun h => runK (whenK (.bool true) false f) R h K := q
theorem whenFT {f : Kal V} (q : W Q B A S L (K X.undef)) : W Q B A S L fun h => runK (whenK (.bool false) true f) R h K := q
theorem whenU {f : Kal V} {b : Bool} (q : W Q B A S L (K X.undef)) : W Q B A S L fun h => runK (whenK X.undef b f) R h K := q
theorem condT {f t : H → Option R} (q : W Q B A S L t) : W Q B A S L fun h => condK (.bool true) (f h) (t h) := q
theorem condF {f t : H → Option R} (q : W Q B A S L f) : W Q B A S L fun h => condK (.bool false) (f h) (t h) := q
theorem not {c : Bool} (q : W Q B A S L (K (.bool (!c)))) : W Q B A S L fun h => J.not (.bool c) R h K := q
theorem notT (q : W Q B A S L (K (.bool false))) : W Q B A S L fun h => J.not (.bool true) R h K := q
theorem notF (q : W Q B A S L (K (.bool true))) : W Q B A S L fun h => J.not (.bool false) R h K := q
theorem join {α : Type} {b : α} {f : H → α → Option R} (q : W Q B A S L fun h => f h b) : W Q B A S L fun h => X.join b (f h) := q
-- whole numbers
variable {F : CallF} {a b : Int}
theorem bin {op : BinOp} {v u r : V} (e : binV op v u = some r) (q : W Q B A S L (K r)) : W Q B A S L fun h => J.bin F op v u R h K := fun h m => St.bin e (q h m)
theorem lssT (c : a < b) (q : W Q B A S L (K (.bool true))) : W Q B A S L fun h => J.bin F .lss (.int .i64 a) (.int .i64 b) R h K := fun h m => St.lss (fun _ => q h m) fun c' => absurd c (Int.not_lt.2 c')
theorem lssF (c : b ≤ a) (q : W Q B A S L (K (.bool false))) : W Q B A S L fun h => J.bin F .lss (.int .i64 a) (.int .i64 b) R h K := fun h m => St.lss (fun c' => absurd c' (Int.not_lt.2 c)) fun _ => q h m
theorem leqT (c : a ≤ b) (q : W Q B A S L (K (.bool true))) : W Q B A S L fun h => J.bin F .leq (.int .i64 a) (.int .i64 b) R h K := fun h m => St.leq (fun _ => q h m) fun c' => absurd c' (Int.not_lt.2 c)
theorem leqF (c : b < a) (q : W Q B A S L (K (.bool false))) : W Q B A S L fun h => J.bin F .leq (.int .i64 a) (.int .i64 b) R h K := fun h m => St.leq (fun c' => absurd c (Int.not_lt.2 c')) fun _ => q h m
theorem gtrT (c : b < a) (q : W Q B A S L (K (.bool true))) : W Q B A S L fun h => J.bin F .gtr (.int .i64 a) (.int .i64 b) R h K := fun h m => St.gtr (fun _ => q h m) fun c' => absurd c (Int.not_lt.2 c')
theorem gtrF (c : a ≤ b) (q : W Q B A S L (K (.bool false))) : W Q B A S L fun h => J.bin F .gtr (.int .i64 a) (.int .i64 b) R h K := fun h m => St.gtr (fun c' => absurd c' (Int.not_lt.2 c)) fun _ => q h m
theorem geqT (c : b ≤ a) (q : W Q B A S L (K (.bool true))) : W Q B A S L fun h => J.bin F .geq (.int .i64 a) (.int .i64 b) R h K := fun h m => St.geq (fun _ => q h m) fun c' => absurd c' (Int.not_lt.2 c)
theorem geqF (c : a < b) (q : W Q B A S L (K (.bool false))) : W Q B A S L fun h => J.bin F .geq (.int .i64 a) (.int .i64 b) R h K := fun h m => St.geq (fun c' => absurd c (Int.not_lt.2 c')) fun _ => q h m
theorem eqlT (c : a = b) (q : W Q B A S L (K (.bool true))) : W Q B A S L fun h => J.bin F .eql (.int .i64 a) (.int .i64 b) R h K := fun h m => St.eql (fun _ => q h m) fun c' => absurd c c'
theorem eqlF (c : a ≠ b) (q : W Q B A S L (K (.bool false))) : W Q B A S L fun h => J.bin F .eql (.int .i64 a) (.int .i64 b) R h K := fun h m => St.eql (fun c' => absurd c' c) fun _ => q h m
theorem neqT (c : a ≠ b) (q : W Q B A S L (K (.bool true))) : W Q B A S L fun h => J.bin F .neq (.int .i64 a) (.int .i64 b) R h K := fun h m => St.neq (fun _ => q h m) fun c' => absurd c' c
theorem neqF (c : a = b) (q : W Q B A S L (K (.bool false))) : W Q B A S L fun h => J.bin F .neq (.int .i64 a) (.int .i64 b) R h K := fun h m => St.neq (fun c' => absurd c c') fun _ => q h m
theorem lss (q : W Q B A S L (K (.bool (decide (a < b))))) : W Q B A S L fun h => J.bin F .lss (.int .i64 a) (.int .i64 b) R h K := fun h m => St.lssB (q h m)
theorem leq (q : W Q B A S L (K (.bool (decide (a ≤ b))))) : W Q B A S L fun h => J.bin F .leq (.int .i64 a) (.int .i64 b) R h K := fun h m => by dsimp only; rw [Ev.leq]; exact q h m
theorem gtr (q : W Q B A S L (K (.bool (decide (b < a))))) : W Q B A S L fun h => J.bin F .gtr (.int .i64 a) (.int .i64 b) R h K := fun h m => by dsimp only; rw [Ev.gtr]; exact q h m
theorem geq (q : W Q B A S L (K (.bool (decide (b ≤ a))))) : W Q B A S L fun h => J.bin F .geq (.int .i64 a) (.int .i64 b) R h K := fun h m => by dsimp only; rw [Ev.geq]; exact q h m
theorem eql (q : W Q B A S L (K (.bool (decide (a = b))))) : W Q B A S L fun h => J.bin F .eql (.int .i64 a) (.int .i64 b) R h K := fun h m => by dsimp only; rw [Ev.eql]; exact q h m
theorem neq (q : W Q B A S L (K (.bool (decide (a ≠ b))))) : W Q B A S L fun h => J.bin F .neq (.int .i64 a) (.int .i64 b) R h K := fun h m => by dsimp only; rw [Ev.neq]; exact q h m
theorem add (h1 : -9223372036854775808 ≤ a + b) (h2 : a + b ≤ 9223372036854775807) (q : W Q B A S L (K (.int .i64 (a + b)))) : W Q B A S L fun h => J.bin F .add (.int .i64 a) (.int .i64 b) R h K := fun h m => St.add (a + b) rfl h1 h2 (q h m)
theorem sub (h1 : -9223372036854775808 ≤ a - b) (h2 : a - b ≤ 9223372036854775807) (q : W Q B A S L (K (.int .i64 (a - b)))) : W Q B A S L fun h => J.bin F .sub (.int .i64 a) (.int .i64 b) R h K := fun h m => St.sub (a - b) rfl h1 h2 (q h m)
theorem max {k k' : IntKind} (q : W Q B A S L (K (.int k (if a < b then b else a)))) : W Q B A S L fun h => J.max (.int k a) (.int k' b) R h K := fun h m => St.max (q h m)
theorem min {k k' : IntKind} (q : W Q B A S L (K (.int k (if b < a then b else a)))) : W Q B A S L fun h => J.min (.int k a) (.int k' b) R h K := fun h m => St.min (q h m)
theorem build0 {z : List V} (q : W Q B A S L (K (.agg z))) : W Q B A S L fun h => J.build z [] R h K := q
theorem part1 {l : List V} {d : Nat} (v : V) (e : l[d]? = some v) (q : W Q B A S L (K v)) : W Q B A S L fun h => J.part1 d (.agg l) R h K := fun h m => by
  show Q (nthK (fun r => K r h) l d); rw [Ev.nthK_bind, e]; exact q h m
theorem ext {l : List V} {d : Nat} (v : V) (e : l[d]? = some v) (q : W Q B A S L (K v)) : W Q B A S L fun h => J.ext d (.tup l) R h K := fun h m => by
  show Q (nthK (fun r => K r h) l d); rw [Ev.nthK_bind, e]; exact q h m
end
/-! memory -/
section
variable {K : V → H → Option R}
theorem Mem.nt {B : Nat} {A : Nat → Prop} {S : Nat} {L : Kn} {hp : Th Blk} {nx : Nat} {lg : Bool} {log : List (Nat × Bool)} {b : Nat} {k : Blk} (m : Mem B A S L ⟨hp, nx, lg, log⟩) (hb : (b, k) ∈ L) : Mem B A S L ⟨hp, nx, lg, Ev.nt lg (b, false) log⟩ := by
  refine ⟨m.blk, m.nd, m.free, m.low, m.sz, m.may, fun p hp => ?_⟩
  cases lg with
  | false => exact m.ro p hp
  | true =>
    rcases List.mem_cons.1 hp with rfl | hp
    · exact ⟨(m.blk _ hb).2, fun c => ⟨rfl, m.may _ hb c⟩⟩
    · exact m.ro p hp
theorem Mem.ntW {B : Nat} {A : Nat → Prop} {S : Nat} {L : Kn} {hp : Th Blk} {nx : Nat} {lg : Bool} {log : List (Nat × Bool)} {b : Nat} {f : Bool} (m : Mem B A S L ⟨hp, nx, lg, log⟩) (hb : B ≤ b) (hn : b < nx) : Mem B A S L ⟨hp, nx, lg, Ev.nt lg (b, f) log⟩ := by
  refine ⟨m.blk, m.nd, m.free, m.low, m.sz, m.may, fun p hp => ?_⟩
  cases lg with
  | false => exact m.ro p hp
  | true =>
    rcases List.mem_cons.1 hp with rfl | hp
    · exact ⟨hn, fun c => absurd hb (Nat.not_le.2 c)⟩
    · exact m.ro p hp
theorem Mem.new {B : Nat} {A : Nat → Prop} {S : Nat} {L : Kn} {hp : Th Blk} {nx : Nat} {lg : Bool} {log : List (Nat × Bool)} (k : Blk) (m : Mem B A S L ⟨hp, nx, lg, log⟩) : Mem B A S ((nx, k) :: L) ⟨hp.put k nx, nx + 1, lg, log⟩ := by
  refine ⟨fun p hp => ?_, ?_, fun i hi => ?_, Nat.le_succ_of_le m.low, Nat.le_succ_of_le m.sz, fun p hp c => ?_, fun p hp => ⟨Nat.lt_succ_of_lt (m.ro p hp).1, (m.ro p hp).2⟩⟩
  · rcases List.mem_cons.1 hp with rfl | hp
    · exact ⟨by rw [Ev.getPut, if_pos rfl], Nat.lt_succ_self _⟩
    · have h2 := m.blk p hp
      exact ⟨by rw [Ev.getPut, if_neg (Nat.ne_of_lt h2.2)]; exact h2.1, Nat.lt_succ_of_lt h2.2⟩
  · refine List.nodup_cons.2 ⟨fun hm => ?_, m.nd⟩
    obtain ⟨p, hp, e⟩ := List.mem_map.1 hm
    have h2 := (m.blk p hp).2
    have e' : p.1 = nx := e
    exact absurd h2 (by rw [e']; exact Nat.lt_irrefl _)
  · have hi' : nx + 1 ≤ i := hi
    rw [Ev.getPut, if_neg (by omega)]
    exact m.free i (Nat.le_of_succ_le hi')
  · rcases List.mem_cons.1 hp with rfl | hp
    · exact absurd m.low (Nat.not_le.2 c)
    · exact m.may p hp c
theorem Mem.put {B : Nat} {A : Nat → Prop} {S : Nat} {L : Kn} {hp : Th Blk} {nx : Nat} {lg : Bool} {log : List (Nat × Bool)} {b : Nat} {k : Blk} (k' : Blk) (m : Mem B A S ((b, k) :: L) ⟨hp, nx, lg, log⟩) : Mem B A S ((b, k') :: L) ⟨hp.put k' b, nx, lg, log⟩ := by
  have hb := m.blk (b, k) List.mem_cons_self
  have hn := List.nodup_cons.1 m.nd
  refine ⟨fun p hp => ?_, m.nd, fun i hi => ?_, m.low, m.sz, fun p hp c => ?_, m.ro⟩
  · rcases List.mem_cons.1 hp with rfl | hp
    · exact ⟨by rw [Ev.getPut, if_pos rfl], hb.2⟩
    · have h2 := m.blk p (List.mem_cons_of_mem _ hp)
      refine ⟨?_, h2.2⟩
      rw [Ev.getPut, if_neg (fun c => hn.1 (List.mem_map.2 ⟨p, hp, c⟩))]
      exact h2.1
  · have hi' : nx ≤ i := hi
    have h2 : b < nx := hb.2
    rw [Ev.getPut, if_neg (by omega)]
    exact m.free i hi
  · rcases List.mem_cons.1 hp with rfl | hp
    · exact m.may (b, k) List.mem_cons_self c
    · exact m.may p (List.mem_cons_of_mem _ hp) c
theorem newT {y : Nat} {z : List V} (q : ∀ b, B ≤ b → W Q B A S ((b, .cells z true y) :: L) (K (.ptr b 0))) : W Q B A S L fun h => J.newT y z R h K := fun h m => by
  obtain ⟨hp, nx, lg, log⟩ := h
  exact St.newT (m.free nx (Nat.le_refl _)) (q nx m.low _ (Mem.new _ m))
theorem box {v : V} (hl : allOne v.cells = true) (q : ∀ b, B ≤ b → W Q B A S ((b, .cells v.cells true 0) :: L) (K (.ptr b 0))) : W Q B A S L fun h => J.box v R h K := fun h m => by
  obtain ⟨hp, nx, lg, log⟩ := h
  exact St.box hl (m.free nx (Nat.le_refl _)) (q nx m.low _ (Mem.new _ m))
theorem fldP {d b o : Nat} (q : W Q B A S L (K (.ptr b (o + d)))) : W Q B A S L fun h => J.fld d (.ptr b o) R h K := q
theorem load1P {b o : Nat} {c : List V} {w : Bool} {y : Nat} (hb : (b, Blk.cells c w y) ∈ L) (v : V) (hv : c[o]? = some v) (q : W Q B A S L (K v)) : W Q B A S L fun h => J.load1 (.ptr b o) R h K := fun h m => by
  obtain ⟨hp, nx, lg, log⟩ := h
  have hm := m.blk _ hb
  exact St.load1P v hm.1 hm.2 hv (q _ (Mem.nt m hb))
theorem loadNP {n b o : Nat} {c : List V} {w : Bool} {y : Nat} (hb : (b, Blk.cells c w y) ∈ L) (hl : n ≤ (c.drop o).length) (q : W Q B A S L (K (.agg ((c.drop o).take n)))) : W Q B A S L fun h => J.loadN n (.ptr b o) R h K := fun h m => by
  obtain ⟨hp, nx, lg, log⟩ := h
  have hm := m.blk _ hb
  exact St.loadNP hm.1 hm.2 hl (q _ (Mem.nt m hb))
theorem store1 {b o : Nat} {c : List V} {y : Nat} {v : V} (hB : B ≤ b) (ho : o < c.length) (hv : v.one = true) (q : W Q B A S ((b, .cells (c.set o v) true y) :: L) (K X.undef)) : W Q B A S ((b, .cells c true y) :: L) fun h => J.store1 (.ptr b o) v R h K := fun h m => by
  obtain ⟨hp, nx, lg, log⟩ := h
  have hm := m.blk _ List.mem_cons_self
  exact St.store1 hm.1 hm.2 ho hv (q _ (Mem.ntW (Mem.ntW (Mem.put _ m) hB hm.2) hB hm.2))
theorem storeN {n b o : Nat} {u : V} {c : List V} {y : Nat} (hB : B ≤ b) (hu : u.cells.length = n) (ho : o + n ≤ c.length) (h1 : allOne u.cells = true) (q : W Q B A S ((b, .cells (c.take o ++ (u.cells ++ c.drop (o + n))) true y) :: L) (K X.undef)) : W Q B A S ((b, .cells c true y) :: L) fun h => J.storeN n (.ptr b o) u R h K := fun h m => by
  obtain ⟨hp, nx, lg, log⟩ := h
  have hm := m.blk _ List.mem_cons_self
  exact St.storeN hm.1 hm.2 hu ho h1 (q _ (Mem.ntW (Mem.ntW (Mem.put _ m) hB hm.2) hB hm.2))
-- rows that are read
theorem lenR {es : Nat} {v : V} {n : Nat} {l : List V} (hv : Rd L es v n l) (q : W Q B A S L (K (.int .i64 n))) : W Q B A S L fun h => J.lenL v R h K := by
  obtain ⟨_, _, ⟨rfl | rfl, rfl⟩ | ⟨b, o, c, cs, w, y, rfl, _, _, _⟩ | rfl⟩ := hv
  · exact q
  · exact q
  · exact q
  · exact q
theorem idxR {es : Nat} {v : V} {n : Nat} {l : List V} {a : Int} (hv : Rd L es v n l) (i : Nat) (ha : a = (i : Int)) (hi : i < n) (q : ∀ p, Pl L p (l.drop (i * es)) → W Q B A S L (K p)) : W Q B A S L fun h => J.idxL es v (.int .i64 a) R h K := by
  obtain ⟨hes, hl, ⟨_, rfl⟩ | ⟨b, o, c, cs, w, y, rfl, hm, ht, _⟩ | rfl⟩ := hv
  · exact absurd hi (Nat.not_lt_zero _)
  · refine fun h m => St.idxLS i ha hi (q _ (.inr ⟨b, o + i * es, cs, w, y, (cs.drop o).drop (n * es), rfl, hm, ?_⟩) h m)
    rw [← ht, ← List.drop_drop]
    conv => lhs; rw [← List.take_append_drop (n * es) (cs.drop o)]
    rw [List.drop_append_of_le_length]
    have h1 : i * es ≤ n * es := Nat.mul_le_mul_right _ (Nat.le_of_lt hi)
    have h2 : (List.take (n * es) (List.drop o cs)).length = n * es := by rw [ht, hl]
    omega
  · have h1 : (i + 1) * es ≤ n * es := Nat.mul_le_mul_right _ hi
    exact fun h m => St.idxLB i ha hes (by omega) (q _ (.inl ⟨[], by rw [List.append_nil]⟩) h m)
theorem fldA {p : V} {l : List V} {d : Nat} (hp : Pl L p l) (hd : d ≤ l.length) (q : ∀ p, Pl L p (l.drop d) → W Q B A S L (K p)) : W Q B A S L fun h => J.fld d p R h K := by
  rcases hp with ⟨r, rfl⟩ | ⟨b, o, cs, w, y, r, rfl, hm, e⟩
  · exact fun h m => St.fldV (q _ (.inl ⟨r, by rw [List.drop_append_of_le_length hd]⟩) h m)
  · exact fun h m => St.fldP (q _ (.inr ⟨b, o + d, cs, w, y, r, rfl, hm, by rw [← List.drop_drop, e, List.drop_append_of_le_length hd]⟩) h m)
theorem load1A {p : V} {l : List V} (hp : Pl L p l) (v : V) (hv : l[0]? = some v) (q : W Q B A S L (K v)) : W Q B A S L fun h => J.load1 p R h K := by
  have hl : 0 < l.length := (List.getElem?_eq_some_iff.1 hv).1
  rcases hp with ⟨r, rfl⟩ | ⟨b, o, cs, w, y, r, rfl, hm, e⟩
  · exact fun h m => St.load1V v (by rw [List.getElem?_append_left hl, hv]) (q h m)
  · refine load1P hm v ?_ q
    have h1 : (cs.drop o)[0]? = some v := by rw [e, List.getElem?_append_left hl, hv]
    rw [List.getElem?_drop] at h1
    exact h1
theorem loadNA {p : V} {l : List V} {n : Nat} (hp : Pl L p l) (hl : n ≤ l.length) (q : W Q B A S L (K (.agg (l.take n)))) : W Q B A S L fun h => J.loadN n p R h K := by
  rcases hp with ⟨r, rfl⟩ | ⟨b, o, cs, w, y, r, rfl, hm, e⟩
  · exact fun h m => St.loadNV (by rw [List.length_append]; omega) (by rw [List.take_append_of_le_length hl]; exact q h m)
  · refine loadNP hm (by rw [e, List.length_append]; omega) ?_
    rw [e, List.take_append_of_le_length hl]; exact q
theorem call {Θ : Orc} {T : Uh FnD} {n g : Nat} {d : FnD} {vs : List V} (hg : T.get g = some d) (ho : Θ.call g vs = none) (q : W Q B A S L fun h => d.call (callD Θ T n) vs R h K) : W Q B A S L fun h => J.call (callD Θ T (n + 1)) (.fn (.func g) [] []) vs R h K := fun h m => St.call hg ho (q h m)
end
theorem callE {K : V → H → Option R} {Θ : Orc} {T : Uh FnD} {n g : Nat} {d : FnD} {c : CallF → List V → Kal V} {vs : List V} (hg : T.get g = some d) (hc : d.call = c) (ho : Θ.call g vs = none) (q : W Q B A S L fun h => c (callD Θ T n) vs R h K) : W Q B A S L fun h => J.call (callD Θ T (n + 1)) (.fn (.func g) [] []) vs R h K := call hg ho (by rw [hc]; exact q)
/-! regions whose order is drawn -/
structure RO (L : Kn) (x : Note) : Prop where
  le : x.lo ≤ x.hi
  ro : ∀ p ∈ x.log, p.1 < x.hi ∧ (p.1 < x.lo → p.2 = false ∧ p.1 ∈ ids L)
theorem lowS {S' : Nat} {P : H → Option R} (hS : S' ≤ S) (w : W Q B A S' L P) : W Q B A S L P := fun h m => w h ⟨m.blk, m.nd, m.free, m.low, Nat.le_trans hS m.sz, m.may, m.ro⟩
theorem nextOf {K : Nat → H → Option R} (q : ∀ n, S ≤ n → (∀ i ∈ ids L, i < n) → W Q B A n L (K n)) : W Q B A S L fun h => X.nextOf R h K := fun h m => by
  obtain ⟨hp, nx, lg, log⟩ := h
  refine q nx m.sz (fun i hi => ?_) _ ⟨m.blk, m.nd, m.free, m.low, Nat.le_refl _, m.may, m.ro⟩
  obtain ⟨p, hp, rfl⟩ := List.mem_map.1 hi
  exact (m.blk p hp).2
theorem logged {α : Type} {f : Kal α} {K : α × List (Nat × Bool) × Nat → H → Option R}
    (q : ∀ B', B ≤ B' → S ≤ B' → ∀ K' : α → H → Option R, (∀ a, (∀ lgs hi, RO L ⟨lgs, B', hi⟩ → B' ≤ hi → W Q B A hi L (K (a, lgs, hi))) → W Q B' (fun i => i ∈ ids L) B' L (K' a)) → (∀ (N : Kn) a, (∀ p ∈ N, B' ≤ p.1) → (∀ lgs hi, RO L ⟨lgs, B', hi⟩ → (∀ p ∈ N, p.1 < hi) → B' ≤ hi → W Q B A hi (N ++ L) (K (a, lgs, hi))) → W Q B' (fun i => i ∈ ids L) B' (N ++ L) (K' a)) → W Q B' (fun i => i ∈ ids L) B' L fun h => f R h K') : W Q B A S L fun h => X.logged f R h K := fun h m => by
  obtain ⟨hp, nx, lg, log⟩ := h
  show Q (X.logged f R ⟨hp, nx, lg, log⟩ K)
  rw [Ev.logged]
  have hb : ∀ p ∈ L, p.1 < nx := fun p hp => (m.blk p hp).2
  have key : ∀ (N : Kn) a, (∀ p ∈ N, nx ≤ p.1) → (∀ lgs hi, RO L ⟨lgs, nx, hi⟩ → (∀ p ∈ N, p.1 < hi) → nx ≤ hi → W Q B A hi (N ++ L) (K (a, lgs, hi))) → W Q nx (fun i => i ∈ ids L) nx (N ++ L) fun h1 => K (a, h1.log, h1.nx) ⟨h1.hp, h1.nx, lg, bif lg then h1.log ++ log else log⟩ := by
    intro N a hN w h1 m1
    refine w h1.log h1.nx ⟨m1.low, m1.ro⟩ (fun p hp => (m1.blk p (List.mem_append_left _ hp)).2) m1.low _ ⟨m1.blk, m1.nd, m1.free, Nat.le_trans m.low m1.low, Nat.le_refl _, fun p hp c => ?_, fun p hp => ?_⟩
    · rcases List.mem_append.1 hp with hp | hp
      · exact absurd (Nat.le_trans m.low (hN p hp)) (Nat.not_le.2 c)
      · exact m.may p hp c
    · have h2 : ∀ p ∈ h1.log, p.1 < h1.nx ∧ (p.1 < B → p.2 = false ∧ A p.1) := fun p hp => ⟨(m1.ro p hp).1, fun c => by
        have h3 := (m1.ro p hp).2 (Nat.lt_of_lt_of_le c m.low)
        refine ⟨h3.1, ?_⟩
        obtain ⟨r, hr, e⟩ := List.mem_map.1 h3.2
        have e' : r.1 = p.1 := e
        have h4 := m.may r hr (by rw [e']; exact c)
        rw [e'] at h4; exact h4⟩
      have h5 : ∀ p ∈ log, p.1 < h1.nx ∧ (p.1 < B → p.2 = false ∧ A p.1) := fun p hp => ⟨Nat.lt_of_lt_of_le (m.ro p hp).1 m1.low, (m.ro p hp).2⟩
      cases lg with
      | false => exact h5 p hp
      | true =>
        rcases List.mem_append.1 hp with hp | hp
        · exact h2 p hp
        · exact h5 p hp
  refine q nx m.low m.sz (fun a h1 => K (a, h1.log, h1.nx) ⟨h1.hp, h1.nx, lg, bif lg then h1.log ++ log else log⟩) (fun a w => key [] a (fun _ h => nomatch h) fun lgs hi ro _ hh => w lgs hi ro hh) (fun N a hN w => key N a hN w) ⟨hp, nx, true, []⟩
    ⟨m.blk, m.nd, m.free, Nat.le_refl _, Nat.le_refl _, fun p hp _ => List.mem_map_of_mem hp, fun p hp => (nomatch hp)⟩
theorem okP {notes : List Note} {ps : List (Nat × Nat)} {k : H → Option R} (S' : Nat) (hS : S' ≤ S) (e : pairsOk notes ps = true) (q : W Q B A S' L k) : W Q B A S L fun h => X.okP notes ps (k h) := fun h m => St.okP e (lowS hS q h m)
theorem clashRO {L L' : Kn} {lx ly : List (Nat × Bool)} {lox hix loy hiy bx by' n : Nat} (hx : RO L ⟨lx, bx, hix⟩) (hy : RO L' ⟨ly, by', hiy⟩) (h1 : lox ≤ bx) (h2 : hix ≤ by') (hl : ∀ i ∈ ids L', i < n) (h3 : n ≤ lox) : clash ⟨lx, lox, hix⟩ ⟨ly, loy, hiy⟩ = false := by
  have a3 : ∀ l : List (Nat × Bool), (∀ p ∈ l, p ∈ ly) → anyIn lox hix l = false := fun l => by
    induction l with
    | nil => intro _; rfl
    | cons p l ih =>
      intro hm
      rw [Ev.anyIn_cons, ih (fun p hp => hm p (List.mem_cons_of_mem _ hp)), Bool.or_false]
      refine decide_eq_false fun c => ?_
      have h4 := (hy.ro p (hm p List.mem_cons_self)).2 (show p.1 < by' by omega)
      have := hl _ h4.2
      omega
  have a1 : ∀ (q : Nat × Bool), q ∈ lx → ∀ (l : List (Nat × Bool)), (∀ p ∈ l, p ∈ ly) → hits q.1 q.2 l = false := fun q hq l => by
    induction l with
    | nil => intro _; rfl
    | cons p l ih =>
      intro hm
      rw [Ev.hits_cons, ih (fun p hp => hm p (List.mem_cons_of_mem _ hp)), Bool.or_false]
      by_cases c : q.1 = p.1
      · have h5 := hx.ro q hq
        have h6 := hy.ro p (hm p List.mem_cons_self)
        have h0 : q.1 < hix := h5.1
        have h7 := h6.2 (show p.1 < by' by omega)
        have h8 := hl _ h7.2
        rw [(h5.2 (show q.1 < bx by omega)).1, h7.1]; simp
      · simp [c]
  have a2 : ∀ l : List (Nat × Bool), (∀ p ∈ l, p ∈ lx) → anyHit ly l = false := fun l => by
    induction l with
    | nil => intro _; rfl
    | cons p l ih =>
      intro hm
      rw [Ev.anyHit_cons, ih (fun p hp => hm p (List.mem_cons_of_mem _ hp)), a1 p (hm p List.mem_cons_self) _ (fun _ h => h)]; rfl
  rw [Ev.clash_def]
  show (anyHit ly lx || anyIn lox hix ly) = false
  rw [a2 _ (fun _ h => h), a3 _ (fun _ h => h)]; rfl
theorem RO.none {L : Kn} {n : Nat} : RO L ⟨[], n, n⟩ := ⟨Nat.le_refl _, fun _ h => nomatch h⟩
/-! rounds -/
theorem loop2 {z : V → V → H → Option R} {f : (V → V → H → Option R) → V → V → H → Option R} (I : Nat → V → V → Kn → Prop) (step : ∀ (d : Nat) (k : V → V → H → Option R) (x0 x1 : V) (L : Kn), I d x0 x1 L → (∀ (d' : Nat) (y0 y1 : V) (L' : Kn), d' < d → I d' y0 y1 L' → W Q B A S L' (k y0 y1)) → W Q B A S L (f k x0 x1)) (d : Nat) {x0 x1 : V} (hd : d < 1000000) (hi : I d x0 x1 L) : W Q B A S L (fixN z f x0 x1) := fun h m =>
  Ev.loop2 (I := fun d x0 x1 h => ∃ L, I d x0 x1 L ∧ Mem B A S L h) (fun d k x0 x1 h ⟨L, hi, m⟩ hk => step d k x0 x1 L hi (fun d' y0 y1 L' hl hi' h' m' => hk d' y0 y1 h' hl ⟨L', hi', m'⟩) h m) d hd ⟨L, hi, m⟩
theorem loop4 {z : V → V → V → V → H → Option R} {f : (V → V → V → V → H → Option R) → V → V → V → V → H → Option R} (I : Nat → V → V → V → V → Kn → Prop) (step : ∀ (d : Nat) (k : V → V → V → V → H → Option R) (x0 x1 x2 x3 : V) (L : Kn), I d x0 x1 x2 x3 L → (∀ (d' : Nat) (y0 y1 y2 y3 : V) (L' : Kn), d' < d → I d' y0 y1 y2 y3 L' → W Q B A S L' (k y0 y1 y2 y3)) → W Q B A S L (f k x0 x1 x2 x3)) (d : Nat) {x0 x1 x2 x3 : V} (hd : d < 1000000) (hi : I d x0 x1 x2 x3 L) : W Q B A S L (fixN z f x0 x1 x2 x3) := fun h m =>
  Ev.loop4 (I := fun d x0 x1 x2 x3 h => ∃ L, I d x0 x1 x2 x3 L ∧ Mem B A S L h) (fun d k x0 x1 x2 x3 h ⟨L, hi, m⟩ hk => step d k x0 x1 x2 x3 L hi (fun d' y0 y1 y2 y3 L' hl hi' h' m' => hk d' y0 y1 y2 y3 h' hl ⟨L', hi', m'⟩) h m) d hd ⟨L, hi, m⟩
theorem loop5 {z : V → V → V → V → V → H → Option R} {f : (V → V → V → V → V → H → Option R) → V → V → V → V → V → H → Option R} (I : Nat → V → V → V → V → V → Kn → Prop) (step : ∀ (d : Nat) (k : V → V → V → V → V → H → Option R) (x0 x1 x2 x3 x4 : V) (L : Kn), I d x0 x1 x2 x3 x4 L → (∀ (d' : Nat) (y0 y1 y2 y3 y4 : V) (L' : Kn), d' < d → I d' y0 y1 y2 y3 y4 L' → W Q B A S L' (k y0 y1 y2 y3 y4)) → W Q B A S L (f k x0 x1 x2 x3 x4)) (d : Nat) {x0 x1 x2 x3 x4 : V} (hd : d < 1000000) (hi : I d x0 x1 x2 x3 x4 L) : W Q B A S L (fixN z f x0 x1 x2 x3 x4) := fun h m =>
  Ev.loop5 (I := fun d x0 x1 x2 x3 x4 h => ∃ L, I d x0 x1 x2 x3 x4 L ∧ Mem B A S L h) (fun d k x0 x1 x2 x3 x4 h ⟨L, hi, m⟩ hk => step d k x0 x1 x2 x3 x4 L hi (fun d' y0 y1 y2 y3 y4 L' hl hi' h' m' => hk d' y0 y1 y2 y3 y4 h' hl ⟨L', hi', m'⟩) h m) d hd ⟨L, hi, m⟩
theorem loop6 {z : V → V → V → V → V → V → H → Option R} {f : (V → V → V → V → V → V → H → Option R) → V → V → V → V → V → V → H → Option R} (I : Nat → V → V → V → V → V → V → Kn → Prop) (step : ∀ (d : Nat) (k : V → V → V → V → V → V → H → Option R) (x0 x1 x2 x3 x4 x5 : V) (L : Kn), I d x0 x1 x2 x3 x4 x5 L → (∀ (d' : Nat) (y0 y1 y2 y3 y4 y5 : V) (L' : Kn), d' < d → I d' y0 y1 y2 y3 y4 y5 L' → W Q B A S L' (k y0 y1 y2 y3 y4 y5)) → W Q B A S L (f k x0 x1 x2 x3 x4 x5)) (d : Nat) {x0 x1 x2 x3 x4 x5 : V} (hd : d < 1000000) (hi : I d x0 x1 x2 x3 x4 x5 L) : W Q B A S L (fixN z f x0 x1 x2 x3 x4 x5) := fun h m =>
  Ev.loop6 (I := fun d x0 x1 x2 x3 x4 x5 h => ∃ L, I d x0 x1 x2 x3 x4 x5 L ∧ Mem B A S L h) (fun d k x0 x1 x2 x3 x4 x5 h ⟨L, hi, m⟩ hk => step d k x0 x1 x2 x3 x4 x5 L hi (fun d' y0 y1 y2 y3 y4 y5 L' hl hi' h' m' => hk d' y0 y1 y2 y3 y4 y5 h' hl ⟨L', hi', m'⟩) h m) d hd ⟨L, hi, m⟩
theorem loop10 {z : V → V → V → V → V → V → V → V → V → V → H → Option R} {f : (V → V → V → V → V → V → V → V → V → V → H → Option R) → V → V → V → V → V → V → V → V → V → V → H → Option R} (I : Nat → V → V → V → V → V → V → V → V → V → V → Kn → Prop) (step : ∀ (d : Nat) (k : V → V → V → V → V → V → V → V → V → V → H → Option R) (x0 x1 x2 x3 x4 x5 x6 x7 x8 x9 : V) (L : Kn), I d x0 x1 x2 x3 x4 x5 x6 x7 x8 x9 L → (∀ (d' : Nat) (y0 y1 y2 y3 y4 y5 y6 y7 y8 y9 : V) (L' : Kn), d' < d → I d' y0 y1 y2 y3 y4 y5 y6 y7 y8 y9 L' → W Q B A S L' (k y0 y1 y2 y3 y4 y5 y6 y7 y8 y9)) → W Q B A S L (f k x0 x1 x2 x3 x4 x5 x6 x7 x8 x9)) (d : Nat) {x0 x1 x2 x3 x4 x5 x6 x7 x8 x9 : V} (hd : d < 1000000) (hi : I d x0 x1 x2 x3 x4 x5 x6 x7 x8 x9 L) : W Q B A S L (fixN z f x0 x1 x2 x3 x4 x5 x6 x7 x8 x9) := fun h m =>
  Ev.loop10 (I := fun d x0 x1 x2 x3 x4 x5 x6 x7 x8 x9 h => ∃ L, I d x0 x1 x2 x3 x4 x5 x6 x7 x8 x9 L ∧ Mem B A S L h) (fun d k x0 x1 x2 x3 x4 x5 x6 x7 x8 x9 h ⟨L, hi, m⟩ hk => step d k x0 x1 x2 x3 x4 x5 x6 x7 x8 x9 L hi (fun d' y0 y1 y2 y3 y4 y5 y6 y7 y8 y9 L' hl hi' h' m' => hk d' y0 y1 y2 y3 y4 y5 y6 y7 y8 y9 h' hl ⟨L', hi', m'⟩) h m) d hd ⟨L, hi, m⟩
theorem loop13 {z : V → V → V → V → V → V → V → V → V → V → V → V → V → H → Option R} {f : (V → V → V → V → V → V → V → V → V → V → V → V → V → H → Option R) → V → V → V → V → V → V → V → V → V → V → V → V → V → H → Option R} (I : Nat → V → V → V → V → V → V → V → V → V → V → V → V → V → Kn → Prop) (step : ∀ (d : Nat) (k : V → V → V → V → V → V → V → V → V → V → V → V → V → H → Option R) (x0 x1 x2 x3 x4 x5 x6 x7 x8 x9 x10 x11 x12 : V) (L : Kn), I d x0 x1 x2 x3 x4 x5 x6 x7 x8 x9 x10 x11 x12 L → (∀ (d' : Nat) (y0 y1 y2 y3 y4 y5 y6 y7 y8 y9 y10 y11 y12 : V) (L' : Kn), d' < d → I d' y0 y1 y2 y3 y4 y5 y6 y7 y8 y9 y10 y11 y12 L' → W Q B A S L' (k y0 y1 y2 y3 y4 y5 y6 y7 y8 y9 y10 y11 y12)) → W Q B A S L (f k x0 x1 x2 x3 x4 x5 x6 x7 x8 x9 x10 x11 x12)) (d : Nat) {x0 x1 x2 x3 x4 x5 x6 x7 x8 x9 x10 x11 x12 : V} (hd : d < 1000000) (hi : I d x0 x1 x2 x3 x4 x5 x6 x7 x8 x9 x10 x11 x12 L) : W Q B A S L (fixN z f x0 x1 x2 x3 x4 x5 x6 x7 x8 x9 x10 x11 x12) := fun h m =>
  Ev.loop13 (I := fun d x0 x1 x2 x3 x4 x5 x6 x7 x8 x9 x10 x11 x12 h => ∃ L, I d x0 x1 x2 x3 x4 x5 x6 x7 x8 x9 x10 x11 x12 L ∧ Mem B A S L h) (fun d k x0 x1 x2 x3 x4 x5 x6 x7 x8 x9 x10 x11 x12 h ⟨L, hi, m⟩ hk => step d k x0 x1 x2 x3 x4 x5 x6 x7 x8 x9 x10 x11 x12 L hi (fun d' y0 y1 y2 y3 y4 y5 y6 y7 y8 y9 y10 y11 y12 L' hl hi' h' m' => hk d' y0 y1 y2 y3 y4 y5 y6 y7 y8 y9 y10 y11 y12 h' hl ⟨L', hi', m'⟩) h m) d hd ⟨L, hi, m⟩
theorem loop14 {z : V → V → V → V → V → V → V → V → V → V → V → V → V → V → H → Option R} {f : (V → V → V → V → V → V → V → V → V → V → V → V → V → V → H → Option R) → V → V → V → V → V → V → V → V → V → V → V → V → V → V → H → Option R} (I : Nat → V → V → V → V → V → V → V → V → V → V → V → V → V → V → Kn → Prop) (step : ∀ (d : Nat) (k : V → V → V → V → V → V → V → V → V → V → V → V → V → V → H → Option R) (x0 x1 x2 x3 x4 x5 x6 x7 x8 x9 x10 x11 x12 x13 : V) (L : Kn), I d x0 x1 x2 x3 x4 x5 x6 x7 x8 x9 x10 x11 x12 x13 L → (∀ (d' : Nat) (y0 y1 y2 y3 y4 y5 y6 y7 y8 y9 y10 y11 y12 y13 : V) (L' : Kn), d' < d → I d' y0 y1 y2 y3 y4 y5 y6 y7 y8 y9 y10 y11 y12 y13 L' → W Q B A S L' (k y0 y1 y2 y3 y4 y5 y6 y7 y8 y9 y10 y11 y12 y13)) → W Q B A S L (f k x0 x1 x2 x3 x4 x5 x6 x7 x8 x9 x10 x11 x12 x13)) (d : Nat) {x0 x1 x2 x3 x4 x5 x6 x7 x8 x9 x10 x11 x12 x13 : V} (hd : d < 1000000) (hi : I d x0 x1 x2 x3 x4 x5 x6 x7 x8 x9 x10 x11 x12 x13 L) : W Q B A S L (fixN z f x0 x1 x2 x3 x4 x5 x6 x7 x8 x9 x10 x11 x12 x13) := fun h m =>
  Ev.loop14 (I := fun d x0 x1 x2 x3 x4 x5 x6 x7 x8 x9 x10 x11 x12 x13 h => ∃ L, I d x0 x1 x2 x3 x4 x5 x6 x7 x8 x9 x10 x11 x12 x13 L ∧ Mem B A S L h) (fun d k x0 x1 x2 x3 x4 x5 x6 x7 x8 x9 x10 x11 x12 x13 h ⟨L, hi, m⟩ hk => step d k x0 x1 x2 x3 x4 x5 x6 x7 x8 x9 x10 x11 x12 x13 L hi (fun d' y0 y1 y2 y3 y4 y5 y6 y7 y8 y9 y10 y11 y12 y13 L' hl hi' h' m' => hk d' y0 y1 y2 y3 y4 y5 y6 y7 y8 y9 y10 y11 y12 y13 h' hl ⟨L', hi', m'⟩) h m) d hd ⟨L, hi, m⟩
theorem front1 {x0 x1 : Nat × Blk} {P : H → Option R} (w : W Q B A S (x1 :: x0 :: L) P) : W Q B A S (x0 :: x1 :: L) P := perm (by
  have := @List.perm_middle _ x1 [x0] L
  simpa using this) w
theorem front2 {x0 x1 x2 : Nat × Blk} {P : H → Option R} (w : W Q B A S (x2 :: x0 :: x1 :: L) P) : W Q B A S (x0 :: x1 :: x2 :: L) P := perm (by
  have := @List.perm_middle _ x2 [x0, x1] L
  simpa using this) w
theorem front4 {x0 x1 x2 x3 x4 : Nat × Blk} {P : H → Option R} (w : W Q B A S (x4 :: x0 :: x1 :: x2 :: x3 :: L) P) : W Q B A S (x0 :: x1 :: x2 :: x3 :: x4 :: L) P := perm (by
  have := @List.perm_middle _ x4 [x0, x1, x2, x3] L
  simpa using this) w
theorem front5 {x0 x1 x2 x3 x4 x5 : Nat × Blk} {P : H → Option R} (w : W Q B A S (x5 :: x0 :: x1 :: x2 :: x3 :: x4 :: L) P) : W Q B A S (x0 :: x1 :: x2 :: x3 :: x4 :: x5 :: L) P := perm (by
  have := @List.perm_middle _ x5 [x0, x1, x2, x3, x4] L
  simpa using this) w
theorem front6 {x0 x1 x2 x3 x4 x5 x6 : Nat × Blk} {P : H → Option R} (w : W Q B A S (x6 :: x0 :: x1 :: x2 :: x3 :: x4 :: x5 :: L) P) : W Q B A S (x0 :: x1 :: x2 :: x3 :: x4 :: x5 :: x6 :: L) P := perm (by
  have := @List.perm_middle _ x6 [x0, x1, x2, x3, x4, x5] L
  simpa using this) w
theorem front7 {x0 x1 x2 x3 x4 x5 x6 x7 : Nat × Blk} {P : H → Option R} (w : W Q B A S (x7 :: x0 :: x1 :: x2 :: x3 :: x4 :: x5 :: x6 :: L) P) : W Q B A S (x0 :: x1 :: x2 :: x3 :: x4 :: x5 :: x6 :: x7 :: L) P := perm (by
  have := @List.perm_middle _ x7 [x0, x1, x2, x3, x4, x5, x6] L
  simpa using this) w
/-! both ways -/
section
variable {F : CallF} {K : V → H → Option R} {a b : Int}
theorem lssC (q : a < b → W Q B A S L (K (.bool true))) (q' : b ≤ a → W Q B A S L (K (.bool false))) : W Q B A S L fun h => J.bin F .lss (.int .i64 a) (.int .i64 b) R h K := fun h m => St.lss (fun c => q c h m) fun c => q' c h m
theorem leqC (q : a ≤ b → W Q B A S L (K (.bool true))) (q' : b < a → W Q B A S L (K (.bool false))) : W Q B A S L fun h => J.bin F .leq (.int .i64 a) (.int .i64 b) R h K := fun h m => St.leq (fun c => q c h m) fun c => q' c h m
theorem gtrC (q : b < a → W Q B A S L (K (.bool true))) (q' : a ≤ b → W Q B A S L (K (.bool false))) : W Q B A S L fun h => J.bin F .gtr (.int .i64 a) (.int .i64 b) R h K := fun h m => St.gtr (fun c => q c h m) fun c => q' c h m
theorem geqC (q : b ≤ a → W Q B A S L (K (.bool true))) (q' : a < b → W Q B A S L (K (.bool false))) : W Q B A S L fun h => J.bin F .geq (.int .i64 a) (.int .i64 b) R h K := fun h m => St.geq (fun c => q c h m) fun c => q' c h m
theorem eqlC (q : a = b → W Q B A S L (K (.bool true))) (q' : a ≠ b → W Q B A S L (K (.bool false))) : W Q B A S L fun h => J.bin F .eql (.int .i64 a) (.int .i64 b) R h K := fun h m => St.eql (fun c => q c h m) fun c => q' c h m
theorem neqC (q : a ≠ b → W Q B A S L (K (.bool true))) (q' : a = b → W Q B A S L (K (.bool false))) : W Q B A S L fun h => J.bin F .neq (.int .i64 a) (.int .i64 b) R h K := fun h m => St.neq (fun c => q c h m) fun c => q' c h m
theorem condB {c : Bool} {f t : H → Option R} (q : c = true → W Q B A S L t) (q' : c = false → W Q B A S L f) : W Q B A S L fun h => condK (.bool c) (f h) (t h) := by
  cases c with
  | true => exact q rfl
  | false => exact q' rfl
end
end W
end
end Go.X
