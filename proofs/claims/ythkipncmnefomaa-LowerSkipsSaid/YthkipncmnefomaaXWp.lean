/- A text of the verified executor, of contracts, or of this law; joined and trimmed by a program of mine (wip/gen). -/
import Derived.Test.YthkipncmnefomaaXLoop
set_option linter.unusedVariables false
set_option linter.unusedSimpArgs false
set_option linter.unusedSectionVars false
namespace Go.X.St
open Go.RowKit
noncomputable section
variable [Nu] {R : Type} {Q : Option R → Prop}
section
variable {h : H} {K : V → H → Option R}
theorem hd {a : V} {l : List V} {f : V → List V → Option R} (q : Q (f a l)) : Q (hdK (a :: l) f) := q
theorem en {b : Option R} (q : Q b) : Q (endK [] b) := q
theorem pure {v : V} (q : Q (K v h)) : Q (J.pure v R h K) := q
theorem pickT {a b : V} (q : Q (K a h)) : Q (J.pick (.bool true) a b R h K) := q
theorem pickF {a b : V} (q : Q (K b h)) : Q (J.pick (.bool false) a b R h K) := q
theorem whenTT {f : Kal V} (q : Q (f R h K)) : Q (runK (whenK (.bool true) true f) R h K) := q
theorem whenFF {f : Kal V} (q : Q (f R h K)) : Q (runK (whenK (.bool false) false f) R h K) := q
theorem whenTF {f : Kal V} (q : Q (K X.undef h)) : Q (runK (whenK (.bool true) false f) R h K) := q
theorem whenFT {f : Kal V} (q : Q (K X.undef h)) : Q (runK (whenK (.bool false) true f) R h K) := q
theorem whenU {f : Kal V} {b : Bool} (q : Q (K X.undef h)) : Q (runK (whenK X.undef b f) R h K) := q
theorem condT {f t : Option R} (q : Q t) : Q (condK (.bool true) f t) := q
theorem condF {f t : Option R} (q : Q f) : Q (condK (.bool false) f t) := q
theorem condB {c : Bool} {f t : Option R} (q : c = true → Q t) (q' : c = false → Q f) : Q (condK (.bool c) f t) := by
  cases c with
  | true => exact q rfl
  | false => exact q' rfl
theorem not {c : Bool} (q : Q (K (.bool (!c)) h)) : Q (J.not (.bool c) R h K) := q
theorem notT (q : Q (K (.bool false) h)) : Q (J.not (.bool true) R h K) := q
theorem notF (q : Q (K (.bool true) h)) : Q (J.not (.bool false) R h K) := q
theorem join {α : Type} {b : α} {f : α → Option R} (q : Q (f b)) : Q (X.join b f) := q
-- whole numbers
variable {F : CallF} {a b : Int}
theorem bin {op : BinOp} {v u r : V} (e : binV op v u = some r) (q : Q (K r h)) : Q (J.bin F op v u R h K) := by
  unfold J.bin binF; rw [e]; exact q
theorem lssB (q : Q (K (.bool (decide (a < b))) h)) : Q (J.bin F .lss (.int .i64 a) (.int .i64 b) R h K) := by rw [Ev.lss]; exact q
theorem lss (q : a < b → Q (K (.bool true) h)) (q' : b ≤ a → Q (K (.bool false) h)) : Q (J.bin F .lss (.int .i64 a) (.int .i64 b) R h K) := by
  rw [Ev.lss]
  by_cases c : a < b
  · rw [decide_eq_true c]; exact q c
  · rw [decide_eq_false c]; exact q' (Int.not_lt.1 c)
theorem leq (q : a ≤ b → Q (K (.bool true) h)) (q' : b < a → Q (K (.bool false) h)) : Q (J.bin F .leq (.int .i64 a) (.int .i64 b) R h K) := by
  rw [Ev.leq]
  by_cases c : a ≤ b
  · rw [decide_eq_true c]; exact q c
  · rw [decide_eq_false c]; exact q' (Int.not_le.1 c)
theorem gtr (q : b < a → Q (K (.bool true) h)) (q' : a ≤ b → Q (K (.bool false) h)) : Q (J.bin F .gtr (.int .i64 a) (.int .i64 b) R h K) := by
  rw [Ev.gtr]
  by_cases c : b < a
  · rw [decide_eq_true c]; exact q c
  · rw [decide_eq_false c]; exact q' (Int.not_lt.1 c)
theorem geq (q : b ≤ a → Q (K (.bool true) h)) (q' : a < b → Q (K (.bool false) h)) : Q (J.bin F .geq (.int .i64 a) (.int .i64 b) R h K) := by
  rw [Ev.geq]
  by_cases c : b ≤ a
  · rw [decide_eq_true c]; exact q c
  · rw [decide_eq_false c]; exact q' (Int.not_le.1 c)
theorem eql (q : a = b → Q (K (.bool true) h)) (q' : a ≠ b → Q (K (.bool false) h)) : Q (J.bin F .eql (.int .i64 a) (.int .i64 b) R h K) := by
  rw [Ev.eql]
  by_cases c : a = b
  · rw [decide_eq_true c]; exact q c
  · rw [decide_eq_false c]; exact q' c
theorem neq (q : a ≠ b → Q (K (.bool true) h)) (q' : a = b → Q (K (.bool false) h)) : Q (J.bin F .neq (.int .i64 a) (.int .i64 b) R h K) := by
  rw [Ev.neq]
  by_cases c : a = b
  · rw [decide_eq_false (fun e => e c)]; exact q' c
  · rw [decide_eq_true c]; exact q c
theorem add (c : Int) (e : a + b = c) (h1 : -9223372036854775808 ≤ c) (h2 : c ≤ 9223372036854775807) (q : Q (K (.int .i64 c) h)) : Q (J.bin F .add (.int .i64 a) (.int .i64 b) R h K) := by
  rw [Ev.add]
  have : IntKind.i64.wrap (a + b) = c := by rw [IntKind.wrap_i64]; omega
  rw [this]; exact q
theorem sub (c : Int) (e : a - b = c) (h1 : -9223372036854775808 ≤ c) (h2 : c ≤ 9223372036854775807) (q : Q (K (.int .i64 c) h)) : Q (J.bin F .sub (.int .i64 a) (.int .i64 b) R h K) := by
  rw [Ev.sub]
  have : IntKind.i64.wrap (a - b) = c := by rw [IntKind.wrap_i64]; omega
  rw [this]; exact q
theorem max {k k' : IntKind} (q : Q (K (.int k (if a < b then b else a)) h)) : Q (J.max (.int k a) (.int k' b) R h K) := by
  show Q (K (.int k (Bool.rec a b (ilt a b))) h)
  rw [ilt_eq]
  by_cases c : a < b
  · rw [decide_eq_true c]; rw [if_pos c] at q; exact q
  · rw [decide_eq_false c]; rw [if_neg c] at q; exact q
theorem min {k k' : IntKind} (q : Q (K (.int k (if b < a then b else a)) h)) : Q (J.min (.int k a) (.int k' b) R h K) := by
  show Q (K (.int k (Bool.rec a b (ilt b a))) h)
  rw [ilt_eq]
  by_cases c : b < a
  · rw [decide_eq_true c]; rw [if_pos c] at q; exact q
  · rw [decide_eq_false c]; rw [if_neg c] at q; exact q
-- words of 64 bits
variable {x y : Nat}
-- fields, items
theorem fldP {d b o : Nat} (q : Q (K (.ptr b (o + d)) h)) : Q (J.fld d (.ptr b o) R h K) := q
theorem fldV {d : Nat} {l : List V} (q : Q (K (.view (l.drop d)) h)) : Q (J.fld d (.view l) R h K) := by rw [Ev.fldV]; exact q
theorem load1V {l : List V} (v : V) (e : l[0]? = some v) (q : Q (K v h)) : Q (J.load1 (.view l) R h K) := by rw [Ev.load1V, e]; exact q
theorem build0 {z0 : V} {zs : List V} {k : IntKind} {n : Int} (q : Q (K (.agg (.int k n :: zs)) h)) : Q (J.build (z0 :: zs) [(0, 1, .int k n)] R h K) := q
end
/-! memory -/
section
variable {hp : Th Blk} {nx : Nat} {lg : Bool} {log : List (Nat × Bool)} {K : V → H → Option R}
theorem nextOf {K : Nat → H → Option R} (q : Q (K nx ⟨hp, nx, lg, log⟩)) : Q (X.nextOf R ⟨hp, nx, lg, log⟩ K) := q
theorem logged {α : Type} {f : Kal α} {K : α × List (Nat × Bool) × Nat → H → Option R} (q : Q (f R ⟨hp, nx, true, []⟩ fun a h1 => K (a, h1.log, h1.nx) ⟨h1.hp, h1.nx, lg, bif lg then h1.log ++ log else log⟩)) : Q (X.logged f R ⟨hp, nx, lg, log⟩ K) := by
  rw [Ev.logged]; exact q
theorem okP {notes : List Note} {ps : List (Nat × Nat)} {k : Option R} (e : pairsOk notes ps = true) (q : Q k) : Q (X.okP notes ps k) := by rw [Ev.okP_eq, if_pos e]; exact q
theorem load1P {b o : Nat} {c : List V} {w : Bool} {y : Nat} (v : V) (hb : hp.get b = some (.cells c w y)) (hn : b < nx) (hv : c[o]? = some v) (q : Q (K v ⟨hp, nx, lg, Ev.nt lg (b, false) log⟩)) : Q (J.load1 (.ptr b o) R ⟨hp, nx, lg, log⟩ K) := by
  rw [Ev.load1P, hb]
  simp only [Option.bind_some, Ev.cellsOf_cells, if_pos hn, hv]
  exact q
theorem store1 {b o : Nat} {c : List V} {y : Nat} {v : V} (hb : hp.get b = some (.cells c true y)) (hn : b < nx) (ho : o < c.length) (hv : v.one = true) (q : Q (K X.undef ⟨hp.put (.cells (c.set o v) true y) b, nx, lg, Ev.nt lg (b, true) (Ev.nt lg (b, false) log)⟩)) : Q (J.store1 (.ptr b o) v R ⟨hp, nx, lg, log⟩ K) := by
  rw [Ev.store1P (hv := hv), hb]
  simp only [Option.bind_some, Ev.cellsOf_cells, if_pos hn, if_pos ho, if_true]
  exact q
theorem box {v : V} (hl : allOne v.cells = true) (hf : hp.get nx = none) (q : Q (K (.ptr nx 0) ⟨hp.put (.cells v.cells true 0) nx, nx + 1, lg, log⟩)) : Q (J.box v R ⟨hp, nx, lg, log⟩ K) := by
  rw [Ev.box (hl := hl), hf]; exact q
theorem newT {y : Nat} {z : List V} (hf : hp.get nx = none) (q : Q (K (.ptr nx 0) ⟨hp.put (.cells z true y) nx, nx + 1, lg, log⟩)) : Q (J.newT y z R ⟨hp, nx, lg, log⟩ K) := by
  rw [Ev.newT, hf]; exact q
theorem loadNV {n : Nat} {l : List V} {h : H} {K : V → H → Option R} (hl : n ≤ l.length) (q : Q (K (.agg (l.take n)) h)) : Q (J.loadN n (.view l) R h K) := by
  show Q (takeK n l fun l => K (.agg l) h)
  rw [takeK_eq, if_pos hl]; exact q
theorem loadNP {n b o : Nat} {c : List V} {w : Bool} {y : Nat} (hb : hp.get b = some (.cells c w y)) (hn : b < nx) (hl : n ≤ (c.drop o).length) (q : Q (K (.agg ((c.drop o).take n)) ⟨hp, nx, lg, Ev.nt lg (b, false) log⟩)) : Q (J.loadN n (.ptr b o) R ⟨hp, nx, lg, log⟩ K) := by
  rw [Ev.loadNP, hb]
  simp only [Option.bind_some, Ev.cellsOf_cells, if_pos hn, if_pos hl]
  exact q
theorem stN {b o : Nat} {l c : List V} {y : Nat} {K : Unit → H → Option R} (hb : hp.get b = some (.cells c true y)) (hn : b < nx) (ho : o + l.length ≤ c.length) (h1 : allOne l = true) (q : Q (K () ⟨hp.put (.cells (c.take o ++ (l ++ c.drop (o + l.length))) true y) b, nx, lg, Ev.nt lg (b, true) (Ev.nt lg (b, false) log)⟩)) : Q (X.stN b o l R ⟨hp, nx, lg, log⟩ K) := by
  unfold X.stN
  rw [h1]
  show Q (X.read b R _ _)
  rw [Ev.read, hb]
  simp only [Option.bind_some, if_pos hn]
  show Q (putAtK l (fun c => X.write b (.cells c true y) R _ K) c o)
  rw [Ev.putAtK_eq, if_pos ho, Ev.write, hb]
  simp only [Option.bind_some, if_pos hn]
  exact q
theorem storeN {n b o : Nat} {u : V} {c : List V} {y : Nat} (hb : hp.get b = some (.cells c true y)) (hn : b < nx) (hu : u.cells.length = n) (ho : o + n ≤ c.length) (h1 : allOne u.cells = true) (q : Q (K X.undef ⟨hp.put (.cells (c.take o ++ (u.cells ++ c.drop (o + n))) true y) b, nx, lg, Ev.nt lg (b, true) (Ev.nt lg (b, false) log)⟩)) : Q (J.storeN n (.ptr b o) u R ⟨hp, nx, lg, log⟩ K) := by
  show Q (Bool.rec none (X.stN b o u.cells R _ fun _ h => K X.undef h) (Nat.beq n (len u.cells)))
  rw [len_eq, hu, Nat.beq_refl]
  subst hu
  exact stN (K := fun _ h => K X.undef h) hb hn ho h1 q
theorem slit1 {z : List V} {es : Nat} {v : V} (hv : v.cells.length = es) (hz : z.length = es) (h1 : allOne v.cells = true) (hf : hp.get nx = none) (q : Q (K (.slice nx 0 1 es (some 1)) ⟨hp.put (.cells v.cells true 0) nx, nx + 1, lg, log⟩)) : Q (J.slit z es 1 [(0, es, v)] R ⟨hp, nx, lg, log⟩ K) := by
  show Q (Bool.rec none (putAtK v.cells (fun z => newCells z R _ fun b h => K (.slice b 0 1 es (some 1)) h) z 0) (Nat.beq es (len v.cells)))
  rw [len_eq, hv, Nat.beq_refl]
  show Q (putAtK v.cells (fun z => newCells z R _ fun b h => K (.slice b 0 1 es (some 1)) h) z 0)
  rw [Ev.putAtK_eq, if_pos (by omega)]
  have e : z.take 0 ++ (v.cells ++ z.drop (0 + v.cells.length)) = v.cells := by
    rw [List.take_zero, List.nil_append, List.drop_eq_nil_of_le (by omega), List.append_nil]
  rw [e]
  show Q (newCellsY v.cells 0 R _ _)
  rw [Ev.newCells (hl := h1), hf]
  exact q
def Sl (hp : Th Blk) (nx : Nat) (es y : Nat) (v : V) (l : List V) : Prop := (v = .nils ∧ l = []) ∨ ∃ b n, v = .slice b 0 n es none ∧ hp.get b = some (.cells l true y) ∧ l.length = n * es ∧ b < nx ∧ 1 ≤ n
theorem idxLB {es : Nat} {l : List V} {n : V} {a : Int} {h : H} (i : Nat) (ha : a = (i : Int)) (hes : 1 ≤ es) (hl : (i + 1) * es ≤ l.length) (q : Q (K (.view (l.drop (i * es))) h)) : Q (J.idxL es (.bigs es l n) (.int .i64 a) R h K) := by
  subst ha
  show Q (Bool.rec none (Bool.rec none (K (.view (dropN l (i * es))) h) (Nat.ble ((i + 1) * es) (len l))) (sameEs es es))
  have e : sameEs es es = true := by unfold sameEs; rw [ble_if, if_pos hes, Nat.beq_refl]
  rw [e]
  show Q (Bool.rec none (K (.view (dropN l (i * es))) h) (Nat.ble ((i + 1) * es) (len l)))
  rw [ble_if, len_eq, if_pos hl, dropN_eq]; exact q
theorem idxLS {es b o n : Nat} {c : Option Nat} {a : Int} {h : H} (i : Nat) (ha : a = (i : Int)) (hi : i < n) (q : Q (K (.ptr b (o + i * es)) h)) : Q (J.idxL es (.slice b o n es c) (.int .i64 a) R h K) := by
  subst ha
  show Q (Bool.rec none (Bool.rec none (K (.ptr b (o + i * es)) h) (Nat.ble (i + 1) n)) (Nat.beq es es))
  rw [Nat.beq_refl]
  show Q (Bool.rec none (K (.ptr b (o + i * es)) h) (Nat.ble (i + 1) n))
  rw [ble_if, if_pos (show i + 1 ≤ n from hi)]; exact q
/-! what is noted, where nothing was noted about it -/
section
variable {K : V × List (Nat × Bool) × Nat → H → Option R}
theorem lload1P {b o : Nat} {c : List V} {w : Bool} {y : Nat} (v : V) (hb : hp.get b = some (.cells c w y)) (hn : b < nx) (hv : c[o]? = some v) (q : Q (K (v, [(b, false)], nx) ⟨hp, nx, false, log⟩)) : Q (X.logged (J.load1 (.ptr b o)) R ⟨hp, nx, false, log⟩ K) :=
  logged (load1P v hb hn hv q)
theorem lwhenTT {f : Kal V} (q : Q (X.logged f R ⟨hp, nx, false, log⟩ K)) : Q (X.logged (runK (whenK (.bool true) true f)) R ⟨hp, nx, false, log⟩ K) := q
theorem lwhenFF {f : Kal V} (q : Q (X.logged f R ⟨hp, nx, false, log⟩ K)) : Q (X.logged (runK (whenK (.bool false) false f)) R ⟨hp, nx, false, log⟩ K) := q
theorem lwhenFT {f : Kal V} (q : Q (K (X.undef, [], nx) ⟨hp, nx, false, log⟩)) : Q (X.logged (runK (whenK (.bool false) true f)) R ⟨hp, nx, false, log⟩ K) := logged q
theorem lwhenTF {f : Kal V} (q : Q (K (X.undef, [], nx) ⟨hp, nx, false, log⟩)) : Q (X.logged (runK (whenK (.bool true) false f)) R ⟨hp, nx, false, log⟩ K) := logged q
theorem lstore1 {b o : Nat} {c : List V} {y : Nat} {v : V} (hb : hp.get b = some (.cells c true y)) (hn : b < nx) (ho : o < c.length) (hv : v.one = true) (q : Q (K (X.undef, [(b, true), (b, false)], nx) ⟨hp.put (.cells (c.set o v) true y) b, nx, false, log⟩)) : Q (X.logged (J.store1 (.ptr b o) v) R ⟨hp, nx, false, log⟩ K) :=
  logged (store1 hb hn ho hv q)
end
end
theorem ps0 {notes : List Note} : pairsOk notes [] = true := rfl
theorem psC {notes : List Note} {i j : Nat} {l : List (Nat × Nat)} {x y : Note} (hi : notes[i]? = some x) (hj : notes[j]? = some y) (hc : clash x y = false) (hr : pairsOk notes l = true) : pairsOk notes ((i, j) :: l) = true := by
  rw [Ev.psCons, Ev.pair, hi, hj]
  simp only [Option.bind_some, Option.map_some, Option.getD_some, hc, Bool.not_false, hr, Bool.and_self]
theorem call {Θ : Orc} {T : Uh FnD} {n g : Nat} {d : FnD} {vs : List V} {h : H} {K : V → H → Option R} (hg : T.get g = some d) (ho : Θ.call g vs = none) (q : Q (d.call (callD Θ T n) vs R h K)) : Q (J.call (callD Θ T (n + 1)) (.fn (.func g) [] []) vs R h K) := by
  rw [Ev.callT hg ho]; exact q
theorem callR {Θ : Orc} {T : Uh FnD} {n g : Nat} {vs : List V} {h : H} {K : V → H → Option R} {k : Kal V} (ho : Θ.call g vs = some k) (q : Q (k R h K)) : Q (J.call (callD Θ T (n + 1)) (.fn (.func g) [] []) vs R h K) := by
  have e : J.call (callD Θ T (n + 1)) (.fn (.func g) [] []) vs R h K = k R h K := by
    show I.callG _ _ _ R h K = _
    rw [I.callG_def]
    show (callD Θ T (n + 1)).call g ([] ++ (vs ++ [])) R h K = _
    rw [List.append_nil, List.nil_append]
    show (Option.rec (Uh.getK (fun f => f.call (callD Θ T n) vs R h K) T g) (fun k => k R h K) (Θ.call g vs) : Option R) = _
    rw [ho]
  rw [e]; exact q
end
end Go.X.St
