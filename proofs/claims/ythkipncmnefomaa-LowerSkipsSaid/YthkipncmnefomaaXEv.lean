/- A text of the verified executor, of contracts, or of this law; joined and trimmed by a program of mine (wip/gen). -/
import Derived.Test.YthkipncmnefomaaXDirT
set_option linter.unusedVariables false
set_option linter.unusedSimpArgs false
set_option linter.unusedSectionVars false
namespace Go.X.Ev
open Go.RowKit
noncomputable section
variable [Nu]
section
variable {R : Type} (h : H) (K : V → H → Option R)
theorem hd (a : V) (l : List V) (f : V → List V → Option R) : hdK (a :: l) f = f a l := rfl
theorem en (b : Option R) : endK [] b = b := rfl
theorem pure (v : V) : J.pure v R h K = K v h := rfl
theorem pick (c : Bool) (a b : V) : J.pick (.bool c) a b R h K = K (bif c then a else b) h := by cases c <;> rfl
theorem cond (c : Bool) (f t : Option R) : condK (.bool c) f t = (bif c then t else f) := by cases c <;> rfl
theorem not (c : Bool) : J.not (.bool c) R h K = K (.bool (!c)) h := rfl
theorem join {α : Type} (b : α) (f : α → Option R) : X.join b f = f b := rfl
-- whole numbers
variable (F : CallF) (k : IntKind)
theorem geq (a b : Int) : J.bin F .geq (.int .i64 a) (.int .i64 b) R h K = K (.bool (decide (b ≤ a))) h := by
  show K (.bool (Bool.not (ilt a b))) h = _
  rw [ilt_eq]; congr 2; by_cases c : a < b <;> simp [c] <;> omega
theorem lss (a b : Int) : J.bin F .lss (.int .i64 a) (.int .i64 b) R h K = K (.bool (decide (a < b))) h := by
  show K (.bool (ilt a b)) h = _
  rw [ilt_eq]
theorem leq (a b : Int) : J.bin F .leq (.int .i64 a) (.int .i64 b) R h K = K (.bool (decide (a ≤ b))) h := by
  show K (.bool (Bool.not (ilt b a))) h = _
  rw [ilt_eq]; congr 2; by_cases c : b < a <;> simp [c] <;> omega
theorem gtr (a b : Int) : J.bin F .gtr (.int .i64 a) (.int .i64 b) R h K = K (.bool (decide (b < a))) h := by
  show K (.bool (ilt b a)) h = _
  rw [ilt_eq]
theorem eql (a b : Int) : J.bin F .eql (.int .i64 a) (.int .i64 b) R h K = K (.bool (decide (a = b))) h := by
  show K (.bool (ieq a b)) h = _
  rw [ieq_eq]; congr 1
theorem neq (a b : Int) : J.bin F .neq (.int .i64 a) (.int .i64 b) R h K = K (.bool (decide (a ≠ b))) h := by
  show K (.bool (Bool.not (ieq a b))) h = _
  rw [ieq_eq]; congr 2; by_cases c : a = b <;> simp [c]
theorem add (a b : Int) : J.bin F .add (.int .i64 a) (.int .i64 b) R h K = K (.int .i64 (IntKind.i64.wrap (a + b))) h := by
  show K (.int .i64 (wrap64 (iadd a b))) h = _
  rw [wrap64_eq, iadd_eq]
theorem sub (a b : Int) : J.bin F .sub (.int .i64 a) (.int .i64 b) R h K = K (.int .i64 (IntKind.i64.wrap (a - b))) h := by
  show K (.int .i64 (wrap64 (isub a b))) h = _
  rw [wrap64_eq, isub_eq]
-- fields, items
theorem fldP (d b o : Nat) : J.fld d (.ptr b o) R h K = K (.ptr b (o + d)) h := rfl
theorem fldV (d : Nat) (l : List V) : J.fld d (.view l) R h K = K (.view (l.drop d)) h := by
  show K (.view (dropN l d)) h = _; rw [dropN_eq]
theorem nth0 (l : List V) (K : V → Option R) : nthK K l 0 = (l[0]?).bind K := by cases l <;> rfl
theorem load1V (l : List V) : J.load1 (.view l) R h K = (l[0]?).bind fun v => K v h := by
  show nthK (fun v => K v h) l 0 = _; rw [nth0]
end
/-! memory -/
section
variable {R : Type} (hp : Th Blk) (nx : Nat) (lg : Bool) (log : List (Nat × Bool))
def nt (lg : Bool) (p : Nat × Bool) (log : List (Nat × Bool)) : List (Nat × Bool) := bif lg then p :: log else log
theorem read (b : Nat) (K : Blk → H → Option R) : X.read b R ⟨hp, nx, lg, log⟩ K = (hp.get b).bind fun k => if b < nx then K k ⟨hp, nx, lg, nt lg (b, false) log⟩ else none := by
  rw [read_eq, Th.getK_get]
  cases hp.get b with
  | none => rfl
  | some k =>
    dsimp only [Option.bind_some]
    rw [ble_if]
    by_cases c : b < nx
    · rw [if_pos (show b.succ ≤ nx from c), if_pos c]; cases lg <;> rfl
    · rw [if_neg (show ¬ b.succ ≤ nx from c), if_neg c]
theorem write (b : Nat) (k : Blk) (K : Unit → H → Option R) : X.write b k R ⟨hp, nx, lg, log⟩ K = (hp.get b).bind fun _ => if b < nx then K () ⟨hp.put k b, nx, lg, nt lg (b, true) log⟩ else none := by
  unfold X.write
  rw [Th.getK_get]
  dsimp only
  cases hp.get b with
  | none => rfl
  | some k' =>
    dsimp only [Option.bind_some]
    rw [ble_if]
    by_cases c : b < nx
    · rw [if_pos (show b.succ ≤ nx from c), if_pos c]; cases lg <;> rfl
    · rw [if_neg (show ¬ b.succ ≤ nx from c), if_neg c]
theorem newB (k : Blk) (K : Nat → H → Option R) : X.newB k R ⟨hp, nx, lg, log⟩ K = (match hp.get nx with | none => K nx ⟨hp.put k nx, nx + 1, lg, log⟩ | some _ => none) := by
  rw [newB_eq]
  show (Option.rec _ _ (hp.get nx) : Option R) = _
  cases hp.get nx <;> rfl
theorem getPut (x : Blk) (b i : Nat) : (hp.put x b).get i = if i = b then some x else hp.get i := Th.get_put _ _ _ _
theorem nthK_bind (l : List V) (n : Nat) (K : V → Option R) : nthK K l n = (l[n]?).bind K := by
  rw [nthK_rec]; cases l[n]? <;> rfl
def cellsOf : Blk → Option (List V × Bool × Nat)
  | .cells c w y => some (c, w, y)
  | _ => none
theorem cellsOf_cells (c : List V) (w : Bool) (y : Nat) : cellsOf (.cells c w y) = some (c, w, y) := rfl
theorem ld1 (b o : Nat) (K : V → H → Option R) : X.ld1 b o R ⟨hp, nx, lg, log⟩ K = ((hp.get b).bind cellsOf).bind fun q => if b < nx then (q.1[o]?).bind fun v => K v ⟨hp, nx, lg, nt lg (b, false) log⟩ else none := by
  unfold X.ld1
  rw [read]
  cases hp.get b with
  | none => rfl
  | some k =>
    dsimp only [Option.bind_some]
    cases k with
    | cells c w y =>
      dsimp only [cellsOf, Option.bind_some]
      split
      · rw [nthK_bind]
      · rfl
    | map _ => dsimp only [cellsOf, Option.bind_none]; split <;> rfl
    | dead => dsimp only [cellsOf, Option.bind_none]; split <;> rfl
    | loop _ _ _ _ _ => dsimp only [cellsOf, Option.bind_none]; split <;> rfl
theorem load1P (b o : Nat) (K : V → H → Option R) : J.load1 (.ptr b o) R ⟨hp, nx, lg, log⟩ K = ((hp.get b).bind cellsOf).bind fun q => if b < nx then (q.1[o]?).bind fun v => K v ⟨hp, nx, lg, nt lg (b, false) log⟩ else none := ld1 hp nx lg log b o K
theorem ldN (n b o : Nat) (K : List V → H → Option R) : X.ldN n b o R ⟨hp, nx, lg, log⟩ K = ((hp.get b).bind cellsOf).bind fun q => if b < nx then (if n ≤ (q.1.drop o).length then K ((q.1.drop o).take n) ⟨hp, nx, lg, nt lg (b, false) log⟩ else none) else none := by
  unfold X.ldN
  rw [read]
  cases hp.get b with
  | none => rfl
  | some k =>
    dsimp only [Option.bind_some]
    cases k with
    | cells c w y =>
      dsimp only [cellsOf, Option.bind_some]
      split
      · rw [takeK_eq, dropN_eq]
      · rfl
    | map _ => dsimp only [cellsOf, Option.bind_none]; split <;> rfl
    | dead => dsimp only [cellsOf, Option.bind_none]; split <;> rfl
    | loop _ _ _ _ _ => dsimp only [cellsOf, Option.bind_none]; split <;> rfl
theorem loadNP (n b o : Nat) (K : V → H → Option R) : J.loadN n (.ptr b o) R ⟨hp, nx, lg, log⟩ K = ((hp.get b).bind cellsOf).bind fun q => if b < nx then (if n ≤ (q.1.drop o).length then K (.agg ((q.1.drop o).take n)) ⟨hp, nx, lg, nt lg (b, false) log⟩ else none) else none := ldN hp nx lg log n b o _
theorem putAtK_eq (vs : List V) (l : List V) (o : Nat) (K : List V → Option R) : putAtK vs K l o = if o + vs.length ≤ l.length then K (l.take o ++ (vs ++ l.drop (o + vs.length))) else none := by
  by_cases c : o + vs.length ≤ l.length
  · rw [if_pos c]
    cases e : K (l.take o ++ (vs ++ l.drop (o + vs.length))) with
    | none =>
      cases e2 : putAtK vs K l o with
      | none => rfl
      | some r => have := ((putAtK_some r vs o l K).1 e2).2; rw [e] at this; exact nomatch this
    | some r => exact (putAtK_some r vs o l K).2 ⟨c, e⟩
  · rw [if_neg c]
    cases e2 : putAtK vs K l o with
    | none => rfl
    | some r => exact absurd ((putAtK_some r vs o l K).1 e2).1 c
theorem set_eq (l : List V) (o : Nat) (v : V) (h : o < l.length) : l.take o ++ ([v] ++ l.drop (o + 1)) = l.set o v := by
  rw [List.set_eq_take_append_cons_drop, if_pos h]; rfl
theorem st1 (b o : Nat) (v : V) (hv : v.one = true) (K : Unit → H → Option R) : X.st1 b o v R ⟨hp, nx, lg, log⟩ K = ((hp.get b).bind cellsOf).bind fun q => if b < nx then (if q.2.1 = true then (if o < q.1.length then K () ⟨hp.put (.cells (q.1.set o v) true q.2.2) b, nx, lg, nt lg (b, true) (nt lg (b, false) log)⟩ else none) else none) else none := by
  unfold X.st1
  rw [hv]
  show X.read b R _ _ = _
  rw [read]
  cases e : hp.get b with
  | none => rfl
  | some k =>
    dsimp only [Option.bind_some]
    cases k with
    | cells c w y =>
      dsimp only [cellsOf, Option.bind_some]
      split
      · rename_i hb
        show (Bool.rec none (putAtK [v] (fun c => X.write b (.cells c true y) R _ K) c o) w : Option R) = _
        cases w with
        | false => rfl
        | true =>
          dsimp only
          rw [if_pos rfl, putAtK_eq]
          simp only [List.length_singleton]
          by_cases c' : o < c.length
          · rw [if_pos (show o + 1 ≤ c.length from c'), if_pos c', set_eq c o v c', write, e]
            simp only [Option.bind_some, if_pos hb]
          · rw [if_neg (show ¬ o + 1 ≤ c.length from c'), if_neg c']
      · rfl
    | map _ => dsimp only [cellsOf, Option.bind_none]; split <;> rfl
    | dead => dsimp only [cellsOf, Option.bind_none]; split <;> rfl
    | loop _ _ _ _ _ => dsimp only [cellsOf, Option.bind_none]; split <;> rfl
theorem store1P (b o : Nat) (v : V) (hv : v.one = true) (K : V → H → Option R) : J.store1 (.ptr b o) v R ⟨hp, nx, lg, log⟩ K = ((hp.get b).bind cellsOf).bind fun q => if b < nx then (if q.2.1 = true then (if o < q.1.length then K X.undef ⟨hp.put (.cells (q.1.set o v) true q.2.2) b, nx, lg, nt lg (b, true) (nt lg (b, false) log)⟩ else none) else none) else none := st1 hp nx lg log b o v hv _
theorem newT (y : Nat) (z : List V) (K : V → H → Option R) : J.newT y z R ⟨hp, nx, lg, log⟩ K = (match hp.get nx with | none => K (.ptr nx 0) ⟨hp.put (.cells z true y) nx, nx + 1, lg, log⟩ | some _ => none) := newB hp nx lg log _ _
theorem newCells (l : List V) (y : Nat) (hl : allOne l = true) (K : Nat → H → Option R) : X.newCellsY l y R ⟨hp, nx, lg, log⟩ K = (match hp.get nx with | none => K nx ⟨hp.put (.cells l true y) nx, nx + 1, lg, log⟩ | some _ => none) := by
  unfold X.newCellsY
  rw [hl]
  exact newB hp nx lg log _ _
theorem box (v : V) (hl : allOne v.cells = true) (K : V → H → Option R) : J.box v R ⟨hp, nx, lg, log⟩ K = (match hp.get nx with | none => K (.ptr nx 0) ⟨hp.put (.cells v.cells true 0) nx, nx + 1, lg, log⟩ | some _ => none) := newCells hp nx lg log v.cells 0 hl _
theorem logged {α : Type} (f : Kal α) (K : α × List (Nat × Bool) × Nat → H → Option R) : X.logged f R ⟨hp, nx, lg, log⟩ K = f R ⟨hp, nx, true, []⟩ fun a h1 => K (a, h1.log, h1.nx) ⟨h1.hp, h1.nx, lg, bif lg then h1.log ++ log else log⟩ := by
  rw [logged_eq]
  congr 1
  funext a h1
  cases lg <;> rfl
theorem nextOf (K : Nat → H → Option R) : X.nextOf R ⟨hp, nx, lg, log⟩ K = K nx ⟨hp, nx, lg, log⟩ := rfl
theorem okP_eq (notes : List Note) (ps : List (Nat × Nat)) (k : Option R) : okP notes ps k = if pairsOk notes ps = true then k else none := by
  unfold okP; cases pairsOk notes ps <;> rfl
end
theorem psCons (notes : List Note) (i j : Nat) (l : List (Nat × Nat)) : pairsOk notes ((i, j) :: l) = (pairOk notes (i, j) && pairsOk notes l) := by
  show (Bool.rec false (pairsOk notes l) (pairOk notes (i, j)) : Bool) = _
  cases pairOk notes (i, j) <;> rfl
theorem noteAt_eq : ∀ (l : List Note) (n : Nat), noteAt l n = l[n]?
  | [], n => by simp; rfl
  | x :: l, 0 => rfl
  | x :: l, n + 1 => by rw [List.getElem?_cons_succ]; exact noteAt_eq l n
theorem pair (notes : List Note) (i j : Nat) : pairOk notes (i, j) = ((notes[i]?).bind fun x => (notes[j]?).map fun y => !clash x y).getD false := by
  show (Option.rec false (fun x => Option.rec false (fun y => Bool.not (clash x y)) (noteAt notes j)) (noteAt notes i) : Bool) = _
  rw [noteAt_eq, noteAt_eq]
  cases notes[i]? with
  | none => rfl
  | some x => cases notes[j]? <;> rfl
theorem clash_def (x y : Note) : clash x y = (anyHit y.log x.log || anyIn x.lo x.hi y.log) := by
  show (Bool.rec (anyIn x.lo x.hi y.log) true (anyHit y.log x.log) : Bool) = _
  cases anyHit y.log x.log <;> rfl
theorem anyHit_cons (y : List (Nat × Bool)) (p : Nat × Bool) (l : List (Nat × Bool)) : anyHit y (p :: l) = (hits p.1 p.2 y || anyHit y l) := by
  show (Bool.rec (anyHit y l) true (hits p.1 p.2 y) : Bool) = _
  cases hits p.1 p.2 y <;> rfl
theorem hits_cons (b : Nat) (w : Bool) (p : Nat × Bool) (l : List (Nat × Bool)) : hits b w (p :: l) = ((decide (b = p.1) && (w || p.2)) || hits b w l) := by
  show (Bool.rec (hits b w l) (Bool.rec (Bool.rec (hits b w l) true p.2) true w) (Nat.beq b p.1) : Bool) = _
  by_cases c : b = p.1
  · have : Nat.beq b p.1 = true := by rw [c]; exact Nat.beq_refl _
    rw [this, decide_eq_true c]
    cases w <;> cases p.2 <;> rfl
  · have : Nat.beq b p.1 = false := by
      cases e : Nat.beq b p.1 with
      | false => rfl
      | true => exact absurd (Nat.eq_of_beq_eq_true e) c
    rw [this, decide_eq_false c]; rfl
theorem anyIn_cons (lo hi : Nat) (p : Nat × Bool) (l : List (Nat × Bool)) : anyIn lo hi (p :: l) = (decide (lo ≤ p.1 ∧ p.1 < hi) || anyIn lo hi l) := by
  show (Bool.rec (anyIn lo hi l) (Bool.rec (anyIn lo hi l) true (Nat.ble (Nat.succ p.1) hi)) (Nat.ble lo p.1) : Bool) = _
  rw [ble_if, ble_if]
  by_cases c : lo ≤ p.1
  · by_cases c' : p.1 < hi
    · rw [if_pos c, if_pos (show p.1.succ ≤ hi from c'), decide_eq_true ⟨c, c'⟩]; rfl
    · rw [if_pos c, if_neg (show ¬ p.1.succ ≤ hi from c'), decide_eq_false (fun q => c' q.2)]; rfl
  · rw [if_neg c, decide_eq_false (fun q => c q.1)]; rfl
theorem callT {Θ : Orc} {T : Uh FnD} {n g : Nat} {d : FnD} (hg : T.get g = some d) {vs : List V} (ho : Θ.call g vs = none) {R : Type} (h : H) (K : V → H → Option R) : J.call (callD Θ T (n + 1)) (.fn (.func g) [] []) vs R h K = d.call (callD Θ T n) vs R h K := by
  show I.callG _ _ _ R h K = _
  rw [I.callG_def]
  show (callD Θ T (n + 1)).call g ([] ++ (vs ++ [])) R h K = _
  rw [List.append_nil, List.nil_append]
  show (Option.rec (Uh.getK (fun f => f.call (callD Θ T n) vs R h K) T g) (fun k => k R h K) (Θ.call g vs) : Option R) = _
  rw [ho]
  show Uh.getK (fun f => f.call (callD Θ T n) vs R h K) T g = _
  rw [Uh.getK_get, hg]
end
end Go.X.Ev
