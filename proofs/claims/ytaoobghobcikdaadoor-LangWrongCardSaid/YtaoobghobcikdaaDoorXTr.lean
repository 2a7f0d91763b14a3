/- A verified executor, part 1: finite maps: tries by numbers, and trees by paths. -/
import Derived.Calls
namespace Go.X
universe u v
noncomputable section

/-- A trie by a number's bits, the lowest first. -/
inductive Tr (α : Type u) where
  | nil
  | leaf (k : Nat) (v : α)
  | node (l r : Tr α)

namespace Tr
variable {α : Type u}

/-- What is at k is handed on. -/
def getK {R : Type v} (K : α → Option R) (t : Tr α) : Nat → Option R :=
  Tr.rec (fun _ => none) (fun j v k => Bool.rec none (K v) (Nat.beq k j)) (fun _ _ l r k => Nat.rec (l (Nat.div k 2)) (fun _ _ => r (Nat.div k 2)) (Nat.mod k 2)) t

def get (t : Tr α) (k : Nat) : Option α := getK some t k

/-- Two leaves at unlike numbers. -/
def two (n : Nat) : Nat → α → Nat → α → Tr α :=
  Nat.rec (fun _ _ _ _ => .nil) (fun _ ih j v k w =>
    Nat.rec (Nat.rec (.node (ih (Nat.div j 2) v (Nat.div k 2) w) .nil) (fun _ _ => .node (.leaf (Nat.div j 2) v) (.leaf (Nat.div k 2) w)) (Nat.mod k 2))
      (fun _ _ => Nat.rec (.node (.leaf (Nat.div k 2) w) (.leaf (Nat.div j 2) v)) (fun _ _ => .node .nil (ih (Nat.div j 2) v (Nat.div k 2) w)) (Nat.mod k 2)) (Nat.mod j 2)) n

def put (t : Tr α) (x : α) : Nat → Tr α :=
  Tr.rec (fun k => .leaf k x) (fun j v k => Bool.rec (two (Nat.succ (Nat.add j k)) j v k x) (.leaf k x) (Nat.beq k j))
    (fun l r pl pr k => Nat.rec (.node (pl (Nat.div k 2)) r) (fun _ _ => .node l (pr (Nat.div k 2))) (Nat.mod k 2)) t

theorem beq_if {β : Type u} (k j : Nat) (a b : β) : (Bool.rec a b (Nat.beq k j) : β) = if k = j then b else a := by
  by_cases h : k = j
  · subst h; rw [if_pos rfl]; simp
  · rw [if_neg h]
    cases hb : Nat.beq k j with
    | false => rfl
    | true => exact absurd (Nat.eq_of_beq_eq_true hb) h
theorem getK_nil {R : Type v} (K : α → Option R) (k : Nat) : getK K (.nil : Tr α) k = none := rfl
theorem getK_leaf {R : Type v} (K : α → Option R) (j : Nat) (v : α) (k : Nat) : getK K (.leaf j v) k = if k = j then K v else none := by
  exact beq_if k j none (K v)
theorem natRec_if {β : Type u} (n : Nat) (a : β) (b : β) : (Nat.rec a (fun _ _ => b) n : β) = if n = 0 then a else b := by
  cases n with
  | zero => rfl
  | succ n => rfl
theorem getK_node {R : Type v} (K : α → Option R) (l r : Tr α) (k : Nat) : getK K (.node l r) k = if k % 2 = 0 then getK K l (k / 2) else getK K r (k / 2) := by
  exact natRec_if (k % 2) (getK K l (k / 2)) (getK K r (k / 2))
theorem put_nil (x : α) (k : Nat) : put .nil x k = .leaf k x := rfl
theorem put_leaf (j : Nat) (v x : α) (k : Nat) : put (.leaf j v) x k = if k = j then .leaf k x else two (j + k + 1) j v k x := by
  exact beq_if k j (two (j + k + 1) j v k x) (.leaf k x)
theorem put_node (l r : Tr α) (x : α) (k : Nat) : put (.node l r) x k = if k % 2 = 0 then .node (put l x (k / 2)) r else .node l (put r x (k / 2)) := by
  exact natRec_if (k % 2) (Tr.node (put l x (k / 2)) r) (.node l (put r x (k / 2)))
theorem two_succ (n j k : Nat) (v w : α) : two (n + 1) j v k w =
    if j % 2 = 0 then (if k % 2 = 0 then .node (two n (j / 2) v (k / 2) w) .nil else .node (.leaf (j / 2) v) (.leaf (k / 2) w))
    else (if k % 2 = 0 then .node (.leaf (k / 2) w) (.leaf (j / 2) v) else .node .nil (two n (j / 2) v (k / 2) w)) := by
  refine (natRec_if (j % 2) _ _).trans ?_
  congr 1
  · exact natRec_if (k % 2) _ _
  · exact natRec_if (k % 2) _ _
theorem getK_two {R : Type v} (K : α → Option R) (n : Nat) : ∀ (j k : Nat) (v w : α) (i : Nat), j ≠ k → j + k < n → getK K (two n j v k w) i = if i = k then K w else if i = j then K v else none := by
  induction n with
  | zero => intro j k v w i _ h; omega
  | succ n ih =>
    intro j k v w i hne h
    rw [two_succ]
    by_cases hj : j % 2 = 0
    · rw [if_pos hj]
      by_cases hk : k % 2 = 0
      · rw [if_pos hk, getK_node]
        by_cases hi : i % 2 = 0
        · rw [if_pos hi, ih _ _ _ _ _ (by omega) (by omega)]
          by_cases e1 : i = k
          · rw [if_pos e1, if_pos (by omega)]
          · rw [if_neg e1, if_neg (by omega)]
            by_cases e2 : i = j
            · rw [if_pos e2, if_pos (by omega)]
            · rw [if_neg e2, if_neg (by omega)]
        · rw [if_neg hi, getK_nil, if_neg (by omega), if_neg (by omega)]
      · rw [if_neg hk, getK_node]
        by_cases hi : i % 2 = 0
        · rw [if_pos hi, getK_leaf, if_neg (by omega : ¬ i = k)]
          by_cases e2 : i = j
          · rw [if_pos e2, if_pos (by omega)]
          · rw [if_neg e2, if_neg (by omega)]
        · rw [if_neg hi, getK_leaf, if_neg (by omega : ¬ i = j)]
          by_cases e2 : i = k
          · rw [if_pos e2, if_pos (by omega)]
          · rw [if_neg e2, if_neg (by omega)]
    · rw [if_neg hj]
      by_cases hk : k % 2 = 0
      · rw [if_pos hk, getK_node]
        by_cases hi : i % 2 = 0
        · rw [if_pos hi, getK_leaf, if_neg (by omega : ¬ i = j)]
          by_cases e2 : i = k
          · rw [if_pos e2, if_pos (by omega)]
          · rw [if_neg e2, if_neg (by omega)]
        · rw [if_neg hi, getK_leaf, if_neg (by omega : ¬ i = k)]
          by_cases e2 : i = j
          · rw [if_pos e2, if_pos (by omega)]
          · rw [if_neg e2, if_neg (by omega)]
      · rw [if_neg hk, getK_node]
        by_cases hi : i % 2 = 0
        · rw [if_pos hi, getK_nil, if_neg (by omega), if_neg (by omega)]
        · rw [if_neg hi, ih _ _ _ _ _ (by omega) (by omega)]
          by_cases e1 : i = k
          · rw [if_pos e1, if_pos (by omega)]
          · rw [if_neg e1, if_neg (by omega)]
            by_cases e2 : i = j
            · rw [if_pos e2, if_pos (by omega)]
            · rw [if_neg e2, if_neg (by omega)]

theorem getK_put {R : Type v} (K : α → Option R) (x : α) : ∀ (t : Tr α) (k i : Nat), getK K (put t x k) i = if i = k then K x else getK K t i := by
  intro t
  induction t with
  | nil => intro k i; rw [put_nil, getK_leaf, getK_nil]
  | leaf j v =>
    intro k i
    rw [put_leaf, getK_leaf]
    by_cases h : k = j
    · subst h; rw [if_pos rfl, getK_leaf]; split <;> rfl
    · rw [if_neg h, getK_two _ _ _ _ _ _ _ (fun e => h e.symm) (by omega)]
  | node l r pl pr =>
    intro k i
    rw [put_node, getK_node]
    by_cases hk : k % 2 = 0
    · rw [if_pos hk, getK_node]
      by_cases hi : i % 2 = 0
      · rw [if_pos hi, if_pos hi, pl]
        by_cases e : i = k
        · rw [if_pos e, if_pos (by omega)]
        · rw [if_neg e, if_neg (by omega)]
      · rw [if_neg hi, if_neg hi, if_neg (by omega)]
    · rw [if_neg hk, getK_node]
      by_cases hi : i % 2 = 0
      · rw [if_pos hi, if_pos hi, if_neg (by omega)]
      · rw [if_neg hi, if_neg hi, pr]
        by_cases e : i = k
        · rw [if_pos e, if_pos (by omega)]
        · rw [if_neg e, if_neg (by omega)]

theorem getK_get {R : Type v} (K : α → Option R) (t : Tr α) : ∀ k, getK K t k = match t.get k with | some v => K v | none => none := by
  induction t with
  | nil => intro k; rfl
  | leaf j v =>
    intro k
    rw [get, getK_leaf, getK_leaf]
    split <;> rfl
  | node l r pl pr =>
    intro k
    rw [get, getK_node, getK_node]
    split
    · rw [pl]; rfl
    · rw [pr]; rfl

theorem get_put (t : Tr α) (k : Nat) (x : α) (i : Nat) : (t.put x k).get i = if i = k then some x else t.get i := getK_put some x t k i
theorem get_nil (k : Nat) : (Tr.nil : Tr α).get k = none := rfl

/-- The list's items at o, o + 1, .. -/
def putL (l : List α) : Nat → Tr α → Tr α := List.rec (fun _ t => t) (fun x _ ih o t => ih (Nat.succ o) (t.put x o)) l

theorem putL_cons (x : α) (l : List α) (o : Nat) (t : Tr α) : putL (x :: l) o t = putL l (o + 1) (t.put x o) := rfl
theorem get_putL : ∀ (l : List α) (o : Nat) (t : Tr α) (j : Nat), (putL l o t).get j = if o ≤ j ∧ j < o + l.length then l[j - o]? else t.get j
  | [], o, t, j => by
    show t.get j = _
    rw [if_neg (by simp only [List.length_nil]; omega)]
  | x :: l, o, t, j => by
    rw [putL_cons, get_putL l, get_put]
    by_cases h : j = o
    · subst h; rw [if_neg (by omega), if_pos rfl, if_pos (by simp)]; simp
    · by_cases h2 : o + 1 ≤ j ∧ j < o + 1 + l.length
      · rw [if_pos h2, if_pos (by simp; omega)]
        obtain ⟨m, rfl⟩ : ∃ m, j = o + 1 + m := ⟨j - (o + 1), by omega⟩
        rw [show o + 1 + m - (o + 1) = m from by omega, show o + 1 + m - o = m + 1 from by omega]
        simp
      · rw [if_neg h2, if_neg h, if_neg (by simp; omega)]
def ofList (l : List α) : Tr α := putL l 0 .nil
theorem get_ofList (l : List α) (j : Nat) : (ofList l).get j = l[j]? := by
  rw [ofList, get_putL]
  by_cases h : j < l.length
  · rw [if_pos (by omega)]; simp
  · rw [if_neg (by omega), get_nil]; simp; omega
end Tr

/-- A tree by a path. -/
inductive Tp (α : Type) where
  | nil
  | leaf (v : α)
  | node (l r : Tp α)

abbrev Path := List Bool
namespace Tp
variable {α : Type}
def getK {R : Type v} (K : α → Option R) (p : Path) : Tp α → Option R :=
  List.rec (fun t => Tp.rec none (fun v => K v) (fun _ _ _ _ => none) t) (fun b _ ih t => Tp.rec none (fun _ => none) (fun l r _ _ => ih (Bool.rec l r b)) t) p
def get (t : Tp α) (p : Path) : Option α := getK some p t
/-- A tree of one leaf. -/
def only (x : α) (p : Path) : Tp α := List.rec (.leaf x) (fun b _ ih => Bool.rec (.node ih .nil) (.node .nil ih) b) p
def put (x : α) (p : Path) : Tp α → Tp α :=
  List.rec (fun _ => .leaf x) (fun b p ih t => Tp.rec (only x (b :: p)) (fun _ => only x (b :: p)) (fun l r _ _ => Bool.rec (.node (ih l) r) (.node l (ih r)) b) t) p
theorem getK_get {R : Type v} (K : α → Option R) (p : Path) : ∀ t : Tp α, getK K p t = match t.get p with | some v => K v | none => none := by
  induction p with
  | nil => intro t; cases t <;> rfl
  | cons b p ih =>
    intro t
    cases t with
    | nil => rfl
    | leaf v => rfl
    | node l r => cases b <;> exact ih _
theorem get_nilT (p : Path) : (Tp.nil : Tp α).get p = none := by cases p <;> rfl
theorem get_only (x : α) : ∀ (p q : Path), p.length = q.length → (only x p).get q = if q = p then some x else none := by
  intro p
  induction p with
  | nil => intro q h; cases q with | nil => rfl | cons => simp at h
  | cons b p ih =>
    intro q h
    cases q with
    | nil => simp at h
    | cons c q =>
      have hl : p.length = q.length := by simpa using h
      cases b <;> cases c
      · show (only x p).get q = _
        rw [ih q hl]; simp
      · show (Tp.nil : Tp α).get q = _
        rw [get_nilT]; simp
      · show (Tp.nil : Tp α).get q = _
        rw [get_nilT]; simp
      · show (only x p).get q = _
        rw [ih q hl]; simp
/-- Of paths of one length. -/
theorem get_put (x : α) : ∀ (p q : Path) (t : Tp α), p.length = q.length → (put x p t).get q = if q = p then some x else t.get q := by
  intro p
  induction p with
  | nil => intro q t h; cases q with | nil => rfl | cons => simp at h
  | cons b p ih =>
    intro q t h
    cases q with
    | nil => simp at h
    | cons c q =>
      have hl : p.length = q.length := by simpa using h
      cases t with
      | nil =>
        show (only x (b :: p)).get (c :: q) = _
        rw [get_only x _ _ h, get_nilT]
      | leaf v =>
        show (only x (b :: p)).get (c :: q) = _
        rw [get_only x _ _ h]; rfl
      | node l r =>
        cases b <;> cases c
        · show (put x p l).get q = _
          rw [ih q l hl]; simp; rfl
        · show r.get q = _
          simp; rfl
        · show l.get q = _
          simp; rfl
        · show (put x p r).get q = _
          rw [ih q r hl]; simp; rfl
end Tp

/-- A number's path, of so many steps. -/
def path (n : Nat) : Nat → Path := Nat.rec (fun _ => []) (fun _ ih k => Nat.rec false (fun _ _ => true) (Nat.mod k 2) :: ih (Nat.div k 2)) n
theorem path_length (n : Nat) : ∀ k, (path n k).length = n := by
  induction n with
  | zero => intro k; rfl
  | succ n ih => intro k; show ((_ :: path n (k / 2) : Path)).length = _; simp [ih]
theorem path_inj (n : Nat) : ∀ j k, j < 2 ^ n → k < 2 ^ n → path n j = path n k → j = k := by
  induction n with
  | zero => intro j k h1 h2 _; simp at h1 h2; omega
  | succ n ih =>
    intro j k h1 h2 e
    have e' : ((Nat.rec false (fun _ _ => true) (j % 2) : Bool) :: path n (j / 2) : Path) = ((Nat.rec false (fun _ _ => true) (k % 2) : Bool) :: path n (k / 2) : Path) := e
    rw [List.cons.injEq] at e'
    have h3 := ih (j / 2) (k / 2) (by omega) (by omega) e'.2
    have h4 : j % 2 = k % 2 := by
      have := e'.1
      rw [Tr.natRec_if, Tr.natRec_if] at this
      by_cases a : j % 2 = 0 <;> by_cases b : k % 2 = 0 <;> simp [a, b] at this <;> omega
    omega
end
end Go.X
