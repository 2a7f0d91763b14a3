/- A verified executor, part 1: finite maps: tries by numbers, pages by digits. -/
import Derived.Calls
set_option linter.unusedVariables false
namespace Go.X
universe u v
noncomputable section

/-- A trie by a number's bits, the lowest first. -/
inductive Tr (α : Type u) where
  | nil
  | leaf (k : Nat) (v : α)
  | node (l r : Tr α)

namespace Tr
variable {α : Type u}

/-- What is at k is handed on. -/
def getK {R : Type v} (K : α → Option R) (t : Tr α) : Nat → Option R :=
  Tr.rec (fun _ => none) (fun j v k => Bool.rec none (K v) (Nat.beq k j)) (fun _ _ l r k => Nat.rec (l (Nat.div k 2)) (fun _ _ => r (Nat.div k 2)) (Nat.mod k 2)) t

def get (t : Tr α) (k : Nat) : Option α := getK some t k

/-- Two leaves at unlike numbers. -/
def two (n : Nat) : Nat → α → Nat → α → Tr α :=
  Nat.rec (fun _ _ _ _ => .nil) (fun _ ih j v k w =>
    Nat.rec (Nat.rec (.node (ih (Nat.div j 2) v (Nat.div k 2) w) .nil) (fun _ _ => .node (.leaf (Nat.div j 2) v) (.leaf (Nat.div k 2) w)) (Nat.mod k 2))
      (fun _ _ => Nat.rec (.node (.leaf (Nat.div k 2) w) (.leaf (Nat.div j 2) v)) (fun _ _ => .node .nil (ih (Nat.div j 2) v (Nat.div k 2) w)) (Nat.mod k 2)) (Nat.mod j 2)) n

def put (t : Tr α) (x : α) : Nat → Tr α :=
  Tr.rec (fun k => .leaf k x) (fun j v k => Bool.rec (two (Nat.succ (Nat.add j k)) j v k x) (.leaf k x) (Nat.beq k j))
    (fun l r pl pr k => Nat.rec (.node (pl (Nat.div k 2)) r) (fun _ _ => .node l (pr (Nat.div k 2))) (Nat.mod k 2)) t

theorem beq_if {β : Type u} (k j : Nat) (a b : β) : (Bool.rec a b (Nat.beq k j) : β) = if k = j then b else a := by
  by_cases h : k = j
  · subst h; rw [if_pos rfl]; simp
  · rw [if_neg h]
    cases hb : Nat.beq k j with
    | false => rfl
    | true => exact absurd (Nat.eq_of_beq_eq_true hb) h
theorem getK_nil {R : Type v} (K : α → Option R) (k : Nat) : getK K (.nil : Tr α) k = none := rfl
theorem getK_leaf {R : Type v} (K : α → Option R) (j : Nat) (v : α) (k : Nat) : getK K (.leaf j v) k = if k = j then K v else none := by
  exact beq_if k j none (K v)
theorem natRec_if {β : Type u} (n : Nat) (a : β) (b : β) : (Nat.rec a (fun _ _ => b) n : β) = if n = 0 then a else b := by
  cases n with
  | zero => rfl
  | succ n => rfl
theorem getK_node {R : Type v} (K : α → Option R) (l r : Tr α) (k : Nat) : getK K (.node l r) k = if k % 2 = 0 then getK K l (k / 2) else getK K r (k / 2) := by
  exact natRec_if (k % 2) (getK K l (k / 2)) (getK K r (k / 2))
theorem put_nil (x : α) (k : Nat) : put .nil x k = .leaf k x := rfl
theorem put_leaf (j : Nat) (v x : α) (k : Nat) : put (.leaf j v) x k = if k = j then .leaf k x else two (j + k + 1) j v k x := by
  exact beq_if k j (two (j + k + 1) j v k x) (.leaf k x)
theorem put_node (l r : Tr α) (x : α) (k : Nat) : put (.node l r) x k = if k % 2 = 0 then .node (put l x (k / 2)) r else .node l (put r x (k / 2)) := by
  exact natRec_if (k % 2) (Tr.node (put l x (k / 2)) r) (.node l (put r x (k / 2)))
theorem two_succ (n j k : Nat) (v w : α) : two (n + 1) j v k w =
    if j % 2 = 0 then (if k % 2 = 0 then .node (two n (j / 2) v (k / 2) w) .nil else .node (.leaf (j / 2) v) (.leaf (k / 2) w))
    else (if k % 2 = 0 then .node (.leaf (k / 2) w) (.leaf (j / 2) v) else .node .nil (two n (j / 2) v (k / 2) w)) := by
  refine (natRec_if (j % 2) _ _).trans ?_
  congr 1
  · exact natRec_if (k % 2) _ _
  · exact natRec_if (k % 2) _ _
theorem getK_two {R : Type v} (K : α → Option R) (n : Nat) : ∀ (j k : Nat) (v w : α) (i : Nat), j ≠ k → j + k < n → getK K (two n j v k w) i = if i = k then K w else if i = j then K v else none := by
  induction n with
  | zero => intro j k v w i _ h; omega
  | succ n ih =>
    intro j k v w i hne h
    rw [two_succ]
    by_cases hj : j % 2 = 0
    · rw [if_pos hj]
      by_cases hk : k % 2 = 0
      · rw [if_pos hk, getK_node]
        by_cases hi : i % 2 = 0
        · rw [if_pos hi, ih _ _ _ _ _ (by omega) (by omega)]
          by_cases e1 : i = k
          · rw [if_pos e1, if_pos (by omega)]
          · rw [if_neg e1, if_neg (by omega)]
            by_cases e2 : i = j
            · rw [if_pos e2, if_pos (by omega)]
            · rw [if_neg e2, if_neg (by omega)]
        · rw [if_neg hi, getK_nil, if_neg (by omega), if_neg (by omega)]
      · rw [if_neg hk, getK_node]
        by_cases hi : i % 2 = 0
        · rw [if_pos hi, getK_leaf, if_neg (by omega : ¬ i = k)]
          by_cases e2 : i = j
          · rw [if_pos e2, if_pos (by omega)]
          · rw [if_neg e2, if_neg (by omega)]
        · rw [if_neg hi, getK_leaf, if_neg (by omega : ¬ i = j)]
          by_cases e2 : i = k
          · rw [if_pos e2, if_pos (by omega)]
          · rw [if_neg e2, if_neg (by omega)]
    · rw [if_neg hj]
      by_cases hk : k % 2 = 0
      · rw [if_pos hk, getK_node]
        by_cases hi : i % 2 = 0
        · rw [if_pos hi, getK_leaf, if_neg (by omega : ¬ i = j)]
          by_cases e2 : i = k
          · rw [if_pos e2, if_pos (by omega)]
          · rw [if_neg e2, if_neg (by omega)]
        · rw [if_neg hi, getK_leaf, if_neg (by omega : ¬ i = k)]
          by_cases e2 : i = j
          · rw [if_pos e2, if_pos (by omega)]
          · rw [if_neg e2, if_neg (by omega)]
      · rw [if_neg hk, getK_node]
        by_cases hi : i % 2 = 0
        · rw [if_pos hi, getK_nil, if_neg (by omega), if_neg (by omega)]
        · rw [if_neg hi, ih _ _ _ _ _ (by omega) (by omega)]
          by_cases e1 : i = k
          · rw [if_pos e1, if_pos (by omega)]
          · rw [if_neg e1, if_neg (by omega)]
            by_cases e2 : i = j
            · rw [if_pos e2, if_pos (by omega)]
            · rw [if_neg e2, if_neg (by omega)]

theorem getK_put {R : Type v} (K : α → Option R) (x : α) : ∀ (t : Tr α) (k i : Nat), getK K (put t x k) i = if i = k then K x else getK K t i := by
  intro t
  induction t with
  | nil => intro k i; rw [put_nil, getK_leaf, getK_nil]
  | leaf j v =>
    intro k i
    rw [put_leaf, getK_leaf]
    by_cases h : k = j
    · subst h; rw [if_pos rfl, getK_leaf]; split <;> rfl
    · rw [if_neg h, getK_two _ _ _ _ _ _ _ (fun e => h e.symm) (by omega)]
  | node l r pl pr =>
    intro k i
    rw [put_node, getK_node]
    by_cases hk : k % 2 = 0
    · rw [if_pos hk, getK_node]
      by_cases hi : i % 2 = 0
      · rw [if_pos hi, if_pos hi, pl]
        by_cases e : i = k
        · rw [if_pos e, if_pos (by omega)]
        · rw [if_neg e, if_neg (by omega)]
      · rw [if_neg hi, if_neg hi, if_neg (by omega)]
    · rw [if_neg hk, getK_node]
      by_cases hi : i % 2 = 0
      · rw [if_pos hi, if_pos hi, if_neg (by omega)]
      · rw [if_neg hi, if_neg hi, pr]
        by_cases e : i = k
        · rw [if_pos e, if_pos (by omega)]
        · rw [if_neg e, if_neg (by omega)]

theorem getK_get {R : Type v} (K : α → Option R) (t : Tr α) : ∀ k, getK K t k = match t.get k with | some v => K v | none => none := by
  induction t with
  | nil => intro k; rfl
  | leaf j v =>
    intro k
    rw [get, getK_leaf, getK_leaf]
    split <;> rfl
  | node l r pl pr =>
    intro k
    rw [get, getK_node, getK_node]
    split
    · rw [pl]; rfl
    · rw [pr]; rfl

theorem get_put (t : Tr α) (k : Nat) (x : α) (i : Nat) : (t.put x k).get i = if i = k then some x else t.get i := getK_put some x t k i
theorem get_nil (k : Nat) : (Tr.nil : Tr α).get k = none := rfl

/-- The list's items at o, o + 1, .. -/
def putL (l : List α) : Nat → Tr α → Tr α := List.rec (fun _ t => t) (fun x _ ih o t => ih (Nat.succ o) (t.put x o)) l

theorem putL_cons (x : α) (l : List α) (o : Nat) (t : Tr α) : putL (x :: l) o t = putL l (o + 1) (t.put x o) := rfl
theorem get_putL : ∀ (l : List α) (o : Nat) (t : Tr α) (j : Nat), (putL l o t).get j = if o ≤ j ∧ j < o + l.length then l[j - o]? else t.get j
  | [], o, t, j => by
    show t.get j = _
    rw [if_neg (by simp only [List.length_nil]; omega)]
  | x :: l, o, t, j => by
    rw [putL_cons, get_putL l, get_put]
    by_cases h : j = o
    · subst h; rw [if_neg (by omega), if_pos rfl, if_pos (by simp)]; simp
    · by_cases h2 : o + 1 ≤ j ∧ j < o + 1 + l.length
      · rw [if_pos h2, if_pos (by simp; omega)]
        obtain ⟨m, rfl⟩ : ∃ m, j = o + 1 + m := ⟨j - (o + 1), by omega⟩
        rw [show o + 1 + m - (o + 1) = m from by omega, show o + 1 + m - o = m + 1 from by omega]
        simp
      · rw [if_neg h2, if_neg h, if_neg (by simp; omega)]
def ofList (l : List α) : Tr α := putL l 0 .nil
theorem get_ofList (l : List α) (j : Nat) : (ofList l).get j = l[j]? := by
  rw [ofList, get_putL]
  by_cases h : j < l.length
  · rw [if_pos (by omega)]; simp
  · rw [if_neg (by omega), get_nil]; simp; omega
end Tr

/-- A digit. -/
inductive D where
  | d0
  | d1
  | d2
  | d3
  | d4
  | d5
  | d6
  | d7
  | d8
  | d9
  | d10
  | d11
  | d12
  | d13
  | d14
  | d15
def D.nat : D → Nat := @D.rec (fun _ => Nat) 0 1 2 3 4 5 6 7 8 9 10 11 12 13 14 15
theorem D.nat_inj : ∀ (a b : D), a.nat = b.nat → a = b := by
  intro a b h
  cases a <;> cases b <;> first | rfl | exact absurd h (by decide)
instance : DecidableEq D := fun a b => if h : a.nat = b.nat then isTrue (D.nat_inj a b h) else isFalse fun e => h (by rw [e])
/-- A digit by its number. -/
def dg3 (n : Nat) : D := Bool.rec (Bool.rec .d15 .d14 (Nat.ble n 14)) (Bool.rec .d13 .d12 (Nat.ble n 12)) (Nat.ble n 13)
def dg2 (n : Nat) : D := Bool.rec (Bool.rec .d11 .d10 (Nat.ble n 10)) (Bool.rec .d9 .d8 (Nat.ble n 8)) (Nat.ble n 9)
def dg1 (n : Nat) : D := Bool.rec (Bool.rec .d7 .d6 (Nat.ble n 6)) (Bool.rec .d5 .d4 (Nat.ble n 4)) (Nat.ble n 5)
def dg0 (n : Nat) : D := Bool.rec (Bool.rec .d3 .d2 (Nat.ble n 2)) (Bool.rec .d1 .d0 (Nat.ble n 0)) (Nat.ble n 1)
def dg (n : Nat) : D := Bool.rec (Bool.rec (dg3 n) (dg2 n) (Nat.ble n 11)) (Bool.rec (dg1 n) (dg0 n) (Nat.ble n 3)) (Nat.ble n 7)
theorem dg_nat (n : Nat) (h : n < 16) : (dg n).nat = n := by
  exact match n, h with
  | 0, _ => rfl
  | 1, _ => rfl
  | 2, _ => rfl
  | 3, _ => rfl
  | 4, _ => rfl
  | 5, _ => rfl
  | 6, _ => rfl
  | 7, _ => rfl
  | 8, _ => rfl
  | 9, _ => rfl
  | 10, _ => rfl
  | 11, _ => rfl
  | 12, _ => rfl
  | 13, _ => rfl
  | 14, _ => rfl
  | 15, _ => rfl
  | n + 16, h => absurd h (by omega)
theorem dg_inj {m n : Nat} (hm : m < 16) (hn : n < 16) (e : dg m = dg n) : m = n := by rw [← dg_nat m hm, ← dg_nat n hn, e]

/-- A page. -/
structure Pg (α : Type) where
  f0 : α
  f1 : α
  f2 : α
  f3 : α
  f4 : α
  f5 : α
  f6 : α
  f7 : α
  f8 : α
  f9 : α
  f10 : α
  f11 : α
  f12 : α
  f13 : α
  f14 : α
  f15 : α
namespace Pg
variable {α : Type}
def s0 (g : α → α) (t : Pg α) : Pg α := Pg.rec (fun x0 x1 x2 x3 x4 x5 x6 x7 x8 x9 x10 x11 x12 x13 x14 x15 => ⟨g x0, x1, x2, x3, x4, x5, x6, x7, x8, x9, x10, x11, x12, x13, x14, x15⟩) t
def s1 (g : α → α) (t : Pg α) : Pg α := Pg.rec (fun x0 x1 x2 x3 x4 x5 x6 x7 x8 x9 x10 x11 x12 x13 x14 x15 => ⟨x0, g x1, x2, x3, x4, x5, x6, x7, x8, x9, x10, x11, x12, x13, x14, x15⟩) t
def s2 (g : α → α) (t : Pg α) : Pg α := Pg.rec (fun x0 x1 x2 x3 x4 x5 x6 x7 x8 x9 x10 x11 x12 x13 x14 x15 => ⟨x0, x1, g x2, x3, x4, x5, x6, x7, x8, x9, x10, x11, x12, x13, x14, x15⟩) t
def s3 (g : α → α) (t : Pg α) : Pg α := Pg.rec (fun x0 x1 x2 x3 x4 x5 x6 x7 x8 x9 x10 x11 x12 x13 x14 x15 => ⟨x0, x1, x2, g x3, x4, x5, x6, x7, x8, x9, x10, x11, x12, x13, x14, x15⟩) t
def s4 (g : α → α) (t : Pg α) : Pg α := Pg.rec (fun x0 x1 x2 x3 x4 x5 x6 x7 x8 x9 x10 x11 x12 x13 x14 x15 => ⟨x0, x1, x2, x3, g x4, x5, x6, x7, x8, x9, x10, x11, x12, x13, x14, x15⟩) t
def s5 (g : α → α) (t : Pg α) : Pg α := Pg.rec (fun x0 x1 x2 x3 x4 x5 x6 x7 x8 x9 x10 x11 x12 x13 x14 x15 => ⟨x0, x1, x2, x3, x4, g x5, x6, x7, x8, x9, x10, x11, x12, x13, x14, x15⟩) t
def s6 (g : α → α) (t : Pg α) : Pg α := Pg.rec (fun x0 x1 x2 x3 x4 x5 x6 x7 x8 x9 x10 x11 x12 x13 x14 x15 => ⟨x0, x1, x2, x3, x4, x5, g x6, x7, x8, x9, x10, x11, x12, x13, x14, x15⟩) t
def s7 (g : α → α) (t : Pg α) : Pg α := Pg.rec (fun x0 x1 x2 x3 x4 x5 x6 x7 x8 x9 x10 x11 x12 x13 x14 x15 => ⟨x0, x1, x2, x3, x4, x5, x6, g x7, x8, x9, x10, x11, x12, x13, x14, x15⟩) t
def s8 (g : α → α) (t : Pg α) : Pg α := Pg.rec (fun x0 x1 x2 x3 x4 x5 x6 x7 x8 x9 x10 x11 x12 x13 x14 x15 => ⟨x0, x1, x2, x3, x4, x5, x6, x7, g x8, x9, x10, x11, x12, x13, x14, x15⟩) t
def s9 (g : α → α) (t : Pg α) : Pg α := Pg.rec (fun x0 x1 x2 x3 x4 x5 x6 x7 x8 x9 x10 x11 x12 x13 x14 x15 => ⟨x0, x1, x2, x3, x4, x5, x6, x7, x8, g x9, x10, x11, x12, x13, x14, x15⟩) t
def s10 (g : α → α) (t : Pg α) : Pg α := Pg.rec (fun x0 x1 x2 x3 x4 x5 x6 x7 x8 x9 x10 x11 x12 x13 x14 x15 => ⟨x0, x1, x2, x3, x4, x5, x6, x7, x8, x9, g x10, x11, x12, x13, x14, x15⟩) t
def s11 (g : α → α) (t : Pg α) : Pg α := Pg.rec (fun x0 x1 x2 x3 x4 x5 x6 x7 x8 x9 x10 x11 x12 x13 x14 x15 => ⟨x0, x1, x2, x3, x4, x5, x6, x7, x8, x9, x10, g x11, x12, x13, x14, x15⟩) t
def s12 (g : α → α) (t : Pg α) : Pg α := Pg.rec (fun x0 x1 x2 x3 x4 x5 x6 x7 x8 x9 x10 x11 x12 x13 x14 x15 => ⟨x0, x1, x2, x3, x4, x5, x6, x7, x8, x9, x10, x11, g x12, x13, x14, x15⟩) t
def s13 (g : α → α) (t : Pg α) : Pg α := Pg.rec (fun x0 x1 x2 x3 x4 x5 x6 x7 x8 x9 x10 x11 x12 x13 x14 x15 => ⟨x0, x1, x2, x3, x4, x5, x6, x7, x8, x9, x10, x11, x12, g x13, x14, x15⟩) t
def s14 (g : α → α) (t : Pg α) : Pg α := Pg.rec (fun x0 x1 x2 x3 x4 x5 x6 x7 x8 x9 x10 x11 x12 x13 x14 x15 => ⟨x0, x1, x2, x3, x4, x5, x6, x7, x8, x9, x10, x11, x12, x13, g x14, x15⟩) t
def s15 (g : α → α) (t : Pg α) : Pg α := Pg.rec (fun x0 x1 x2 x3 x4 x5 x6 x7 x8 x9 x10 x11 x12 x13 x14 x15 => ⟨x0, x1, x2, x3, x4, x5, x6, x7, x8, x9, x10, x11, x12, x13, x14, g x15⟩) t
def sel (d : D) : Pg α → α := @D.rec (fun _ => Pg α → α) Pg.f0 Pg.f1 Pg.f2 Pg.f3 Pg.f4 Pg.f5 Pg.f6 Pg.f7 Pg.f8 Pg.f9 Pg.f10 Pg.f11 Pg.f12 Pg.f13 Pg.f14 Pg.f15 d
def up (d : D) : (α → α) → Pg α → Pg α := @D.rec (fun _ => (α → α) → Pg α → Pg α) s0 s1 s2 s3 s4 s5 s6 s7 s8 s9 s10 s11 s12 s13 s14 s15 d
def all (a : α) : Pg α := ⟨a, a, a, a, a, a, a, a, a, a, a, a, a, a, a, a⟩
def op {β : Type} (t : Pg α) (f : α → α → α → α → α → α → α → α → α → α → α → α → α → α → α → α → β) : β := Pg.rec (fun x0 x1 x2 x3 x4 x5 x6 x7 x8 x9 x10 x11 x12 x13 x14 x15 => f x0 x1 x2 x3 x4 x5 x6 x7 x8 x9 x10 x11 x12 x13 x14 x15) t
theorem sel_up (d e : D) (g : α → α) (t : Pg α) : (t.up e g).sel d = if d = e then g (t.sel e) else t.sel d := by
  cases t
  cases d <;> cases e <;> rfl
theorem sel_all (d : D) (a : α) : (all a).sel d = a := by cases d <;> rfl
end Pg

/-- A trie by a number's digits, of two, three, four; greater numbers in a trie by bits. -/
structure Th (α : Type) where
  p2 : Pg (Pg (Option α))
  p3 : Pg (Pg (Pg (Option α)))
  p4 : Pg (Pg (Pg (Pg (Option α))))
  ov : Tr α

namespace Th
variable {α : Type}
def e2 : Pg (Pg (Option α)) := .all (.all none)
def e3 : Pg (Pg (Pg (Option α))) := .all e2
def e4 : Pg (Pg (Pg (Pg (Option α)))) := .all e3
def nil : Th α := ⟨e2, e3, e4, .nil⟩
def get2 (t : Pg (Pg (Option α))) (k : Nat) : Option α := Pg.sel (dg (Nat.land k 15)) (Pg.sel (dg (Nat.land (Nat.shiftRight k 4) 15)) t)
def get3 (t : Pg (Pg (Pg (Option α)))) (k : Nat) : Option α := get2 (Pg.sel (dg (Nat.land (Nat.shiftRight k 8) 15)) t) k
def get4 (t : Pg (Pg (Pg (Pg (Option α))))) (k : Nat) : Option α := get3 (Pg.sel (dg (Nat.shiftRight k 12)) t) k
def far (t : Th α) (k : Nat) : Option α := Bool.rec (t.ov.get k) (get4 t.p4 k) (Nat.ble k 65535)
def get (t : Th α) (k : Nat) : Option α := Bool.rec (Bool.rec (far t k) (get3 t.p3 k) (Nat.ble k 4095)) (get2 t.p2 k) (Nat.ble k 255)
def getK {R : Type} (K : α → Option R) (t : Th α) (k : Nat) : Option R := Option.rec none K (t.get k)
def put2 (x : α) (k : Nat) : Pg (Pg (Option α)) → Pg (Pg (Option α)) := Pg.up (dg (Nat.land (Nat.shiftRight k 4) 15)) (Pg.up (dg (Nat.land k 15)) fun _ => some x)
def put3 (x : α) (k : Nat) : Pg (Pg (Pg (Option α))) → Pg (Pg (Pg (Option α))) := Pg.up (dg (Nat.land (Nat.shiftRight k 8) 15)) (put2 x k)
def put4 (x : α) (k : Nat) : Pg (Pg (Pg (Pg (Option α)))) → Pg (Pg (Pg (Pg (Option α)))) := Pg.up (dg (Nat.shiftRight k 12)) (put3 x k)
def farPut (t : Th α) (x : α) (k : Nat) : Th α := Th.rec (fun a b c d => Bool.rec ⟨a, b, c, d.put x k⟩ ⟨a, b, put4 x k c, d⟩ (Nat.ble k 65535)) t
def put (t : Th α) (x : α) (k : Nat) : Th α := Bool.rec (Bool.rec (farPut t x k) (Th.rec (fun a b c d => ⟨a, put3 x k b, c, d⟩) t) (Nat.ble k 4095)) (Th.rec (fun a b c d => ⟨put2 x k a, b, c, d⟩) t) (Nat.ble k 255)

theorem land15 (k : Nat) : Nat.land k 15 = k % 16 := Nat.and_two_pow_sub_one_eq_mod k 4
theorem shr (k n : Nat) : Nat.shiftRight k n = k / 2 ^ n := Nat.shiftRight_eq_div_pow k n
theorem ble_if' {β : Type} (k j : Nat) (a b : β) : (Bool.rec a b (Nat.ble k j) : β) = if k ≤ j then b else a := by
  by_cases h : k ≤ j
  · rw [if_pos h, Nat.ble_eq_true_of_le h]
  · rw [if_neg h]
    cases hb : Nat.ble k j with
    | false => rfl
    | true => exact absurd (Nat.le_of_ble_eq_true hb) h
theorem dg_mod (i k : Nat) : dg (i % 16) = dg (k % 16) ↔ i % 16 = k % 16 := ⟨fun e => dg_inj (by omega) (by omega) e, fun e => by rw [e]⟩
theorem get2_put2 (t : Pg (Pg (Option α))) (x : α) (k i : Nat) : get2 (put2 x k t) i = if i % 256 = k % 256 then some x else get2 t i := by
  unfold get2 put2
  simp only [land15, shr]
  rw [Pg.sel_up]
  by_cases h1 : i / 2 ^ 4 % 16 = k / 2 ^ 4 % 16
  · rw [if_pos ((dg_mod _ _).2 h1), Pg.sel_up]
    by_cases h0 : i % 16 = k % 16
    · rw [if_pos ((dg_mod _ _).2 h0), if_pos (by omega)]
    · rw [if_neg (fun c => h0 ((dg_mod _ _).1 c)), if_neg (by omega), h1]
  · rw [if_neg (fun c => h1 ((dg_mod _ _).1 c)), if_neg (by omega)]
theorem get3_put3 (t : Pg (Pg (Pg (Option α)))) (x : α) (k i : Nat) : get3 (put3 x k t) i = if i % 4096 = k % 4096 then some x else get3 t i := by
  unfold get3 put3
  simp only [land15, shr]
  rw [Pg.sel_up]
  by_cases h1 : i / 2 ^ 8 % 16 = k / 2 ^ 8 % 16
  · rw [if_pos ((dg_mod _ _).2 h1), get2_put2, h1]
    by_cases h0 : i % 256 = k % 256
    · rw [if_pos h0, if_pos (by omega)]
    · rw [if_neg h0, if_neg (by omega)]
  · rw [if_neg (fun c => h1 ((dg_mod _ _).1 c)), if_neg (by omega)]
theorem get4_put4 (t : Pg (Pg (Pg (Pg (Option α))))) (x : α) (k i : Nat) (hi : i ≤ 65535) (hk : k ≤ 65535) : get4 (put4 x k t) i = if i = k then some x else get4 t i := by
  unfold get4 put4
  simp only [shr]
  rw [Pg.sel_up]
  by_cases h1 : i / 2 ^ 12 = k / 2 ^ 12
  · rw [if_pos (by rw [h1]), get3_put3, h1]
    by_cases h0 : i % 4096 = k % 4096
    · rw [if_pos h0, if_pos (by omega)]
    · rw [if_neg h0, if_neg (by omega)]
  · rw [if_neg (fun c => h1 (dg_inj (by omega) (by omega) c)), if_neg (by omega)]
theorem get_put (t : Th α) (k : Nat) (x : α) (i : Nat) : (t.put x k).get i = if i = k then some x else t.get i := by
  obtain ⟨a, b, c, d⟩ := t
  unfold get put far farPut
  dsimp only
  simp only [ble_if']
  by_cases k2 : k ≤ 255
  · rw [if_pos k2]
    by_cases i2 : i ≤ 255
    · rw [if_pos i2, if_pos i2, get2_put2]
      by_cases e : i = k
      · rw [if_pos e, if_pos (by omega)]
      · rw [if_neg e, if_neg (by omega)]
    · rw [if_neg i2, if_neg i2, if_neg (show ¬ i = k by omega)]
  · rw [if_neg k2]
    by_cases k3 : k ≤ 4095
    · rw [if_pos k3]
      by_cases i2 : i ≤ 255
      · rw [if_pos i2, if_pos i2, if_neg (show ¬ i = k by omega)]
      · rw [if_neg i2, if_neg i2]
        by_cases i3 : i ≤ 4095
        · rw [if_pos i3, if_pos i3, get3_put3]
          by_cases e : i = k
          · rw [if_pos e, if_pos (by omega)]
          · rw [if_neg e, if_neg (by omega)]
        · rw [if_neg i3, if_neg i3, if_neg (show ¬ i = k by omega)]
    · rw [if_neg k3]
      by_cases k4 : k ≤ 65535
      · rw [if_pos k4]
        by_cases i2 : i ≤ 255
        · rw [if_pos i2, if_pos i2, if_neg (show ¬ i = k by omega)]
        · rw [if_neg i2, if_neg i2]
          by_cases i3 : i ≤ 4095
          · rw [if_pos i3, if_pos i3, if_neg (show ¬ i = k by omega)]
          · rw [if_neg i3, if_neg i3]
            by_cases i4 : i ≤ 65535
            · rw [if_pos i4, if_pos i4, get4_put4 _ _ _ _ i4 k4]
            · rw [if_neg i4, if_neg i4, if_neg (show ¬ i = k by omega)]
      · rw [if_neg k4]
        by_cases i2 : i ≤ 255
        · rw [if_pos i2, if_pos i2, if_neg (show ¬ i = k by omega)]
        · rw [if_neg i2, if_neg i2]
          by_cases i3 : i ≤ 4095
          · rw [if_pos i3, if_pos i3, if_neg (show ¬ i = k by omega)]
          · rw [if_neg i3, if_neg i3]
            by_cases i4 : i ≤ 65535
            · rw [if_pos i4, if_pos i4, if_neg (show ¬ i = k by omega)]
            · rw [if_neg i4, if_neg i4, Tr.get_put]
theorem get_nil (k : Nat) : (nil : Th α).get k = none := by
  unfold get nil far get4 get3 get2 e4 e3 e2
  simp only [ble_if', Pg.sel_all, Tr.get_nil]
  split
  · rfl
  · split
    · rfl
    · split <;> rfl
theorem getK_get {R : Type} (K : α → Option R) (t : Th α) (k : Nat) : getK K t k = match t.get k with | some v => K v | none => none := by
  unfold getK
  cases t.get k <;> rfl
end Th

/-- The same, of whatever universe: for the table of functions. -/
structure Qg (α : Type u) where
  f0 : α
  f1 : α
  f2 : α
  f3 : α
  f4 : α
  f5 : α
  f6 : α
  f7 : α
  f8 : α
  f9 : α
  f10 : α
  f11 : α
  f12 : α
  f13 : α
  f14 : α
  f15 : α
namespace Qg
variable {α : Type u}
def s0 (g : α → α) (t : Qg α) : Qg α := Qg.rec (fun x0 x1 x2 x3 x4 x5 x6 x7 x8 x9 x10 x11 x12 x13 x14 x15 => ⟨g x0, x1, x2, x3, x4, x5, x6, x7, x8, x9, x10, x11, x12, x13, x14, x15⟩) t
def s1 (g : α → α) (t : Qg α) : Qg α := Qg.rec (fun x0 x1 x2 x3 x4 x5 x6 x7 x8 x9 x10 x11 x12 x13 x14 x15 => ⟨x0, g x1, x2, x3, x4, x5, x6, x7, x8, x9, x10, x11, x12, x13, x14, x15⟩) t
def s2 (g : α → α) (t : Qg α) : Qg α := Qg.rec (fun x0 x1 x2 x3 x4 x5 x6 x7 x8 x9 x10 x11 x12 x13 x14 x15 => ⟨x0, x1, g x2, x3, x4, x5, x6, x7, x8, x9, x10, x11, x12, x13, x14, x15⟩) t
def s3 (g : α → α) (t : Qg α) : Qg α := Qg.rec (fun x0 x1 x2 x3 x4 x5 x6 x7 x8 x9 x10 x11 x12 x13 x14 x15 => ⟨x0, x1, x2, g x3, x4, x5, x6, x7, x8, x9, x10, x11, x12, x13, x14, x15⟩) t
def s4 (g : α → α) (t : Qg α) : Qg α := Qg.rec (fun x0 x1 x2 x3 x4 x5 x6 x7 x8 x9 x10 x11 x12 x13 x14 x15 => ⟨x0, x1, x2, x3, g x4, x5, x6, x7, x8, x9, x10, x11, x12, x13, x14, x15⟩) t
def s5 (g : α → α) (t : Qg α) : Qg α := Qg.rec (fun x0 x1 x2 x3 x4 x5 x6 x7 x8 x9 x10 x11 x12 x13 x14 x15 => ⟨x0, x1, x2, x3, x4, g x5, x6, x7, x8, x9, x10, x11, x12, x13, x14, x15⟩) t
def s6 (g : α → α) (t : Qg α) : Qg α := Qg.rec (fun x0 x1 x2 x3 x4 x5 x6 x7 x8 x9 x10 x11 x12 x13 x14 x15 => ⟨x0, x1, x2, x3, x4, x5, g x6, x7, x8, x9, x10, x11, x12, x13, x14, x15⟩) t
def s7 (g : α → α) (t : Qg α) : Qg α := Qg.rec (fun x0 x1 x2 x3 x4 x5 x6 x7 x8 x9 x10 x11 x12 x13 x14 x15 => ⟨x0, x1, x2, x3, x4, x5, x6, g x7, x8, x9, x10, x11, x12, x13, x14, x15⟩) t
def s8 (g : α → α) (t : Qg α) : Qg α := Qg.rec (fun x0 x1 x2 x3 x4 x5 x6 x7 x8 x9 x10 x11 x12 x13 x14 x15 => ⟨x0, x1, x2, x3, x4, x5, x6, x7, g x8, x9, x10, x11, x12, x13, x14, x15⟩) t
def s9 (g : α → α) (t : Qg α) : Qg α := Qg.rec (fun x0 x1 x2 x3 x4 x5 x6 x7 x8 x9 x10 x11 x12 x13 x14 x15 => ⟨x0, x1, x2, x3, x4, x5, x6, x7, x8, g x9, x10, x11, x12, x13, x14, x15⟩) t
def s10 (g : α → α) (t : Qg α) : Qg α := Qg.rec (fun x0 x1 x2 x3 x4 x5 x6 x7 x8 x9 x10 x11 x12 x13 x14 x15 => ⟨x0, x1, x2, x3, x4, x5, x6, x7, x8, x9, g x10, x11, x12, x13, x14, x15⟩) t
def s11 (g : α → α) (t : Qg α) : Qg α := Qg.rec (fun x0 x1 x2 x3 x4 x5 x6 x7 x8 x9 x10 x11 x12 x13 x14 x15 => ⟨x0, x1, x2, x3, x4, x5, x6, x7, x8, x9, x10, g x11, x12, x13, x14, x15⟩) t
def s12 (g : α → α) (t : Qg α) : Qg α := Qg.rec (fun x0 x1 x2 x3 x4 x5 x6 x7 x8 x9 x10 x11 x12 x13 x14 x15 => ⟨x0, x1, x2, x3, x4, x5, x6, x7, x8, x9, x10, x11, g x12, x13, x14, x15⟩) t
def s13 (g : α → α) (t : Qg α) : Qg α := Qg.rec (fun x0 x1 x2 x3 x4 x5 x6 x7 x8 x9 x10 x11 x12 x13 x14 x15 => ⟨x0, x1, x2, x3, x4, x5, x6, x7, x8, x9, x10, x11, x12, g x13, x14, x15⟩) t
def s14 (g : α → α) (t : Qg α) : Qg α := Qg.rec (fun x0 x1 x2 x3 x4 x5 x6 x7 x8 x9 x10 x11 x12 x13 x14 x15 => ⟨x0, x1, x2, x3, x4, x5, x6, x7, x8, x9, x10, x11, x12, x13, g x14, x15⟩) t
def s15 (g : α → α) (t : Qg α) : Qg α := Qg.rec (fun x0 x1 x2 x3 x4 x5 x6 x7 x8 x9 x10 x11 x12 x13 x14 x15 => ⟨x0, x1, x2, x3, x4, x5, x6, x7, x8, x9, x10, x11, x12, x13, x14, g x15⟩) t
def sel (d : D) : Qg α → α := @D.rec (fun _ => Qg α → α) Qg.f0 Qg.f1 Qg.f2 Qg.f3 Qg.f4 Qg.f5 Qg.f6 Qg.f7 Qg.f8 Qg.f9 Qg.f10 Qg.f11 Qg.f12 Qg.f13 Qg.f14 Qg.f15 d
def up (d : D) : (α → α) → Qg α → Qg α := @D.rec (fun _ => (α → α) → Qg α → Qg α) s0 s1 s2 s3 s4 s5 s6 s7 s8 s9 s10 s11 s12 s13 s14 s15 d
def all (a : α) : Qg α := ⟨a, a, a, a, a, a, a, a, a, a, a, a, a, a, a, a⟩
def op {β : Type v} (t : Qg α) (f : α → α → α → α → α → α → α → α → α → α → α → α → α → α → α → α → β) : β := Qg.rec (fun x0 x1 x2 x3 x4 x5 x6 x7 x8 x9 x10 x11 x12 x13 x14 x15 => f x0 x1 x2 x3 x4 x5 x6 x7 x8 x9 x10 x11 x12 x13 x14 x15) t
theorem sel_up (d e : D) (g : α → α) (t : Qg α) : (t.up e g).sel d = if d = e then g (t.sel e) else t.sel d := by
  cases t
  cases d <;> cases e <;> rfl
theorem sel_all (d : D) (a : α) : (all a).sel d = a := by cases d <;> rfl
end Qg

/-- A trie by a number's digits, of two, three, four; greater numbers in a trie by bits. -/
structure Uh (α : Type u) where
  p2 : Qg (Qg (Option α))
  p3 : Qg (Qg (Qg (Option α)))
  p4 : Qg (Qg (Qg (Qg (Option α))))
  ov : Tr α

namespace Uh
variable {α : Type u}
def e2 : Qg (Qg (Option α)) := .all (.all none)
def e3 : Qg (Qg (Qg (Option α))) := .all e2
def e4 : Qg (Qg (Qg (Qg (Option α)))) := .all e3
def nil : Uh α := ⟨e2, e3, e4, .nil⟩
def get2 (t : Qg (Qg (Option α))) (k : Nat) : Option α := Qg.sel (dg (Nat.land k 15)) (Qg.sel (dg (Nat.land (Nat.shiftRight k 4) 15)) t)
def get3 (t : Qg (Qg (Qg (Option α)))) (k : Nat) : Option α := get2 (Qg.sel (dg (Nat.land (Nat.shiftRight k 8) 15)) t) k
def get4 (t : Qg (Qg (Qg (Qg (Option α))))) (k : Nat) : Option α := get3 (Qg.sel (dg (Nat.shiftRight k 12)) t) k
def far (t : Uh α) (k : Nat) : Option α := Bool.rec (t.ov.get k) (get4 t.p4 k) (Nat.ble k 65535)
def get (t : Uh α) (k : Nat) : Option α := Bool.rec (Bool.rec (far t k) (get3 t.p3 k) (Nat.ble k 4095)) (get2 t.p2 k) (Nat.ble k 255)
def getK {R : Type v} (K : α → Option R) (t : Uh α) (k : Nat) : Option R := Option.rec none K (t.get k)
def put2 (x : α) (k : Nat) : Qg (Qg (Option α)) → Qg (Qg (Option α)) := Qg.up (dg (Nat.land (Nat.shiftRight k 4) 15)) (Qg.up (dg (Nat.land k 15)) fun _ => some x)
def put3 (x : α) (k : Nat) : Qg (Qg (Qg (Option α))) → Qg (Qg (Qg (Option α))) := Qg.up (dg (Nat.land (Nat.shiftRight k 8) 15)) (put2 x k)
def put4 (x : α) (k : Nat) : Qg (Qg (Qg (Qg (Option α)))) → Qg (Qg (Qg (Qg (Option α)))) := Qg.up (dg (Nat.shiftRight k 12)) (put3 x k)
def farPut (t : Uh α) (x : α) (k : Nat) : Uh α := Uh.rec (fun a b c d => Bool.rec ⟨a, b, c, d.put x k⟩ ⟨a, b, put4 x k c, d⟩ (Nat.ble k 65535)) t
def put (t : Uh α) (x : α) (k : Nat) : Uh α := Bool.rec (Bool.rec (farPut t x k) (Uh.rec (fun a b c d => ⟨a, put3 x k b, c, d⟩) t) (Nat.ble k 4095)) (Uh.rec (fun a b c d => ⟨put2 x k a, b, c, d⟩) t) (Nat.ble k 255)

theorem land15 (k : Nat) : Nat.land k 15 = k % 16 := Nat.and_two_pow_sub_one_eq_mod k 4
theorem shr (k n : Nat) : Nat.shiftRight k n = k / 2 ^ n := Nat.shiftRight_eq_div_pow k n
theorem ble_if' {β : Type v} (k j : Nat) (a b : β) : (Bool.rec a b (Nat.ble k j) : β) = if k ≤ j then b else a := by
  by_cases h : k ≤ j
  · rw [if_pos h, Nat.ble_eq_true_of_le h]
  · rw [if_neg h]
    cases hb : Nat.ble k j with
    | false => rfl
    | true => exact absurd (Nat.le_of_ble_eq_true hb) h
theorem dg_mod (i k : Nat) : dg (i % 16) = dg (k % 16) ↔ i % 16 = k % 16 := ⟨fun e => dg_inj (by omega) (by omega) e, fun e => by rw [e]⟩
theorem get2_put2 (t : Qg (Qg (Option α))) (x : α) (k i : Nat) : get2 (put2 x k t) i = if i % 256 = k % 256 then some x else get2 t i := by
  unfold get2 put2
  simp only [land15, shr]
  rw [Qg.sel_up]
  by_cases h1 : i / 2 ^ 4 % 16 = k / 2 ^ 4 % 16
  · rw [if_pos ((dg_mod _ _).2 h1), Qg.sel_up]
    by_cases h0 : i % 16 = k % 16
    · rw [if_pos ((dg_mod _ _).2 h0), if_pos (by omega)]
    · rw [if_neg (fun c => h0 ((dg_mod _ _).1 c)), if_neg (by omega), h1]
  · rw [if_neg (fun c => h1 ((dg_mod _ _).1 c)), if_neg (by omega)]
theorem get3_put3 (t : Qg (Qg (Qg (Option α)))) (x : α) (k i : Nat) : get3 (put3 x k t) i = if i % 4096 = k % 4096 then some x else get3 t i := by
  unfold get3 put3
  simp only [land15, shr]
  rw [Qg.sel_up]
  by_cases h1 : i / 2 ^ 8 % 16 = k / 2 ^ 8 % 16
  · rw [if_pos ((dg_mod _ _).2 h1), get2_put2, h1]
    by_cases h0 : i % 256 = k % 256
    · rw [if_pos h0, if_pos (by omega)]
    · rw [if_neg h0, if_neg (by omega)]
  · rw [if_neg (fun c => h1 ((dg_mod _ _).1 c)), if_neg (by omega)]
theorem get4_put4 (t : Qg (Qg (Qg (Qg (Option α))))) (x : α) (k i : Nat) (hi : i ≤ 65535) (hk : k ≤ 65535) : get4 (put4 x k t) i = if i = k then some x else get4 t i := by
  unfold get4 put4
  simp only [shr]
  rw [Qg.sel_up]
  by_cases h1 : i / 2 ^ 12 = k / 2 ^ 12
  · rw [if_pos (by rw [h1]), get3_put3, h1]
    by_cases h0 : i % 4096 = k % 4096
    · rw [if_pos h0, if_pos (by omega)]
    · rw [if_neg h0, if_neg (by omega)]
  · rw [if_neg (fun c => h1 (dg_inj (by omega) (by omega) c)), if_neg (by omega)]
theorem get_put (t : Uh α) (k : Nat) (x : α) (i : Nat) : (t.put x k).get i = if i = k then some x else t.get i := by
  obtain ⟨a, b, c, d⟩ := t
  unfold get put far farPut
  dsimp only
  simp only [ble_if']
  by_cases k2 : k ≤ 255
  · rw [if_pos k2]
    by_cases i2 : i ≤ 255
    · rw [if_pos i2, if_pos i2, get2_put2]
      by_cases e : i = k
      · rw [if_pos e, if_pos (by omega)]
      · rw [if_neg e, if_neg (by omega)]
    · rw [if_neg i2, if_neg i2, if_neg (show ¬ i = k by omega)]
  · rw [if_neg k2]
    by_cases k3 : k ≤ 4095
    · rw [if_pos k3]
      by_cases i2 : i ≤ 255
      · rw [if_pos i2, if_pos i2, if_neg (show ¬ i = k by omega)]
      · rw [if_neg i2, if_neg i2]
        by_cases i3 : i ≤ 4095
        · rw [if_pos i3, if_pos i3, get3_put3]
          by_cases e : i = k
          · rw [if_pos e, if_pos (by omega)]
          · rw [if_neg e, if_neg (by omega)]
        · rw [if_neg i3, if_neg i3, if_neg (show ¬ i = k by omega)]
    · rw [if_neg k3]
      by_cases k4 : k ≤ 65535
      · rw [if_pos k4]
        by_cases i2 : i ≤ 255
        · rw [if_pos i2, if_pos i2, if_neg (show ¬ i = k by omega)]
        · rw [if_neg i2, if_neg i2]
          by_cases i3 : i ≤ 4095
          · rw [if_pos i3, if_pos i3, if_neg (show ¬ i = k by omega)]
          · rw [if_neg i3, if_neg i3]
            by_cases i4 : i ≤ 65535
            · rw [if_pos i4, if_pos i4, get4_put4 _ _ _ _ i4 k4]
            · rw [if_neg i4, if_neg i4, if_neg (show ¬ i = k by omega)]
      · rw [if_neg k4]
        by_cases i2 : i ≤ 255
        · rw [if_pos i2, if_pos i2, if_neg (show ¬ i = k by omega)]
        · rw [if_neg i2, if_neg i2]
          by_cases i3 : i ≤ 4095
          · rw [if_pos i3, if_pos i3, if_neg (show ¬ i = k by omega)]
          · rw [if_neg i3, if_neg i3]
            by_cases i4 : i ≤ 65535
            · rw [if_pos i4, if_pos i4, if_neg (show ¬ i = k by omega)]
            · rw [if_neg i4, if_neg i4, Tr.get_put]
theorem get_nil (k : Nat) : (nil : Uh α).get k = none := by
  unfold get nil far get4 get3 get2 e4 e3 e2
  simp only [ble_if', Qg.sel_all, Tr.get_nil]
  split
  · rfl
  · split
    · rfl
    · split <;> rfl
theorem getK_get {R : Type v} (K : α → Option R) (t : Uh α) (k : Nat) : getK K t k = match t.get k with | some v => K v | none => none := by
  unfold getK
  cases t.get k <;> rfl
end Uh

/-- A temporary's name. -/
abbrev Path := Nat
/-- Temporaries: those that are known, the newest first. -/
abbrev Tp (α : Type) := List (Nat × α)
/-! Height: where two texts are held against each other, the taller word is opened first: the words that read temporaries are taller than all others. -/
abbrev Hi (T : Type) (_ : Nat) : Type := T
def hi0 : Nat := 0
def hi1 : Nat := hi0
def hi2 : Nat := hi1
def hi3 : Nat := hi2
def hi4 : Nat := hi3
def hi5 : Nat := hi4
def hi6 : Nat := hi5
def hi7 : Nat := hi6
def hi8 : Nat := hi7
def hi9 : Nat := hi8
def hi10 : Nat := hi9
def hi11 : Nat := hi10
def hi12 : Nat := hi11
def hi13 : Nat := hi12
def hi14 : Nat := hi13
def hi15 : Nat := hi14
def hi16 : Nat := hi15
def hi17 : Nat := hi16
def hi18 : Nat := hi17
def hi19 : Nat := hi18
def hi20 : Nat := hi19
def hi21 : Nat := hi20
def hi22 : Nat := hi21
def hi23 : Nat := hi22
def hi24 : Nat := hi23
def hi25 : Nat := hi24
def hi26 : Nat := hi25
def hi27 : Nat := hi26
def hi28 : Nat := hi27
def hi29 : Nat := hi28
def hi30 : Nat := hi29
def hi31 : Nat := hi30
def hi32 : Nat := hi31
def hi33 : Nat := hi32
def hi34 : Nat := hi33
def hi35 : Nat := hi34
def hi36 : Nat := hi35
def hi37 : Nat := hi36
def hi38 : Nat := hi37
def hi39 : Nat := hi38
def hi40 : Nat := hi39
def hi41 : Nat := hi40
def hi42 : Nat := hi41
def hi43 : Nat := hi42
def hi44 : Nat := hi43
def hi45 : Nat := hi44
def hi46 : Nat := hi45
def hi47 : Nat := hi46
def hi48 : Nat := hi47
def hi49 : Nat := hi48
def hi50 : Nat := hi49
def hi51 : Nat := hi50
def hi52 : Nat := hi51
def hi53 : Nat := hi52
def hi54 : Nat := hi53
def hi55 : Nat := hi54
def hi56 : Nat := hi55
def hi57 : Nat := hi56
def hi58 : Nat := hi57
def hi59 : Nat := hi58
def hi60 : Nat := hi59
def hi61 : Nat := hi60
def hi62 : Nat := hi61
def hi63 : Nat := hi62
def hi64 : Nat := hi63
namespace Tp
variable {α : Type}
def get (t : Tp α) (p : Path) : Option α := @List.rec (Nat × α) (fun _ => Hi (Option α) hi64) none (fun q _ ih => Bool.rec ih (some q.2) (Nat.beq p q.1)) t
def getK {R : Type} (K : α → Option R) (p : Path) (t : Tp α) : Option R := Option.rec none K (get t p)
def put (x : α) (p : Path) (t : Tp α) : Tp α := (p, x) :: t
theorem getK_get {R : Type} (K : α → Option R) (p : Path) (t : Tp α) : getK K p t = match t.get p with | some v => K v | none => none := by
  unfold getK
  cases t.get p <;> rfl
theorem get_nil (p : Path) : get ([] : Tp α) p = none := rfl
theorem get_cons (q : Nat × α) (t : Tp α) (p : Path) : get (q :: t) p = if p = q.1 then some q.2 else t.get p := Tr.beq_if p q.1 (t.get p) (some q.2)
theorem get_put (x : α) (p q : Path) (t : Tp α) : (put x p t).get q = if q = p then some x else t.get q := get_cons (p, x) t q
/-- Some of them, in this order; none if one is not known. -/
def keep (t : Tp α) (l : List Nat) : Option (Tp α) := List.rec (some []) (fun p _ ih => Option.rec none (fun v => Option.rec none (fun r => some ((p, v) :: r)) ih) (get t p)) l
end Tp

/-- So many temporaries at most. -/
def lim (_ : Nat) : Nat := 65536
def path (_ k : Nat) : Path := k
theorem path_inj (n : Nat) (j k : Nat) (hj : j < lim n) (hk : k < lim n) (e : path n j = path n k) : j = k := e
end
end Go.X
