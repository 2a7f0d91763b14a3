/- A text of the verified executor, of contracts, or of this law; joined and trimmed by a program of mine (wip/gen). -/
import Derived.Calls
set_option linter.unusedVariables false
set_option linter.unusedSimpArgs false
set_option linter.unusedSectionVars false
namespace Go.X
universe u v
noncomputable section
inductive Tr (α : Type u) where
  | nil
  | leaf (k : Nat) (v : α)
  | node (l r : Tr α)
namespace Tr
variable {α : Type u}
def getK {R : Type v} (K : α → Option R) (t : Tr α) : Nat → Option R :=
  Tr.rec (fun _ => none) (fun j v k => Bool.rec none (K v) (Nat.beq k j)) (fun _ _ l r k => Nat.rec (l (Nat.div k 2)) (fun _ _ => r (Nat.div k 2)) (Nat.mod k 2)) t
def get (t : Tr α) (k : Nat) : Option α := getK some t k
def two (n : Nat) : Nat → α → Nat → α → Tr α :=
  Nat.rec (fun _ _ _ _ => .nil) (fun _ ih j v k w =>
    Nat.rec (Nat.rec (.node (ih (Nat.div j 2) v (Nat.div k 2) w) .nil) (fun _ _ => .node (.leaf (Nat.div j 2) v) (.leaf (Nat.div k 2) w)) (Nat.mod k 2))
      (fun _ _ => Nat.rec (.node (.leaf (Nat.div k 2) w) (.leaf (Nat.div j 2) v)) (fun _ _ => .node .nil (ih (Nat.div j 2) v (Nat.div k 2) w)) (Nat.mod k 2)) (Nat.mod j 2)) n
def put (t : Tr α) (x : α) : Nat → Tr α :=
  Tr.rec (fun k => .leaf k x) (fun j v k => Bool.rec (two (Nat.succ (Nat.add j k)) j v k x) (.leaf k x) (Nat.beq k j))
    (fun l r pl pr k => Nat.rec (.node (pl (Nat.div k 2)) r) (fun _ _ => .node l (pr (Nat.div k 2))) (Nat.mod k 2)) t
theorem beq_if {β : Type u} (k j : Nat) (a b : β) : (Bool.rec a b (Nat.beq k j) : β) = if k = j then b else a := by
  by_cases h : k = j
  · subst h; rw [if_pos rfl]; simp
  · rw [if_neg h]
    cases hb : Nat.beq k j with
    | false => rfl
    | true => exact absurd (Nat.eq_of_beq_eq_true hb) h
theorem getK_nil {R : Type v} (K : α → Option R) (k : Nat) : getK K (.nil : Tr α) k = none := rfl
theorem getK_leaf {R : Type v} (K : α → Option R) (j : Nat) (v : α) (k : Nat) : getK K (.leaf j v) k = if k = j then K v else none := by
  exact beq_if k j none (K v)
theorem natRec_if {β : Type u} (n : Nat) (a : β) (b : β) : (Nat.rec a (fun _ _ => b) n : β) = if n = 0 then a else b := by
  cases n with
  | zero => rfl
  | succ n => rfl
theorem getK_node {R : Type v} (K : α → Option R) (l r : Tr α) (k : Nat) : getK K (.node l r) k = if k % 2 = 0 then getK K l (k / 2) else getK K r (k / 2) := by
  exact natRec_if (k % 2) (getK K l (k / 2)) (getK K r (k / 2))
theorem put_nil (x : α) (k : Nat) : put .nil x k = .leaf k x := rfl
theorem put_leaf (j : Nat) (v x : α) (k : Nat) : put (.leaf j v) x k = if k = j then .leaf k x else two (j + k + 1) j v k x := by
  exact beq_if k j (two (j + k + 1) j v k x) (.leaf k x)
theorem put_node (l r : Tr α) (x : α) (k : Nat) : put (.node l r) x k = if k % 2 = 0 then .node (put l x (k / 2)) r else .node l (put r x (k / 2)) := by
  exact natRec_if (k % 2) (Tr.node (put l x (k / 2)) r) (.node l (put r x (k / 2)))
theorem two_succ (n j k : Nat) (v w : α) : two (n + 1) j v k w =
    if j % 2 = 0 then (if k % 2 = 0 then .node (two n (j / 2) v (k / 2) w) .nil else .node (.leaf (j / 2) v) (.leaf (k / 2) w))
    else (if k % 2 = 0 then .node (.leaf (k / 2) w) (.leaf (j / 2) v) else .node .nil (two n (j / 2) v (k / 2) w)) := by
  refine (natRec_if (j % 2) _ _).trans ?_
  congr 1
  · exact natRec_if (k % 2) _ _
  · exact natRec_if (k % 2) _ _
theorem getK_two {R : Type v} (K : α → Option R) (n : Nat) : ∀ (j k : Nat) (v w : α) (i : Nat), j ≠ k → j + k < n → getK K (two n j v k w) i = if i = k then K w else if i = j then K v else none := by
  induction n with
  | zero => intro j k v w i _ h; omega
  | succ n ih =>
    intro j k v w i hne h
    rw [two_succ]
    by_cases hj : j % 2 = 0
    · rw [if_pos hj]
      by_cases hk : k % 2 = 0
      · rw [if_pos hk, getK_node]
        by_cases hi : i % 2 = 0
        · rw [if_pos hi, ih _ _ _ _ _ (by omega) (by omega)]
          by_cases e1 : i = k
          · rw [if_pos e1, if_pos (by omega)]
          · rw [if_neg e1, if_neg (by omega)]
            by_cases e2 : i = j
            · rw [if_pos e2, if_pos (by omega)]
            · rw [if_neg e2, if_neg (by omega)]
        · rw [if_neg hi, getK_nil, if_neg (by omega), if_neg (by omega)]
      · rw [if_neg hk, getK_node]
        by_cases hi : i % 2 = 0
        · rw [if_pos hi, getK_leaf, if_neg (by omega : ¬ i = k)]
          by_cases e2 : i = j
          · rw [if_pos e2, if_pos (by omega)]
          · rw [if_neg e2, if_neg (by omega)]
        · rw [if_neg hi, getK_leaf, if_neg (by omega : ¬ i = j)]
          by_cases e2 : i = k
          · rw [if_pos e2, if_pos (by omega)]
          · rw [if_neg e2, if_neg (by omega)]
    · rw [if_neg hj]
      by_cases hk : k % 2 = 0
      · rw [if_pos hk, getK_node]
        by_cases hi : i % 2 = 0
        · rw [if_pos hi, getK_leaf, if_neg (by omega : ¬ i = j)]
          by_cases e2 : i = k
          · rw [if_pos e2, if_pos (by omega)]
          · rw [if_neg e2, if_neg (by omega)]
        · rw [if_neg hi, getK_leaf, if_neg (by omega : ¬ i = k)]
          by_cases e2 : i = j
          · rw [if_pos e2, if_pos (by omega)]
          · rw [if_neg e2, if_neg (by omega)]
      · rw [if_neg hk, getK_node]
        by_cases hi : i % 2 = 0
        · rw [if_pos hi, getK_nil, if_neg (by omega), if_neg (by omega)]
        · rw [if_neg hi, ih _ _ _ _ _ (by omega) (by omega)]
          by_cases e1 : i = k
          · rw [if_pos e1, if_pos (by omega)]
          · rw [if_neg e1, if_neg (by omega)]
            by_cases e2 : i = j
            · rw [if_pos e2, if_pos (by omega)]
            · rw [if_neg e2, if_neg (by omega)]
theorem getK_put {R : Type v} (K : α → Option R) (x : α) : ∀ (t : Tr α) (k i : Nat), getK K (put t x k) i = if i = k then K x else getK K t i := by
  intro t
  induction t with
  | nil => intro k i; rw [put_nil, getK_leaf, getK_nil]
  | leaf j v =>
    intro k i
    rw [put_leaf, getK_leaf]
    by_cases h : k = j
    · subst h; rw [if_pos rfl, getK_leaf]; split <;> rfl
    · rw [if_neg h, getK_two _ _ _ _ _ _ _ (fun e => h e.symm) (by omega)]
  | node l r pl pr =>
    intro k i
    rw [put_node, getK_node]
    by_cases hk : k % 2 = 0
    · rw [if_pos hk, getK_node]
      by_cases hi : i % 2 = 0
      · rw [if_pos hi, if_pos hi, pl]
        by_cases e : i = k
        · rw [if_pos e, if_pos (by omega)]
        · rw [if_neg e, if_neg (by omega)]
      · rw [if_neg hi, if_neg hi, if_neg (by omega)]
    · rw [if_neg hk, getK_node]
      by_cases hi : i % 2 = 0
      · rw [if_pos hi, if_pos hi, if_neg (by omega)]
      · rw [if_neg hi, if_neg hi, pr]
        by_cases e : i = k
        · rw [if_pos e, if_pos (by omega)]
        · rw [if_neg e, if_neg (by omega)]
theorem getK_get {R : Type v} (K : α → Option R) (t : Tr α) : ∀ k, getK K t k = match t.get k with | some v => K v | none => none := by
  induction t with
  | nil => intro k; rfl
  | leaf j v =>
    intro k
    rw [get, getK_leaf, getK_leaf]
    split <;> rfl
  | node l r pl pr =>
    intro k
    rw [get, getK_node, getK_node]
    split
    · rw [pl]; rfl
    · rw [pr]; rfl
theorem get_put (t : Tr α) (k : Nat) (x : α) (i : Nat) : (t.put x k).get i = if i = k then some x else t.get i := getK_put some x t k i
theorem get_nil (k : Nat) : (Tr.nil : Tr α).get k = none := rfl
def putL (l : List α) : Nat → Tr α → Tr α := List.rec (fun _ t => t) (fun x _ ih o t => ih (Nat.succ o) (t.put x o)) l
def ofList (l : List α) : Tr α := putL l 0 .nil
end Tr
inductive D where
  | d0
  | d1
  | d2
  | d3
  | d4
  | d5
  | d6
  | d7
  | d8
  | d9
  | d10
  | d11
  | d12
  | d13
  | d14
  | d15
def D.nat : D → Nat := @D.rec (fun _ => Nat) 0 1 2 3 4 5 6 7 8 9 10 11 12 13 14 15
theorem D.nat_inj : ∀ (a b : D), a.nat = b.nat → a = b := by
  intro a b h
  cases a <;> cases b <;> first | rfl | exact absurd h (by decide)
instance : DecidableEq D := fun a b => if h : a.nat = b.nat then isTrue (D.nat_inj a b h) else isFalse fun e => h (by rw [e])
def dg3 (n : Nat) : D := Bool.rec (Bool.rec .d15 .d14 (Nat.ble n 14)) (Bool.rec .d13 .d12 (Nat.ble n 12)) (Nat.ble n 13)
def dg2 (n : Nat) : D := Bool.rec (Bool.rec .d11 .d10 (Nat.ble n 10)) (Bool.rec .d9 .d8 (Nat.ble n 8)) (Nat.ble n 9)
def dg1 (n : Nat) : D := Bool.rec (Bool.rec .d7 .d6 (Nat.ble n 6)) (Bool.rec .d5 .d4 (Nat.ble n 4)) (Nat.ble n 5)
def dg0 (n : Nat) : D := Bool.rec (Bool.rec .d3 .d2 (Nat.ble n 2)) (Bool.rec .d1 .d0 (Nat.ble n 0)) (Nat.ble n 1)
def dg (n : Nat) : D := Bool.rec (Bool.rec (dg3 n) (dg2 n) (Nat.ble n 11)) (Bool.rec (dg1 n) (dg0 n) (Nat.ble n 3)) (Nat.ble n 7)
theorem dg_nat (n : Nat) (h : n < 16) : (dg n).nat = n := by
  exact match n, h with
  | 0, _ => rfl
  | 1, _ => rfl
  | 2, _ => rfl
  | 3, _ => rfl
  | 4, _ => rfl
  | 5, _ => rfl
  | 6, _ => rfl
  | 7, _ => rfl
  | 8, _ => rfl
  | 9, _ => rfl
  | 10, _ => rfl
  | 11, _ => rfl
  | 12, _ => rfl
  | 13, _ => rfl
  | 14, _ => rfl
  | 15, _ => rfl
  | n + 16, h => absurd h (by omega)
theorem dg_inj {m n : Nat} (hm : m < 16) (hn : n < 16) (e : dg m = dg n) : m = n := by rw [← dg_nat m hm, ← dg_nat n hn, e]
structure Pg (α : Type) where
  f0 : α
  f1 : α
  f2 : α
  f3 : α
  f4 : α
  f5 : α
  f6 : α
  f7 : α
  f8 : α
  f9 : α
  f10 : α
  f11 : α
  f12 : α
  f13 : α
  f14 : α
  f15 : α
namespace Pg
variable {α : Type}
def s0 (g : α → α) (t : Pg α) : Pg α := Pg.rec (fun x0 x1 x2 x3 x4 x5 x6 x7 x8 x9 x10 x11 x12 x13 x14 x15 => ⟨g x0, x1, x2, x3, x4, x5, x6, x7, x8, x9, x10, x11, x12, x13, x14, x15⟩) t
def s1 (g : α → α) (t : Pg α) : Pg α := Pg.rec (fun x0 x1 x2 x3 x4 x5 x6 x7 x8 x9 x10 x11 x12 x13 x14 x15 => ⟨x0, g x1, x2, x3, x4, x5, x6, x7, x8, x9, x10, x11, x12, x13, x14, x15⟩) t
def s2 (g : α → α) (t : Pg α) : Pg α := Pg.rec (fun x0 x1 x2 x3 x4 x5 x6 x7 x8 x9 x10 x11 x12 x13 x14 x15 => ⟨x0, x1, g x2, x3, x4, x5, x6, x7, x8, x9, x10, x11, x12, x13, x14, x15⟩) t
def s3 (g : α → α) (t : Pg α) : Pg α := Pg.rec (fun x0 x1 x2 x3 x4 x5 x6 x7 x8 x9 x10 x11 x12 x13 x14 x15 => ⟨x0, x1, x2, g x3, x4, x5, x6, x7, x8, x9, x10, x11, x12, x13, x14, x15⟩) t
def s4 (g : α → α) (t : Pg α) : Pg α := Pg.rec (fun x0 x1 x2 x3 x4 x5 x6 x7 x8 x9 x10 x11 x12 x13 x14 x15 => ⟨x0, x1, x2, x3, g x4, x5, x6, x7, x8, x9, x10, x11, x12, x13, x14, x15⟩) t
def s5 (g : α → α) (t : Pg α) : Pg α := Pg.rec (fun x0 x1 x2 x3 x4 x5 x6 x7 x8 x9 x10 x11 x12 x13 x14 x15 => ⟨x0, x1, x2, x3, x4, g x5, x6, x7, x8, x9, x10, x11, x12, x13, x14, x15⟩) t
def s6 (g : α → α) (t : Pg α) : Pg α := Pg.rec (fun x0 x1 x2 x3 x4 x5 x6 x7 x8 x9 x10 x11 x12 x13 x14 x15 => ⟨x0, x1, x2, x3, x4, x5, g x6, x7, x8, x9, x10, x11, x12, x13, x14, x15⟩) t
def s7 (g : α → α) (t : Pg α) : Pg α := Pg.rec (fun x0 x1 x2 x3 x4 x5 x6 x7 x8 x9 x10 x11 x12 x13 x14 x15 => ⟨x0, x1, x2, x3, x4, x5, x6, g x7, x8, x9, x10, x11, x12, x13, x14, x15⟩) t
def s8 (g : α → α) (t : Pg α) : Pg α := Pg.rec (fun x0 x1 x2 x3 x4 x5 x6 x7 x8 x9 x10 x11 x12 x13 x14 x15 => ⟨x0, x1, x2, x3, x4, x5, x6, x7, g x8, x9, x10, x11, x12, x13, x14, x15⟩) t
def s9 (g : α → α) (t : Pg α) : Pg α := Pg.rec (fun x0 x1 x2 x3 x4 x5 x6 x7 x8 x9 x10 x11 x12 x13 x14 x15 => ⟨x0, x1, x2, x3, x4, x5, x6, x7, x8, g x9, x10, x11, x12, x13, x14, x15⟩) t
def s10 (g : α → α) (t : Pg α) : Pg α := Pg.rec (fun x0 x1 x2 x3 x4 x5 x6 x7 x8 x9 x10 x11 x12 x13 x14 x15 => ⟨x0, x1, x2, x3, x4, x5, x6, x7, x8, x9, g x10, x11, x12, x13, x14, x15⟩) t
def s11 (g : α → α) (t : Pg α) : Pg α := Pg.rec (fun x0 x1 x2 x3 x4 x5 x6 x7 x8 x9 x10 x11 x12 x13 x14 x15 => ⟨x0, x1, x2, x3, x4, x5, x6, x7, x8, x9, x10, g x11, x12, x13, x14, x15⟩) t
def s12 (g : α → α) (t : Pg α) : Pg α := Pg.rec (fun x0 x1 x2 x3 x4 x5 x6 x7 x8 x9 x10 x11 x12 x13 x14 x15 => ⟨x0, x1, x2, x3, x4, x5, x6, x7, x8, x9, x10, x11, g x12, x13, x14, x15⟩) t
def s13 (g : α → α) (t : Pg α) : Pg α := Pg.rec (fun x0 x1 x2 x3 x4 x5 x6 x7 x8 x9 x10 x11 x12 x13 x14 x15 => ⟨x0, x1, x2, x3, x4, x5, x6, x7, x8, x9, x10, x11, x12, g x13, x14, x15⟩) t
def s14 (g : α → α) (t : Pg α) : Pg α := Pg.rec (fun x0 x1 x2 x3 x4 x5 x6 x7 x8 x9 x10 x11 x12 x13 x14 x15 => ⟨x0, x1, x2, x3, x4, x5, x6, x7, x8, x9, x10, x11, x12, x13, g x14, x15⟩) t
def s15 (g : α → α) (t : Pg α) : Pg α := Pg.rec (fun x0 x1 x2 x3 x4 x5 x6 x7 x8 x9 x10 x11 x12 x13 x14 x15 => ⟨x0, x1, x2, x3, x4, x5, x6, x7, x8, x9, x10, x11, x12, x13, x14, g x15⟩) t
def sel (d : D) : Pg α → α := @D.rec (fun _ => Pg α → α) Pg.f0 Pg.f1 Pg.f2 Pg.f3 Pg.f4 Pg.f5 Pg.f6 Pg.f7 Pg.f8 Pg.f9 Pg.f10 Pg.f11 Pg.f12 Pg.f13 Pg.f14 Pg.f15 d
def up (d : D) : (α → α) → Pg α → Pg α := @D.rec (fun _ => (α → α) → Pg α → Pg α) s0 s1 s2 s3 s4 s5 s6 s7 s8 s9 s10 s11 s12 s13 s14 s15 d
def all (a : α) : Pg α := ⟨a, a, a, a, a, a, a, a, a, a, a, a, a, a, a, a⟩
def op {β : Type} (t : Pg α) (f : α → α → α → α → α → α → α → α → α → α → α → α → α → α → α → α → β) : β := Pg.rec (fun x0 x1 x2 x3 x4 x5 x6 x7 x8 x9 x10 x11 x12 x13 x14 x15 => f x0 x1 x2 x3 x4 x5 x6 x7 x8 x9 x10 x11 x12 x13 x14 x15) t
theorem sel_up (d e : D) (g : α → α) (t : Pg α) : (t.up e g).sel d = if d = e then g (t.sel e) else t.sel d := by
  cases t
  cases d <;> cases e <;> rfl
theorem sel_all (d : D) (a : α) : (all a).sel d = a := by cases d <;> rfl
end Pg
structure Th (α : Type) where
  p2 : Pg (Pg (Option α))
  p3 : Pg (Pg (Pg (Option α)))
  p4 : Pg (Pg (Pg (Pg (Option α))))
  ov : Tr α
namespace Th
variable {α : Type}
def e2 : Pg (Pg (Option α)) := .all (.all none)
def e3 : Pg (Pg (Pg (Option α))) := .all e2
def e4 : Pg (Pg (Pg (Pg (Option α)))) := .all e3
def nil : Th α := ⟨e2, e3, e4, .nil⟩
def get2 (t : Pg (Pg (Option α))) (k : Nat) : Option α := Pg.sel (dg (Nat.land k 15)) (Pg.sel (dg (Nat.land (Nat.shiftRight k 4) 15)) t)
def get3 (t : Pg (Pg (Pg (Option α)))) (k : Nat) : Option α := get2 (Pg.sel (dg (Nat.land (Nat.shiftRight k 8) 15)) t) k
def get4 (t : Pg (Pg (Pg (Pg (Option α))))) (k : Nat) : Option α := get3 (Pg.sel (dg (Nat.shiftRight k 12)) t) k
def far (t : Th α) (k : Nat) : Option α := Bool.rec (t.ov.get k) (get4 t.p4 k) (Nat.ble k 65535)
def get (t : Th α) (k : Nat) : Option α := Bool.rec (Bool.rec (far t k) (get3 t.p3 k) (Nat.ble k 4095)) (get2 t.p2 k) (Nat.ble k 255)
def getK {R : Type} (K : α → Option R) (t : Th α) (k : Nat) : Option R := Option.rec none K (t.get k)
def put2 (x : α) (k : Nat) : Pg (Pg (Option α)) → Pg (Pg (Option α)) := Pg.up (dg (Nat.land (Nat.shiftRight k 4) 15)) (Pg.up (dg (Nat.land k 15)) fun _ => some x)
def put3 (x : α) (k : Nat) : Pg (Pg (Pg (Option α))) → Pg (Pg (Pg (Option α))) := Pg.up (dg (Nat.land (Nat.shiftRight k 8) 15)) (put2 x k)
def put4 (x : α) (k : Nat) : Pg (Pg (Pg (Pg (Option α)))) → Pg (Pg (Pg (Pg (Option α)))) := Pg.up (dg (Nat.shiftRight k 12)) (put3 x k)
def farPut (t : Th α) (x : α) (k : Nat) : Th α := Th.rec (fun a b c d => Bool.rec ⟨a, b, c, d.put x k⟩ ⟨a, b, put4 x k c, d⟩ (Nat.ble k 65535)) t
def put (t : Th α) (x : α) (k : Nat) : Th α := Bool.rec (Bool.rec (farPut t x k) (Th.rec (fun a b c d => ⟨a, put3 x k b, c, d⟩) t) (Nat.ble k 4095)) (Th.rec (fun a b c d => ⟨put2 x k a, b, c, d⟩) t) (Nat.ble k 255)
theorem land15 (k : Nat) : Nat.land k 15 = k % 16 := Nat.and_two_pow_sub_one_eq_mod k 4
theorem shr (k n : Nat) : Nat.shiftRight k n = k / 2 ^ n := Nat.shiftRight_eq_div_pow k n
theorem ble_if' {β : Type} (k j : Nat) (a b : β) : (Bool.rec a b (Nat.ble k j) : β) = if k ≤ j then b else a := by
  by_cases h : k ≤ j
  · rw [if_pos h, Nat.ble_eq_true_of_le h]
  · rw [if_neg h]
    cases hb : Nat.ble k j with
    | false => rfl
    | true => exact absurd (Nat.le_of_ble_eq_true hb) h
theorem dg_mod (i k : Nat) : dg (i % 16) = dg (k % 16) ↔ i % 16 = k % 16 := ⟨fun e => dg_inj (by omega) (by omega) e, fun e => by rw [e]⟩
theorem get2_put2 (t : Pg (Pg (Option α))) (x : α) (k i : Nat) : get2 (put2 x k t) i = if i % 256 = k % 256 then some x else get2 t i := by
  unfold get2 put2
  simp only [land15, shr]
  rw [Pg.sel_up]
  by_cases h1 : i / 2 ^ 4 % 16 = k / 2 ^ 4 % 16
  · rw [if_pos ((dg_mod _ _).2 h1), Pg.sel_up]
    by_cases h0 : i % 16 = k % 16
    · rw [if_pos ((dg_mod _ _).2 h0), if_pos (by omega)]
    · rw [if_neg (fun c => h0 ((dg_mod _ _).1 c)), if_neg (by omega), h1]
  · rw [if_neg (fun c => h1 ((dg_mod _ _).1 c)), if_neg (by omega)]
theorem get3_put3 (t : Pg (Pg (Pg (Option α)))) (x : α) (k i : Nat) : get3 (put3 x k t) i = if i % 4096 = k % 4096 then some x else get3 t i := by
  unfold get3 put3
  simp only [land15, shr]
  rw [Pg.sel_up]
  by_cases h1 : i / 2 ^ 8 % 16 = k / 2 ^ 8 % 16
  · rw [if_pos ((dg_mod _ _).2 h1), get2_put2, h1]
    by_cases h0 : i % 256 = k % 256
    · rw [if_pos h0, if_pos (by omega)]
    · rw [if_neg h0, if_neg (by omega)]
  · rw [if_neg (fun c => h1 ((dg_mod _ _).1 c)), if_neg (by omega)]
theorem get4_put4 (t : Pg (Pg (Pg (Pg (Option α))))) (x : α) (k i : Nat) (hi : i ≤ 65535) (hk : k ≤ 65535) : get4 (put4 x k t) i = if i = k then some x else get4 t i := by
  unfold get4 put4
  simp only [shr]
  rw [Pg.sel_up]
  by_cases h1 : i / 2 ^ 12 = k / 2 ^ 12
  · rw [if_pos (by rw [h1]), get3_put3, h1]
    by_cases h0 : i % 4096 = k % 4096
    · rw [if_pos h0, if_pos (by omega)]
    · rw [if_neg h0, if_neg (by omega)]
  · rw [if_neg (fun c => h1 (dg_inj (by omega) (by omega) c)), if_neg (by omega)]
theorem get_put (t : Th α) (k : Nat) (x : α) (i : Nat) : (t.put x k).get i = if i = k then some x else t.get i := by
  obtain ⟨a, b, c, d⟩ := t
  unfold get put far farPut
  dsimp only
  simp only [ble_if']
  by_cases k2 : k ≤ 255
  · rw [if_pos k2]
    by_cases i2 : i ≤ 255
    · rw [if_pos i2, if_pos i2, get2_put2]
      by_cases e : i = k
      · rw [if_pos e, if_pos (by omega)]
      · rw [if_neg e, if_neg (by omega)]
    · rw [if_neg i2, if_neg i2, if_neg (show ¬ i = k by omega)]
  · rw [if_neg k2]
    by_cases k3 : k ≤ 4095
    · rw [if_pos k3]
      by_cases i2 : i ≤ 255
      · rw [if_pos i2, if_pos i2, if_neg (show ¬ i = k by omega)]
      · rw [if_neg i2, if_neg i2]
        by_cases i3 : i ≤ 4095
        · rw [if_pos i3, if_pos i3, get3_put3]
          by_cases e : i = k
          · rw [if_pos e, if_pos (by omega)]
          · rw [if_neg e, if_neg (by omega)]
        · rw [if_neg i3, if_neg i3, if_neg (show ¬ i = k by omega)]
    · rw [if_neg k3]
      by_cases k4 : k ≤ 65535
      · rw [if_pos k4]
        by_cases i2 : i ≤ 255
        · rw [if_pos i2, if_pos i2, if_neg (show ¬ i = k by omega)]
        · rw [if_neg i2, if_neg i2]
          by_cases i3 : i ≤ 4095
          · rw [if_pos i3, if_pos i3, if_neg (show ¬ i = k by omega)]
          · rw [if_neg i3, if_neg i3]
            by_cases i4 : i ≤ 65535
            · rw [if_pos i4, if_pos i4, get4_put4 _ _ _ _ i4 k4]
            · rw [if_neg i4, if_neg i4, if_neg (show ¬ i = k by omega)]
      · rw [if_neg k4]
        by_cases i2 : i ≤ 255
        · rw [if_pos i2, if_pos i2, if_neg (show ¬ i = k by omega)]
        · rw [if_neg i2, if_neg i2]
          by_cases i3 : i ≤ 4095
          · rw [if_pos i3, if_pos i3, if_neg (show ¬ i = k by omega)]
          · rw [if_neg i3, if_neg i3]
            by_cases i4 : i ≤ 65535
            · rw [if_pos i4, if_pos i4, if_neg (show ¬ i = k by omega)]
            · rw [if_neg i4, if_neg i4, Tr.get_put]
theorem get_nil (k : Nat) : (nil : Th α).get k = none := by
  unfold get nil far get4 get3 get2 e4 e3 e2
  simp only [ble_if', Pg.sel_all, Tr.get_nil]
  split
  · rfl
  · split
    · rfl
    · split <;> rfl
theorem getK_get {R : Type} (K : α → Option R) (t : Th α) (k : Nat) : getK K t k = match t.get k with | some v => K v | none => none := by
  unfold getK
  cases t.get k <;> rfl
end Th
structure Qg (α : Type u) where
  f0 : α
  f1 : α
  f2 : α
  f3 : α
  f4 : α
  f5 : α
  f6 : α
  f7 : α
  f8 : α
  f9 : α
  f10 : α
  f11 : α
  f12 : α
  f13 : α
  f14 : α
  f15 : α
namespace Qg
variable {α : Type u}
def s0 (g : α → α) (t : Qg α) : Qg α := Qg.rec (fun x0 x1 x2 x3 x4 x5 x6 x7 x8 x9 x10 x11 x12 x13 x14 x15 => ⟨g x0, x1, x2, x3, x4, x5, x6, x7, x8, x9, x10, x11, x12, x13, x14, x15⟩) t
def s1 (g : α → α) (t : Qg α) : Qg α := Qg.rec (fun x0 x1 x2 x3 x4 x5 x6 x7 x8 x9 x10 x11 x12 x13 x14 x15 => ⟨x0, g x1, x2, x3, x4, x5, x6, x7, x8, x9, x10, x11, x12, x13, x14, x15⟩) t
def s2 (g : α → α) (t : Qg α) : Qg α := Qg.rec (fun x0 x1 x2 x3 x4 x5 x6 x7 x8 x9 x10 x11 x12 x13 x14 x15 => ⟨x0, x1, g x2, x3, x4, x5, x6, x7, x8, x9, x10, x11, x12, x13, x14, x15⟩) t
def s3 (g : α → α) (t : Qg α) : Qg α := Qg.rec (fun x0 x1 x2 x3 x4 x5 x6 x7 x8 x9 x10 x11 x12 x13 x14 x15 => ⟨x0, x1, x2, g x3, x4, x5, x6, x7, x8, x9, x10, x11, x12, x13, x14, x15⟩) t
def s4 (g : α → α) (t : Qg α) : Qg α := Qg.rec (fun x0 x1 x2 x3 x4 x5 x6 x7 x8 x9 x10 x11 x12 x13 x14 x15 => ⟨x0, x1, x2, x3, g x4, x5, x6, x7, x8, x9, x10, x11, x12, x13, x14, x15⟩) t
def s5 (g : α → α) (t : Qg α) : Qg α := Qg.rec (fun x0 x1 x2 x3 x4 x5 x6 x7 x8 x9 x10 x11 x12 x13 x14 x15 => ⟨x0, x1, x2, x3, x4, g x5, x6, x7, x8, x9, x10, x11, x12, x13, x14, x15⟩) t
def s6 (g : α → α) (t : Qg α) : Qg α := Qg.rec (fun x0 x1 x2 x3 x4 x5 x6 x7 x8 x9 x10 x11 x12 x13 x14 x15 => ⟨x0, x1, x2, x3, x4, x5, g x6, x7, x8, x9, x10, x11, x12, x13, x14, x15⟩) t
def s7 (g : α → α) (t : Qg α) : Qg α := Qg.rec (fun x0 x1 x2 x3 x4 x5 x6 x7 x8 x9 x10 x11 x12 x13 x14 x15 => ⟨x0, x1, x2, x3, x4, x5, x6, g x7, x8, x9, x10, x11, x12, x13, x14, x15⟩) t
def s8 (g : α → α) (t : Qg α) : Qg α := Qg.rec (fun x0 x1 x2 x3 x4 x5 x6 x7 x8 x9 x10 x11 x12 x13 x14 x15 => ⟨x0, x1, x2, x3, x4, x5, x6, x7, g x8, x9, x10, x11, x12, x13, x14, x15⟩) t
def s9 (g : α → α) (t : Qg α) : Qg α := Qg.rec (fun x0 x1 x2 x3 x4 x5 x6 x7 x8 x9 x10 x11 x12 x13 x14 x15 => ⟨x0, x1, x2, x3, x4, x5, x6, x7, x8, g x9, x10, x11, x12, x13, x14, x15⟩) t
def s10 (g : α → α) (t : Qg α) : Qg α := Qg.rec (fun x0 x1 x2 x3 x4 x5 x6 x7 x8 x9 x10 x11 x12 x13 x14 x15 => ⟨x0, x1, x2, x3, x4, x5, x6, x7, x8, x9, g x10, x11, x12, x13, x14, x15⟩) t
def s11 (g : α → α) (t : Qg α) : Qg α := Qg.rec (fun x0 x1 x2 x3 x4 x5 x6 x7 x8 x9 x10 x11 x12 x13 x14 x15 => ⟨x0, x1, x2, x3, x4, x5, x6, x7, x8, x9, x10, g x11, x12, x13, x14, x15⟩) t
def s12 (g : α → α) (t : Qg α) : Qg α := Qg.rec (fun x0 x1 x2 x3 x4 x5 x6 x7 x8 x9 x10 x11 x12 x13 x14 x15 => ⟨x0, x1, x2, x3, x4, x5, x6, x7, x8, x9, x10, x11, g x12, x13, x14, x15⟩) t
def s13 (g : α → α) (t : Qg α) : Qg α := Qg.rec (fun x0 x1 x2 x3 x4 x5 x6 x7 x8 x9 x10 x11 x12 x13 x14 x15 => ⟨x0, x1, x2, x3, x4, x5, x6, x7, x8, x9, x10, x11, x12, g x13, x14, x15⟩) t
def s14 (g : α → α) (t : Qg α) : Qg α := Qg.rec (fun x0 x1 x2 x3 x4 x5 x6 x7 x8 x9 x10 x11 x12 x13 x14 x15 => ⟨x0, x1, x2, x3, x4, x5, x6, x7, x8, x9, x10, x11, x12, x13, g x14, x15⟩) t
def s15 (g : α → α) (t : Qg α) : Qg α := Qg.rec (fun x0 x1 x2 x3 x4 x5 x6 x7 x8 x9 x10 x11 x12 x13 x14 x15 => ⟨x0, x1, x2, x3, x4, x5, x6, x7, x8, x9, x10, x11, x12, x13, x14, g x15⟩) t
def sel (d : D) : Qg α → α := @D.rec (fun _ => Qg α → α) Qg.f0 Qg.f1 Qg.f2 Qg.f3 Qg.f4 Qg.f5 Qg.f6 Qg.f7 Qg.f8 Qg.f9 Qg.f10 Qg.f11 Qg.f12 Qg.f13 Qg.f14 Qg.f15 d
def up (d : D) : (α → α) → Qg α → Qg α := @D.rec (fun _ => (α → α) → Qg α → Qg α) s0 s1 s2 s3 s4 s5 s6 s7 s8 s9 s10 s11 s12 s13 s14 s15 d
def all (a : α) : Qg α := ⟨a, a, a, a, a, a, a, a, a, a, a, a, a, a, a, a⟩
def op {β : Type v} (t : Qg α) (f : α → α → α → α → α → α → α → α → α → α → α → α → α → α → α → α → β) : β := Qg.rec (fun x0 x1 x2 x3 x4 x5 x6 x7 x8 x9 x10 x11 x12 x13 x14 x15 => f x0 x1 x2 x3 x4 x5 x6 x7 x8 x9 x10 x11 x12 x13 x14 x15) t
theorem sel_up (d e : D) (g : α → α) (t : Qg α) : (t.up e g).sel d = if d = e then g (t.sel e) else t.sel d := by
  cases t
  cases d <;> cases e <;> rfl
theorem sel_all (d : D) (a : α) : (all a).sel d = a := by cases d <;> rfl
end Qg
structure Uh (α : Type u) where
  p2 : Qg (Qg (Option α))
  p3 : Qg (Qg (Qg (Option α)))
  p4 : Qg (Qg (Qg (Qg (Option α))))
  ov : Tr α
namespace Uh
variable {α : Type u}
def e2 : Qg (Qg (Option α)) := .all (.all none)
def e3 : Qg (Qg (Qg (Option α))) := .all e2
def e4 : Qg (Qg (Qg (Qg (Option α)))) := .all e3
def nil : Uh α := ⟨e2, e3, e4, .nil⟩
def get2 (t : Qg (Qg (Option α))) (k : Nat) : Option α := Qg.sel (dg (Nat.land k 15)) (Qg.sel (dg (Nat.land (Nat.shiftRight k 4) 15)) t)
def get3 (t : Qg (Qg (Qg (Option α)))) (k : Nat) : Option α := get2 (Qg.sel (dg (Nat.land (Nat.shiftRight k 8) 15)) t) k
def get4 (t : Qg (Qg (Qg (Qg (Option α))))) (k : Nat) : Option α := get3 (Qg.sel (dg (Nat.shiftRight k 12)) t) k
def far (t : Uh α) (k : Nat) : Option α := Bool.rec (t.ov.get k) (get4 t.p4 k) (Nat.ble k 65535)
def get (t : Uh α) (k : Nat) : Option α := Bool.rec (Bool.rec (far t k) (get3 t.p3 k) (Nat.ble k 4095)) (get2 t.p2 k) (Nat.ble k 255)
def getK {R : Type v} (K : α → Option R) (t : Uh α) (k : Nat) : Option R := Option.rec none K (t.get k)
def put2 (x : α) (k : Nat) : Qg (Qg (Option α)) → Qg (Qg (Option α)) := Qg.up (dg (Nat.land (Nat.shiftRight k 4) 15)) (Qg.up (dg (Nat.land k 15)) fun _ => some x)
def put3 (x : α) (k : Nat) : Qg (Qg (Qg (Option α))) → Qg (Qg (Qg (Option α))) := Qg.up (dg (Nat.land (Nat.shiftRight k 8) 15)) (put2 x k)
def put4 (x : α) (k : Nat) : Qg (Qg (Qg (Qg (Option α)))) → Qg (Qg (Qg (Qg (Option α)))) := Qg.up (dg (Nat.shiftRight k 12)) (put3 x k)
def farPut (t : Uh α) (x : α) (k : Nat) : Uh α := Uh.rec (fun a b c d => Bool.rec ⟨a, b, c, d.put x k⟩ ⟨a, b, put4 x k c, d⟩ (Nat.ble k 65535)) t
def put (t : Uh α) (x : α) (k : Nat) : Uh α := Bool.rec (Bool.rec (farPut t x k) (Uh.rec (fun a b c d => ⟨a, put3 x k b, c, d⟩) t) (Nat.ble k 4095)) (Uh.rec (fun a b c d => ⟨put2 x k a, b, c, d⟩) t) (Nat.ble k 255)
theorem land15 (k : Nat) : Nat.land k 15 = k % 16 := Nat.and_two_pow_sub_one_eq_mod k 4
theorem shr (k n : Nat) : Nat.shiftRight k n = k / 2 ^ n := Nat.shiftRight_eq_div_pow k n
theorem ble_if' {β : Type v} (k j : Nat) (a b : β) : (Bool.rec a b (Nat.ble k j) : β) = if k ≤ j then b else a := by
  by_cases h : k ≤ j
  · rw [if_pos h, Nat.ble_eq_true_of_le h]
  · rw [if_neg h]
    cases hb : Nat.ble k j with
    | false => rfl
    | true => exact absurd (Nat.le_of_ble_eq_true hb) h
theorem dg_mod (i k : Nat) : dg (i % 16) = dg (k % 16) ↔ i % 16 = k % 16 := ⟨fun e => dg_inj (by omega) (by omega) e, fun e => by rw [e]⟩
theorem get2_put2 (t : Qg (Qg (Option α))) (x : α) (k i : Nat) : get2 (put2 x k t) i = if i % 256 = k % 256 then some x else get2 t i := by
  unfold get2 put2
  simp only [land15, shr]
  rw [Qg.sel_up]
  by_cases h1 : i / 2 ^ 4 % 16 = k / 2 ^ 4 % 16
  · rw [if_pos ((dg_mod _ _).2 h1), Qg.sel_up]
    by_cases h0 : i % 16 = k % 16
    · rw [if_pos ((dg_mod _ _).2 h0), if_pos (by omega)]
    · rw [if_neg (fun c => h0 ((dg_mod _ _).1 c)), if_neg (by omega), h1]
  · rw [if_neg (fun c => h1 ((dg_mod _ _).1 c)), if_neg (by omega)]
theorem get3_put3 (t : Qg (Qg (Qg (Option α)))) (x : α) (k i : Nat) : get3 (put3 x k t) i = if i % 4096 = k % 4096 then some x else get3 t i := by
  unfold get3 put3
  simp only [land15, shr]
  rw [Qg.sel_up]
  by_cases h1 : i / 2 ^ 8 % 16 = k / 2 ^ 8 % 16
  · rw [if_pos ((dg_mod _ _).2 h1), get2_put2, h1]
    by_cases h0 : i % 256 = k % 256
    · rw [if_pos h0, if_pos (by omega)]
    · rw [if_neg h0, if_neg (by omega)]
  · rw [if_neg (fun c => h1 ((dg_mod _ _).1 c)), if_neg (by omega)]
theorem get4_put4 (t : Qg (Qg (Qg (Qg (Option α))))) (x : α) (k i : Nat) (hi : i ≤ 65535) (hk : k ≤ 65535) : get4 (put4 x k t) i = if i = k then some x else get4 t i := by
  unfold get4 put4
  simp only [shr]
  rw [Qg.sel_up]
  by_cases h1 : i / 2 ^ 12 = k / 2 ^ 12
  · rw [if_pos (by rw [h1]), get3_put3, h1]
    by_cases h0 : i % 4096 = k % 4096
    · rw [if_pos h0, if_pos (by omega)]
    · rw [if_neg h0, if_neg (by omega)]
  · rw [if_neg (fun c => h1 (dg_inj (by omega) (by omega) c)), if_neg (by omega)]
theorem get_put (t : Uh α) (k : Nat) (x : α) (i : Nat) : (t.put x k).get i = if i = k then some x else t.get i := by
  obtain ⟨a, b, c, d⟩ := t
  unfold get put far farPut
  dsimp only
  simp only [ble_if']
  by_cases k2 : k ≤ 255
  · rw [if_pos k2]
    by_cases i2 : i ≤ 255
    · rw [if_pos i2, if_pos i2, get2_put2]
      by_cases e : i = k
      · rw [if_pos e, if_pos (by omega)]
      · rw [if_neg e, if_neg (by omega)]
    · rw [if_neg i2, if_neg i2, if_neg (show ¬ i = k by omega)]
  · rw [if_neg k2]
    by_cases k3 : k ≤ 4095
    · rw [if_pos k3]
      by_cases i2 : i ≤ 255
      · rw [if_pos i2, if_pos i2, if_neg (show ¬ i = k by omega)]
      · rw [if_neg i2, if_neg i2]
        by_cases i3 : i ≤ 4095
        · rw [if_pos i3, if_pos i3, get3_put3]
          by_cases e : i = k
          · rw [if_pos e, if_pos (by omega)]
          · rw [if_neg e, if_neg (by omega)]
        · rw [if_neg i3, if_neg i3, if_neg (show ¬ i = k by omega)]
    · rw [if_neg k3]
      by_cases k4 : k ≤ 65535
      · rw [if_pos k4]
        by_cases i2 : i ≤ 255
        · rw [if_pos i2, if_pos i2, if_neg (show ¬ i = k by omega)]
        · rw [if_neg i2, if_neg i2]
          by_cases i3 : i ≤ 4095
          · rw [if_pos i3, if_pos i3, if_neg (show ¬ i = k by omega)]
          · rw [if_neg i3, if_neg i3]
            by_cases i4 : i ≤ 65535
            · rw [if_pos i4, if_pos i4, get4_put4 _ _ _ _ i4 k4]
            · rw [if_neg i4, if_neg i4, if_neg (show ¬ i = k by omega)]
      · rw [if_neg k4]
        by_cases i2 : i ≤ 255
        · rw [if_pos i2, if_pos i2, if_neg (show ¬ i = k by omega)]
        · rw [if_neg i2, if_neg i2]
          by_cases i3 : i ≤ 4095
          · rw [if_pos i3, if_pos i3, if_neg (show ¬ i = k by omega)]
          · rw [if_neg i3, if_neg i3]
            by_cases i4 : i ≤ 65535
            · rw [if_pos i4, if_pos i4, if_neg (show ¬ i = k by omega)]
            · rw [if_neg i4, if_neg i4, Tr.get_put]
theorem get_nil (k : Nat) : (nil : Uh α).get k = none := by
  unfold get nil far get4 get3 get2 e4 e3 e2
  simp only [ble_if', Qg.sel_all, Tr.get_nil]
  split
  · rfl
  · split
    · rfl
    · split <;> rfl
theorem getK_get {R : Type v} (K : α → Option R) (t : Uh α) (k : Nat) : getK K t k = match t.get k with | some v => K v | none => none := by
  unfold getK
  cases t.get k <;> rfl
end Uh
abbrev Path := Nat
abbrev Tp (α : Type) := List (Nat × α)
/-! Height: where two texts are held against each other, the taller word is opened first: the words that read temporaries are taller than all others. -/
abbrev Hi (T : Type) (_ : Nat) : Type := T
def hi0 : Nat := 0
def hi1 : Nat := hi0
def hi2 : Nat := hi1
def hi3 : Nat := hi2
def hi4 : Nat := hi3
def hi5 : Nat := hi4
def hi6 : Nat := hi5
def hi7 : Nat := hi6
def hi8 : Nat := hi7
def hi9 : Nat := hi8
def hi10 : Nat := hi9
def hi11 : Nat := hi10
def hi12 : Nat := hi11
def hi13 : Nat := hi12
def hi14 : Nat := hi13
def hi15 : Nat := hi14
def hi16 : Nat := hi15
def hi17 : Nat := hi16
def hi18 : Nat := hi17
def hi19 : Nat := hi18
def hi20 : Nat := hi19
def hi21 : Nat := hi20
def hi22 : Nat := hi21
def hi23 : Nat := hi22
def hi24 : Nat := hi23
def hi25 : Nat := hi24
def hi26 : Nat := hi25
def hi27 : Nat := hi26
def hi28 : Nat := hi27
def hi29 : Nat := hi28
def hi30 : Nat := hi29
def hi31 : Nat := hi30
def hi32 : Nat := hi31
def hi33 : Nat := hi32
def hi34 : Nat := hi33
def hi35 : Nat := hi34
def hi36 : Nat := hi35
def hi37 : Nat := hi36
def hi38 : Nat := hi37
def hi39 : Nat := hi38
def hi40 : Nat := hi39
def hi41 : Nat := hi40
def hi42 : Nat := hi41
def hi43 : Nat := hi42
def hi44 : Nat := hi43
def hi45 : Nat := hi44
def hi46 : Nat := hi45
def hi47 : Nat := hi46
def hi48 : Nat := hi47
def hi49 : Nat := hi48
def hi50 : Nat := hi49
def hi51 : Nat := hi50
def hi52 : Nat := hi51
def hi53 : Nat := hi52
def hi54 : Nat := hi53
def hi55 : Nat := hi54
def hi56 : Nat := hi55
def hi57 : Nat := hi56
def hi58 : Nat := hi57
def hi59 : Nat := hi58
def hi60 : Nat := hi59
def hi61 : Nat := hi60
def hi62 : Nat := hi61
def hi63 : Nat := hi62
def hi64 : Nat := hi63
namespace Tp
variable {α : Type}
def get (t : Tp α) (p : Path) : Option α := @List.rec (Nat × α) (fun _ => Hi (Option α) hi64) none (fun q _ ih => Bool.rec ih (some q.2) (Nat.beq p q.1)) t
def getK {R : Type} (K : α → Option R) (p : Path) (t : Tp α) : Option R := Option.rec none K (get t p)
def put (x : α) (p : Path) (t : Tp α) : Tp α := (p, x) :: t
theorem getK_get {R : Type} (K : α → Option R) (p : Path) (t : Tp α) : getK K p t = match t.get p with | some v => K v | none => none := by
  unfold getK
  cases t.get p <;> rfl
theorem get_nil (p : Path) : get ([] : Tp α) p = none := rfl
theorem get_cons (q : Nat × α) (t : Tp α) (p : Path) : get (q :: t) p = if p = q.1 then some q.2 else t.get p := Tr.beq_if p q.1 (t.get p) (some q.2)
theorem get_put (x : α) (p q : Path) (t : Tp α) : (put x p t).get q = if q = p then some x else t.get q := get_cons (p, x) t q
def keep (t : Tp α) (l : List Nat) : Option (Tp α) := List.rec (some []) (fun p _ ih => Option.rec none (fun v => Option.rec none (fun r => some ((p, v) :: r)) ih) (get t p)) l
end Tp
def lim (_ : Nat) : Nat := 65536
def path (_ k : Nat) : Path := k
theorem path_inj (n : Nat) (j k : Nat) (hj : j < lim n) (hk : k < lim n) (e : path n j = path n k) : j = k := e
end
end Go.X
namespace Go.X
noncomputable section
inductive V where
  | int (k : IntKind) (n : Int)
  | bool (b : Bool)
  | str (s : List Nat)
  | ptr (b o : Nat)
  | nilp
  | slice (b o len es : Nat) (cap : Option Nat)
  | nils
  | emp        -- an empty slice, not nil, somewhere
  | map (b : Nat)
  | nilmap
  | fn (fn : Fn) (first captured : List V)
  | nilfn
  | iface (t : Nat) (v : V)
  | nili
  | agg (l : List V)
  | sym (k : IntKind) (i : Nat)                -- a whole number that is only named
  | bigs (es : Nat) (l : List V) (n : V)        -- a slice of memory that was there before: its first cells, its length
  | view (l : List V)                          -- an address in memory that was there before: the cells that lie there
  | tup (l : List V)
  | yld (b : Nat)                                -- the function that a range over a function hands on
inductive Out where
  | normal
  | exit (id : Nat)
  | ret
inductive Blk where
  | cells (c : List V) (w : Bool) (y : Nat)
  | map (es : List (V × V))
  | dead
  | loop (g j st : Nat) (pend : Out) (tm : Tp V)
structure H where
  hp : Th Blk
  nx : Nat
  lg : Bool
  log : List (Nat × Bool)
def H.at (h : H) (b : Nat) : Option Blk := h.hp.get b
def H.note (h : H) (b : Nat) : H := Bool.rec h ⟨h.hp, h.nx, h.lg, (b, false) :: h.log⟩ h.lg
def H.wrote (h : H) (b : Nat) (k : Blk) : H := H.rec (fun hp nx lg log => Bool.rec ⟨hp.put k b, nx, false, log⟩ ⟨hp.put k b, nx, true, (b, true) :: log⟩ lg) h
def H.made (h : H) (k : Blk) : H := H.rec (fun hp nx lg log => ⟨hp.put k nx, Nat.succ nx, lg, log⟩) h
def cat {α : Type} (a b : List α) : List α := List.rec b (fun x _ ih => x :: ih) a
theorem cat_eq {α : Type} : ∀ (a b : List α), cat a b = a ++ b
  | [], _ => rfl
  | x :: a, b => congrArg (x :: ·) (cat_eq a b)
theorem H.note_at (h : H) (b j : Nat) : (h.note b).at j = h.at j := by unfold H.note; cases h.lg <;> rfl
theorem H.note_nx (h : H) (b : Nat) : (h.note b).nx = h.nx := by unfold H.note; cases h.lg <;> rfl
theorem H.note_lg (h : H) (b : Nat) : (h.note b).lg = h.lg := by
  unfold H.note; cases e : h.lg
  · exact e
  · rfl
theorem H.note_log (h : H) (b : Nat) (e : h.lg = true) : (h.note b).log = (b, false) :: h.log := by unfold H.note; rw [e]
theorem H.wrote_at (h : H) (b : Nat) (k : Blk) (j : Nat) : (h.wrote b k).at j = if j = b then some k else h.at j := by
  obtain ⟨hp, nx, lg, log⟩ := h
  cases lg <;> exact Th.get_put _ _ _ _
theorem H.wrote_lg (h : H) (b : Nat) (k : Blk) : (h.wrote b k).lg = h.lg := by
  obtain ⟨hp, nx, lg, log⟩ := h
  cases lg <;> rfl
theorem H.wrote_nx (h : H) (b : Nat) (k : Blk) : (h.wrote b k).nx = h.nx := by
  obtain ⟨hp, nx, lg, log⟩ := h
  cases lg <;> rfl
theorem H.wrote_log (h : H) (b : Nat) (k : Blk) (e : h.lg = true) : (h.wrote b k).log = (b, true) :: h.log := by
  obtain ⟨hp, nx, lg, log⟩ := h
  cases lg
  · exact nomatch e
  · rfl
theorem H.made_at (h : H) (k : Blk) (j : Nat) : (h.made k).at j = if j = h.nx then some k else h.at j := Th.get_put _ _ _ _
def Local {α : Type} (f : H → Option (α × H)) : Prop :=
  ∀ h a h', f h = some (a, h') → h.lg = true →
    ∃ l, h'.log = l ++ h.log ∧ h'.lg = true ∧ h.nx ≤ h'.nx ∧ (∀ b w, (b, w) ∈ l → b < h'.nx) ∧
      (∀ b, (b, true) ∉ l → ¬(h.nx ≤ b ∧ b < h'.nx) → h'.at b = h.at b) ∧
      ∀ g : H, g.lg = true → g.nx = h.nx → (∀ b w, (b, w) ∈ l → b < h.nx → g.at b = h.at b) → (∀ b, h.nx ≤ b → b < h'.nx → g.at b = h.at b) →
        ∃ g', f g = some (a, g') ∧ g'.log = l ++ g.log ∧ g'.lg = true ∧ g'.nx = h'.nx ∧
          (∀ b, ((b, true) ∈ l ∨ (h.nx ≤ b ∧ b < h'.nx)) → g'.at b = h'.at b) ∧ (∀ b, (b, true) ∉ l → ¬(h.nx ≤ b ∧ b < h'.nx) → g'.at b = g.at b)
theorem Local.pure {α : Type} (a : α) : Local (fun h => some (a, h)) := by
  intro h a' h' e hl
  simp only [Option.some.injEq, Prod.mk.injEq] at e
  obtain ⟨rfl, rfl⟩ := e
  refine ⟨[], rfl, hl, Nat.le_refl _, fun _ _ h => (nomatch h), fun _ _ _ => rfl, fun g hg hn _ _ => ⟨g, rfl, rfl, hg, hn, fun b hb => ?_, fun _ _ _ => rfl⟩⟩
  rcases hb with hb | ⟨h1, h2⟩
  · exact nomatch hb
  · omega
theorem Local.fail {α : Type} : Local (fun _ => (none : Option (α × H))) := fun _ _ _ e => (nomatch e)
theorem Local.bind {α β : Type} {f : H → Option (α × H)} {k : α → H → Option (β × H)} {q : H → Option (β × H)} (hf : Local f) (hk : ∀ a, Local (k a))
    (hq : ∀ h b h2, q h = some (b, h2) ↔ ∃ a h1, f h = some (a, h1) ∧ k a h1 = some (b, h2)) : Local q := by
  intro h r h2 e hl
  obtain ⟨a, h1, hfe, e⟩ := (hq h r h2).1 e
  obtain ⟨l1, e1, hl1, n1, b1, u1, a1⟩ := hf h a h1 hfe hl
  obtain ⟨l2, e2, hl2, n2, b2, u2, a2⟩ := hk a h1 r h2 e hl1
  refine ⟨l2 ++ l1, by rw [e2, e1, List.append_assoc], hl2, Nat.le_trans n1 n2, ?_, ?_, ?_⟩
  · intro b w hm
    rcases List.mem_append.1 hm with hm | hm
    · exact b2 b w hm
    · exact Nat.lt_of_lt_of_le (b1 b w hm) n2
  · intro b hb hn
    have hb2 : (b, true) ∉ l2 := fun hm => hb (List.mem_append.2 (.inl hm))
    have hb1 : (b, true) ∉ l1 := fun hm => hb (List.mem_append.2 (.inr hm))
    rw [u2 b hb2 (by omega), u1 b hb1 (by omega)]
  · intro g hg hgn hgl hgf
    obtain ⟨g1, f1, q1, ql1, qn1, qw1, qu1⟩ := a1 g hg hgn (fun b w hm hb => hgl b w (List.mem_append.2 (.inr hm)) hb) (fun b h1 h2 => hgf b h1 (by omega))
    have agree : ∀ b, (b < h.nx → (∃ w, (b, w) ∈ l2) → g.at b = h.at b) → (h1.nx ≤ b → b < h2.nx → g.at b = h.at b) → ((∃ w, (b, w) ∈ l2) ∧ b < h1.nx ∨ h1.nx ≤ b ∧ b < h2.nx) → g1.at b = h1.at b := by
      intro b p1 p2 p3
      by_cases c1 : (b, true) ∈ l1
      · exact qw1 b (.inl c1)
      · by_cases c2 : h.nx ≤ b ∧ b < h1.nx
        · exact qw1 b (.inr c2)
        · rw [qu1 b c1 c2, u1 b c1 c2]
          rcases p3 with ⟨pw, pl⟩ | ⟨pl, pr⟩
          · exact p1 (by omega) pw
          · exact p2 pl pr
    obtain ⟨g2, f2, r1, rl1, rn1, rw1, ru1⟩ := a2 g1 ql1 qn1
      (fun b w hm hb => agree b (fun hb' ⟨w', hm'⟩ => hgl b w' (List.mem_append.2 (.inl hm')) hb') (fun h1 h2 => hgf b (by omega) h2) (.inl ⟨⟨w, hm⟩, hb⟩))
      (fun b h1 h2 => agree b (fun hb' ⟨w', hm'⟩ => hgl b w' (List.mem_append.2 (.inl hm')) hb') (fun h1 h2 => hgf b (by omega) h2) (.inr ⟨h1, h2⟩))
    refine ⟨g2, (hq g r g2).2 ⟨a, g1, f1, f2⟩, by rw [r1, q1, List.append_assoc], rl1, rn1, ?_, ?_⟩
    · intro b hb
      by_cases c2 : (b, true) ∈ l2 ∨ (h1.nx ≤ b ∧ b < h2.nx)
      · exact rw1 b c2
      · have c2' : (b, true) ∉ l2 := fun c => c2 (.inl c)
        have c3' : ¬(h1.nx ≤ b ∧ b < h2.nx) := fun c => c2 (.inr c)
        rw [ru1 b c2' c3', u2 b c2' c3']
        apply qw1
        rcases hb with hb | hb
        · rcases List.mem_append.1 hb with hb | hb
          · exact absurd hb c2'
          · exact .inl hb
        · exact .inr (by omega)
    · intro b hb hn
      have hb2 : (b, true) ∉ l2 := fun hm => hb (List.mem_append.2 (.inl hm))
      have hb1 : (b, true) ∉ l1 := fun hm => hb (List.mem_append.2 (.inr hm))
      rw [ru1 b hb2 (by omega), qu1 b hb1 (by omega)]
structure H.sub (h g : H) : Prop where
  nx : g.nx = h.nx
  lg : g.lg = h.lg
  log : g.log = h.log
  blk : ∀ b k, h.at b = some k → g.at b = some k
theorem H.sub_note {h g : H} (s : h.sub g) (b : Nat) : (h.note b).sub (g.note b) := by
  obtain ⟨hp, nx, lg, log⟩ := h
  obtain ⟨gp, gx, gl, gg⟩ := g
  obtain ⟨s1, s2, s3, s4⟩ := s
  dsimp only at s1 s2 s3
  subst s1 s2 s3
  cases gl
  · exact ⟨rfl, rfl, rfl, s4⟩
  · exact ⟨rfl, rfl, rfl, s4⟩
theorem H.sub_wrote {h g : H} (s : h.sub g) (b : Nat) (k : Blk) : (h.wrote b k).sub (g.wrote b k) := by
  have hb : ∀ j k', (h.wrote b k).at j = some k' → (g.wrote b k).at j = some k' := fun j k' e => by
    rw [H.wrote_at] at e ⊢
    by_cases c : j = b
    · rw [if_pos c] at e ⊢; exact e
    · rw [if_neg c] at e ⊢; exact s.blk j k' e
  refine ⟨by rw [H.wrote_nx, H.wrote_nx, s.nx], by rw [H.wrote_lg, H.wrote_lg, s.lg], ?_, hb⟩
  obtain ⟨hp, nx, lg, log⟩ := h
  obtain ⟨gp, gx, gl, gg⟩ := g
  obtain ⟨s1, s2, s3, s4⟩ := s
  dsimp only at s1 s2 s3
  subst s1 s2 s3
  cases gl <;> rfl
theorem H.sub_made {h g : H} (s : h.sub g) (k : Blk) : (h.made k).sub (g.made k) :=
  ⟨congrArg Nat.succ s.nx, s.lg, s.log, fun j k' e => by
    rw [H.made_at] at e ⊢
    rw [s.nx]
    by_cases c : j = h.nx
    · rw [if_pos c] at e ⊢; exact e
    · rw [if_neg c] at e ⊢; exact s.blk j k' e⟩
def Ext {α : Type} (f : H → Option (α × H)) : Prop :=
  ∀ h a h', f h = some (a, h') → h.nx ≤ h'.nx ∧ (∀ b, h.at b = none → ¬(h.nx ≤ b ∧ b < h'.nx) → h'.at b = none) ∧ ∀ g, h.sub g → (∀ b, h.nx ≤ b → b < h'.nx → g.at b = none) →
    ∃ g', f g = some (a, g') ∧ h'.sub g' ∧ ∀ b, h.at b = none → ¬(h.nx ≤ b ∧ b < h'.nx) → g'.at b = g.at b
theorem Ext.pure {α : Type} (a : α) : Ext (fun h => some (a, h)) := fun h a' h' e => by
  simp only [Option.some.injEq, Prod.mk.injEq] at e
  obtain ⟨rfl, rfl⟩ := e
  exact ⟨Nat.le_refl _, fun _ hb _ => hb, fun g s _ => ⟨g, rfl, s, fun _ _ _ => rfl⟩⟩
theorem Ext.fail {α : Type} : Ext (fun _ => (none : Option (α × H))) := fun _ _ _ e => (nomatch e)
theorem Ext.bind {α β : Type} {f : H → Option (α × H)} {k : α → H → Option (β × H)} {q : H → Option (β × H)} (hf : Ext f) (hk : ∀ a, Ext (k a))
    (hq : ∀ h b h2, q h = some (b, h2) ↔ ∃ a h1, f h = some (a, h1) ∧ k a h1 = some (b, h2)) : Ext q := by
  intro h r h2 e
  obtain ⟨a, h1, e1, e2⟩ := (hq h r h2).1 e
  obtain ⟨n1, y1, x1⟩ := hf h a h1 e1
  obtain ⟨n2, y2, x2⟩ := hk a h1 r h2 e2
  refine ⟨Nat.le_trans n1 n2, fun b hb hr => y2 b (y1 b hb (by omega)) (by omega), fun g s hg => ?_⟩
  obtain ⟨g1, f1, s1, u1⟩ := x1 g s fun b c1 c2 => hg b c1 (by omega)
  have hn : ∀ b, g.at b = none → h.at b = none := fun b hb => by
    cases e : h.at b with
    | none => rfl
    | some k => rw [s.blk b k e] at hb; exact nomatch hb
  obtain ⟨g2, f2, s2, u2⟩ := x2 g1 s1 fun b c1 c2 => by
    have := hg b (by omega) c2
    rw [u1 b (hn b this) (by omega), this]
  refine ⟨g2, (hq _ _ _).2 ⟨a, g1, f1, f2⟩, s2, fun b hb hr => ?_⟩
  rw [u2 b (y1 b hb (by omega)) (by omega), u1 b hb (by omega)]
abbrev Kal (α : Type) := (R : Type) → H → (α → H → Option R) → Option R
def run {α : Type} (f : Kal α) (h : H) : Option (α × H) := f (α × H) h fun a h' => some (a, h')
structure Good {α : Type} (f : Kal α) : Prop where
  law : ∀ (R : Type) (h : H) (K : α → H → Option R) (r : R), f R h K = some r ↔ ∃ a h', run f h = some (a, h') ∧ K a h' = some r
  loc : Local (run f)
  ext : Ext (run f)
def Le {R : Type} (x y : Option R) : Prop := ∀ r, x = some r → y = some r
theorem Le.refl {R : Type} (x : Option R) : Le x x := fun _ h => h
theorem Le.trans {R : Type} {x y z : Option R} (h : Le x y) (h' : Le y z) : Le x z := fun r e => h' r (h r e)
theorem Le.none {R : Type} (y : Option R) : Le Option.none y := fun _ h => nomatch h
def KLe {α : Type} (f g : Kal α) : Prop := ∀ (R : Type) (h : H) (K K' : α → H → Option R), (∀ a h, Le (K a h) (K' a h)) → Le (f R h K) (g R h K')
theorem Good.kle {α : Type} {f : Kal α} (hf : Good f) : KLe f f := fun R h K K' hk r e => by
  obtain ⟨a, h', e1, e2⟩ := (hf.law _ _ _ _).1 e
  exact (hf.law _ _ _ _).2 ⟨a, h', e1, hk a h' r e2⟩
theorem Good.pure {α : Type} (a : α) : Good (fun _ h K => K a h) :=
  ⟨fun R h K r => ⟨fun e => ⟨a, h, rfl, e⟩, fun ⟨a', h', e1, e2⟩ => by simp only [run, Option.some.injEq, Prod.mk.injEq] at e1; obtain ⟨rfl, rfl⟩ := e1; exact e2⟩, Local.pure a, Ext.pure a⟩
theorem Good.fail {α : Type} : Good (fun _ _ _ => none : Kal α) :=
  ⟨fun R h K r => ⟨fun e => (nomatch e), fun ⟨_, _, e1, _⟩ => (nomatch e1)⟩, Local.fail, Ext.fail⟩
theorem Good.bind {α β : Type} {f : Kal α} {k : α → Kal β} (hf : Good f) (hk : ∀ a, Good (k a)) : Good (fun R h K => f R h fun a h1 => k a R h1 K) := by
  have q : ∀ h b h2, run (fun R h K => f R h fun a h1 => k a R h1 K) h = some (b, h2) ↔ ∃ a h1, run f h = some (a, h1) ∧ run (k a) h1 = some (b, h2) :=
    fun h b h2 => hf.law _ h _ _
  refine ⟨fun R h K r => ?_, Local.bind hf.loc (fun a => (hk a).loc) q, Ext.bind hf.ext (fun a => (hk a).ext) q⟩
  constructor
  · intro e
    obtain ⟨a, h1, e1, e2⟩ := (hf.law _ _ _ _).1 e
    obtain ⟨b, h2, e3, e4⟩ := ((hk a).law _ _ _ _).1 e2
    exact ⟨b, h2, (q h b h2).2 ⟨a, h1, e1, e3⟩, e4⟩
  · rintro ⟨b, h2, e1, e2⟩
    obtain ⟨a, h1, e3, e4⟩ := (q h b h2).1 e1
    exact (hf.law _ _ _ _).2 ⟨a, h1, e3, ((hk a).law _ _ _ _).2 ⟨b, h2, e4, e2⟩⟩
theorem Good.run_bind {α β : Type} {f : Kal α} {k : α → Kal β} (hf : Good f) {h : H} {b : β} {h2 : H} :
    run (fun R h K => f R h fun a h1 => k a R h1 K) h = some (b, h2) ↔ ∃ a h1, run f h = some (a, h1) ∧ run (k a) h1 = some (b, h2) := hf.law _ h _ _
def lift {α : Type} (o : Option α) : Kal α := fun _ h K => Option.rec none (fun a => K a h) o
theorem Good.lift {α : Type} (o : Option α) : Good (lift o) := by
  cases o with
  | none => exact Good.fail
  | some a => exact Good.pure a
theorem run_lift {α : Type} {o : Option α} {h : H} {a : α} {h' : H} : run (lift o) h = some (a, h') ↔ o = some a ∧ h' = h := by
  cases o with
  | none => exact ⟨fun e => (nomatch e), fun ⟨e, _⟩ => (nomatch e)⟩
  | some v =>
    constructor
    · intro e
      have e' : some (v, h) = some (a, h') := e
      simp only [Option.some.injEq, Prod.mk.injEq] at e'
      exact ⟨by rw [e'.1], e'.2.symm⟩
    · rintro ⟨e1, rfl⟩
      simp only [Option.some.injEq] at e1
      rw [e1]; rfl
theorem run_pure {α : Type} {v : α} {h : H} {a : α} {h' : H} : run (fun _ h K => K v h) h = some (a, h') ↔ a = v ∧ h' = h := by
  constructor
  · intro e
    have e' : some (v, h) = some (a, h') := e
    simp only [Option.some.injEq, Prod.mk.injEq] at e'
    exact ⟨e'.1.symm, e'.2.symm⟩
  · rintro ⟨rfl, rfl⟩; rfl
theorem ble_if {β : Type} (k j : Nat) (a b : β) : (Bool.rec a b (Nat.ble k j) : β) = if k ≤ j then b else a := by
  by_cases h : k ≤ j
  · rw [if_pos h, Nat.ble_eq_true_of_le h]
  · rw [if_neg h]
    cases hb : Nat.ble k j with
    | false => rfl
    | true => exact absurd (Nat.le_of_ble_eq_true hb) h
def read (b : Nat) : Kal Blk := fun R h K => H.rec (fun hp nx lg log => Option.rec none (fun k => Bool.rec none (Bool.rec (K k h) (K k ⟨hp, nx, true, (b, false) :: log⟩) lg) (Nat.ble (Nat.succ b) nx)) (hp.get b)) h
theorem read_eq (b : Nat) (R : Type) (h : H) (K : Blk → H → Option R) : read b R h K = Th.getK (fun k => Bool.rec none (Bool.rec (K k h) (K k ⟨h.hp, h.nx, h.lg, (b, false) :: h.log⟩) h.lg) (Nat.ble (Nat.succ b) h.nx)) h.hp b := by
  obtain ⟨hp, nx, lg, log⟩ := h
  cases lg <;> rfl
theorem note_rec (b : Nat) (h : H) (k : Blk) (R : Type) (K : Blk → H → Option R) : (Bool.rec (K k h) (K k ⟨h.hp, h.nx, h.lg, (b, false) :: h.log⟩) h.lg : Option R) = K k (h.note b) := by
  unfold H.note; cases h.lg <;> rfl
def write (b : Nat) (k : Blk) : Kal Unit := fun _ h K => Th.getK (fun _ => Bool.rec none (K () (h.wrote b k)) (Nat.ble (Nat.succ b) h.nx)) h.hp b
def newB (k : Blk) : Kal Nat := fun R h K => H.rec (fun hp nx lg log => Nat.rec (Option.rec (K Nat.zero ⟨hp.put k Nat.zero, Nat.succ Nat.zero, lg, log⟩) (fun _ => none) (hp.get Nat.zero))
  (fun m _ => Option.rec (K (Nat.succ m) ⟨hp.put k (Nat.succ m), Nat.succ (Nat.succ m), lg, log⟩) (fun _ => none) (hp.get (Nat.succ m))) nx) h
theorem newB_eq (k : Blk) (R : Type) (h : H) (K : Nat → H → Option R) : newB k R h K = Option.rec (K h.nx (h.made k)) (fun _ => none) (h.hp.get h.nx) := by
  obtain ⟨hp, nx, lg, log⟩ := h
  cases nx <;> rfl
theorem read_some (b : Nat) (R : Type) (h : H) (K : Blk → H → Option R) (r : R) : read b R h K = some r ↔ ∃ k, h.at b = some k ∧ b < h.nx ∧ K k (h.note b) = some r := by
  rw [read_eq, Th.getK_get]
  rw [show h.hp.get b = h.at b from rfl]
  cases hb : h.at b with
  | none => simp
  | some k =>
    dsimp only
    rw [note_rec, ble_if]
    by_cases c : b < h.nx
    · rw [if_pos (show b.succ ≤ h.nx from c)]
      exact ⟨fun e => ⟨k, rfl, c, e⟩, fun ⟨k', e1, _, e2⟩ => by simp only [Option.some.injEq] at e1; rw [e1]; exact e2⟩
    · rw [if_neg (show ¬ b.succ ≤ h.nx from c)]
      exact ⟨fun e => (nomatch e), fun ⟨_, _, e, _⟩ => absurd e c⟩
theorem write_some (b : Nat) (k : Blk) (R : Type) (h : H) (K : Unit → H → Option R) (r : R) : write b k R h K = some r ↔ (∃ k', h.at b = some k') ∧ b < h.nx ∧ K () (h.wrote b k) = some r := by
  unfold write
  rw [Th.getK_get]
  rw [show h.hp.get b = h.at b from rfl]
  cases hb : h.at b with
  | none => simp
  | some k' =>
    dsimp only
    rw [ble_if]
    by_cases c : b < h.nx
    · rw [if_pos (show b.succ ≤ h.nx from c)]
      exact ⟨fun e => ⟨⟨k', rfl⟩, c, e⟩, fun ⟨_, _, e2⟩ => e2⟩
    · rw [if_neg (show ¬ b.succ ≤ h.nx from c)]
      exact ⟨fun e => (nomatch e), fun ⟨_, e, _⟩ => absurd e c⟩
theorem new_some (k : Blk) (R : Type) (h : H) (K : Nat → H → Option R) (r : R) : newB k R h K = some r ↔ h.at h.nx = none ∧ K h.nx (h.made k) = some r := by
  rw [newB_eq]
  show (Option.rec _ _ (h.at h.nx) : Option R) = _ ↔ _
  cases h.at h.nx with
  | none => exact ⟨fun e => ⟨rfl, e⟩, fun e => e.2⟩
  | some k' => exact ⟨fun e => (nomatch e), fun e => (nomatch e.1)⟩
theorem run_read {b : Nat} {h : H} {k : Blk} {h' : H} : run (read b) h = some (k, h') ↔ h.at b = some k ∧ b < h.nx ∧ h' = h.note b := by
  refine (read_some b _ h _ _).trans ?_
  constructor
  · rintro ⟨k', e1, e2, e3⟩
    simp only [Option.some.injEq, Prod.mk.injEq] at e3
    obtain ⟨rfl, rfl⟩ := e3
    exact ⟨e1, e2, rfl⟩
  · rintro ⟨e1, e2, rfl⟩; exact ⟨k, e1, e2, rfl⟩
theorem run_write {b : Nat} {k : Blk} {h : H} {u : Unit} {h' : H} : run (write b k) h = some (u, h') ↔ (∃ k', h.at b = some k') ∧ b < h.nx ∧ h' = h.wrote b k := by
  refine (write_some b k _ h _ _).trans ?_
  constructor
  · rintro ⟨e1, e2, e3⟩
    simp only [Option.some.injEq, Prod.mk.injEq] at e3
    exact ⟨e1, e2, e3.2.symm⟩
  · rintro ⟨e1, e2, rfl⟩; exact ⟨e1, e2, rfl⟩
theorem run_new {k : Blk} {h : H} {b : Nat} {h' : H} : run (newB k) h = some (b, h') ↔ h.at h.nx = none ∧ b = h.nx ∧ h' = h.made k := by
  refine (new_some k _ h _ _).trans ?_
  constructor
  · rintro ⟨e1, e3⟩
    simp only [Option.some.injEq, Prod.mk.injEq] at e3
    exact ⟨e1, e3.1.symm, e3.2.symm⟩
  · rintro ⟨e1, rfl, rfl⟩; exact ⟨e1, rfl⟩
theorem Good.read (b : Nat) : Good (read b) := by
  refine ⟨fun R h K r => ?_, ?_, ?_⟩
  · rw [read_some]
    constructor
    · rintro ⟨k, e1, e2, e3⟩; exact ⟨k, _, run_read.2 ⟨e1, e2, rfl⟩, e3⟩
    · rintro ⟨k, h', e1, e2⟩; obtain ⟨q1, e3, rfl⟩ := run_read.1 e1; exact ⟨k, q1, e3, e2⟩
  · intro h k h' e hl
    obtain ⟨hb, hn, rfl⟩ := run_read.1 e
    refine ⟨[(b, false)], H.note_log h b hl, by rw [H.note_lg, hl], by rw [H.note_nx]; exact Nat.le_refl _, fun b' w hm => ?_, fun b' _ _ => H.note_at _ _ _,
      fun g hg hgn ha _ => ⟨g.note b, run_read.2 ⟨?_, ?_, rfl⟩, H.note_log g b hg, by rw [H.note_lg, hg], by rw [H.note_nx, H.note_nx, hgn], fun b' hb' => ?_, fun b' _ _ => H.note_at _ _ _⟩⟩
    · simp only [List.mem_singleton, Prod.mk.injEq] at hm; obtain ⟨rfl, _⟩ := hm; rw [H.note_nx]; exact hn
    · rw [ha b false (List.mem_singleton.2 rfl) hn, hb]
    · rw [hgn]; exact hn
    · rcases hb' with hm | ⟨h1, h2⟩
      · simp at hm
      · rw [H.note_nx] at h2; exact absurd h2 (Nat.not_lt.2 h1)
  · intro h k h' e
    obtain ⟨hb, hn, rfl⟩ := run_read.1 e
    exact ⟨by rw [H.note_nx]; exact Nat.le_refl _, fun j hj _ => by rw [H.note_at]; exact hj, fun g s _ => ⟨g.note b, run_read.2 ⟨s.blk b k hb, by rw [s.nx]; exact hn, rfl⟩, H.sub_note s b, fun j _ _ => H.note_at _ _ _⟩⟩
theorem Good.write (b : Nat) (k : Blk) : Good (write b k) := by
  refine ⟨fun R h K r => ?_, ?_, ?_⟩
  · rw [write_some]
    constructor
    · rintro ⟨e1, e2, e3⟩; exact ⟨(), _, run_write.2 ⟨e1, e2, rfl⟩, e3⟩
    · rintro ⟨u, h', e1, e2⟩; obtain ⟨q1, e3, rfl⟩ := run_write.1 e1; exact ⟨q1, e3, e2⟩
  · intro h u h' e hl
    obtain ⟨⟨k0, hb⟩, hn, rfl⟩ := run_write.1 e
    refine ⟨[(b, true)], H.wrote_log h b k hl, (H.wrote_lg h b k).trans hl, Nat.le_of_eq (H.wrote_nx h b k).symm, fun b' w hm => ?_, fun b' hb' _ => ?_,
      fun g hg hgn ha _ => ⟨_, run_write.2 ⟨⟨k0, ?_⟩, ?_, rfl⟩, H.wrote_log g b k hg, (H.wrote_lg g b k).trans hg, by rw [H.wrote_nx, H.wrote_nx, hgn], fun b' hb' => ?_, fun b' hb' _ => ?_⟩⟩
    · simp only [List.mem_singleton, Prod.mk.injEq] at hm; obtain ⟨rfl, _⟩ := hm; rw [H.wrote_nx]; exact hn
    · rw [H.wrote_at, if_neg (fun c => hb' (by rw [c]; exact List.mem_singleton.2 rfl))]
    · rw [ha b true (List.mem_singleton.2 rfl) hn, hb]
    · rw [hgn]; exact hn
    · rcases hb' with hm | ⟨h1, h2⟩
      · simp only [List.mem_singleton, Prod.mk.injEq, and_true] at hm
        rw [H.wrote_at, H.wrote_at, if_pos hm, if_pos hm]
      · rw [H.wrote_nx] at h2; exact absurd h2 (Nat.not_lt.2 h1)
    · rw [H.wrote_at, if_neg (fun c => hb' (by rw [c]; exact List.mem_singleton.2 rfl))]
  · intro h u h' e
    obtain ⟨⟨k0, hb⟩, hn, rfl⟩ := run_write.1 e
    have ne : ∀ j, h.at j = none → j ≠ b := fun j hj c => by rw [c, hb] at hj; exact nomatch hj
    exact ⟨Nat.le_of_eq (H.wrote_nx h b k).symm, fun j hj _ => by rw [H.wrote_at, if_neg (ne j hj)]; exact hj, fun g s _ => ⟨_, run_write.2 ⟨⟨k0, s.blk b k0 hb⟩, by rw [s.nx]; exact hn, rfl⟩, H.sub_wrote s b k,
      fun j hj _ => by rw [H.wrote_at, if_neg (ne j hj)]⟩⟩
theorem H.made_nx (h : H) (k : Blk) : (h.made k).nx = h.nx + 1 := rfl
theorem Good.new (k : Blk) : Good (newB k) := by
  refine ⟨fun R h K r => ?_, ?_, ?_⟩
  · rw [new_some]
    constructor
    · rintro ⟨e1, e3⟩; exact ⟨h.nx, _, run_new.2 ⟨e1, rfl, rfl⟩, e3⟩
    · rintro ⟨b, h', e1, e2⟩; obtain ⟨q1, rfl, rfl⟩ := run_new.1 e1; exact ⟨q1, e2⟩
  · intro h b h' e hl
    obtain ⟨hb, rfl, rfl⟩ := run_new.1 e
    refine ⟨[], rfl, hl, by rw [H.made_nx]; omega, fun _ _ hm => (nomatch hm), fun b' _ hb' => ?_,
      fun g hg hgn _ hf => ⟨_, run_new.2 ⟨?_, hgn.symm, rfl⟩, rfl, hg, by rw [H.made_nx, H.made_nx, hgn], fun b' hb' => ?_, fun b' _ hb' => ?_⟩⟩
    · rw [H.made_nx] at hb'
      rw [H.made_at, if_neg (fun c => hb' ⟨by omega, by omega⟩)]
    · rw [hgn, hf h.nx (Nat.le_refl _) (by rw [H.made_nx]; omega), hb]
    · rcases hb' with hm | ⟨h1, h2⟩
      · exact nomatch hm
      · rw [H.made_nx] at h2
        rw [H.made_at, H.made_at, if_pos (by omega), if_pos (by omega)]
    · rw [H.made_nx] at hb'
      rw [H.made_at, if_neg (fun c => hb' ⟨by omega, by omega⟩)]
  · intro h b h' e
    obtain ⟨hb, rfl, rfl⟩ := run_new.1 e
    refine ⟨by rw [H.made_nx]; omega, fun j hj hr => ?_, fun g s hg => ⟨_, run_new.2 ⟨?_, s.nx.symm, rfl⟩, H.sub_made s k, fun j hj hr => ?_⟩⟩
    · rw [H.made_nx] at hr
      rw [H.made_at, if_neg (fun c => hr ⟨by omega, by omega⟩)]; exact hj
    · rw [s.nx]; exact hg h.nx (Nat.le_refl _) (by rw [H.made_nx]; omega)
    · rw [H.made_nx] at hr
      rw [H.made_at, s.nx, if_neg (fun c => hr ⟨by omega, by omega⟩)]
def logged {α : Type} (f : Kal α) : Kal (α × List (Nat × Bool) × Nat) := fun R h K =>
  H.rec (fun hp nx lg log => f R ⟨hp, nx, true, []⟩ fun a h1 => H.rec (fun hp1 nx1 _ log1 => Bool.rec (K (a, log1, nx1) ⟨hp1, nx1, false, log⟩) (K (a, log1, nx1) ⟨hp1, nx1, true, cat log1 log⟩) lg) h1) h
theorem logged_eq {α : Type} (f : Kal α) (R : Type) (h : H) (K : α × List (Nat × Bool) × Nat → H → Option R) : logged f R h K =
    f R ⟨h.hp, h.nx, true, []⟩ fun a h1 => K (a, h1.log, h1.nx) ⟨h1.hp, h1.nx, h.lg, Bool.rec h.log (h1.log ++ h.log) h.lg⟩ := by
  obtain ⟨hp, nx, lg, log⟩ := h
  have e : (fun (a : α) (h1 : H) => (H.rec (fun hp1 nx1 _ log1 => Bool.rec (K (a, log1, nx1) ⟨hp1, nx1, false, log⟩) (K (a, log1, nx1) ⟨hp1, nx1, true, cat log1 log⟩) lg) h1 : Option R)) =
      fun a h1 => K (a, h1.log, h1.nx) ⟨h1.hp, h1.nx, lg, Bool.rec log (h1.log ++ log) lg⟩ := by
    funext a h1
    obtain ⟨hp1, nx1, lg1, log1⟩ := h1
    cases lg
    · rfl
    · show K _ ⟨hp1, nx1, true, cat log1 log⟩ = _
      rw [cat_eq]
  exact congrArg (f R ⟨hp, nx, true, []⟩) e
theorem run_logged {α : Type} {f : Kal α} (hf : Good f) {h : H} {a : α} {l : List (Nat × Bool)} {n : Nat} {h' : H} :
    run (logged f) h = some ((a, l, n), h') ↔ ∃ h1, run f ⟨h.hp, h.nx, true, []⟩ = some (a, h1) ∧ l = h1.log ∧ n = h1.nx ∧ h' = ⟨h1.hp, h1.nx, h.lg, Bool.rec h.log (h1.log ++ h.log) h.lg⟩ := by
  rw [run, logged_eq]
  refine (hf.law _ _ _ _).trans ?_
  constructor
  · rintro ⟨a', h1, e1, e2⟩
    simp only [Option.some.injEq, Prod.mk.injEq] at e2
    obtain ⟨⟨rfl, rfl, rfl⟩, rfl⟩ := e2
    exact ⟨h1, e1, rfl, rfl, rfl⟩
  · rintro ⟨h1, e1, rfl, rfl, rfl⟩; exact ⟨a, h1, e1, rfl⟩
theorem Good.logged {α : Type} {f : Kal α} (hf : Good f) : Good (logged f) := by
  refine ⟨fun R h K r => ?_, ?_, ?_⟩
  · rw [logged_eq]
    refine (hf.law _ _ _ _).trans ?_
    constructor
    · rintro ⟨a, h1, e1, e2⟩; exact ⟨(a, h1.log, h1.nx), _, (run_logged hf).2 ⟨h1, e1, rfl, rfl, rfl⟩, e2⟩
    · rintro ⟨⟨a, l, n⟩, h', e1, e2⟩
      obtain ⟨h1, q1, rfl, rfl, rfl⟩ := (run_logged hf).1 e1
      exact ⟨a, h1, q1, e2⟩
  · rintro h ⟨a, l, n⟩ h' e hl
    obtain ⟨h1, hfe, rfl, rfl, rfl⟩ := (run_logged hf).1 e
    obtain ⟨l1, e1, hl1, n1, b1, u1, a1⟩ := hf.loc _ a h1 hfe rfl
    rw [List.append_nil] at e1
    refine ⟨l1, by rw [hl, e1], hl, n1, b1, u1, fun g hg hgn ha hfr => ?_⟩
    obtain ⟨g1, f1, q1, ql1, qn1, qw1, qu1⟩ := a1 ⟨g.hp, g.nx, true, []⟩ rfl hgn ha hfr
    rw [List.append_nil] at q1
    refine ⟨⟨g1.hp, g1.nx, g.lg, Bool.rec g.log (g1.log ++ g.log) g.lg⟩, (run_logged hf).2 ⟨g1, f1, by rw [q1, e1], qn1.symm, rfl⟩, by rw [hg, q1], hg, qn1, qw1, qu1⟩
  · rintro h ⟨a, l, n⟩ h' e
    obtain ⟨h1, hfe, rfl, rfl, rfl⟩ := (run_logged hf).1 e
    obtain ⟨n1, y1, x1⟩ := hf.ext _ a h1 hfe
    refine ⟨n1, y1, fun g s hg => ?_⟩
    obtain ⟨g1, f1, s1, u1⟩ := x1 ⟨g.hp, g.nx, true, []⟩ ⟨s.nx, rfl, rfl, s.blk⟩ hg
    refine ⟨⟨g1.hp, g1.nx, g.lg, Bool.rec g.log (g1.log ++ g.log) g.lg⟩, (run_logged hf).2 ⟨g1, f1, s1.log.symm, s1.nx.symm, rfl⟩, ⟨s1.nx, s.lg, ?_, s1.blk⟩, u1⟩
    show (Bool.rec g.log (g1.log ++ g.log) g.lg : List (Nat × Bool)) = Bool.rec h.log (h1.log ++ h.log) h.lg
    rw [s.lg, s.log, s1.log]
end
end Go.X
