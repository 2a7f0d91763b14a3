/- A text of the verified executor, of contracts, or of this law; joined and trimmed by a program of mine (wip/gen). -/
import Derived.Test.YthkipncmnefomaaXEv
set_option linter.unusedVariables false
set_option linter.unusedSimpArgs false
set_option linter.unusedSectionVars false
namespace Go.X.Ev
noncomputable section
variable {R : Type} {Q : Option R → Prop}
theorem loop2 {z : V → V → H → Option R} {f : (V → V → H → Option R) → V → V → H → Option R} (I : Nat → V → V → H → Prop) (step : ∀ (d : Nat) (k : V → V → H → Option R) (x0 x1 : V) (h : H), I d x0 x1 h → (∀ (d' : Nat) (y0 y1 : V) (h' : H), d' < d → I d' y0 y1 h' → Q (k y0 y1 h')) → Q (f k x0 x1 h)) (d : Nat) {x0 x1 : V} {h : H} (hd : d < 1000000) (hi : I d x0 x1 h) : Q (fixN z f x0 x1 h) := by
  have key : ∀ (M d : Nat) (x0 x1 : V) (h : H), d < M → I d x0 x1 h → Q (fixM z f M x0 x1 h) := by
    intro M
    induction M with
    | zero => intro d x0 x1 h hd _; exact absurd hd (Nat.not_lt_zero _)
    | succ M ih => intro d x0 x1 h hd hi; exact step d (fixM z f M) x0 x1 h hi fun d' y0 y1 h' hl hi' => ih d' y0 y1 h' (by omega) hi'
  exact key 1000000 d x0 x1 h hd hi
theorem loop4 {z : V → V → V → V → H → Option R} {f : (V → V → V → V → H → Option R) → V → V → V → V → H → Option R} (I : Nat → V → V → V → V → H → Prop) (step : ∀ (d : Nat) (k : V → V → V → V → H → Option R) (x0 x1 x2 x3 : V) (h : H), I d x0 x1 x2 x3 h → (∀ (d' : Nat) (y0 y1 y2 y3 : V) (h' : H), d' < d → I d' y0 y1 y2 y3 h' → Q (k y0 y1 y2 y3 h')) → Q (f k x0 x1 x2 x3 h)) (d : Nat) {x0 x1 x2 x3 : V} {h : H} (hd : d < 1000000) (hi : I d x0 x1 x2 x3 h) : Q (fixN z f x0 x1 x2 x3 h) := by
  have key : ∀ (M d : Nat) (x0 x1 x2 x3 : V) (h : H), d < M → I d x0 x1 x2 x3 h → Q (fixM z f M x0 x1 x2 x3 h) := by
    intro M
    induction M with
    | zero => intro d x0 x1 x2 x3 h hd _; exact absurd hd (Nat.not_lt_zero _)
    | succ M ih => intro d x0 x1 x2 x3 h hd hi; exact step d (fixM z f M) x0 x1 x2 x3 h hi fun d' y0 y1 y2 y3 h' hl hi' => ih d' y0 y1 y2 y3 h' (by omega) hi'
  exact key 1000000 d x0 x1 x2 x3 h hd hi
theorem loop5 {z : V → V → V → V → V → H → Option R} {f : (V → V → V → V → V → H → Option R) → V → V → V → V → V → H → Option R} (I : Nat → V → V → V → V → V → H → Prop) (step : ∀ (d : Nat) (k : V → V → V → V → V → H → Option R) (x0 x1 x2 x3 x4 : V) (h : H), I d x0 x1 x2 x3 x4 h → (∀ (d' : Nat) (y0 y1 y2 y3 y4 : V) (h' : H), d' < d → I d' y0 y1 y2 y3 y4 h' → Q (k y0 y1 y2 y3 y4 h')) → Q (f k x0 x1 x2 x3 x4 h)) (d : Nat) {x0 x1 x2 x3 x4 : V} {h : H} (hd : d < 1000000) (hi : I d x0 x1 x2 x3 x4 h) : Q (fixN z f x0 x1 x2 x3 x4 h) := by
  have key : ∀ (M d : Nat) (x0 x1 x2 x3 x4 : V) (h : H), d < M → I d x0 x1 x2 x3 x4 h → Q (fixM z f M x0 x1 x2 x3 x4 h) := by
    intro M
    induction M with
    | zero => intro d x0 x1 x2 x3 x4 h hd _; exact absurd hd (Nat.not_lt_zero _)
    | succ M ih => intro d x0 x1 x2 x3 x4 h hd hi; exact step d (fixM z f M) x0 x1 x2 x3 x4 h hi fun d' y0 y1 y2 y3 y4 h' hl hi' => ih d' y0 y1 y2 y3 y4 h' (by omega) hi'
  exact key 1000000 d x0 x1 x2 x3 x4 h hd hi
theorem loop6 {z : V → V → V → V → V → V → H → Option R} {f : (V → V → V → V → V → V → H → Option R) → V → V → V → V → V → V → H → Option R} (I : Nat → V → V → V → V → V → V → H → Prop) (step : ∀ (d : Nat) (k : V → V → V → V → V → V → H → Option R) (x0 x1 x2 x3 x4 x5 : V) (h : H), I d x0 x1 x2 x3 x4 x5 h → (∀ (d' : Nat) (y0 y1 y2 y3 y4 y5 : V) (h' : H), d' < d → I d' y0 y1 y2 y3 y4 y5 h' → Q (k y0 y1 y2 y3 y4 y5 h')) → Q (f k x0 x1 x2 x3 x4 x5 h)) (d : Nat) {x0 x1 x2 x3 x4 x5 : V} {h : H} (hd : d < 1000000) (hi : I d x0 x1 x2 x3 x4 x5 h) : Q (fixN z f x0 x1 x2 x3 x4 x5 h) := by
  have key : ∀ (M d : Nat) (x0 x1 x2 x3 x4 x5 : V) (h : H), d < M → I d x0 x1 x2 x3 x4 x5 h → Q (fixM z f M x0 x1 x2 x3 x4 x5 h) := by
    intro M
    induction M with
    | zero => intro d x0 x1 x2 x3 x4 x5 h hd _; exact absurd hd (Nat.not_lt_zero _)
    | succ M ih => intro d x0 x1 x2 x3 x4 x5 h hd hi; exact step d (fixM z f M) x0 x1 x2 x3 x4 x5 h hi fun d' y0 y1 y2 y3 y4 y5 h' hl hi' => ih d' y0 y1 y2 y3 y4 y5 h' (by omega) hi'
  exact key 1000000 d x0 x1 x2 x3 x4 x5 h hd hi
theorem loop10 {z : V → V → V → V → V → V → V → V → V → V → H → Option R} {f : (V → V → V → V → V → V → V → V → V → V → H → Option R) → V → V → V → V → V → V → V → V → V → V → H → Option R} (I : Nat → V → V → V → V → V → V → V → V → V → V → H → Prop) (step : ∀ (d : Nat) (k : V → V → V → V → V → V → V → V → V → V → H → Option R) (x0 x1 x2 x3 x4 x5 x6 x7 x8 x9 : V) (h : H), I d x0 x1 x2 x3 x4 x5 x6 x7 x8 x9 h → (∀ (d' : Nat) (y0 y1 y2 y3 y4 y5 y6 y7 y8 y9 : V) (h' : H), d' < d → I d' y0 y1 y2 y3 y4 y5 y6 y7 y8 y9 h' → Q (k y0 y1 y2 y3 y4 y5 y6 y7 y8 y9 h')) → Q (f k x0 x1 x2 x3 x4 x5 x6 x7 x8 x9 h)) (d : Nat) {x0 x1 x2 x3 x4 x5 x6 x7 x8 x9 : V} {h : H} (hd : d < 1000000) (hi : I d x0 x1 x2 x3 x4 x5 x6 x7 x8 x9 h) : Q (fixN z f x0 x1 x2 x3 x4 x5 x6 x7 x8 x9 h) := by
  have key : ∀ (M d : Nat) (x0 x1 x2 x3 x4 x5 x6 x7 x8 x9 : V) (h : H), d < M → I d x0 x1 x2 x3 x4 x5 x6 x7 x8 x9 h → Q (fixM z f M x0 x1 x2 x3 x4 x5 x6 x7 x8 x9 h) := by
    intro M
    induction M with
    | zero => intro d x0 x1 x2 x3 x4 x5 x6 x7 x8 x9 h hd _; exact absurd hd (Nat.not_lt_zero _)
    | succ M ih => intro d x0 x1 x2 x3 x4 x5 x6 x7 x8 x9 h hd hi; exact step d (fixM z f M) x0 x1 x2 x3 x4 x5 x6 x7 x8 x9 h hi fun d' y0 y1 y2 y3 y4 y5 y6 y7 y8 y9 h' hl hi' => ih d' y0 y1 y2 y3 y4 y5 y6 y7 y8 y9 h' (by omega) hi'
  exact key 1000000 d x0 x1 x2 x3 x4 x5 x6 x7 x8 x9 h hd hi
theorem loop13 {z : V → V → V → V → V → V → V → V → V → V → V → V → V → H → Option R} {f : (V → V → V → V → V → V → V → V → V → V → V → V → V → H → Option R) → V → V → V → V → V → V → V → V → V → V → V → V → V → H → Option R} (I : Nat → V → V → V → V → V → V → V → V → V → V → V → V → V → H → Prop) (step : ∀ (d : Nat) (k : V → V → V → V → V → V → V → V → V → V → V → V → V → H → Option R) (x0 x1 x2 x3 x4 x5 x6 x7 x8 x9 x10 x11 x12 : V) (h : H), I d x0 x1 x2 x3 x4 x5 x6 x7 x8 x9 x10 x11 x12 h → (∀ (d' : Nat) (y0 y1 y2 y3 y4 y5 y6 y7 y8 y9 y10 y11 y12 : V) (h' : H), d' < d → I d' y0 y1 y2 y3 y4 y5 y6 y7 y8 y9 y10 y11 y12 h' → Q (k y0 y1 y2 y3 y4 y5 y6 y7 y8 y9 y10 y11 y12 h')) → Q (f k x0 x1 x2 x3 x4 x5 x6 x7 x8 x9 x10 x11 x12 h)) (d : Nat) {x0 x1 x2 x3 x4 x5 x6 x7 x8 x9 x10 x11 x12 : V} {h : H} (hd : d < 1000000) (hi : I d x0 x1 x2 x3 x4 x5 x6 x7 x8 x9 x10 x11 x12 h) : Q (fixN z f x0 x1 x2 x3 x4 x5 x6 x7 x8 x9 x10 x11 x12 h) := by
  have key : ∀ (M d : Nat) (x0 x1 x2 x3 x4 x5 x6 x7 x8 x9 x10 x11 x12 : V) (h : H), d < M → I d x0 x1 x2 x3 x4 x5 x6 x7 x8 x9 x10 x11 x12 h → Q (fixM z f M x0 x1 x2 x3 x4 x5 x6 x7 x8 x9 x10 x11 x12 h) := by
    intro M
    induction M with
    | zero => intro d x0 x1 x2 x3 x4 x5 x6 x7 x8 x9 x10 x11 x12 h hd _; exact absurd hd (Nat.not_lt_zero _)
    | succ M ih => intro d x0 x1 x2 x3 x4 x5 x6 x7 x8 x9 x10 x11 x12 h hd hi; exact step d (fixM z f M) x0 x1 x2 x3 x4 x5 x6 x7 x8 x9 x10 x11 x12 h hi fun d' y0 y1 y2 y3 y4 y5 y6 y7 y8 y9 y10 y11 y12 h' hl hi' => ih d' y0 y1 y2 y3 y4 y5 y6 y7 y8 y9 y10 y11 y12 h' (by omega) hi'
  exact key 1000000 d x0 x1 x2 x3 x4 x5 x6 x7 x8 x9 x10 x11 x12 h hd hi
theorem loop14 {z : V → V → V → V → V → V → V → V → V → V → V → V → V → V → H → Option R} {f : (V → V → V → V → V → V → V → V → V → V → V → V → V → V → H → Option R) → V → V → V → V → V → V → V → V → V → V → V → V → V → V → H → Option R} (I : Nat → V → V → V → V → V → V → V → V → V → V → V → V → V → V → H → Prop) (step : ∀ (d : Nat) (k : V → V → V → V → V → V → V → V → V → V → V → V → V → V → H → Option R) (x0 x1 x2 x3 x4 x5 x6 x7 x8 x9 x10 x11 x12 x13 : V) (h : H), I d x0 x1 x2 x3 x4 x5 x6 x7 x8 x9 x10 x11 x12 x13 h → (∀ (d' : Nat) (y0 y1 y2 y3 y4 y5 y6 y7 y8 y9 y10 y11 y12 y13 : V) (h' : H), d' < d → I d' y0 y1 y2 y3 y4 y5 y6 y7 y8 y9 y10 y11 y12 y13 h' → Q (k y0 y1 y2 y3 y4 y5 y6 y7 y8 y9 y10 y11 y12 y13 h')) → Q (f k x0 x1 x2 x3 x4 x5 x6 x7 x8 x9 x10 x11 x12 x13 h)) (d : Nat) {x0 x1 x2 x3 x4 x5 x6 x7 x8 x9 x10 x11 x12 x13 : V} {h : H} (hd : d < 1000000) (hi : I d x0 x1 x2 x3 x4 x5 x6 x7 x8 x9 x10 x11 x12 x13 h) : Q (fixN z f x0 x1 x2 x3 x4 x5 x6 x7 x8 x9 x10 x11 x12 x13 h) := by
  have key : ∀ (M d : Nat) (x0 x1 x2 x3 x4 x5 x6 x7 x8 x9 x10 x11 x12 x13 : V) (h : H), d < M → I d x0 x1 x2 x3 x4 x5 x6 x7 x8 x9 x10 x11 x12 x13 h → Q (fixM z f M x0 x1 x2 x3 x4 x5 x6 x7 x8 x9 x10 x11 x12 x13 h) := by
    intro M
    induction M with
    | zero => intro d x0 x1 x2 x3 x4 x5 x6 x7 x8 x9 x10 x11 x12 x13 h hd _; exact absurd hd (Nat.not_lt_zero _)
    | succ M ih => intro d x0 x1 x2 x3 x4 x5 x6 x7 x8 x9 x10 x11 x12 x13 h hd hi; exact step d (fixM z f M) x0 x1 x2 x3 x4 x5 x6 x7 x8 x9 x10 x11 x12 x13 h hi fun d' y0 y1 y2 y3 y4 y5 y6 y7 y8 y9 y10 y11 y12 y13 h' hl hi' => ih d' y0 y1 y2 y3 y4 y5 y6 y7 y8 y9 y10 y11 y12 y13 h' (by omega) hi'
  exact key 1000000 d x0 x1 x2 x3 x4 x5 x6 x7 x8 x9 x10 x11 x12 x13 h hd hi
end
end Go.X.Ev
