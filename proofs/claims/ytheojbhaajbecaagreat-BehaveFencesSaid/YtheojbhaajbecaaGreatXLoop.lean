/- Rounds of direct code, reckoned with unknown values: what holds of each round's beginning, and what is left to do. -/
import Derived.Test.YtheojbhaajbecaaGreatXEv
set_option linter.unusedVariables false
namespace Go.X.Ev
noncomputable section
variable {R : Type} {Q : Option R → Prop}
theorem loop0 {z : H → Option R} {f : (H → Option R) → H → Option R} (I : Nat → H → Prop) (step : ∀ (d : Nat) (k : H → Option R) (h : H), I d  h → (∀ (d' : Nat) (h' : H), d' < d → I d'  h' → Q (k  h')) → Q (f k  h)) (d : Nat) {h : H} (hd : d < 1000000) (hi : I d  h) : Q (fixN z f  h) := by
  have key : ∀ (M d : Nat) (h : H), d < M → I d  h → Q (fixM z f M  h) := by
    intro M
    induction M with
    | zero => intro d  h hd _; exact absurd hd (Nat.not_lt_zero _)
    | succ M ih => intro d  h hd hi; exact step d (fixM z f M)  h hi fun d'  h' hl hi' => ih d'  h' (by omega) hi'
  exact key 1000000 d  h hd hi
theorem loop1 {z : V → H → Option R} {f : (V → H → Option R) → V → H → Option R} (I : Nat → V → H → Prop) (step : ∀ (d : Nat) (k : V → H → Option R) (x0 : V) (h : H), I d x0 h → (∀ (d' : Nat) (y0 : V) (h' : H), d' < d → I d' y0 h' → Q (k y0 h')) → Q (f k x0 h)) (d : Nat) {x0 : V} {h : H} (hd : d < 1000000) (hi : I d x0 h) : Q (fixN z f x0 h) := by
  have key : ∀ (M d : Nat) (x0 : V) (h : H), d < M → I d x0 h → Q (fixM z f M x0 h) := by
    intro M
    induction M with
    | zero => intro d x0 h hd _; exact absurd hd (Nat.not_lt_zero _)
    | succ M ih => intro d x0 h hd hi; exact step d (fixM z f M) x0 h hi fun d' y0 h' hl hi' => ih d' y0 h' (by omega) hi'
  exact key 1000000 d x0 h hd hi
theorem loop2 {z : V → V → H → Option R} {f : (V → V → H → Option R) → V → V → H → Option R} (I : Nat → V → V → H → Prop) (step : ∀ (d : Nat) (k : V → V → H → Option R) (x0 x1 : V) (h : H), I d x0 x1 h → (∀ (d' : Nat) (y0 y1 : V) (h' : H), d' < d → I d' y0 y1 h' → Q (k y0 y1 h')) → Q (f k x0 x1 h)) (d : Nat) {x0 x1 : V} {h : H} (hd : d < 1000000) (hi : I d x0 x1 h) : Q (fixN z f x0 x1 h) := by
  have key : ∀ (M d : Nat) (x0 x1 : V) (h : H), d < M → I d x0 x1 h → Q (fixM z f M x0 x1 h) := by
    intro M
    induction M with
    | zero => intro d x0 x1 h hd _; exact absurd hd (Nat.not_lt_zero _)
    | succ M ih => intro d x0 x1 h hd hi; exact step d (fixM z f M) x0 x1 h hi fun d' y0 y1 h' hl hi' => ih d' y0 y1 h' (by omega) hi'
  exact key 1000000 d x0 x1 h hd hi
theorem loop3 {z : V → V → V → H → Option R} {f : (V → V → V → H → Option R) → V → V → V → H → Option R} (I : Nat → V → V → V → H → Prop) (step : ∀ (d : Nat) (k : V → V → V → H → Option R) (x0 x1 x2 : V) (h : H), I d x0 x1 x2 h → (∀ (d' : Nat) (y0 y1 y2 : V) (h' : H), d' < d → I d' y0 y1 y2 h' → Q (k y0 y1 y2 h')) → Q (f k x0 x1 x2 h)) (d : Nat) {x0 x1 x2 : V} {h : H} (hd : d < 1000000) (hi : I d x0 x1 x2 h) : Q (fixN z f x0 x1 x2 h) := by
  have key : ∀ (M d : Nat) (x0 x1 x2 : V) (h : H), d < M → I d x0 x1 x2 h → Q (fixM z f M x0 x1 x2 h) := by
    intro M
    induction M with
    | zero => intro d x0 x1 x2 h hd _; exact absurd hd (Nat.not_lt_zero _)
    | succ M ih => intro d x0 x1 x2 h hd hi; exact step d (fixM z f M) x0 x1 x2 h hi fun d' y0 y1 y2 h' hl hi' => ih d' y0 y1 y2 h' (by omega) hi'
  exact key 1000000 d x0 x1 x2 h hd hi
theorem loop4 {z : V → V → V → V → H → Option R} {f : (V → V → V → V → H → Option R) → V → V → V → V → H → Option R} (I : Nat → V → V → V → V → H → Prop) (step : ∀ (d : Nat) (k : V → V → V → V → H → Option R) (x0 x1 x2 x3 : V) (h : H), I d x0 x1 x2 x3 h → (∀ (d' : Nat) (y0 y1 y2 y3 : V) (h' : H), d' < d → I d' y0 y1 y2 y3 h' → Q (k y0 y1 y2 y3 h')) → Q (f k x0 x1 x2 x3 h)) (d : Nat) {x0 x1 x2 x3 : V} {h : H} (hd : d < 1000000) (hi : I d x0 x1 x2 x3 h) : Q (fixN z f x0 x1 x2 x3 h) := by
  have key : ∀ (M d : Nat) (x0 x1 x2 x3 : V) (h : H), d < M → I d x0 x1 x2 x3 h → Q (fixM z f M x0 x1 x2 x3 h) := by
    intro M
    induction M with
    | zero => intro d x0 x1 x2 x3 h hd _; exact absurd hd (Nat.not_lt_zero _)
    | succ M ih => intro d x0 x1 x2 x3 h hd hi; exact step d (fixM z f M) x0 x1 x2 x3 h hi fun d' y0 y1 y2 y3 h' hl hi' => ih d' y0 y1 y2 y3 h' (by omega) hi'
  exact key 1000000 d x0 x1 x2 x3 h hd hi
theorem loop5 {z : V → V → V → V → V → H → Option R} {f : (V → V → V → V → V → H → Option R) → V → V → V → V → V → H → Option R} (I : Nat → V → V → V → V → V → H → Prop) (step : ∀ (d : Nat) (k : V → V → V → V → V → H → Option R) (x0 x1 x2 x3 x4 : V) (h : H), I d x0 x1 x2 x3 x4 h → (∀ (d' : Nat) (y0 y1 y2 y3 y4 : V) (h' : H), d' < d → I d' y0 y1 y2 y3 y4 h' → Q (k y0 y1 y2 y3 y4 h')) → Q (f k x0 x1 x2 x3 x4 h)) (d : Nat) {x0 x1 x2 x3 x4 : V} {h : H} (hd : d < 1000000) (hi : I d x0 x1 x2 x3 x4 h) : Q (fixN z f x0 x1 x2 x3 x4 h) := by
  have key : ∀ (M d : Nat) (x0 x1 x2 x3 x4 : V) (h : H), d < M → I d x0 x1 x2 x3 x4 h → Q (fixM z f M x0 x1 x2 x3 x4 h) := by
    intro M
    induction M with
    | zero => intro d x0 x1 x2 x3 x4 h hd _; exact absurd hd (Nat.not_lt_zero _)
    | succ M ih => intro d x0 x1 x2 x3 x4 h hd hi; exact step d (fixM z f M) x0 x1 x2 x3 x4 h hi fun d' y0 y1 y2 y3 y4 h' hl hi' => ih d' y0 y1 y2 y3 y4 h' (by omega) hi'
  exact key 1000000 d x0 x1 x2 x3 x4 h hd hi
theorem loop6 {z : V → V → V → V → V → V → H → Option R} {f : (V → V → V → V → V → V → H → Option R) → V → V → V → V → V → V → H → Option R} (I : Nat → V → V → V → V → V → V → H → Prop) (step : ∀ (d : Nat) (k : V → V → V → V → V → V → H → Option R) (x0 x1 x2 x3 x4 x5 : V) (h : H), I d x0 x1 x2 x3 x4 x5 h → (∀ (d' : Nat) (y0 y1 y2 y3 y4 y5 : V) (h' : H), d' < d → I d' y0 y1 y2 y3 y4 y5 h' → Q (k y0 y1 y2 y3 y4 y5 h')) → Q (f k x0 x1 x2 x3 x4 x5 h)) (d : Nat) {x0 x1 x2 x3 x4 x5 : V} {h : H} (hd : d < 1000000) (hi : I d x0 x1 x2 x3 x4 x5 h) : Q (fixN z f x0 x1 x2 x3 x4 x5 h) := by
  have key : ∀ (M d : Nat) (x0 x1 x2 x3 x4 x5 : V) (h : H), d < M → I d x0 x1 x2 x3 x4 x5 h → Q (fixM z f M x0 x1 x2 x3 x4 x5 h) := by
    intro M
    induction M with
    | zero => intro d x0 x1 x2 x3 x4 x5 h hd _; exact absurd hd (Nat.not_lt_zero _)
    | succ M ih => intro d x0 x1 x2 x3 x4 x5 h hd hi; exact step d (fixM z f M) x0 x1 x2 x3 x4 x5 h hi fun d' y0 y1 y2 y3 y4 y5 h' hl hi' => ih d' y0 y1 y2 y3 y4 y5 h' (by omega) hi'
  exact key 1000000 d x0 x1 x2 x3 x4 x5 h hd hi
theorem loop7 {z : V → V → V → V → V → V → V → H → Option R} {f : (V → V → V → V → V → V → V → H → Option R) → V → V → V → V → V → V → V → H → Option R} (I : Nat → V → V → V → V → V → V → V → H → Prop) (step : ∀ (d : Nat) (k : V → V → V → V → V → V → V → H → Option R) (x0 x1 x2 x3 x4 x5 x6 : V) (h : H), I d x0 x1 x2 x3 x4 x5 x6 h → (∀ (d' : Nat) (y0 y1 y2 y3 y4 y5 y6 : V) (h' : H), d' < d → I d' y0 y1 y2 y3 y4 y5 y6 h' → Q (k y0 y1 y2 y3 y4 y5 y6 h')) → Q (f k x0 x1 x2 x3 x4 x5 x6 h)) (d : Nat) {x0 x1 x2 x3 x4 x5 x6 : V} {h : H} (hd : d < 1000000) (hi : I d x0 x1 x2 x3 x4 x5 x6 h) : Q (fixN z f x0 x1 x2 x3 x4 x5 x6 h) := by
  have key : ∀ (M d : Nat) (x0 x1 x2 x3 x4 x5 x6 : V) (h : H), d < M → I d x0 x1 x2 x3 x4 x5 x6 h → Q (fixM z f M x0 x1 x2 x3 x4 x5 x6 h) := by
    intro M
    induction M with
    | zero => intro d x0 x1 x2 x3 x4 x5 x6 h hd _; exact absurd hd (Nat.not_lt_zero _)
    | succ M ih => intro d x0 x1 x2 x3 x4 x5 x6 h hd hi; exact step d (fixM z f M) x0 x1 x2 x3 x4 x5 x6 h hi fun d' y0 y1 y2 y3 y4 y5 y6 h' hl hi' => ih d' y0 y1 y2 y3 y4 y5 y6 h' (by omega) hi'
  exact key 1000000 d x0 x1 x2 x3 x4 x5 x6 h hd hi
theorem loop8 {z : V → V → V → V → V → V → V → V → H → Option R} {f : (V → V → V → V → V → V → V → V → H → Option R) → V → V → V → V → V → V → V → V → H → Option R} (I : Nat → V → V → V → V → V → V → V → V → H → Prop) (step : ∀ (d : Nat) (k : V → V → V → V → V → V → V → V → H → Option R) (x0 x1 x2 x3 x4 x5 x6 x7 : V) (h : H), I d x0 x1 x2 x3 x4 x5 x6 x7 h → (∀ (d' : Nat) (y0 y1 y2 y3 y4 y5 y6 y7 : V) (h' : H), d' < d → I d' y0 y1 y2 y3 y4 y5 y6 y7 h' → Q (k y0 y1 y2 y3 y4 y5 y6 y7 h')) → Q (f k x0 x1 x2 x3 x4 x5 x6 x7 h)) (d : Nat) {x0 x1 x2 x3 x4 x5 x6 x7 : V} {h : H} (hd : d < 1000000) (hi : I d x0 x1 x2 x3 x4 x5 x6 x7 h) : Q (fixN z f x0 x1 x2 x3 x4 x5 x6 x7 h) := by
  have key : ∀ (M d : Nat) (x0 x1 x2 x3 x4 x5 x6 x7 : V) (h : H), d < M → I d x0 x1 x2 x3 x4 x5 x6 x7 h → Q (fixM z f M x0 x1 x2 x3 x4 x5 x6 x7 h) := by
    intro M
    induction M with
    | zero => intro d x0 x1 x2 x3 x4 x5 x6 x7 h hd _; exact absurd hd (Nat.not_lt_zero _)
    | succ M ih => intro d x0 x1 x2 x3 x4 x5 x6 x7 h hd hi; exact step d (fixM z f M) x0 x1 x2 x3 x4 x5 x6 x7 h hi fun d' y0 y1 y2 y3 y4 y5 y6 y7 h' hl hi' => ih d' y0 y1 y2 y3 y4 y5 y6 y7 h' (by omega) hi'
  exact key 1000000 d x0 x1 x2 x3 x4 x5 x6 x7 h hd hi
theorem loop9 {z : V → V → V → V → V → V → V → V → V → H → Option R} {f : (V → V → V → V → V → V → V → V → V → H → Option R) → V → V → V → V → V → V → V → V → V → H → Option R} (I : Nat → V → V → V → V → V → V → V → V → V → H → Prop) (step : ∀ (d : Nat) (k : V → V → V → V → V → V → V → V → V → H → Option R) (x0 x1 x2 x3 x4 x5 x6 x7 x8 : V) (h : H), I d x0 x1 x2 x3 x4 x5 x6 x7 x8 h → (∀ (d' : Nat) (y0 y1 y2 y3 y4 y5 y6 y7 y8 : V) (h' : H), d' < d → I d' y0 y1 y2 y3 y4 y5 y6 y7 y8 h' → Q (k y0 y1 y2 y3 y4 y5 y6 y7 y8 h')) → Q (f k x0 x1 x2 x3 x4 x5 x6 x7 x8 h)) (d : Nat) {x0 x1 x2 x3 x4 x5 x6 x7 x8 : V} {h : H} (hd : d < 1000000) (hi : I d x0 x1 x2 x3 x4 x5 x6 x7 x8 h) : Q (fixN z f x0 x1 x2 x3 x4 x5 x6 x7 x8 h) := by
  have key : ∀ (M d : Nat) (x0 x1 x2 x3 x4 x5 x6 x7 x8 : V) (h : H), d < M → I d x0 x1 x2 x3 x4 x5 x6 x7 x8 h → Q (fixM z f M x0 x1 x2 x3 x4 x5 x6 x7 x8 h) := by
    intro M
    induction M with
    | zero => intro d x0 x1 x2 x3 x4 x5 x6 x7 x8 h hd _; exact absurd hd (Nat.not_lt_zero _)
    | succ M ih => intro d x0 x1 x2 x3 x4 x5 x6 x7 x8 h hd hi; exact step d (fixM z f M) x0 x1 x2 x3 x4 x5 x6 x7 x8 h hi fun d' y0 y1 y2 y3 y4 y5 y6 y7 y8 h' hl hi' => ih d' y0 y1 y2 y3 y4 y5 y6 y7 y8 h' (by omega) hi'
  exact key 1000000 d x0 x1 x2 x3 x4 x5 x6 x7 x8 h hd hi
theorem loop10 {z : V → V → V → V → V → V → V → V → V → V → H → Option R} {f : (V → V → V → V → V → V → V → V → V → V → H → Option R) → V → V → V → V → V → V → V → V → V → V → H → Option R} (I : Nat → V → V → V → V → V → V → V → V → V → V → H → Prop) (step : ∀ (d : Nat) (k : V → V → V → V → V → V → V → V → V → V → H → Option R) (x0 x1 x2 x3 x4 x5 x6 x7 x8 x9 : V) (h : H), I d x0 x1 x2 x3 x4 x5 x6 x7 x8 x9 h → (∀ (d' : Nat) (y0 y1 y2 y3 y4 y5 y6 y7 y8 y9 : V) (h' : H), d' < d → I d' y0 y1 y2 y3 y4 y5 y6 y7 y8 y9 h' → Q (k y0 y1 y2 y3 y4 y5 y6 y7 y8 y9 h')) → Q (f k x0 x1 x2 x3 x4 x5 x6 x7 x8 x9 h)) (d : Nat) {x0 x1 x2 x3 x4 x5 x6 x7 x8 x9 : V} {h : H} (hd : d < 1000000) (hi : I d x0 x1 x2 x3 x4 x5 x6 x7 x8 x9 h) : Q (fixN z f x0 x1 x2 x3 x4 x5 x6 x7 x8 x9 h) := by
  have key : ∀ (M d : Nat) (x0 x1 x2 x3 x4 x5 x6 x7 x8 x9 : V) (h : H), d < M → I d x0 x1 x2 x3 x4 x5 x6 x7 x8 x9 h → Q (fixM z f M x0 x1 x2 x3 x4 x5 x6 x7 x8 x9 h) := by
    intro M
    induction M with
    | zero => intro d x0 x1 x2 x3 x4 x5 x6 x7 x8 x9 h hd _; exact absurd hd (Nat.not_lt_zero _)
    | succ M ih => intro d x0 x1 x2 x3 x4 x5 x6 x7 x8 x9 h hd hi; exact step d (fixM z f M) x0 x1 x2 x3 x4 x5 x6 x7 x8 x9 h hi fun d' y0 y1 y2 y3 y4 y5 y6 y7 y8 y9 h' hl hi' => ih d' y0 y1 y2 y3 y4 y5 y6 y7 y8 y9 h' (by omega) hi'
  exact key 1000000 d x0 x1 x2 x3 x4 x5 x6 x7 x8 x9 h hd hi
theorem loop11 {z : V → V → V → V → V → V → V → V → V → V → V → H → Option R} {f : (V → V → V → V → V → V → V → V → V → V → V → H → Option R) → V → V → V → V → V → V → V → V → V → V → V → H → Option R} (I : Nat → V → V → V → V → V → V → V → V → V → V → V → H → Prop) (step : ∀ (d : Nat) (k : V → V → V → V → V → V → V → V → V → V → V → H → Option R) (x0 x1 x2 x3 x4 x5 x6 x7 x8 x9 x10 : V) (h : H), I d x0 x1 x2 x3 x4 x5 x6 x7 x8 x9 x10 h → (∀ (d' : Nat) (y0 y1 y2 y3 y4 y5 y6 y7 y8 y9 y10 : V) (h' : H), d' < d → I d' y0 y1 y2 y3 y4 y5 y6 y7 y8 y9 y10 h' → Q (k y0 y1 y2 y3 y4 y5 y6 y7 y8 y9 y10 h')) → Q (f k x0 x1 x2 x3 x4 x5 x6 x7 x8 x9 x10 h)) (d : Nat) {x0 x1 x2 x3 x4 x5 x6 x7 x8 x9 x10 : V} {h : H} (hd : d < 1000000) (hi : I d x0 x1 x2 x3 x4 x5 x6 x7 x8 x9 x10 h) : Q (fixN z f x0 x1 x2 x3 x4 x5 x6 x7 x8 x9 x10 h) := by
  have key : ∀ (M d : Nat) (x0 x1 x2 x3 x4 x5 x6 x7 x8 x9 x10 : V) (h : H), d < M → I d x0 x1 x2 x3 x4 x5 x6 x7 x8 x9 x10 h → Q (fixM z f M x0 x1 x2 x3 x4 x5 x6 x7 x8 x9 x10 h) := by
    intro M
    induction M with
    | zero => intro d x0 x1 x2 x3 x4 x5 x6 x7 x8 x9 x10 h hd _; exact absurd hd (Nat.not_lt_zero _)
    | succ M ih => intro d x0 x1 x2 x3 x4 x5 x6 x7 x8 x9 x10 h hd hi; exact step d (fixM z f M) x0 x1 x2 x3 x4 x5 x6 x7 x8 x9 x10 h hi fun d' y0 y1 y2 y3 y4 y5 y6 y7 y8 y9 y10 h' hl hi' => ih d' y0 y1 y2 y3 y4 y5 y6 y7 y8 y9 y10 h' (by omega) hi'
  exact key 1000000 d x0 x1 x2 x3 x4 x5 x6 x7 x8 x9 x10 h hd hi
theorem loop12 {z : V → V → V → V → V → V → V → V → V → V → V → V → H → Option R} {f : (V → V → V → V → V → V → V → V → V → V → V → V → H → Option R) → V → V → V → V → V → V → V → V → V → V → V → V → H → Option R} (I : Nat → V → V → V → V → V → V → V → V → V → V → V → V → H → Prop) (step : ∀ (d : Nat) (k : V → V → V → V → V → V → V → V → V → V → V → V → H → Option R) (x0 x1 x2 x3 x4 x5 x6 x7 x8 x9 x10 x11 : V) (h : H), I d x0 x1 x2 x3 x4 x5 x6 x7 x8 x9 x10 x11 h → (∀ (d' : Nat) (y0 y1 y2 y3 y4 y5 y6 y7 y8 y9 y10 y11 : V) (h' : H), d' < d → I d' y0 y1 y2 y3 y4 y5 y6 y7 y8 y9 y10 y11 h' → Q (k y0 y1 y2 y3 y4 y5 y6 y7 y8 y9 y10 y11 h')) → Q (f k x0 x1 x2 x3 x4 x5 x6 x7 x8 x9 x10 x11 h)) (d : Nat) {x0 x1 x2 x3 x4 x5 x6 x7 x8 x9 x10 x11 : V} {h : H} (hd : d < 1000000) (hi : I d x0 x1 x2 x3 x4 x5 x6 x7 x8 x9 x10 x11 h) : Q (fixN z f x0 x1 x2 x3 x4 x5 x6 x7 x8 x9 x10 x11 h) := by
  have key : ∀ (M d : Nat) (x0 x1 x2 x3 x4 x5 x6 x7 x8 x9 x10 x11 : V) (h : H), d < M → I d x0 x1 x2 x3 x4 x5 x6 x7 x8 x9 x10 x11 h → Q (fixM z f M x0 x1 x2 x3 x4 x5 x6 x7 x8 x9 x10 x11 h) := by
    intro M
    induction M with
    | zero => intro d x0 x1 x2 x3 x4 x5 x6 x7 x8 x9 x10 x11 h hd _; exact absurd hd (Nat.not_lt_zero _)
    | succ M ih => intro d x0 x1 x2 x3 x4 x5 x6 x7 x8 x9 x10 x11 h hd hi; exact step d (fixM z f M) x0 x1 x2 x3 x4 x5 x6 x7 x8 x9 x10 x11 h hi fun d' y0 y1 y2 y3 y4 y5 y6 y7 y8 y9 y10 y11 h' hl hi' => ih d' y0 y1 y2 y3 y4 y5 y6 y7 y8 y9 y10 y11 h' (by omega) hi'
  exact key 1000000 d x0 x1 x2 x3 x4 x5 x6 x7 x8 x9 x10 x11 h hd hi
theorem loop13 {z : V → V → V → V → V → V → V → V → V → V → V → V → V → H → Option R} {f : (V → V → V → V → V → V → V → V → V → V → V → V → V → H → Option R) → V → V → V → V → V → V → V → V → V → V → V → V → V → H → Option R} (I : Nat → V → V → V → V → V → V → V → V → V → V → V → V → V → H → Prop) (step : ∀ (d : Nat) (k : V → V → V → V → V → V → V → V → V → V → V → V → V → H → Option R) (x0 x1 x2 x3 x4 x5 x6 x7 x8 x9 x10 x11 x12 : V) (h : H), I d x0 x1 x2 x3 x4 x5 x6 x7 x8 x9 x10 x11 x12 h → (∀ (d' : Nat) (y0 y1 y2 y3 y4 y5 y6 y7 y8 y9 y10 y11 y12 : V) (h' : H), d' < d → I d' y0 y1 y2 y3 y4 y5 y6 y7 y8 y9 y10 y11 y12 h' → Q (k y0 y1 y2 y3 y4 y5 y6 y7 y8 y9 y10 y11 y12 h')) → Q (f k x0 x1 x2 x3 x4 x5 x6 x7 x8 x9 x10 x11 x12 h)) (d : Nat) {x0 x1 x2 x3 x4 x5 x6 x7 x8 x9 x10 x11 x12 : V} {h : H} (hd : d < 1000000) (hi : I d x0 x1 x2 x3 x4 x5 x6 x7 x8 x9 x10 x11 x12 h) : Q (fixN z f x0 x1 x2 x3 x4 x5 x6 x7 x8 x9 x10 x11 x12 h) := by
  have key : ∀ (M d : Nat) (x0 x1 x2 x3 x4 x5 x6 x7 x8 x9 x10 x11 x12 : V) (h : H), d < M → I d x0 x1 x2 x3 x4 x5 x6 x7 x8 x9 x10 x11 x12 h → Q (fixM z f M x0 x1 x2 x3 x4 x5 x6 x7 x8 x9 x10 x11 x12 h) := by
    intro M
    induction M with
    | zero => intro d x0 x1 x2 x3 x4 x5 x6 x7 x8 x9 x10 x11 x12 h hd _; exact absurd hd (Nat.not_lt_zero _)
    | succ M ih => intro d x0 x1 x2 x3 x4 x5 x6 x7 x8 x9 x10 x11 x12 h hd hi; exact step d (fixM z f M) x0 x1 x2 x3 x4 x5 x6 x7 x8 x9 x10 x11 x12 h hi fun d' y0 y1 y2 y3 y4 y5 y6 y7 y8 y9 y10 y11 y12 h' hl hi' => ih d' y0 y1 y2 y3 y4 y5 y6 y7 y8 y9 y10 y11 y12 h' (by omega) hi'
  exact key 1000000 d x0 x1 x2 x3 x4 x5 x6 x7 x8 x9 x10 x11 x12 h hd hi
theorem loop14 {z : V → V → V → V → V → V → V → V → V → V → V → V → V → V → H → Option R} {f : (V → V → V → V → V → V → V → V → V → V → V → V → V → V → H → Option R) → V → V → V → V → V → V → V → V → V → V → V → V → V → V → H → Option R} (I : Nat → V → V → V → V → V → V → V → V → V → V → V → V → V → V → H → Prop) (step : ∀ (d : Nat) (k : V → V → V → V → V → V → V → V → V → V → V → V → V → V → H → Option R) (x0 x1 x2 x3 x4 x5 x6 x7 x8 x9 x10 x11 x12 x13 : V) (h : H), I d x0 x1 x2 x3 x4 x5 x6 x7 x8 x9 x10 x11 x12 x13 h → (∀ (d' : Nat) (y0 y1 y2 y3 y4 y5 y6 y7 y8 y9 y10 y11 y12 y13 : V) (h' : H), d' < d → I d' y0 y1 y2 y3 y4 y5 y6 y7 y8 y9 y10 y11 y12 y13 h' → Q (k y0 y1 y2 y3 y4 y5 y6 y7 y8 y9 y10 y11 y12 y13 h')) → Q (f k x0 x1 x2 x3 x4 x5 x6 x7 x8 x9 x10 x11 x12 x13 h)) (d : Nat) {x0 x1 x2 x3 x4 x5 x6 x7 x8 x9 x10 x11 x12 x13 : V} {h : H} (hd : d < 1000000) (hi : I d x0 x1 x2 x3 x4 x5 x6 x7 x8 x9 x10 x11 x12 x13 h) : Q (fixN z f x0 x1 x2 x3 x4 x5 x6 x7 x8 x9 x10 x11 x12 x13 h) := by
  have key : ∀ (M d : Nat) (x0 x1 x2 x3 x4 x5 x6 x7 x8 x9 x10 x11 x12 x13 : V) (h : H), d < M → I d x0 x1 x2 x3 x4 x5 x6 x7 x8 x9 x10 x11 x12 x13 h → Q (fixM z f M x0 x1 x2 x3 x4 x5 x6 x7 x8 x9 x10 x11 x12 x13 h) := by
    intro M
    induction M with
    | zero => intro d x0 x1 x2 x3 x4 x5 x6 x7 x8 x9 x10 x11 x12 x13 h hd _; exact absurd hd (Nat.not_lt_zero _)
    | succ M ih => intro d x0 x1 x2 x3 x4 x5 x6 x7 x8 x9 x10 x11 x12 x13 h hd hi; exact step d (fixM z f M) x0 x1 x2 x3 x4 x5 x6 x7 x8 x9 x10 x11 x12 x13 h hi fun d' y0 y1 y2 y3 y4 y5 y6 y7 y8 y9 y10 y11 y12 y13 h' hl hi' => ih d' y0 y1 y2 y3 y4 y5 y6 y7 y8 y9 y10 y11 y12 y13 h' (by omega) hi'
  exact key 1000000 d x0 x1 x2 x3 x4 x5 x6 x7 x8 x9 x10 x11 x12 x13 h hd hi
theorem loop15 {z : V → V → V → V → V → V → V → V → V → V → V → V → V → V → V → H → Option R} {f : (V → V → V → V → V → V → V → V → V → V → V → V → V → V → V → H → Option R) → V → V → V → V → V → V → V → V → V → V → V → V → V → V → V → H → Option R} (I : Nat → V → V → V → V → V → V → V → V → V → V → V → V → V → V → V → H → Prop) (step : ∀ (d : Nat) (k : V → V → V → V → V → V → V → V → V → V → V → V → V → V → V → H → Option R) (x0 x1 x2 x3 x4 x5 x6 x7 x8 x9 x10 x11 x12 x13 x14 : V) (h : H), I d x0 x1 x2 x3 x4 x5 x6 x7 x8 x9 x10 x11 x12 x13 x14 h → (∀ (d' : Nat) (y0 y1 y2 y3 y4 y5 y6 y7 y8 y9 y10 y11 y12 y13 y14 : V) (h' : H), d' < d → I d' y0 y1 y2 y3 y4 y5 y6 y7 y8 y9 y10 y11 y12 y13 y14 h' → Q (k y0 y1 y2 y3 y4 y5 y6 y7 y8 y9 y10 y11 y12 y13 y14 h')) → Q (f k x0 x1 x2 x3 x4 x5 x6 x7 x8 x9 x10 x11 x12 x13 x14 h)) (d : Nat) {x0 x1 x2 x3 x4 x5 x6 x7 x8 x9 x10 x11 x12 x13 x14 : V} {h : H} (hd : d < 1000000) (hi : I d x0 x1 x2 x3 x4 x5 x6 x7 x8 x9 x10 x11 x12 x13 x14 h) : Q (fixN z f x0 x1 x2 x3 x4 x5 x6 x7 x8 x9 x10 x11 x12 x13 x14 h) := by
  have key : ∀ (M d : Nat) (x0 x1 x2 x3 x4 x5 x6 x7 x8 x9 x10 x11 x12 x13 x14 : V) (h : H), d < M → I d x0 x1 x2 x3 x4 x5 x6 x7 x8 x9 x10 x11 x12 x13 x14 h → Q (fixM z f M x0 x1 x2 x3 x4 x5 x6 x7 x8 x9 x10 x11 x12 x13 x14 h) := by
    intro M
    induction M with
    | zero => intro d x0 x1 x2 x3 x4 x5 x6 x7 x8 x9 x10 x11 x12 x13 x14 h hd _; exact absurd hd (Nat.not_lt_zero _)
    | succ M ih => intro d x0 x1 x2 x3 x4 x5 x6 x7 x8 x9 x10 x11 x12 x13 x14 h hd hi; exact step d (fixM z f M) x0 x1 x2 x3 x4 x5 x6 x7 x8 x9 x10 x11 x12 x13 x14 h hi fun d' y0 y1 y2 y3 y4 y5 y6 y7 y8 y9 y10 y11 y12 y13 y14 h' hl hi' => ih d' y0 y1 y2 y3 y4 y5 y6 y7 y8 y9 y10 y11 y12 y13 y14 h' (by omega) hi'
  exact key 1000000 d x0 x1 x2 x3 x4 x5 x6 x7 x8 x9 x10 x11 x12 x13 x14 h hd hi
theorem loop16 {z : V → V → V → V → V → V → V → V → V → V → V → V → V → V → V → V → H → Option R} {f : (V → V → V → V → V → V → V → V → V → V → V → V → V → V → V → V → H → Option R) → V → V → V → V → V → V → V → V → V → V → V → V → V → V → V → V → H → Option R} (I : Nat → V → V → V → V → V → V → V → V → V → V → V → V → V → V → V → V → H → Prop) (step : ∀ (d : Nat) (k : V → V → V → V → V → V → V → V → V → V → V → V → V → V → V → V → H → Option R) (x0 x1 x2 x3 x4 x5 x6 x7 x8 x9 x10 x11 x12 x13 x14 x15 : V) (h : H), I d x0 x1 x2 x3 x4 x5 x6 x7 x8 x9 x10 x11 x12 x13 x14 x15 h → (∀ (d' : Nat) (y0 y1 y2 y3 y4 y5 y6 y7 y8 y9 y10 y11 y12 y13 y14 y15 : V) (h' : H), d' < d → I d' y0 y1 y2 y3 y4 y5 y6 y7 y8 y9 y10 y11 y12 y13 y14 y15 h' → Q (k y0 y1 y2 y3 y4 y5 y6 y7 y8 y9 y10 y11 y12 y13 y14 y15 h')) → Q (f k x0 x1 x2 x3 x4 x5 x6 x7 x8 x9 x10 x11 x12 x13 x14 x15 h)) (d : Nat) {x0 x1 x2 x3 x4 x5 x6 x7 x8 x9 x10 x11 x12 x13 x14 x15 : V} {h : H} (hd : d < 1000000) (hi : I d x0 x1 x2 x3 x4 x5 x6 x7 x8 x9 x10 x11 x12 x13 x14 x15 h) : Q (fixN z f x0 x1 x2 x3 x4 x5 x6 x7 x8 x9 x10 x11 x12 x13 x14 x15 h) := by
  have key : ∀ (M d : Nat) (x0 x1 x2 x3 x4 x5 x6 x7 x8 x9 x10 x11 x12 x13 x14 x15 : V) (h : H), d < M → I d x0 x1 x2 x3 x4 x5 x6 x7 x8 x9 x10 x11 x12 x13 x14 x15 h → Q (fixM z f M x0 x1 x2 x3 x4 x5 x6 x7 x8 x9 x10 x11 x12 x13 x14 x15 h) := by
    intro M
    induction M with
    | zero => intro d x0 x1 x2 x3 x4 x5 x6 x7 x8 x9 x10 x11 x12 x13 x14 x15 h hd _; exact absurd hd (Nat.not_lt_zero _)
    | succ M ih => intro d x0 x1 x2 x3 x4 x5 x6 x7 x8 x9 x10 x11 x12 x13 x14 x15 h hd hi; exact step d (fixM z f M) x0 x1 x2 x3 x4 x5 x6 x7 x8 x9 x10 x11 x12 x13 x14 x15 h hi fun d' y0 y1 y2 y3 y4 y5 y6 y7 y8 y9 y10 y11 y12 y13 y14 y15 h' hl hi' => ih d' y0 y1 y2 y3 y4 y5 y6 y7 y8 y9 y10 y11 y12 y13 y14 y15 h' (by omega) hi'
  exact key 1000000 d x0 x1 x2 x3 x4 x5 x6 x7 x8 x9 x10 x11 x12 x13 x14 x15 h hd hi
theorem loop17 {z : V → V → V → V → V → V → V → V → V → V → V → V → V → V → V → V → V → H → Option R} {f : (V → V → V → V → V → V → V → V → V → V → V → V → V → V → V → V → V → H → Option R) → V → V → V → V → V → V → V → V → V → V → V → V → V → V → V → V → V → H → Option R} (I : Nat → V → V → V → V → V → V → V → V → V → V → V → V → V → V → V → V → V → H → Prop) (step : ∀ (d : Nat) (k : V → V → V → V → V → V → V → V → V → V → V → V → V → V → V → V → V → H → Option R) (x0 x1 x2 x3 x4 x5 x6 x7 x8 x9 x10 x11 x12 x13 x14 x15 x16 : V) (h : H), I d x0 x1 x2 x3 x4 x5 x6 x7 x8 x9 x10 x11 x12 x13 x14 x15 x16 h → (∀ (d' : Nat) (y0 y1 y2 y3 y4 y5 y6 y7 y8 y9 y10 y11 y12 y13 y14 y15 y16 : V) (h' : H), d' < d → I d' y0 y1 y2 y3 y4 y5 y6 y7 y8 y9 y10 y11 y12 y13 y14 y15 y16 h' → Q (k y0 y1 y2 y3 y4 y5 y6 y7 y8 y9 y10 y11 y12 y13 y14 y15 y16 h')) → Q (f k x0 x1 x2 x3 x4 x5 x6 x7 x8 x9 x10 x11 x12 x13 x14 x15 x16 h)) (d : Nat) {x0 x1 x2 x3 x4 x5 x6 x7 x8 x9 x10 x11 x12 x13 x14 x15 x16 : V} {h : H} (hd : d < 1000000) (hi : I d x0 x1 x2 x3 x4 x5 x6 x7 x8 x9 x10 x11 x12 x13 x14 x15 x16 h) : Q (fixN z f x0 x1 x2 x3 x4 x5 x6 x7 x8 x9 x10 x11 x12 x13 x14 x15 x16 h) := by
  have key : ∀ (M d : Nat) (x0 x1 x2 x3 x4 x5 x6 x7 x8 x9 x10 x11 x12 x13 x14 x15 x16 : V) (h : H), d < M → I d x0 x1 x2 x3 x4 x5 x6 x7 x8 x9 x10 x11 x12 x13 x14 x15 x16 h → Q (fixM z f M x0 x1 x2 x3 x4 x5 x6 x7 x8 x9 x10 x11 x12 x13 x14 x15 x16 h) := by
    intro M
    induction M with
    | zero => intro d x0 x1 x2 x3 x4 x5 x6 x7 x8 x9 x10 x11 x12 x13 x14 x15 x16 h hd _; exact absurd hd (Nat.not_lt_zero _)
    | succ M ih => intro d x0 x1 x2 x3 x4 x5 x6 x7 x8 x9 x10 x11 x12 x13 x14 x15 x16 h hd hi; exact step d (fixM z f M) x0 x1 x2 x3 x4 x5 x6 x7 x8 x9 x10 x11 x12 x13 x14 x15 x16 h hi fun d' y0 y1 y2 y3 y4 y5 y6 y7 y8 y9 y10 y11 y12 y13 y14 y15 y16 h' hl hi' => ih d' y0 y1 y2 y3 y4 y5 y6 y7 y8 y9 y10 y11 y12 y13 y14 y15 y16 h' (by omega) hi'
  exact key 1000000 d x0 x1 x2 x3 x4 x5 x6 x7 x8 x9 x10 x11 x12 x13 x14 x15 x16 h hd hi
theorem loop18 {z : V → V → V → V → V → V → V → V → V → V → V → V → V → V → V → V → V → V → H → Option R} {f : (V → V → V → V → V → V → V → V → V → V → V → V → V → V → V → V → V → V → H → Option R) → V → V → V → V → V → V → V → V → V → V → V → V → V → V → V → V → V → V → H → Option R} (I : Nat → V → V → V → V → V → V → V → V → V → V → V → V → V → V → V → V → V → V → H → Prop) (step : ∀ (d : Nat) (k : V → V → V → V → V → V → V → V → V → V → V → V → V → V → V → V → V → V → H → Option R) (x0 x1 x2 x3 x4 x5 x6 x7 x8 x9 x10 x11 x12 x13 x14 x15 x16 x17 : V) (h : H), I d x0 x1 x2 x3 x4 x5 x6 x7 x8 x9 x10 x11 x12 x13 x14 x15 x16 x17 h → (∀ (d' : Nat) (y0 y1 y2 y3 y4 y5 y6 y7 y8 y9 y10 y11 y12 y13 y14 y15 y16 y17 : V) (h' : H), d' < d → I d' y0 y1 y2 y3 y4 y5 y6 y7 y8 y9 y10 y11 y12 y13 y14 y15 y16 y17 h' → Q (k y0 y1 y2 y3 y4 y5 y6 y7 y8 y9 y10 y11 y12 y13 y14 y15 y16 y17 h')) → Q (f k x0 x1 x2 x3 x4 x5 x6 x7 x8 x9 x10 x11 x12 x13 x14 x15 x16 x17 h)) (d : Nat) {x0 x1 x2 x3 x4 x5 x6 x7 x8 x9 x10 x11 x12 x13 x14 x15 x16 x17 : V} {h : H} (hd : d < 1000000) (hi : I d x0 x1 x2 x3 x4 x5 x6 x7 x8 x9 x10 x11 x12 x13 x14 x15 x16 x17 h) : Q (fixN z f x0 x1 x2 x3 x4 x5 x6 x7 x8 x9 x10 x11 x12 x13 x14 x15 x16 x17 h) := by
  have key : ∀ (M d : Nat) (x0 x1 x2 x3 x4 x5 x6 x7 x8 x9 x10 x11 x12 x13 x14 x15 x16 x17 : V) (h : H), d < M → I d x0 x1 x2 x3 x4 x5 x6 x7 x8 x9 x10 x11 x12 x13 x14 x15 x16 x17 h → Q (fixM z f M x0 x1 x2 x3 x4 x5 x6 x7 x8 x9 x10 x11 x12 x13 x14 x15 x16 x17 h) := by
    intro M
    induction M with
    | zero => intro d x0 x1 x2 x3 x4 x5 x6 x7 x8 x9 x10 x11 x12 x13 x14 x15 x16 x17 h hd _; exact absurd hd (Nat.not_lt_zero _)
    | succ M ih => intro d x0 x1 x2 x3 x4 x5 x6 x7 x8 x9 x10 x11 x12 x13 x14 x15 x16 x17 h hd hi; exact step d (fixM z f M) x0 x1 x2 x3 x4 x5 x6 x7 x8 x9 x10 x11 x12 x13 x14 x15 x16 x17 h hi fun d' y0 y1 y2 y3 y4 y5 y6 y7 y8 y9 y10 y11 y12 y13 y14 y15 y16 y17 h' hl hi' => ih d' y0 y1 y2 y3 y4 y5 y6 y7 y8 y9 y10 y11 y12 y13 y14 y15 y16 y17 h' (by omega) hi'
  exact key 1000000 d x0 x1 x2 x3 x4 x5 x6 x7 x8 x9 x10 x11 x12 x13 x14 x15 x16 x17 h hd hi
theorem loop19 {z : V → V → V → V → V → V → V → V → V → V → V → V → V → V → V → V → V → V → V → H → Option R} {f : (V → V → V → V → V → V → V → V → V → V → V → V → V → V → V → V → V → V → V → H → Option R) → V → V → V → V → V → V → V → V → V → V → V → V → V → V → V → V → V → V → V → H → Option R} (I : Nat → V → V → V → V → V → V → V → V → V → V → V → V → V → V → V → V → V → V → V → H → Prop) (step : ∀ (d : Nat) (k : V → V → V → V → V → V → V → V → V → V → V → V → V → V → V → V → V → V → V → H → Option R) (x0 x1 x2 x3 x4 x5 x6 x7 x8 x9 x10 x11 x12 x13 x14 x15 x16 x17 x18 : V) (h : H), I d x0 x1 x2 x3 x4 x5 x6 x7 x8 x9 x10 x11 x12 x13 x14 x15 x16 x17 x18 h → (∀ (d' : Nat) (y0 y1 y2 y3 y4 y5 y6 y7 y8 y9 y10 y11 y12 y13 y14 y15 y16 y17 y18 : V) (h' : H), d' < d → I d' y0 y1 y2 y3 y4 y5 y6 y7 y8 y9 y10 y11 y12 y13 y14 y15 y16 y17 y18 h' → Q (k y0 y1 y2 y3 y4 y5 y6 y7 y8 y9 y10 y11 y12 y13 y14 y15 y16 y17 y18 h')) → Q (f k x0 x1 x2 x3 x4 x5 x6 x7 x8 x9 x10 x11 x12 x13 x14 x15 x16 x17 x18 h)) (d : Nat) {x0 x1 x2 x3 x4 x5 x6 x7 x8 x9 x10 x11 x12 x13 x14 x15 x16 x17 x18 : V} {h : H} (hd : d < 1000000) (hi : I d x0 x1 x2 x3 x4 x5 x6 x7 x8 x9 x10 x11 x12 x13 x14 x15 x16 x17 x18 h) : Q (fixN z f x0 x1 x2 x3 x4 x5 x6 x7 x8 x9 x10 x11 x12 x13 x14 x15 x16 x17 x18 h) := by
  have key : ∀ (M d : Nat) (x0 x1 x2 x3 x4 x5 x6 x7 x8 x9 x10 x11 x12 x13 x14 x15 x16 x17 x18 : V) (h : H), d < M → I d x0 x1 x2 x3 x4 x5 x6 x7 x8 x9 x10 x11 x12 x13 x14 x15 x16 x17 x18 h → Q (fixM z f M x0 x1 x2 x3 x4 x5 x6 x7 x8 x9 x10 x11 x12 x13 x14 x15 x16 x17 x18 h) := by
    intro M
    induction M with
    | zero => intro d x0 x1 x2 x3 x4 x5 x6 x7 x8 x9 x10 x11 x12 x13 x14 x15 x16 x17 x18 h hd _; exact absurd hd (Nat.not_lt_zero _)
    | succ M ih => intro d x0 x1 x2 x3 x4 x5 x6 x7 x8 x9 x10 x11 x12 x13 x14 x15 x16 x17 x18 h hd hi; exact step d (fixM z f M) x0 x1 x2 x3 x4 x5 x6 x7 x8 x9 x10 x11 x12 x13 x14 x15 x16 x17 x18 h hi fun d' y0 y1 y2 y3 y4 y5 y6 y7 y8 y9 y10 y11 y12 y13 y14 y15 y16 y17 y18 h' hl hi' => ih d' y0 y1 y2 y3 y4 y5 y6 y7 y8 y9 y10 y11 y12 y13 y14 y15 y16 y17 y18 h' (by omega) hi'
  exact key 1000000 d x0 x1 x2 x3 x4 x5 x6 x7 x8 x9 x10 x11 x12 x13 x14 x15 x16 x17 x18 h hd hi
theorem loop20 {z : V → V → V → V → V → V → V → V → V → V → V → V → V → V → V → V → V → V → V → V → H → Option R} {f : (V → V → V → V → V → V → V → V → V → V → V → V → V → V → V → V → V → V → V → V → H → Option R) → V → V → V → V → V → V → V → V → V → V → V → V → V → V → V → V → V → V → V → V → H → Option R} (I : Nat → V → V → V → V → V → V → V → V → V → V → V → V → V → V → V → V → V → V → V → V → H → Prop) (step : ∀ (d : Nat) (k : V → V → V → V → V → V → V → V → V → V → V → V → V → V → V → V → V → V → V → V → H → Option R) (x0 x1 x2 x3 x4 x5 x6 x7 x8 x9 x10 x11 x12 x13 x14 x15 x16 x17 x18 x19 : V) (h : H), I d x0 x1 x2 x3 x4 x5 x6 x7 x8 x9 x10 x11 x12 x13 x14 x15 x16 x17 x18 x19 h → (∀ (d' : Nat) (y0 y1 y2 y3 y4 y5 y6 y7 y8 y9 y10 y11 y12 y13 y14 y15 y16 y17 y18 y19 : V) (h' : H), d' < d → I d' y0 y1 y2 y3 y4 y5 y6 y7 y8 y9 y10 y11 y12 y13 y14 y15 y16 y17 y18 y19 h' → Q (k y0 y1 y2 y3 y4 y5 y6 y7 y8 y9 y10 y11 y12 y13 y14 y15 y16 y17 y18 y19 h')) → Q (f k x0 x1 x2 x3 x4 x5 x6 x7 x8 x9 x10 x11 x12 x13 x14 x15 x16 x17 x18 x19 h)) (d : Nat) {x0 x1 x2 x3 x4 x5 x6 x7 x8 x9 x10 x11 x12 x13 x14 x15 x16 x17 x18 x19 : V} {h : H} (hd : d < 1000000) (hi : I d x0 x1 x2 x3 x4 x5 x6 x7 x8 x9 x10 x11 x12 x13 x14 x15 x16 x17 x18 x19 h) : Q (fixN z f x0 x1 x2 x3 x4 x5 x6 x7 x8 x9 x10 x11 x12 x13 x14 x15 x16 x17 x18 x19 h) := by
  have key : ∀ (M d : Nat) (x0 x1 x2 x3 x4 x5 x6 x7 x8 x9 x10 x11 x12 x13 x14 x15 x16 x17 x18 x19 : V) (h : H), d < M → I d x0 x1 x2 x3 x4 x5 x6 x7 x8 x9 x10 x11 x12 x13 x14 x15 x16 x17 x18 x19 h → Q (fixM z f M x0 x1 x2 x3 x4 x5 x6 x7 x8 x9 x10 x11 x12 x13 x14 x15 x16 x17 x18 x19 h) := by
    intro M
    induction M with
    | zero => intro d x0 x1 x2 x3 x4 x5 x6 x7 x8 x9 x10 x11 x12 x13 x14 x15 x16 x17 x18 x19 h hd _; exact absurd hd (Nat.not_lt_zero _)
    | succ M ih => intro d x0 x1 x2 x3 x4 x5 x6 x7 x8 x9 x10 x11 x12 x13 x14 x15 x16 x17 x18 x19 h hd hi; exact step d (fixM z f M) x0 x1 x2 x3 x4 x5 x6 x7 x8 x9 x10 x11 x12 x13 x14 x15 x16 x17 x18 x19 h hi fun d' y0 y1 y2 y3 y4 y5 y6 y7 y8 y9 y10 y11 y12 y13 y14 y15 y16 y17 y18 y19 h' hl hi' => ih d' y0 y1 y2 y3 y4 y5 y6 y7 y8 y9 y10 y11 y12 y13 y14 y15 y16 y17 y18 y19 h' (by omega) hi'
  exact key 1000000 d x0 x1 x2 x3 x4 x5 x6 x7 x8 x9 x10 x11 x12 x13 x14 x15 x16 x17 x18 x19 h hd hi
end
end Go.X.Ev
