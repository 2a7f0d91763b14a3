/- A verified executor, part 30: slices of whole numbers that come in. -/
import Derived.Test.YtmlelffjcgealaaDoorXMore
import Derived.ChangeSlices
set_option linter.unusedVariables false
set_option linter.unusedSimpArgs false
set_option linter.unusedSectionVars false
namespace Go.X
open Go.RowKit

/-- These whole numbers lie there. -/
def IntsLie (w : World) (a : Addr) (zs : List Int) : Prop := ∀ i, i < zs.length → w.cell? (a.add i) = some (.int .i64 (zs.getD i 0))
/-- A slice of whole numbers that came in. -/
def IntsArg (w : World) (v : Value) : Prop := v = .slice none 0 0 ∨ ∃ (a : Addr) (len cap : Nat) (zs : List Int), v = .slice (some a) len cap ∧ len ≤ cap ∧ len ≤ zs.length ∧ IntsLie w a zs
theorem IntsArg.cases {w : World} {v : Value} (h : IntsArg w v) : ∃ (zs : List Int) (len : Nat), v = .slice none 0 0 ∨ (∃ a cap, v = .slice (some a) 0 cap ∧ len = 0) ∨
    (∃ a cap, v = .slice (some a) len cap ∧ 1 ≤ len ∧ len ≤ zs.length ∧ len ≤ cap ∧ IntsLie w a zs) := by
  rcases h with h | ⟨a, len, cap, zs, h1, h2, h3, h4⟩
  · exact ⟨[], 0, .inl h⟩
  · refine ⟨zs, len, .inr ?_⟩
    rcases Nat.eq_zero_or_pos len with h0 | h0
    · subst h0; exact .inl ⟨a, cap, h1, rfl⟩
    · exact .inr ⟨a, cap, h1, h0, h3, h2, h4⟩
/-- The same, and what lies there is of the kind. -/
def IntsArgW (w : World) (v : Value) : Prop := v = .slice none 0 0 ∨ ∃ (a : Addr) (len cap : Nat) (zs : List Int), v = .slice (some a) len cap ∧ len ≤ cap ∧ len ≤ zs.length ∧ IntsLie w a zs ∧ ∀ n ∈ zs, (Lit.int .i64 n).wf = true
theorem IntsArgW.cases {w : World} {v : Value} (h : IntsArgW w v) : ∃ (zs : List Int) (len : Nat), (∀ n ∈ zs, (Lit.int .i64 n).wf = true) ∧ (v = .slice none 0 0 ∨ (∃ a cap, v = .slice (some a) 0 cap ∧ len = 0) ∨
    (∃ a cap, v = .slice (some a) len cap ∧ 1 ≤ len ∧ len ≤ zs.length ∧ len ≤ cap ∧ IntsLie w a zs)) := by
  rcases h with h | ⟨a, len, cap, zs, h1, h2, h3, h4, h5⟩
  · exact ⟨[], 0, (by simp), .inl h⟩
  · refine ⟨zs, len, h5, .inr ?_⟩
    rcases Nat.eq_zero_or_pos len with h0 | h0
    · subst h0; exact .inl ⟨a, cap, h1, rfl⟩
    · exact .inr ⟨a, cap, h1, h0, h3, h2, h4⟩
/-- The first so many, from a place on. -/
def firsts (zs : List Int) : Nat → Nat → List Value
  | _, 0 => []
  | i, m + 1 => .int .i64 (zs.getD i 0) :: firsts zs (i + 1) m
theorem firsts_length (zs : List Int) : ∀ (m i : Nat), (firsts zs i m).length = m
  | 0, i => rfl
  | m + 1, i => by rw [firsts, List.length_cons, firsts_length zs m]
theorem firsts_get (zs : List Int) : ∀ (m i j : Nat) (y : Value), (firsts zs i m)[j]? = some y → j < m ∧ y = .int .i64 (zs.getD (i + j) 0)
  | 0, i, j, y, h => by simp [firsts] at h
  | m + 1, i, 0, y, h => by
    simp only [firsts, List.getElem?_cons_zero, Option.some.injEq] at h
    exact ⟨by omega, by rw [← h]; rfl⟩
  | m + 1, i, j + 1, y, h => by
    simp only [firsts, List.getElem?_cons_succ] at h
    obtain ⟨h1, h2⟩ := firsts_get zs m (i + 1) j y h
    exact ⟨by omega, by rw [h2, show i + 1 + j = i + (j + 1) by omega]⟩
theorem bigs_rv [Nu] {a : Addr} {zs : List Int} {len cap : Nat} (hold : IntsLie Nu.old a zs) (hcap : len ≤ cap) (hlz : len ≤ zs.length) {m : Nat} (hm : m ≤ len ∧ 1 ≤ len) {E : En} {n : V} (hn : RV E n (.int .i64 len)) {l : List V}
    (hl : RVs E l (firsts zs 0 m)) : RV E (.bigs 1 l n) (.slice (some a) len cap) := by
  have h0 := hold 0 (by omega)
  have hs : a.spot = none := by
    obtain ⟨b, o, s⟩ := a
    cases s with
    | none => rfl
    | some q =>
      exfalso
      unfold World.cell? at h0
      have he : ((⟨b, o, some q⟩ : Addr).add 0).spot.isSome = true := by unfold Addr.add; first | rfl | (split <;> rfl)
      rw [he] at h0
      split at h0
      · simp at h0
      · exact nomatch h0
  obtain ⟨b, o, s⟩ := a
  have hs' : s = none := hs
  subst hs'
  have hlt : b < Nu.old.heap.size := by
    rcases Nat.lt_or_ge b Nu.old.heap.size with h | h
    · exact h
    · unfold World.cell? at h0
      rw [Addr.add_lit] at h0
      rw [show Nu.old.heap[(⟨b, o + 0, none⟩ : Addr).block]? = none from Array.getElem?_eq_none h] at h0
      exact nomatch h0
  have hlen := RVs_length hl
  rw [firsts_length] at hlen
  rw [RV]
  refine ⟨_, len, cap, firsts zs 0 m, rfl, hcap, by omega, hn, hl, rfl, fun w' hw j y hy => ?_⟩
  obtain ⟨h1, h2⟩ := firsts_get zs m 0 j y hy
  have := hold j (by omega)
  rw [Addr.add_lit] at this ⊢
  rw [hw.cell (p := ⟨b, o + j, none⟩) hlt, this, h2, Nat.zero_add]
end Go.X
