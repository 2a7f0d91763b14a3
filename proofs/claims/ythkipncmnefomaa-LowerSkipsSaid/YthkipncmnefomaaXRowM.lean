/- A text of the verified executor, of contracts, or of this law; joined and trimmed by a program of mine (wip/gen). -/
import Derived.Test.YthkipncmnefomaaXOrc
import Derived.ProofKit
import Derived.OpenShut
import Derived.ChangeSlices
import Derived.ChangeArms
import Derived.DataElems
set_option linter.unusedVariables false
set_option linter.unusedSimpArgs false
set_option linter.unusedSectionVars false
namespace Go.X
open Go.ChangeShapes Go.WideShapes Go.ChangeAt Go.RowKit
theorem post_of_below2 {H : Type} {enc : TypeId × Value → H} {P : Program} {f : Func} {s : ChangeSpec} {apart fresh handsOn : Bool} {W W' : World} {args : Array Value} {v : Value} {ds gs : List (DataW H)} {before pa pv : List MemPlace}
    (hW : DataW.Whole enc P f.params.toList s.vars apart W args.toList ds gs before)
    (hres : ∀ (b : Nat) (sp : Nat → Bool) (hd : Bool), DataW.TrodAll enc P W' b sp hd f.resultTypes.toList (v.resultList f.resultTypes.size) (s.fn H (ds ++ gs)).results [])
    (hargs : DataW.TrodAll enc P W' 0 (fun b => decide (b < W.heap.size)) true f.params.toList args.toList (s.fn H (ds ++ gs)).args pa)
    (hvars : ∀ sp : Nat → Bool, (∀ p ∈ before, sp p.block = true) → DataW.TrodVars enc P W' sp s.vars (s.fn H (ds ++ gs)).vars pv)
    (hps : before = pa ++ pv) (hk : W.keptBut W' (· ∈ before)) : s.post enc P f apart fresh handsOn false W args v W' := by
  have hold : ∀ p ∈ before, (fun b => decide (b < W.heap.size)) p.block = true := fun p hp => by simpa using hW.lt p hp
  refine ⟨ds, gs, before, [], pa, pv, hW, hres _ _ _, hargs, hvars _ hold, World.keptBut_mono (fun p hp => ⟨hp, ?_⟩) hk, fun h => nomatch h⟩
  rw [hps, List.mem_append] at hp
  exact Or.inr hp
end Go.X
namespace Go.X
open Go.RowKit
variable [Nu]
end Go.X
namespace Go.X
open Go.RowKit
def IntsLie (w : World) (a : Addr) (zs : List Int) : Prop := ∀ i, i < zs.length → w.cell? (a.add i) = some (.int .i64 (zs.getD i 0))
def IntsArg (w : World) (v : Value) : Prop := v = .slice none 0 0 ∨ ∃ (a : Addr) (len cap : Nat) (zs : List Int), v = .slice (some a) len cap ∧ len ≤ cap ∧ len ≤ zs.length ∧ IntsLie w a zs
theorem IntsArg.cases {w : World} {v : Value} (h : IntsArg w v) : ∃ (zs : List Int) (len : Nat), v = .slice none 0 0 ∨ (∃ a cap, v = .slice (some a) 0 cap ∧ len = 0) ∨
    (∃ a cap, v = .slice (some a) len cap ∧ 1 ≤ len ∧ len ≤ zs.length ∧ len ≤ cap ∧ IntsLie w a zs) := by
  rcases h with h | ⟨a, len, cap, zs, h1, h2, h3, h4⟩
  · exact ⟨[], 0, .inl h⟩
  · refine ⟨zs, len, .inr ?_⟩
    rcases Nat.eq_zero_or_pos len with h0 | h0
    · subst h0; exact .inl ⟨a, cap, h1, rfl⟩
    · exact .inr ⟨a, cap, h1, h0, h3, h2, h4⟩
def IntsArgW (w : World) (v : Value) : Prop := v = .slice none 0 0 ∨ ∃ (a : Addr) (len cap : Nat) (zs : List Int), v = .slice (some a) len cap ∧ len ≤ cap ∧ len ≤ zs.length ∧ IntsLie w a zs ∧ ∀ n ∈ zs, (Lit.int .i64 n).wf = true
theorem IntsArgW.cases {w : World} {v : Value} (h : IntsArgW w v) : ∃ (zs : List Int) (len : Nat), (∀ n ∈ zs, (Lit.int .i64 n).wf = true) ∧ (v = .slice none 0 0 ∨ (∃ a cap, v = .slice (some a) 0 cap ∧ len = 0) ∨
    (∃ a cap, v = .slice (some a) len cap ∧ 1 ≤ len ∧ len ≤ zs.length ∧ len ≤ cap ∧ IntsLie w a zs)) := by
  rcases h with h | ⟨a, len, cap, zs, h1, h2, h3, h4, h5⟩
  · exact ⟨[], 0, (by simp), .inl h⟩
  · refine ⟨zs, len, h5, .inr ?_⟩
    rcases Nat.eq_zero_or_pos len with h0 | h0
    · subst h0; exact .inl ⟨a, cap, h1, rfl⟩
    · exact .inr ⟨a, cap, h1, h0, h3, h2, h4⟩
def firsts (zs : List Int) : Nat → Nat → List Value
  | _, 0 => []
  | i, m + 1 => .int .i64 (zs.getD i 0) :: firsts zs (i + 1) m
end Go.X
namespace Go.X
open Go.RowKit Go.ChangeShapes
variable [Nu] {H : Type} {enc : TypeId × Value → H} {P : Program}
def Opn (enc : TypeId × Value → H) (P : Program) (E : En) (t : TypeId) (T : List V → Prop) : Prop :=
  ∀ (spare : Nat → Bool) (held : Bool) (fuel : Nat) (cs : List Value) (x : DataW H × List MemPlace), DataW.trod enc P Nu.old 0 spare held fuel t cs = some x → ∃ l, RVs E l cs ∧ T l
def IntT (l : List V) : Prop := ∃ n : Int, l = [.int .i64 n] ∧ -9223372036854775808 ≤ n ∧ n ≤ 9223372036854775807
def BoolT (l : List V) : Prop := ∃ b : Bool, l = [.bool b]
def StT : List (List V → Prop) → List V → Prop
  | [], l => l = []
  | T :: Ts, l => ∃ a r, l = a ++ r ∧ T a ∧ StT Ts r
def SlV (m : Nat) (T : List V → Prop) (v : V) : Prop := v = .nils ∨ v = .emp ∨ ∃ ls : List (List V), 1 ≤ ls.length ∧ (∀ l ∈ ls, T l ∧ l.length = m) ∧ v = .bigs m ls.flatten (.int .i64 ls.length)
def SlT (m : Nat) (T : List V → Prop) (l : List V) : Prop := ∃ v, l = [v] ∧ SlV m T v
theorem opn_int {E : En} {t : TypeId} (ht : P.underlying t = some (.int .i64)) : Opn enc P E t IntT := by
  intro spare held fuel cs x h
  obtain ⟨n, rfl, _, hw⟩ := DataW.trod_int ht h
  simp only [Lit.wf, Bool.and_eq_true, decide_eq_true_eq] at hw
  exact ⟨[.int .i64 n], RVs_one (by rw [RV]), n, rfl, hw.1, hw.2⟩
def FldsO (enc : TypeId × Value → H) (P : Program) (E : En) (tot : Nat) : Nat → List Field → List (List V → Prop) → Prop
  | off, [], [] => off = tot
  | off, f :: fs, T :: Ts => f.offset = off ∧ Opn enc P E f.type T ∧ FldsO enc P E tot (off + P.cellsOf f.type) fs Ts
  | _, _, _ => False
def OldLie (a : Addr) (ys : List Value) : Prop := ∀ (j : Nat) (y : Value), ys[j]? = some y → Nu.old.cell? (a.add j) = some y
theorem old_of {a : Addr} {ys : List Value} (h : OldLie a ys) (hne : ys ≠ []) : OldCells a ys := by
  obtain ⟨y0, hy0⟩ : ∃ y, ys[0]? = some y := by cases ys with | nil => exact absurd rfl hne | cons y l => exact ⟨y, rfl⟩
  have h0 := h 0 y0 hy0
  have hs : a.spot = none := by
    obtain ⟨b, o, s⟩ := a
    cases s with
    | none => rfl
    | some q =>
      exfalso
      unfold World.cell? at h0
      have he : ((⟨b, o, some q⟩ : Addr).add 0).spot.isSome = true := by unfold Addr.add; first | rfl | (split <;> rfl)
      rw [he] at h0
      split at h0
      · simp at h0
      · exact nomatch h0
  refine ⟨hs, fun w' hw j y hy => ?_⟩
  obtain ⟨b, o, s⟩ := a
  have hs' : s = none := hs
  subst hs'
  have hlt : b < Nu.old.heap.size := by
    rcases Nat.lt_or_ge b Nu.old.heap.size with h | h
    · exact h
    · unfold World.cell? at h0
      rw [Addr.add_lit] at h0
      rw [show Nu.old.heap[(⟨b, o + 0, none⟩ : Addr).block]? = none from Array.getElem?_eq_none h] at h0
      exact nomatch h0
  have := h j y hy
  rw [Addr.add_lit] at this ⊢
  rw [hw.cell (p := ⟨b, o + j, none⟩) hlt, this]
theorem opn_slice {E : En} {t e : TypeId} {m : Nat} {T : List V → Prop} (ht : P.underlying t = some (.slice e)) (hm : P.cellsOf e = m) (hm1 : 1 ≤ m) (he : Opn enc P E e T) : Opn enc P E t (SlT m T) := by
  intro spare held fuel cs x h
  rcases DataW.trod_slice ht h with ⟨rfl, _⟩ | ⟨a, len, cap, elems, rest, n, _, rfl, _, _, hcap, _, hlen, hel, _, _⟩
  · exact ⟨[.nils], RVs_one (by rw [RV]), .nils, rfl, .inl rfl⟩
  rw [hm] at hel
  rcases Nat.eq_zero_or_pos len with h0 | h0
  · subst h0
    exact ⟨[.emp], RVs_one (by rw [RV]; exact ⟨a, cap, rfl⟩), .emp, rfl, .inr (.inl rfl)⟩
  have key : ∀ k, k ≤ len → ∃ (ls : List (List V)) (ys : List Value), ls.length = k ∧ (∀ l ∈ ls, T l ∧ l.length = m) ∧ RVs E ls.flatten ys ∧ ys.length = k * m ∧ OldLie a ys := by
    intro k
    induction k with
    | zero => exact fun _ => ⟨[], [], rfl, fun _ h => (nomatch h), RVs_none, by simp, fun j y h => by simp at h⟩
    | succ k ih =>
      intro hk
      obtain ⟨ls, ys, h1, h2, h3, h4, h5⟩ := ih (by omega)
      have hk' := hel k (by omega)
      rw [List.getElem?_eq_getElem (by omega), Option.bind_eq_some_iff] at hk'
      obtain ⟨cs', hcs, hy⟩ := hk'
      obtain ⟨_, hl', hc'⟩ := World.cells?_some hcs
      obtain ⟨l, hl, hT⟩ := he _ _ _ _ _ hy
      refine ⟨ls ++ [l], ys ++ cs', by simp [h1], fun l' hm' => ?_, ?_, by rw [List.length_append, h4, hl', Nat.add_mul, Nat.one_mul], fun j y hj => ?_⟩
      · rcases List.mem_append.1 hm' with hm' | hm'
        · exact h2 l' hm'
        · rw [List.mem_singleton.1 hm']; exact ⟨hT, by rw [← RVs_length hl, hl']⟩
      · rw [List.flatten_append]
        refine RVs_append h3 ?_
        simpa using hl
      · rcases Nat.lt_or_ge j ys.length with h | h
        · rw [List.getElem?_append_left h] at hj; exact h5 j y hj
        · rw [List.getElem?_append_right h] at hj
          have hlt := (List.getElem?_eq_some_iff.1 hj).1
          have := hc' (j - ys.length) (by omega)
          rw [hj, Addr.add_add, h4, show k * m + (j - k * m) = j by omega] at this
          exact this
  obtain ⟨ls, ys, h1, h2, h3, h4, h5⟩ := key len (Nat.le_refl _)
  have hpos : 0 < len * m := Nat.mul_pos h0 hm1
  refine ⟨[.bigs m ls.flatten (.int .i64 ls.length)], RVs_one ?_, _, rfl, .inr (.inr ⟨ls, by omega, h2, rfl⟩)⟩
  rw [RV]
  exact ⟨a, len, cap, ys, rfl, hcap, by rw [← RVs_length h3, h4]; exact Nat.le_refl _, by rw [RV, h1], h3, old_of h5 (by intro h; rw [h] at h4; simp at h4; omega)⟩
end Go.X
