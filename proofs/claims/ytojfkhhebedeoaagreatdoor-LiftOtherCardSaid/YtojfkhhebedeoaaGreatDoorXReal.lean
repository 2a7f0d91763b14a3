/- A verified executor, part 6: runs of the model's own operations on memory. -/
import Derived.Test.YtojfkhhebedeoaaGreatDoorXRel
import Derived.Laws.Cells
import Derived.Laws.NewFold
import Derived.ChangeKeysEq
set_option linter.unusedVariables false
set_option linter.unusedSimpArgs false
set_option linter.unusedSectionVars false
namespace Go.X
open Go.RowKit
variable [Nu]

section
variable {P : Program} (w : World)

theorem r_info {t : TypeId} {i : TypeInfo} (h : P.info? t = some i) : (typeInfo t).run P w = .ok i w := by simp [typeInfo, h]
theorem r_zero {t : TypeId} {i : TypeInfo} {z : Value} (h : P.info? t = some i) (hz : i.zero = some z) : (zeroValue t).run P w = .ok z w := by simp [zeroValue, r_info w h, hz]
theorem r_size {t : TypeId} {i : TypeInfo} (h : P.info? t = some i) : (sizeOf t).run P w = .ok i.size w := by simp [sizeOf, r_info w h]
theorem r_under {t : TypeId} {d : TypeDesc} (h : P.underlying t = some d) : (underlying t).run P w = .ok d w := run_underlying h w

def aggB : TypeDesc → Bool
  | .struct _ => true
  | .array _ _ => true
  | _ => false
theorem r_isAgg {t : TypeId} {d : TypeDesc} (h : P.underlying t = some d) : (isAgg t).run P w = .ok (aggB d) w := by
  simp only [isAgg, Sem.run_bind, r_under w h, Result.andThen_ok]
  cases d <;> rfl

theorem r_load1 {t : TypeId} {d : TypeDesc} (h : P.underlying t = some d) (hd : aggB d = false) {a : Addr} {v : Value} (hc : w.cell? a = some v) : (loadVar t a).run P w = .ok v w := by
  simp [loadVar, r_isAgg w h, hd, hc]
theorem r_loadN {t : TypeId} {d : TypeDesc} (h : P.underlying t = some d) (hd : aggB d = true) {i : TypeInfo} (hi : P.info? t = some i) {a : Addr} {cs : List Value} (hl : cs.length = i.size)
    (hc : ∀ j v, cs[j]? = some v → w.cell? (a.add j) = some v) : (loadVar t a).run P w = .ok (.agg cs.toArray) w := by
  simp only [loadVar, Sem.run_bind, r_isAgg w h, hd, Result.andThen_ok, if_true, r_size w hi]
  rw [← hl, run_loadCells_list w a cs hc]
  rfl

theorem setCells_other (b : Nat) : ∀ (vs : List Value) (o : Nat) (w : World) (i : Nat), i ≠ b → (w.setCells b o vs).heap[i]? = w.heap[i]?
  | [], _, _, _, _ => rfl
  | v :: r, o, w, i, h => by
    rw [World.setCells, setCells_other b r _ _ _ h]
    exact Below.heap_setCell w ⟨b, o, none⟩ v i h
theorem setCells_size (b : Nat) : ∀ (vs : List Value) (o : Nat) (w : World), (w.setCells b o vs).heap.size = w.heap.size
  | [], _, _ => rfl
  | v :: r, o, w => by rw [World.setCells, setCells_size b r]; simp
theorem setCells_os (b : Nat) : ∀ (vs : List Value) (o : Nat) (w : World), (w.setCells b o vs).os = w.os
  | [], _, _ => rfl
  | v :: r, o, w => by rw [World.setCells, setCells_os b r]; rfl
theorem setCells_tape (b : Nat) : ∀ (vs : List Value) (o : Nat) (w : World), (w.setCells b o vs).tape = w.tape
  | [], _, _ => rfl
  | v :: r, o, w => by rw [World.setCells, setCells_tape b r]; rfl
theorem setCells_output (b : Nat) : ∀ (vs : List Value) (o : Nat) (w : World), (w.setCells b o vs).output = w.output
  | [], _, _ => rfl
  | v :: r, o, w => by rw [World.setCells, setCells_output b r]; rfl

/-- Items from o on are written over. -/
def over (vs : List Value) (l : List Value) (o : Nat) : List Value := l.take o ++ (vs ++ l.drop (o + vs.length))
theorem over_length (vs l : List Value) (o : Nat) (h : o + vs.length ≤ l.length) : (over vs l o).length = l.length := by simp [over]; omega
theorem over_cons (v : Value) (r l : List Value) (o : Nat) (h : o + (v :: r).length ≤ l.length) : over r (l.set o v) (o + 1) = over (v :: r) l o := by
  have hlen : o < l.length := by simp at h; omega
  have e1 : (l.set o v).take (o + 1) = l.take o ++ [v] := by
    rw [List.take_set, List.take_succ_eq_append_getElem hlen, List.set_append_right _ _ (by simp; omega)]
    simp [Nat.min_eq_left (Nat.le_of_lt hlen)]
  have e2 : (l.set o v).drop (o + 1 + r.length) = l.drop (o + 1 + r.length) := by
    rw [List.drop_set_of_lt (by omega)]
  rw [over, over, e1, e2]
  simp only [List.length_cons, List.append_assoc, List.singleton_append, List.cons_append]
  rw [show o + (r.length + 1) = o + 1 + r.length from by omega, List.nil_append]

theorem setCells_heap (b : Nat) : ∀ (vs : List Value) (o : Nat) (w : World) (l : List Value) (el : TypeId) (fz : Nat × Nat), w.heap[b]? = some (.cells l.toArray el fz) → o + vs.length ≤ l.length →
    (w.setCells b o vs).heap[b]? = some (.cells (over vs l o).toArray el fz)
  | [], o, w, l, el, fz, h, hl => by rw [World.setCells, h]; simp [over]
  | v :: r, o, w, l, el, fz, h, hl => by
    have h1 : (w.setCell ⟨b, o, none⟩ v).heap[b]? = some (.cells (l.set o v).toArray el fz) := by
      simp only [World.setCell, Array.getElem?_modify, if_true, h, Option.map_some]
      simp
    rw [World.setCells, setCells_heap b r (o + 1) _ (l.set o v) el fz h1 (by simp at hl ⊢; omega), over_cons v r l o hl]

theorem cell_of {r : Nat} {l : List Value} {el : TypeId} {fz : Nat × Nat} (h : w.heap[r]? = some (.cells l.toArray el fz)) (o : Nat) : w.cell? ⟨r, o, none⟩ = l[o]? := by
  simp [World.cell?, h]
theorem frozen_of {r : Nat} {l : List Value} {el : TypeId} {fz : Nat × Nat} (h : w.heap[r]? = some (.cells l.toArray el fz)) (hf : ∀ i, i < l.length → ¬(fz.1 ≤ i ∧ i < fz.2)) (o : Nat) (ho : o < l.length) : w.frozen? ⟨r, o, none⟩ = false := by
  have := hf o ho
  simp only [World.frozen?, h]
  simp only [Bool.and_eq_false_iff, decide_eq_false_iff_not]
  omega

theorem r_storeCells {r : Nat} {l : List Value} {el : TypeId} {fz : Nat × Nat} (h : w.heap[r]? = some (.cells l.toArray el fz)) (hf : ∀ i, i < l.length → ¬(fz.1 ≤ i ∧ i < fz.2))
    (o : Nat) (vs : List Value) (hl : o + vs.length ≤ l.length) (h1 : ∀ v ∈ vs, v.oneCell' = true) : (storeCells ⟨r, o, none⟩ vs).run P w = .ok () (w.setCells r o vs) := by
  have := run_storeCells_cells (P := P) r o vs 0 w (fun j hj => by rw [cell_of w h]; simp; omega) (fun j hj => frozen_of w h hf _ (by omega)) h1
  simpa using this
theorem r_store {t : TypeId} {i : TypeInfo} (hi : P.info? t = some i) {r : Nat} {l : List Value} {el : TypeId} {fz : Nat × Nat} (h : w.heap[r]? = some (.cells l.toArray el fz)) (hf : ∀ i, i < l.length → ¬(fz.1 ≤ i ∧ i < fz.2))
    (o : Nat) (v : Value) (hs : v.cells.size = i.size) (hl : o + v.cells.toList.length ≤ l.length) (h1 : ∀ u ∈ v.cells.toList, u.oneCell' = true) :
    (storeVar t ⟨r, o, none⟩ v).run P w = .ok () (w.setCells r o v.cells.toList) := by
  simp only [storeVar, Sem.run_bind, r_size w hi, Result.andThen_ok, hs, ne_eq, not_true_eq_false, if_false]
  exact r_storeCells w h hf o _ hl h1
end

/-! the abstract side's lists -/
theorem nthK_some {R : Type} (K : V → Option R) (r : R) : ∀ (l : List V) (n : Nat), nthK K l n = some r ↔ ∃ v, l[n]? = some v ∧ K v = some r
  | [], n => by show none = some r ↔ _; simp
  | x :: l, 0 => by show K x = some r ↔ _; simp
  | x :: l, n + 1 => by show nthK K l n = some r ↔ _; rw [nthK_some K r l n]; simp
theorem takeK_some {R : Type} (r : R) : ∀ (n : Nat) (l : List V) (K : List V → Option R), takeK n l K = some r ↔ n ≤ l.length ∧ K (l.take n) = some r
  | 0, l, K => by show K [] = some r ↔ _; simp
  | n + 1, [], K => by show none = some r ↔ _; simp
  | n + 1, x :: l, K => by show takeK n l (fun q => K (x :: q)) = some r ↔ _; rw [takeK_some r n l]; simp
theorem overK_some {R : Type} (r : R) : ∀ (vs l : List V) (K : List V → Option R), overK vs l K = some r ↔ vs.length ≤ l.length ∧ K (vs ++ l.drop vs.length) = some r
  | [], l, K => by show K l = some r ↔ _; simp
  | v :: vs, [], K => by show none = some r ↔ _; simp
  | v :: vs, x :: l, K => by show overK vs l (fun q => K (v :: q)) = some r ↔ _; rw [overK_some r vs l]; simp
theorem putAtK_some {R : Type} (r : R) (vs : List V) : ∀ (o : Nat) (l : List V) (K : List V → Option R), putAtK vs K l o = some r ↔ o + vs.length ≤ l.length ∧ K (l.take o ++ (vs ++ l.drop (o + vs.length))) = some r
  | 0, l, K => by show overK vs l K = some r ↔ _; rw [overK_some]; simp
  | o + 1, [], K => by show none = some r ↔ _; simp
  | o + 1, x :: l, K => by
    show putAtK vs (fun q => K (x :: q)) l o = some r ↔ _
    rw [putAtK_some r vs o l]
    have e : o + 1 + vs.length = (o + vs.length) + 1 := by omega
    rw [e]
    simp
theorem isNil_iff {α : Type} (l : List α) : isNil l = true ↔ l = [] := by
  cases l with
  | nil => exact ⟨fun _ => rfl, fun _ => rfl⟩
  | cons x l => exact ⟨fun h => (nomatch h), fun h => (nomatch h)⟩
theorem boolRec_some {R : Type} (b : Bool) (x : Option R) (r : R) : (Bool.rec none x b : Option R) = some r ↔ b = true ∧ x = some r := by
  cases b
  · exact ⟨fun h => (nomatch h), fun h => (nomatch h.1)⟩
  · exact ⟨fun h => ⟨rfl, h⟩, fun h => h.2⟩
theorem optRec_some {R α : Type} (o : Option α) (f : α → Option R) (r : R) : (Option.rec none f o : Option R) = some r ↔ ∃ a, o = some a ∧ f a = some r := by
  cases o with
  | none => exact ⟨fun h => (nomatch h), fun ⟨_, h, _⟩ => (nomatch h)⟩
  | some a => exact ⟨fun h => ⟨a, rfl, h⟩, fun ⟨_, h, h'⟩ => by simp only [Option.some.injEq] at h; rw [h]; exact h'⟩
theorem RVs_over {E : En} {vs l : List V} {ys xs : List Value} (o : Nat) (h : RVs E vs ys) (h' : RVs E l xs) : RVs E (l.take o ++ (vs ++ l.drop (o + vs.length))) (over ys xs o) := by
  have e := RVs_length h
  rw [over, e]
  exact RVs_append (RVs_take _ h') (RVs_append h (RVs_drop _ h'))
end Go.X
