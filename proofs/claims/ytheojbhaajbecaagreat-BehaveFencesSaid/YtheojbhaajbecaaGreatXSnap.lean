/- A verified executor: rows by snapshots: a call's arguments are told as memory that was there before; what the call comes to by itself is brought in. -/
import Derived.Test.YtheojbhaajbecaaGreatXDirT
set_option linter.unusedVariables false
set_option linter.unusedSimpArgs false
set_option linter.unusedSectionVars false
namespace Go.X
open Go.RowKit
noncomputable section

/-! arguments as old memory -/
def kret (v : V) : Kal V := fun _ h K => K v h
def kno : Kal V := fun _ _ _ => none
def snapsOf (f : V → Kal V) : List V → Kal (List V) := List.rec (fun _ h K => K [] h) (fun v _ ih R h K => f v R h fun x h => ih R h fun l h => K (x :: l) h)
def snapPtr (b o : Nat) (f : V → Kal V) : Kal V := fun R h K => read b R h fun k h => Blk.rec (fun c _ _ => snapsOf f (dropN c o) R h fun l h => K (V.view l) h) (fun _ => none) none (fun _ _ _ _ _ => none) k
def snapSlice (b o n es : Nat) (f : V → Kal V) : Kal V := fun R h K => read b R h fun k h => Blk.rec (fun c _ _ => takeK (Nat.mul n es) (dropN c o) fun l => snapsOf f l R h fun l h => K (V.bigs es l (.int .i64 (Int.ofNat n))) h) (fun _ => none) none (fun _ _ _ _ _ => none) k
def snapStep : V → (V → Kal V) → Kal V := @V.rec (fun _ => (V → Kal V) → Kal V) (fun _ => PUnit.{2}) (fun k n _ => kret (.int k n)) (fun b _ => kret (.bool b)) (fun s _ => kret (.str s)) (fun b o f => snapPtr b o f) (fun _ => kret .nilp) (fun b o n es _ f => snapSlice b o n es f) (fun _ => kret .nils) (fun _ => kret .emp) (fun _ _ => kno) (fun _ => kret .nilmap)
  (fun g a c _ _ f R h K => snapsOf f a R h fun a h => snapsOf f c R h fun c h => K (V.fn g a c) h) (fun _ => kret .nilfn) (fun t v _ f R h K => f v R h fun v h => K (V.iface t v) h) (fun _ => kret .nili) (fun l _ f R h K => snapsOf f l R h fun l h => K (V.agg l) h) (fun k i _ => kret (.sym k i))
  (fun es l n _ _ f R h K => snapsOf f l R h fun l h => f n R h fun n h => K (V.bigs es l n) h) (fun l _ f R h K => snapsOf f l R h fun l h => K (V.view l) h) (fun l _ f R h K => snapsOf f l R h fun l h => K (V.tup l) h) (fun _ _ => kno) PUnit.unit (fun _ _ _ _ => PUnit.unit)
def snapN : Nat → V → Kal V := Nat.rec (fun _ => kno) (fun _ ih v => snapStep v ih)

/-- The names mean the same; what lies in this world was there before. -/
abbrev nuAt (N : Nu) (w : World) : Nu := ⟨N.val, w, N.prog⟩
def E0 : En := ⟨fun _ => none, fun _ => 0, []⟩

theorem snapsOf_good {f : V → Kal V} (hf : ∀ v, Good (f v)) : ∀ l, Good (snapsOf f l)
  | [] => Good.pure []
  | v :: l => Good.bind (hf v) (k := fun x R h K => snapsOf f l R h fun l h => K (x :: l) h) fun x => Good.bind (snapsOf_good hf l) (k := fun l _ h K => K (x :: l) h) fun l => Good.pure _
theorem blkCells_good {α : Type} {f : List V → Kal α} (hf : ∀ c, Good (f c)) (k : Blk) : Good (fun R h K => (Blk.rec (fun c _ _ => f c R h K) (fun _ => none) none (fun _ _ _ _ _ => none) k : Option R)) := by
  cases k with
  | cells c w y => exact hf c
  | map es => exact Good.fail
  | dead => exact Good.fail
  | loop g j st p tm => exact Good.fail
theorem takeK_good {α : Type} {f : List V → Kal α} (hf : ∀ c, Good (f c)) (n : Nat) (l : List V) : Good (fun R h K => takeK n l fun l => f l R h K) := by
  have e : (fun R h K => takeK n l fun l => f l R h K : Kal α) = fun R h K => (if n ≤ l.length then f (l.take n) R h K else none) := by funext R h K; rw [takeK_eq]
  rw [e]
  by_cases c : n ≤ l.length
  · simp only [if_pos c]; exact hf _
  · simp only [if_neg c]; exact Good.fail
theorem snapN_good : ∀ (n : Nat) (v : V), Good (snapN n v)
  | 0, v => Good.fail
  | n + 1, v => by
    have ih := snapN_good n
    have ihs := snapsOf_good ih
    show Good (snapStep v (snapN n))
    cases v with
    | ptr b o => exact Good.bind (Good.read b) (k := fun k R h K => Blk.rec (fun c _ _ => snapsOf (snapN n) (dropN c o) R h fun l h => K (V.view l) h) (fun _ => none) none (fun _ _ _ _ _ => none) k) fun k =>
        blkCells_good (f := fun c R h K => snapsOf (snapN n) (dropN c o) R h fun l h => K (V.view l) h) (fun c => Good.bind (ihs _) (k := fun l _ h K => K (V.view l) h) fun l => Good.pure _) k
    | slice b o m es cap =>
      have g1 : ∀ c, Good (fun R h K => takeK (Nat.mul m es) (dropN c o) fun l => snapsOf (snapN n) l R h fun l h => K (V.bigs es l (.int .i64 (Int.ofNat m))) h) := fun c =>
        takeK_good (f := fun l R h K => snapsOf (snapN n) l R h fun l h => K (V.bigs es l (.int .i64 (Int.ofNat m))) h) (fun l => Good.bind (ihs l) (k := fun l _ h K => K (V.bigs es l (.int .i64 (Int.ofNat m))) h) fun l => Good.pure _) (Nat.mul m es) (dropN c o)
      exact Good.bind (Good.read b) (k := fun k R h K => Blk.rec (fun c _ _ => takeK (Nat.mul m es) (dropN c o) fun l => snapsOf (snapN n) l R h fun l h => K (V.bigs es l (.int .i64 (Int.ofNat m))) h) (fun _ => none) none (fun _ _ _ _ _ => none) k) fun k => blkCells_good g1 k
    | fn g a c => exact Good.bind (ihs a) (k := fun a R h K => snapsOf (snapN n) c R h fun c h => K (V.fn g a c) h) fun a => Good.bind (ihs c) (k := fun c _ h K => K (V.fn g a c) h) fun c => Good.pure _
    | iface t v => exact Good.bind (ih v) (k := fun v _ h K => K (V.iface t v) h) fun v => Good.pure _
    | agg l => exact Good.bind (ihs l) (k := fun l _ h K => K (V.agg l) h) fun l => Good.pure _
    | tup l => exact Good.bind (ihs l) (k := fun l _ h K => K (V.tup l) h) fun l => Good.pure _
    | view l => exact Good.bind (ihs l) (k := fun l _ h K => K (V.view l) h) fun l => Good.pure _
    | bigs es l m => exact Good.bind (ihs l) (k := fun l R h K => snapN n m R h fun m h => K (V.bigs es l m) h) fun l => Good.bind (ih m) (k := fun m _ h K => K (V.bigs es l m) h) fun m => Good.pure _
    | map b => exact Good.fail
    | yld b => exact Good.fail
    | _ => exact Good.pure _

/-! a value's meaning, put together -/
section
variable [Nu] {E : En} {x : Value}
theorem rvI_int {k : IntKind} {z : Int} (h : x = .int k z) : RV E (.int k z) x := by rw [RV]; exact h
theorem rvI_bool {b : Bool} (h : x = .bool b) : RV E (.bool b) x := by rw [RV]; exact h
theorem rvI_str {s : List Nat} (h : ∃ t : ByteArray, x = .string t ∧ t.data.toList.map (·.toNat) = s) : RV E (.str s) x := by rw [RV]; exact h
theorem rvI_nilp (h : x = .pointer none) : RV E .nilp x := by rw [RV]; exact h
theorem rvI_nils (h : x = .slice none 0 0) : RV E .nils x := by rw [RV]; exact h
theorem rvI_emp (h : ∃ a c, x = .slice (some a) 0 c) : RV E .emp x := by rw [RV]; exact h
theorem rvI_nilmap (h : x = .map none) : RV E .nilmap x := by rw [RV]; exact h
theorem rvI_nilfn (h : x = .nilFunc) : RV E .nilfn x := by rw [RV]; exact h
theorem rvI_nili (h : x = .nilIface) : RV E .nili x := by rw [RV]; exact h
theorem rvI_sym {k : IntKind} {i : Nat} (h : x = .int k (Nu.val i)) : RV E (.sym k i) x := by rw [RV]; exact h
theorem rvI_fn {f : Fn} {a c : List V} (h : ∃ l m : List Value, x = .func f l.toArray m.toArray ∧ RVs E a l ∧ RVs E c m) : RV E (.fn f a c) x := by rw [RV]; exact h
theorem rvI_iface {t : Nat} {v : V} (h : ∃ y, x = .iface t y ∧ RV E v y) : RV E (.iface t v) x := by rw [RV]; exact h
theorem rvI_agg {l : List V} (h : ∃ ys : List Value, x = .agg ys.toArray ∧ RVs E l ys) : RV E (.agg l) x := by rw [RV]; exact h
theorem rvI_tup {l : List V} (h : ∃ ys : List Value, x = .tuple ys.toArray ∧ RVs E l ys) : RV E (.tup l) x := by rw [RV]; exact h
theorem rvI_view {l : List V} (h : ∃ (a : Addr) (ys : List Value), x = .pointer (some a) ∧ RVs E l ys ∧ OldCells a ys) : RV E (.view l) x := by rw [RV]; exact h
theorem rvI_bigs {es : Nat} {l : List V} {n : V} (h : ∃ (a : Addr) (L c : Nat) (ys : List Value), x = .slice (some a) L c ∧ L ≤ c ∧ l.length ≤ L * es ∧ RV E n (.int .i64 L) ∧ RVs E l ys ∧ OldCells a ys) : RV E (.bigs es l n) x := by rw [RV]; exact h
theorem rvI_ptr {b o : Nat} (h : ∃ r, E.mu b = some r ∧ x = .pointer (some ⟨r, o, none⟩)) : RV E (.ptr b o) x := by rw [RV]; exact h
theorem rvI_map {b : Nat} (h : ∃ r, E.mu b = some r ∧ x = .map (some r)) : RV E (.map b) x := by rw [RV]; exact h
theorem rvI_slice {b o n es : Nat} {cap : Option Nat} (h : 1 ≤ es ∧ ∃ r c, E.mu b = some r ∧ x = .slice (some ⟨r, o, none⟩) n c ∧ n ≤ c ∧ (match cap with | some q => c = q | none => o + c * es = E.sz b)) : RV E (.slice b o n es cap) x := by rw [RV]; exact h
end

section
variable [Nu] {E : En} {x : Value}
theorem rvQ_int {k : IntKind} {z : Int} : RV E (.int k z) x ↔ (x = .int k z) := by rw [RV]
theorem rvQ_bool {b : Bool} : RV E (.bool b) x ↔ (x = .bool b) := by rw [RV]
theorem rvQ_str {s : List Nat} : RV E (.str s) x ↔ (∃ t : ByteArray, x = .string t ∧ t.data.toList.map (·.toNat) = s) := by rw [RV]
theorem rvQ_nilp : RV E .nilp x ↔ (x = .pointer none) := by rw [RV]
theorem rvQ_nils : RV E .nils x ↔ (x = .slice none 0 0) := by rw [RV]
theorem rvQ_emp : RV E .emp x ↔ (∃ a c, x = .slice (some a) 0 c) := by rw [RV]
theorem rvQ_nilmap : RV E .nilmap x ↔ (x = .map none) := by rw [RV]
theorem rvQ_nilfn : RV E .nilfn x ↔ (x = .nilFunc) := by rw [RV]
theorem rvQ_nili : RV E .nili x ↔ (x = .nilIface) := by rw [RV]
theorem rvQ_sym {k : IntKind} {i : Nat} : RV E (.sym k i) x ↔ (x = .int k (Nu.val i)) := by rw [RV]
theorem rvQ_fn {f : Fn} {a c : List V} : RV E (.fn f a c) x ↔ (∃ l m : List Value, x = .func f l.toArray m.toArray ∧ RVs E a l ∧ RVs E c m) := by rw [RV]
theorem rvQ_iface {t : Nat} {v : V} : RV E (.iface t v) x ↔ (∃ y, x = .iface t y ∧ RV E v y) := by rw [RV]
theorem rvQ_agg {l : List V} : RV E (.agg l) x ↔ (∃ ys : List Value, x = .agg ys.toArray ∧ RVs E l ys) := by rw [RV]
theorem rvQ_tup {l : List V} : RV E (.tup l) x ↔ (∃ ys : List Value, x = .tuple ys.toArray ∧ RVs E l ys) := by rw [RV]
theorem rvQ_view {l : List V} : RV E (.view l) x ↔ (∃ (a : Addr) (ys : List Value), x = .pointer (some a) ∧ RVs E l ys ∧ OldCells a ys) := by rw [RV]
theorem rvQ_bigs {es : Nat} {l : List V} {n : V} : RV E (.bigs es l n) x ↔ (∃ (a : Addr) (L c : Nat) (ys : List Value), x = .slice (some a) L c ∧ L ≤ c ∧ l.length ≤ L * es ∧ RV E n (.int .i64 L) ∧ RVs E l ys ∧ OldCells a ys) := by rw [RV]
theorem rvQ_ptr {b o : Nat} : RV E (.ptr b o) x ↔ (∃ r, E.mu b = some r ∧ x = .pointer (some ⟨r, o, none⟩)) := by rw [RV]
theorem rvQ_map {b : Nat} : RV E (.map b) x ↔ (∃ r, E.mu b = some r ∧ x = .map (some r)) := by rw [RV]
theorem rvQ_slice {b o n es : Nat} {cap : Option Nat} : RV E (.slice b o n es cap) x ↔ (1 ≤ es ∧ ∃ r c, E.mu b = some r ∧ x = .slice (some ⟨r, o, none⟩) n c ∧ n ≤ c ∧ (match cap with | some q => c = q | none => o + c * es = E.sz b)) := by rw [RV]; exact Iff.rfl
end

variable [N : Nu]
/-- Told from the memory at hand. -/
def SnapOK (h h' : H) : Prop := (∀ b, h'.at b = h.at b) ∧ h'.nx = h.nx
theorem snapsOf_ok {f : V → Kal V} (hg : ∀ v, Good (f v)) {w0 : World} {E : En} {wd : World}
    (hf : ∀ (v : V) (h : H) (v' : V) (h' : H) (x : Value), run (f v) h = some (v', h') → Sim w0 E h wd → RV E v x → @RV (nuAt N wd) E0 v' x ∧ SnapOK h h') :
    ∀ (l : List V) (h : H) (l' : List V) (h' : H) (xs : List Value), run (snapsOf f l) h = some (l', h') → Sim w0 E h wd → RVs E l xs → @RVs (nuAt N wd) E0 l' xs ∧ SnapOK h h'
  | [], h, l', h', xs, hr, hs, hx => by
    obtain ⟨rfl, rfl⟩ := run_pure.1 hr
    rw [RVs_nil.1 hx]
    exact ⟨@RVs_none (nuAt N wd) E0, fun _ => rfl, rfl⟩
  | v :: l, h, l', h', xs, hr, hs, hx => by
    obtain ⟨y, r, rfl, hx1, hx2⟩ := RVs_cons.1 hx
    obtain ⟨v', h1, e1, e2⟩ := (Good.run_bind (k := fun x R h K => snapsOf f l R h fun l h => K (x :: l) h) (hg v)).1 hr
    obtain ⟨l1, h2, e3, e4⟩ := (Good.run_bind (k := fun l _ h K => K (v' :: l) h) (snapsOf_good hg l)).1 e2
    obtain ⟨rfl, rfl⟩ := run_pure.1 e4
    obtain ⟨p1, p2, p3⟩ := hf v h v' h1 y e1 hs hx1
    obtain ⟨q1, q2, q3⟩ := snapsOf_ok hg hf l h1 l1 _ r e3 (hs.ext p2) hx2
    exact ⟨@RVs_mk (nuAt N wd) E0 _ _ _ _ p1 q1, fun b => (q2 b).trans (p2 b), q3.trans p3⟩

theorem old_of_cells {wd : World} {r : Nat} {l : List Value} {el : TypeId} {fz : Nat × Nat} (h : wd.heap[r]? = some (.cells l.toArray el fz)) (o : Nat) (ys : List Value) (hy : ∀ j y, ys[j]? = some y → l[o + j]? = some y) : @OldCells (nuAt N wd) ⟨r, o, none⟩ ys := by
  refine ⟨rfl, fun w hw j y hj => ?_⟩
  have hlt : r < wd.heap.size := by
    rcases Nat.lt_or_ge r wd.heap.size with h' | h'
    · exact h'
    · rw [Array.getElem?_eq_none h'] at h; exact nomatch h
  rw [Addr.add_lit, hw.cell (p := ⟨r, o + j, none⟩) hlt]
  show wd.cell? ⟨r, o + j, none⟩ = some y
  rw [cell_of wd h]
  exact hy j y hj
theorem old_at {w0 : World} {E : En} {h : H} {wd : World} (s : Sim w0 E h wd) {a : Addr} {ys : List Value} (ho : OldCells a ys) : @OldCells (nuAt N wd) a ys :=
  ⟨ho.1, fun w hw j y hj => ho.2 w (s.olds.trans (hw.mono s.olds.size)) j y hj⟩

theorem snapN_ok {w0 : World} {E : En} {wd : World} : ∀ (n : Nat) (v : V) (h : H) (v' : V) (h' : H) (x : Value), run (snapN n v) h = some (v', h') → Sim w0 E h wd → RV E v x → @RV (nuAt N wd) E0 v' x ∧ SnapOK h h'
  | 0, v, h, v', h', x, hr, hs, hx => nomatch hr
  | n + 1, v, h, v', h', x, hr, hs, hx => by
    have ih := snapN_ok (w0 := w0) (E := E) (wd := wd) n
    have gd := snapN_good n
    have ihs := snapsOf_ok gd ih
    have hr' : run (snapStep v (snapN n)) h = some (v', h') := hr
    have same : SnapOK h h := ⟨fun _ => rfl, rfl⟩
    cases v with
    | ptr b o =>
      rw [RV] at hx
      obtain ⟨r, hmu, rfl⟩ := hx
      obtain ⟨k, h1, e1, e2⟩ := (Good.run_bind (Good.read b) (k := fun k R h K => Blk.rec (fun c _ _ => snapsOf (snapN n) (dropN c o) R h fun l h => K (V.view l) h) (fun _ => none) none (fun _ _ _ _ _ => none) k)).1 hr'
      obtain ⟨hb, _, rfl⟩ := run_read.1 e1
      cases k with
      | cells c q y =>
        obtain ⟨l, h2, e3, e4⟩ := (Good.run_bind (k := fun l _ h K => K (V.view l) h) (snapsOf_good gd (dropN c o))).1 e2
        obtain ⟨rfl, rfl⟩ := run_pure.1 e4
        obtain ⟨r', ys, zs, el, fz, m1, m2, m3, _⟩ := hs.blk b _ hb
        rw [hmu] at m1
        simp only [Option.some.injEq] at m1
        subst m1
        rw [dropN_eq] at e3
        obtain ⟨q1, q2, q3⟩ := ihs _ _ _ _ (ys.drop o) e3 (hs.note b) (RVs_drop o m3)
        refine ⟨?_, fun b' => (q2 b').trans (H.note_at _ _ _), q3.trans (H.note_nx _ _)⟩
        exact @rvI_view (nuAt N wd) _ _ _ ⟨_, ys.drop o, rfl, q1, old_of_cells m2 o _ fun j y hj => by
          rw [List.getElem?_drop] at hj
          rw [List.getElem?_append_left (by have := (List.getElem?_eq_some_iff.1 hj).1; omega)]
          exact hj⟩
      | map es => exact nomatch e2
      | dead => exact nomatch e2
      | loop g j st p tm => exact nomatch e2
    | slice b o m es cap =>
      rw [RV] at hx
      obtain ⟨_, r, cc, hmu, rfl, hcc, _⟩ := hx
      obtain ⟨k, h1, e1, e2⟩ := (Good.run_bind (Good.read b) (k := fun k R h K => Blk.rec (fun c _ _ => takeK (Nat.mul m es) (dropN c o) fun l => snapsOf (snapN n) l R h fun l h => K (V.bigs es l (.int .i64 (Int.ofNat m))) h) (fun _ => none) none (fun _ _ _ _ _ => none) k)).1 hr'
      obtain ⟨hb, _, rfl⟩ := run_read.1 e1
      cases k with
      | cells c q y =>
        obtain ⟨t1, e2⟩ := (takeK_some _ _ _ _).1 e2
        obtain ⟨l, h2, e3, e4⟩ := (Good.run_bind (k := fun l _ h K => K (V.bigs es l (.int .i64 (Int.ofNat m))) h) (snapsOf_good gd _)).1 e2
        obtain ⟨rfl, rfl⟩ := run_pure.1 e4
        obtain ⟨r', ys, zs, el, fz, m1, m2, m3, _⟩ := hs.blk b _ hb
        rw [hmu] at m1
        simp only [Option.some.injEq] at m1
        subst m1
        rw [dropN_eq] at e3 t1
        obtain ⟨q1, q2, q3⟩ := ihs _ _ _ _ ((ys.drop o).take (m * es)) e3 (hs.note b) (RVs_take _ (RVs_drop o m3))
        refine ⟨?_, fun b' => (q2 b').trans (H.note_at _ _ _), q3.trans (H.note_nx _ _)⟩
        refine @rvI_bigs (nuAt N wd) _ _ _ _ _ ⟨_, m, cc, (ys.drop o).take (m * es), rfl, hcc, ?_, @rvI_int (nuAt N wd) _ _ _ _ rfl, q1, old_of_cells m2 o _ fun j y hj => ?_⟩
        · rw [← @RVs_length (nuAt N wd) _ _ _ q1, List.length_take]; omega
        · rw [List.getElem?_take] at hj
          split at hj
          · rw [List.getElem?_drop] at hj
            rw [List.getElem?_append_left (by have := (List.getElem?_eq_some_iff.1 hj).1; omega)]
            exact hj
          · exact nomatch hj
      | map es => exact nomatch e2
      | dead => exact nomatch e2
      | loop g j st p tm => exact nomatch e2
    | fn g a c =>
      rw [RV] at hx
      obtain ⟨la, lc, rfl, x1, x2⟩ := hx
      obtain ⟨a', h1, e1, e2⟩ := (Good.run_bind (snapsOf_good gd a) (k := fun a R h K => snapsOf (snapN n) c R h fun c h => K (V.fn g a c) h)).1 hr'
      obtain ⟨c', h2, e3, e4⟩ := (Good.run_bind (snapsOf_good gd c) (k := fun c _ h K => K (V.fn g a' c) h)).1 e2
      obtain ⟨rfl, rfl⟩ := run_pure.1 e4
      obtain ⟨p1, p2, p3⟩ := ihs _ _ _ _ _ e1 hs x1
      obtain ⟨q1, q2, q3⟩ := ihs _ _ _ _ _ e3 (hs.ext p2) x2
      refine ⟨?_, fun b => (q2 b).trans (p2 b), q3.trans p3⟩
      exact @rvI_fn (nuAt N wd) _ _ _ _ _ ⟨la, lc, rfl, p1, q1⟩
    | iface t v =>
      rw [RV] at hx
      obtain ⟨y, rfl, x1⟩ := hx
      obtain ⟨u, h1, e1, e2⟩ := (Good.run_bind (gd v) (k := fun v _ h K => K (V.iface t v) h)).1 hr'
      obtain ⟨rfl, rfl⟩ := run_pure.1 e2
      obtain ⟨p1, p2⟩ := ih _ _ _ _ _ e1 hs x1
      refine ⟨?_, p2⟩
      exact @rvI_iface (nuAt N wd) _ _ _ _ ⟨y, rfl, p1⟩
    | agg l =>
      rw [RV] at hx
      obtain ⟨y, rfl, x1⟩ := hx
      obtain ⟨u, h1, e1, e2⟩ := (Good.run_bind (snapsOf_good gd l) (k := fun l _ h K => K (V.agg l) h)).1 hr'
      obtain ⟨rfl, rfl⟩ := run_pure.1 e2
      obtain ⟨p1, p2⟩ := ihs _ _ _ _ _ e1 hs x1
      refine ⟨?_, p2⟩
      exact @rvI_agg (nuAt N wd) _ _ _ ⟨y, rfl, p1⟩
    | tup l =>
      rw [RV] at hx
      obtain ⟨y, rfl, x1⟩ := hx
      obtain ⟨u, h1, e1, e2⟩ := (Good.run_bind (snapsOf_good gd l) (k := fun l _ h K => K (V.tup l) h)).1 hr'
      obtain ⟨rfl, rfl⟩ := run_pure.1 e2
      obtain ⟨p1, p2⟩ := ihs _ _ _ _ _ e1 hs x1
      refine ⟨?_, p2⟩
      exact @rvI_tup (nuAt N wd) _ _ _ ⟨y, rfl, p1⟩
    | view l =>
      rw [RV] at hx
      obtain ⟨a, y, rfl, x1, x2⟩ := hx
      obtain ⟨u, h1, e1, e2⟩ := (Good.run_bind (snapsOf_good gd l) (k := fun l _ h K => K (V.view l) h)).1 hr'
      obtain ⟨rfl, rfl⟩ := run_pure.1 e2
      obtain ⟨p1, p2⟩ := ihs _ _ _ _ _ e1 hs x1
      refine ⟨?_, p2⟩
      exact @rvI_view (nuAt N wd) _ _ _ ⟨a, y, rfl, p1, old_at hs x2⟩
    | bigs es l m =>
      rw [RV] at hx
      obtain ⟨a, L, cc, y, rfl, x1, x2, x3, x4, x5⟩ := hx
      obtain ⟨u, h1, e1, e2⟩ := (Good.run_bind (snapsOf_good gd l) (k := fun l R h K => snapN n m R h fun m h => K (V.bigs es l m) h)).1 hr'
      obtain ⟨m', h2, e3, e4⟩ := (Good.run_bind (gd m) (k := fun m _ h K => K (V.bigs es u m) h)).1 e2
      obtain ⟨rfl, rfl⟩ := run_pure.1 e4
      obtain ⟨p1, p2, p3⟩ := ihs _ _ _ _ _ e1 hs x4
      obtain ⟨q1, q2, q3⟩ := ih _ _ _ _ _ e3 (hs.ext p2) x3
      refine ⟨?_, fun b => (q2 b).trans (p2 b), q3.trans p3⟩
      refine @rvI_bigs (nuAt N wd) _ _ _ _ _ ⟨a, L, cc, y, rfl, x1, ?_, q1, p1, old_at hs x5⟩
      rw [← @RVs_length (nuAt N wd) _ _ _ p1, RVs_length x4]; exact x2
    | map b => exact nomatch hr'
    | yld b => exact nomatch hr'
    | int k z => obtain ⟨rfl, rfl⟩ := run_pure.1 hr'; rw [RV] at hx; exact ⟨@rvI_int (nuAt N wd) _ _ _ _ hx, same⟩
    | bool b => obtain ⟨rfl, rfl⟩ := run_pure.1 hr'; rw [RV] at hx; exact ⟨@rvI_bool (nuAt N wd) _ _ _ hx, same⟩
    | str s => obtain ⟨rfl, rfl⟩ := run_pure.1 hr'; rw [RV] at hx; exact ⟨@rvI_str (nuAt N wd) _ _ _ hx, same⟩
    | nilp => obtain ⟨rfl, rfl⟩ := run_pure.1 hr'; rw [RV] at hx; exact ⟨@rvI_nilp (nuAt N wd) _ _ hx, same⟩
    | nils => obtain ⟨rfl, rfl⟩ := run_pure.1 hr'; rw [RV] at hx; exact ⟨@rvI_nils (nuAt N wd) _ _ hx, same⟩
    | emp => obtain ⟨rfl, rfl⟩ := run_pure.1 hr'; rw [RV] at hx; exact ⟨@rvI_emp (nuAt N wd) _ _ hx, same⟩
    | nilmap => obtain ⟨rfl, rfl⟩ := run_pure.1 hr'; rw [RV] at hx; exact ⟨@rvI_nilmap (nuAt N wd) _ _ hx, same⟩
    | nilfn => obtain ⟨rfl, rfl⟩ := run_pure.1 hr'; rw [RV] at hx; exact ⟨@rvI_nilfn (nuAt N wd) _ _ hx, same⟩
    | nili => obtain ⟨rfl, rfl⟩ := run_pure.1 hr'; rw [RV] at hx; exact ⟨@rvI_nili (nuAt N wd) _ _ hx, same⟩
    | sym k i => obtain ⟨rfl, rfl⟩ := run_pure.1 hr'; rw [RV] at hx; exact ⟨@rvI_sym (nuAt N wd) _ _ _ _ hx, same⟩
end
end Go.X
