/- A verified executor, part 5: when an abstract memory tells a world. -/
import Derived.Test.YtojfkhhebedeoaaGreatDoorXComp
import Derived.Below
import Derived.Laws.IdiomCopy
set_option linter.unusedVariables false
set_option linter.unusedSimpArgs false
set_option linter.unusedSectionVars false
namespace Go.X
open Go.RowKit

/-- What the names mean. -/
class Nu where
  val : Nat → Int
  old : World                    -- the memory that was there before
  prog : Program                 -- the program

/-- What a name means: from 2000 on another number than what it lies above 2000. -/
def Nu.v [Nu] (i : Nat) : Int := if 2000 ≤ i ∧ Nu.val i = (i : Int) - 2000 then Nu.val i + 1 else Nu.val i
theorem Nu.v_lt [Nu] {i : Nat} (h : i < 2000) : Nu.v i = Nu.val i := if_neg fun c => absurd c.1 (by omega)
theorem symNe_ok [Nu] {i : Nat} {n : Int} {q : Bool} (h : symNe i n = some q) : q = false ∧ Nu.v i ≠ n := by
  unfold symNe at h
  cases n with
  | negSucc m => exact nomatch h
  | ofNat m =>
    have h : (Bool.rec none (some false) (Nat.beq i (Nat.add 2000 m)) : Option Bool) = some q := h
    rw [Tr.beq_if] at h
    by_cases e : i = Nat.add 2000 m
    · rw [if_pos e] at h
      simp only [Option.some.injEq] at h
      refine ⟨h.symm, ?_⟩
      have e : i = 2000 + m := e
      unfold Nu.v
      simp only [Int.ofNat_eq_natCast]
      by_cases c : Nu.val i = (i : Int) - 2000
      · rw [if_pos ⟨by omega, c⟩]; omega
      · rw [if_neg fun d => c d.2]; omega
    · rw [if_neg e] at h; exact nomatch h
/-- Where the blocks lie, and how great they are. -/
structure En where
  mu : Nat → Option Nat
  sz : Nat → Nat
  df : List Nat                  -- the blocks for rounds' deferred calls
def En.leM (E E' : En) : Prop := ∀ b r, E.mu b = some r → E'.mu b = some r ∧ E'.sz b = E.sz b
structure En.le (E E' : En) : Prop where
  app : E.leM E'
  df : E'.df = E.df
instance {E E' : En} : CoeFun (En.le E E') (fun _ => ∀ b r, E.mu b = some r → E'.mu b = some r ∧ E'.sz b = E.sz b) := ⟨En.le.app⟩
theorem En.leM_refl (E : En) : E.leM E := fun _ _ h => ⟨h, rfl⟩
theorem En.leM_trans {E E' E'' : En} (h : E.leM E') (h' : E'.leM E'') : E.leM E'' := fun b r hb => by
  obtain ⟨h1, h2⟩ := h b r hb
  obtain ⟨h3, h4⟩ := h' b r h1
  exact ⟨h3, h4.trans h2⟩
theorem En.le_refl (E : En) : E.le E := ⟨fun _ _ h => ⟨h, rfl⟩, rfl⟩
theorem En.le_trans {E E' E'' : En} (h : E.le E') (h' : E'.le E'') : E.le E'' := ⟨En.leM_trans h.app h'.app, h'.df.trans h.df⟩
def En.set (E : En) (b r n : Nat) : En := ⟨fun c => if c = b then some r else E.mu c, fun c => if c = b then n else E.sz c, E.df⟩
theorem En.le_set {E : En} {b : Nat} (h : E.mu b = none) (r n : Nat) : E.le (E.set b r n) := by
  refine ⟨?_, rfl⟩
  intro c r' hc
  have hne : c ≠ b := fun e => by rw [e, h] at hc; exact nomatch hc
  simp [En.set, hne, hc]
theorem En.set_mu (E : En) (b r n : Nat) : (E.set b r n).mu b = some r := by simp [En.set]
theorem En.set_sz (E : En) (b r n : Nat) : (E.set b r n).sz b = n := by simp [En.set]

variable [Nu]
/-- In all memories that come of the old one these cells lie there. -/
def OldCells (a : Addr) (ys : List Value) : Prop := a.spot = none ∧ ∀ w, Below Nu.old.heap.size Nu.old w → ∀ (j : Nat) y, ys[j]? = some y → w.cell? (a.add j) = some y
mutual
/-- An abstract value tells a value. -/
def RV (E : En) : V → Value → Prop
  | .int k n, x => x = .int k n
  | .bool b, x => x = .bool b
  | .str s, x => ∃ t : ByteArray, x = .string t ∧ t.data.toList.map (·.toNat) = s
  | .ptr b o, x => ∃ r, E.mu b = some r ∧ x = .pointer (some ⟨r, o, none⟩)
  | .nilp, x => x = .pointer none
  | .slice b o n es cap, x => 1 ≤ es ∧ ∃ r c, E.mu b = some r ∧ x = .slice (some ⟨r, o, none⟩) n c ∧ n ≤ c ∧ (match cap with | some q => c = q | none => o + c * es = E.sz b)
  | .nils, x => x = .slice none 0 0
  | .emp, x => ∃ a c, x = .slice (some a) 0 c
  | .map b, x => ∃ r, E.mu b = some r ∧ x = .map (some r)
  | .nilmap, x => x = .map none
  | .fn f a c, x => ∃ l m : List Value, x = .func f l.toArray m.toArray ∧ RVs E a l ∧ RVs E c m
  | .nilfn, x => x = .nilFunc
  | .iface t v, x => ∃ y, x = .iface t y ∧ RV E v y
  | .nili, x => x = .nilIface
  | .agg l, x => ∃ ys : List Value, x = .agg ys.toArray ∧ RVs E l ys
  | .sym k i, x => x = .int k (Nu.v i)
  | .bigs es l n, x => ∃ (a : Addr) (L c : Nat) (ys : List Value), x = .slice (some a) L c ∧ L ≤ c ∧ l.length ≤ L * es ∧ RV E n (.int .i64 L) ∧ RVs E l ys ∧ OldCells a ys
  | .view l, x => ∃ (a : Addr) (ys : List Value), x = .pointer (some a) ∧ RVs E l ys ∧ OldCells a ys
  | .tup l, x => ∃ ys : List Value, x = .tuple ys.toArray ∧ RVs E l ys
  | .yld b, x => ∃ r, E.mu b = some r ∧ x = .func (.yield r) #[] #[]
def RVs (E : En) : List V → List Value → Prop
  | [], ys => ys = []
  | v :: l, ys => ∃ y r, ys = y :: r ∧ RV E v y ∧ RVs E l r
end

theorem RVs_nil {E : En} {ys : List Value} : RVs E [] ys ↔ ys = [] := by unfold RVs; exact Iff.rfl
theorem RVs_cons {E : En} {v : V} {l : List V} {ys : List Value} : RVs E (v :: l) ys ↔ ∃ y r, ys = y :: r ∧ RV E v y ∧ RVs E l r := by rw [RVs]
theorem RVs_mk {E : En} {v : V} {l : List V} {y : Value} {r : List Value} (h : RV E v y) (h' : RVs E l r) : RVs E (v :: l) (y :: r) := RVs_cons.2 ⟨y, r, rfl, h, h'⟩
theorem RVs_none {E : En} : RVs E [] [] := RVs_nil.2 rfl
theorem RVs_one {E : En} {v : V} {y : Value} (h : RV E v y) : RVs E [v] [y] := RVs_mk h RVs_none

theorem RVs_length {E : En} : ∀ {l : List V} {ys : List Value}, RVs E l ys → ys.length = l.length
  | [], ys, h => by rw [RVs_nil.1 h]; rfl
  | v :: l, ys, h => by obtain ⟨y, r, rfl, _, h2⟩ := RVs_cons.1 h; simp [RVs_length h2]
theorem RVs_append {E : En} : ∀ {a b : List V} {xs zs : List Value}, RVs E a xs → RVs E b zs → RVs E (a ++ b) (xs ++ zs)
  | [], b, xs, zs, h, h' => by rw [RVs_nil.1 h]; exact h'
  | v :: a, b, xs, zs, h, h' => by obtain ⟨y, r, rfl, h1, h2⟩ := RVs_cons.1 h; exact RVs_mk h1 (RVs_append h2 h')
theorem RVs_take {E : En} : ∀ {l : List V} {ys : List Value} (n : Nat), RVs E l ys → RVs E (l.take n) (ys.take n)
  | l, ys, 0, _ => by simp [RVs_none]
  | [], ys, n + 1, h => by rw [RVs_nil.1 h]; exact RVs_none
  | v :: l, ys, n + 1, h => by obtain ⟨y, r, rfl, h1, h2⟩ := RVs_cons.1 h; exact RVs_mk h1 (RVs_take n h2)
theorem RVs_drop {E : En} : ∀ {l : List V} {ys : List Value} (n : Nat), RVs E l ys → RVs E (l.drop n) (ys.drop n)
  | l, ys, 0, h => h
  | [], ys, n + 1, h => by rw [RVs_nil.1 h]; exact RVs_none
  | v :: l, ys, n + 1, h => by obtain ⟨y, r, rfl, h1, h2⟩ := RVs_cons.1 h; exact RVs_drop n h2
theorem RVs_get {E : En} : ∀ {l : List V} {ys : List Value} {i : Nat} {v : V}, RVs E l ys → l[i]? = some v → ∃ y, ys[i]? = some y ∧ RV E v y
  | [], ys, i, v, h, hv => by simp at hv
  | u :: l, ys, 0, v, h, hv => by
    obtain ⟨y, r, rfl, h1, h2⟩ := RVs_cons.1 h
    simp at hv; subst hv
    exact ⟨y, rfl, h1⟩
  | u :: l, ys, i + 1, v, h, hv => by
    obtain ⟨y, r, rfl, h1, h2⟩ := RVs_cons.1 h
    exact RVs_get (i := i) h2 (by simpa using hv)
theorem RVs_rep {E : En} {z : List V} {zs : List Value} (h : RVs E z zs) : ∀ n, RVs E (rep n z) (List.replicate n zs).flatten
  | 0 => by show RVs E [] _; simp [RVs_none]
  | n + 1 => by
    show RVs E (cat z (rep n z)) _
    rw [cat_eq]
    rw [List.replicate_succ, List.flatten_cons]
    exact RVs_append h (RVs_rep h n)

mutual
theorem RV_monoM {E E' : En} (hE : E.leM E') : ∀ (v : V) (x : Value), RV E v x → RV E' v x
  | .int _ _, x, h => by rw [RV] at h ⊢; exact h
  | .bool _, x, h => by rw [RV] at h ⊢; exact h
  | .str _, x, h => by rw [RV] at h ⊢; exact h
  | .ptr _ _, x, h => by rw [RV] at h ⊢; obtain ⟨r, h1, h2⟩ := h; exact ⟨r, (hE _ _ h1).1, h2⟩
  | .nilp, x, h => by rw [RV] at h ⊢; exact h
  | .slice b o n es cap, x, h => by
    rw [RV] at h ⊢
    obtain ⟨h0, r, c, h1, h2, h3, h4⟩ := h
    refine ⟨h0, r, c, (hE _ _ h1).1, h2, h3, ?_⟩
    cases cap with
    | some q => exact h4
    | none => show o + c * es = E'.sz b; rw [(hE _ _ h1).2]; exact h4
  | .nils, x, h => by rw [RV] at h ⊢; exact h
  | .emp, x, h => by rw [RV] at h ⊢; exact h
  | .map _, x, h => by rw [RV] at h ⊢; obtain ⟨r, h1, h2⟩ := h; exact ⟨r, (hE _ _ h1).1, h2⟩
  | .nilmap, x, h => by rw [RV] at h ⊢; exact h
  | .fn f a c, x, h => by rw [RV] at h ⊢; obtain ⟨l, m, h1, h2, h3⟩ := h; exact ⟨l, m, h1, RVs_monoM hE a l h2, RVs_monoM hE c m h3⟩
  | .nilfn, x, h => by rw [RV] at h ⊢; exact h
  | .iface t v, x, h => by rw [RV] at h ⊢; obtain ⟨y, h1, h2⟩ := h; exact ⟨y, h1, RV_monoM hE v y h2⟩
  | .nili, x, h => by rw [RV] at h ⊢; exact h
  | .agg l, x, h => by rw [RV] at h ⊢; obtain ⟨ys, h1, h2⟩ := h; exact ⟨ys, h1, RVs_monoM hE l ys h2⟩
  | .sym k i, x, h => by rw [RV] at h ⊢; exact h
  | .bigs es l n, x, h => by rw [RV] at h ⊢; obtain ⟨a, L, c, ys, h1, h2, h3, h4, h5, h6⟩ := h; exact ⟨a, L, c, ys, h1, h2, h3, RV_monoM hE n _ h4, RVs_monoM hE l ys h5, h6⟩
  | .view l, x, h => by rw [RV] at h ⊢; obtain ⟨a, ys, h1, h2, h3⟩ := h; exact ⟨a, ys, h1, RVs_monoM hE l ys h2, h3⟩
  | .tup l, x, h => by rw [RV] at h ⊢; obtain ⟨ys, h1, h2⟩ := h; exact ⟨ys, h1, RVs_monoM hE l ys h2⟩
  | .yld _, x, h => by rw [RV] at h ⊢; obtain ⟨r, h1, h2⟩ := h; exact ⟨r, (hE _ _ h1).1, h2⟩
theorem RVs_monoM {E E' : En} (hE : E.leM E') : ∀ (l : List V) (ys : List Value), RVs E l ys → RVs E' l ys
  | [], ys, h => by rw [RVs] at h ⊢; exact h
  | v :: l, ys, h => by rw [RVs] at h ⊢; obtain ⟨y, r, h1, h2, h3⟩ := h; exact ⟨y, r, h1, RV_monoM hE v y h2, RVs_monoM hE l r h3⟩
end
theorem RV_mono {E E' : En} (hE : E.le E') (v : V) (x : Value) (h : RV E v x) : RV E' v x := RV_monoM hE.app v x h
theorem RVs_mono {E E' : En} (hE : E.le E') (l : List V) (ys : List Value) (h : RVs E l ys) : RVs E' l ys := RVs_monoM hE.app l ys h

theorem RV_cells {E : En} {v : V} {x : Value} (h : RV E v x) : RVs E v.cells x.cells.toList := by
  cases v with
  | agg l => rw [RV] at h; obtain ⟨ys, rfl, h2⟩ := h; simpa [V.cells, Value.cells] using h2
  | int k n => have h' := h; rw [RV] at h'; subst h'; exact RVs_one h
  | bool b => have h' := h; rw [RV] at h'; subst h'; exact RVs_one h
  | sym k i => have h' := h; rw [RV] at h'; subst h'; exact RVs_one h
  | bigs es l n => have h' := h; rw [RV] at h'; obtain ⟨a, L, c, ys, rfl, _⟩ := h'; exact RVs_one h
  | view l => have h' := h; rw [RV] at h'; obtain ⟨a, ys, rfl, _⟩ := h'; exact RVs_one h
  | str s => have h' := h; rw [RV] at h'; obtain ⟨t, rfl, _⟩ := h'; exact RVs_one h
  | ptr b o => have h' := h; rw [RV] at h'; obtain ⟨r, _, rfl⟩ := h'; exact RVs_one h
  | nilp => have h' := h; rw [RV] at h'; subst h'; exact RVs_one h
  | slice b o n es cap => have h' := h; rw [RV] at h'; obtain ⟨_, r, c, _, rfl, _⟩ := h'; exact RVs_one h
  | nils => have h' := h; rw [RV] at h'; subst h'; exact RVs_one h
  | emp => have h' := h; rw [RV] at h'; obtain ⟨a, c, rfl⟩ := h'; exact RVs_one h
  | map b => have h' := h; rw [RV] at h'; obtain ⟨r, _, rfl⟩ := h'; exact RVs_one h
  | nilmap => have h' := h; rw [RV] at h'; subst h'; exact RVs_one h
  | fn f a c => have h' := h; rw [RV] at h'; obtain ⟨l, m, rfl, _⟩ := h'; exact RVs_one h
  | nilfn => have h' := h; rw [RV] at h'; subst h'; exact RVs_one h
  | iface t v => have h' := h; rw [RV] at h'; obtain ⟨y, rfl, _⟩ := h'; exact RVs_one h
  | nili => have h' := h; rw [RV] at h'; subst h'; exact RVs_one h
  | tup l => have h' := h; rw [RV] at h'; obtain ⟨ys, rfl, _⟩ := h'; exact RVs_one h
  | yld b => have h' := h; rw [RV] at h'; obtain ⟨r, _, rfl⟩ := h'; exact RVs_one h

theorem RV_one {E : En} {v : V} {x : Value} (h : RV E v x) (h1 : v.one = true) : x.oneCell' = true := by
  cases v with
  | agg l => exact nomatch h1
  | tup l => exact nomatch h1
  | int k n => rw [RV] at h; subst h; rfl
  | bool b => rw [RV] at h; subst h; rfl
  | sym k i => rw [RV] at h; subst h; rfl
  | bigs es l n => rw [RV] at h; obtain ⟨a, L, c, ys, rfl, _⟩ := h; rfl
  | view l => rw [RV] at h; obtain ⟨a, ys, rfl, _⟩ := h; rfl
  | str s => rw [RV] at h; obtain ⟨t, rfl, _⟩ := h; rfl
  | ptr b o => rw [RV] at h; obtain ⟨r, _, rfl⟩ := h; rfl
  | nilp => rw [RV] at h; subst h; rfl
  | slice b o n es cap => rw [RV] at h; obtain ⟨_, r, c, _, rfl, _⟩ := h; rfl
  | nils => rw [RV] at h; subst h; rfl
  | emp => rw [RV] at h; obtain ⟨a, c, rfl⟩ := h; rfl
  | map b => rw [RV] at h; obtain ⟨r, _, rfl⟩ := h; rfl
  | nilmap => rw [RV] at h; subst h; rfl
  | fn f a c => rw [RV] at h; obtain ⟨l, m, rfl, _⟩ := h; rfl
  | nilfn => rw [RV] at h; subst h; rfl
  | iface t v => rw [RV] at h; obtain ⟨y, rfl, _⟩ := h; rfl
  | nili => rw [RV] at h; subst h; rfl
  | yld b => rw [RV] at h; obtain ⟨r, _, rfl⟩ := h; rfl
theorem allOne_cons (v : V) (l : List V) : allOne (v :: l) = (v.one && allOne l) := by
  show (Bool.rec false (allOne l) v.one : Bool) = _
  cases v.one <;> rfl
theorem RVs_ones {E : En} : ∀ {l : List V} {ys : List Value}, RVs E l ys → allOne l = true → ∀ y ∈ ys, y.oneCell' = true
  | [], ys, h, _ => by rw [RVs_nil.1 h]; simp
  | v :: l, ys, h, h1 => by
    obtain ⟨y, r, rfl, h2, h3⟩ := RVs_cons.1 h
    rw [allOne_cons, Bool.and_eq_true] at h1
    intro z hz
    rcases List.mem_cons.1 hz with rfl | hz
    · exact RV_one h2 h1.1
    · exact RVs_ones h3 h1.2 z hz

/-- Entries of a map. -/
def RMap (E : En) : List (V × V) → List MapEntry → Prop
  | [], es => es = []
  | p :: l, es => ∃ e r, es = e :: r ∧ RV E p.1 e.key ∧ RV E p.2 e.val ∧ RMap E l r
theorem RMap_monoM {E E' : En} (hE : E.leM E') : ∀ (l : List (V × V)) (es : List MapEntry), RMap E l es → RMap E' l es
  | [], es, h => h
  | p :: l, es, h => by obtain ⟨e, r, h1, h2, h3, h4⟩ := h; exact ⟨e, r, h1, RV_monoM hE _ _ h2, RV_monoM hE _ _ h3, RMap_monoM hE l r h4⟩
theorem RMap_mono {E E' : En} (hE : E.le E') (l : List (V × V)) (es : List MapEntry) (h : RMap E l es) : RMap E' l es := RMap_monoM hE.app l es h
theorem RMap_snoc {E : En} : ∀ {l : List (V × V)} {es : List MapEntry} {p : V × V} {e : MapEntry}, RMap E l es → RV E p.1 e.key → RV E p.2 e.val → RMap E (l ++ [p]) (es ++ [e])
  | [], es, p, e, h, h1, h2 => by
    rw [show es = [] from h]
    exact ⟨e, [], rfl, h1, h2, rfl⟩
  | q :: l, es, p, e, h, h1, h2 => by obtain ⟨f, r, rfl, h3, h4, h5⟩ := h; exact ⟨f, r ++ [e], rfl, h3, h4, RMap_snoc h5 h1 h2⟩

/-- The temporaries. -/
def TR (E : En) (w : Nat) (tm : Tm) (a : Array Value) : Prop := ∀ t v, t < lim w → tm.get (path w t) = some v → RV E v (a.getD t undef')
where undef' : Value := Go.undef

theorem TR_monoM {E E' : En} (hE : E.leM E') {w : Nat} {tm : Tm} {a : Array Value} (h : TR E w tm a) : TR E' w tm a := fun t v ht hv => RV_monoM hE _ _ (h t v ht hv)
theorem TR_mono {E E' : En} (hE : E.le E') {w : Nat} {tm : Tm} {a : Array Value} (h : TR E w tm a) : TR E' w tm a := TR_monoM hE.app h

/-- A loop's state, its pending jump. -/
def stOf : Nat → LoopState
  | 0 => .ready
  | 1 => .busy
  | _ => .done
def jumpOf : Out → Option Code
  | .normal => none
  | .exit id => some (.exit id)
  | .ret => some .ret
/-- The type of a block's cells, as far as it is known. -/
def TyOK (y el : Nat) : Prop := ∀ t, y = t + 1 → el = t
theorem TyOK.none {el : Nat} : TyOK 0 el := fun t h => nomatch h
theorem TyOK.own {el : Nat} : TyOK (el + 1) el := fun t h => by omega
/-- An abstract block tells the block of a world. -/
def BR (E : En) (w : World) (b : Nat) : Blk → Prop
  | .cells c q y => ∃ r ys zs el fz, E.mu b = some r ∧ w.heap[r]? = some (.cells (ys ++ zs).toArray el fz) ∧ RVs E c ys ∧ E.sz b = (ys ++ zs).length ∧ (q = true → ∀ i, i < (ys ++ zs).length → ¬(fz.1 ≤ i ∧ i < fz.2)) ∧ TyOK y el
  | .map es => ∃ r ents clock, E.mu b = some r ∧ w.heap[r]? = some (.map ents clock) ∧ RMap E es ents.toList
  | .dead => True
  | .loop g j st pend tm => ∃ r rc nt, E.mu b = some r ∧ w.heap[r]? = some (.loop rc) ∧ rngOf Nu.prog g j = some (nt, rc.params, rc.assign, rc.body) ∧ TR E 0 tm rc.tmps ∧ rc.tmps.size = nt ∧ rc.state = stOf st ∧ rc.pending = jumpOf pend

def live : Blk → Bool
  | .dead => false
  | _ => true
def wr : Blk → Bool
  | .cells _ w _ => w
  | .map _ => true
  | .dead => false
  | .loop .. => true

/-- An abstract memory tells a world that came of the world w0, none of whose blocks has turned. -/
structure Sim (w0 : World) (E : En) (h : H) (w : World) : Prop where
  blk : ∀ b k, h.at b = some k → BR E w b k
  inj : ∀ b b' k k' r, h.at b = some k → h.at b' = some k' → live k = true → live k' = true → E.mu b = some r → E.mu b' = some r → b = b'
  fresh : ∀ b k r, h.at b = some k → wr k = true → E.mu b = some r → w0.heap.size ≤ r
  dom : ∀ b, h.at b = none → E.mu b = none
  kept : Below w0.heap.size w0 w
  old : Below Nu.old.heap.size Nu.old w0
  defd : ∀ r ∈ E.df, w.heap[r]? = some (.deferred (some [])) ∧ w0.heap.size ≤ r ∧ ∀ b k, h.at b = some k → live k = true → E.mu b ≠ some r
  once : E.df.Nodup

/-- What was there before is there. -/
theorem Sim.olds {w0 : World} {E : En} {h : H} {w : World} (s : Sim w0 E h w) : Below Nu.old.heap.size Nu.old w := s.old.trans (s.kept.mono s.old.size)

theorem Sim.ext {w0 : World} {E : En} {h h' : H} {w : World} (s : Sim w0 E h w) (e : ∀ b, h'.at b = h.at b) : Sim w0 E h' w :=
  ⟨fun b k hb => s.blk b k (by rw [← e]; exact hb), fun b b' k k' r h1 h2 => s.inj b b' k k' r (by rw [← e]; exact h1) (by rw [← e]; exact h2),
    fun b k r hb => s.fresh b k r (by rw [← e]; exact hb), fun b hb => s.dom b (by rw [← e]; exact hb), s.kept, s.old, fun r hr => ⟨(s.defd r hr).1, (s.defd r hr).2.1, fun b k hb => (s.defd r hr).2.2 b k (by rw [← e]; exact hb)⟩, s.once⟩
theorem Sim.note {w0 : World} {E : En} {h : H} {w : World} (s : Sim w0 E h w) (b : Nat) : Sim w0 E (h.note b) w := s.ext fun _ => H.note_at _ _ _
theorem Sim.drew {w0 : World} {E : En} {h : H} {w : World} (s : Sim w0 E h w) : Sim w0 E h w.drew := ⟨s.blk, s.inj, s.fresh, s.dom, s.kept.drew, s.old, s.defd, s.once⟩

theorem BR_monoM {E E' : En} (hE : E.leM E') {w : World} {b : Nat} {k : Blk} (h : BR E w b k) : BR E' w b k := by
  cases k with
  | cells c wr y =>
    obtain ⟨r, ys, zs, el, fz, h1, h2, h3, h4, h5⟩ := h
    exact ⟨r, ys, zs, el, fz, (hE _ _ h1).1, h2, RVs_monoM hE _ _ h3, by rw [(hE _ _ h1).2]; exact h4, h5⟩
  | map es =>
    obtain ⟨r, ents, clock, h1, h2, h3⟩ := h
    exact ⟨r, ents, clock, (hE _ _ h1).1, h2, RMap_monoM hE _ _ h3⟩
  | dead => trivial
  | loop g j st pend tm =>
    obtain ⟨r, rc, nt, h1, h2, h3, h4, h5⟩ := h
    exact ⟨r, rc, nt, (hE _ _ h1).1, h2, h3, TR_monoM hE h4, h5⟩
theorem BR_mono {E E' : En} (hE : E.le E') {w : World} {b : Nat} {k : Blk} (h : BR E w b k) : BR E' w b k := BR_monoM hE.app h
theorem BR_world {E : En} {w w' : World} {b : Nat} {k : Blk} (h : BR E w b k) (e : ∀ r, live k = true → E.mu b = some r → w'.heap[r]? = w.heap[r]?) : BR E w' b k := by
  cases k with
  | cells c wr y =>
    obtain ⟨r, ys, zs, el, fz, h1, h2, h3, h4, h5⟩ := h
    exact ⟨r, ys, zs, el, fz, h1, by rw [e r rfl h1]; exact h2, h3, h4, h5⟩
  | map es =>
    obtain ⟨r, ents, clock, h1, h2, h3⟩ := h
    exact ⟨r, ents, clock, h1, by rw [e r rfl h1]; exact h2, h3⟩
  | dead => trivial
  | loop g j st pend tm =>
    obtain ⟨r, rc, nt, h1, h2, h3⟩ := h
    exact ⟨r, rc, nt, h1, by rw [e r rfl h1]; exact h2, h3⟩
theorem BR_size {E : En} {w : World} {b : Nat} {k : Blk} (h : BR E w b k) {r : Nat} (hl : live k = true) (hr : E.mu b = some r) : r < w.heap.size := by
  have key : ∀ o, w.heap[r]? = some o → r < w.heap.size := fun o ho => by
    rcases Nat.lt_or_ge r w.heap.size with h' | h'
    · exact h'
    · rw [Array.getElem?_eq_none h'] at ho; exact nomatch ho
  cases k with
  | cells c wr y => obtain ⟨r', ys, zs, el, fz, h1, h2, _⟩ := h; rw [hr] at h1; simp only [Option.some.injEq] at h1; subst h1; exact key _ h2
  | map es => obtain ⟨r', ents, clock, h1, h2, _⟩ := h; rw [hr] at h1; simp only [Option.some.injEq] at h1; subst h1; exact key _ h2
  | dead => exact nomatch hl
  | loop g j st pend tm => obtain ⟨r', rc, nt, h1, h2, _⟩ := h; rw [hr] at h1; simp only [Option.some.injEq] at h1; subst h1; exact key _ h2

/-- A new block. -/
theorem Sim.made {w0 : World} {E : En} {h : H} {w : World} (s : Sim w0 E h w) (hn : h.at h.nx = none) (k : Blk) (hl : live k = true) (o : Obj) (n : Nat)
    (hb : BR (E.set h.nx w.heap.size n) (w.alloc o) h.nx k) : Sim w0 (E.set h.nx w.heap.size n) (h.made k) (w.alloc o) := by
  have hE := En.le_set (s.dom _ hn) w.heap.size n
  have hmu : ∀ b r, b ≠ h.nx → (E.set h.nx w.heap.size n).mu b = some r → E.mu b = some r := fun b r hb hr => by simpa [En.set, hb] using hr
  have hold : ∀ r, r < w.heap.size → (w.alloc o).heap[r]? = w.heap[r]? := fun r hr => Below.heap_alloc w o r hr
  have hdf : ∀ r ∈ E.df, r < w.heap.size := fun r hr => by
    rcases Nat.lt_or_ge r w.heap.size with h' | h'
    · exact h'
    · have := (s.defd r hr).1; rw [Array.getElem?_eq_none h'] at this; exact nomatch this
  refine ⟨?_, ?_, ?_, ?_, s.kept.alloc s.kept.size o, s.old, fun r hr => ⟨(hold r (hdf r hr)).trans (s.defd r hr).1, (s.defd r hr).2.1, fun b k' hb' hl' hm => ?_⟩, s.once⟩
  · intro b k' hb'
    rw [H.made_at] at hb'
    by_cases e : b = h.nx
    · subst e; rw [if_pos rfl] at hb'; simp only [Option.some.injEq] at hb'; subst hb'; exact hb
    · rw [if_neg e] at hb'
      have hbr := s.blk b k' hb'
      refine BR_world (BR_mono hE hbr) fun r hl' hr => hold r (BR_size hbr hl' (hmu b r e hr))
  · intro b b' k1 k2 r h1 h2 l1 l2 m1 m2
    rw [H.made_at] at h1 h2
    by_cases e : b = h.nx
    · by_cases e' : b' = h.nx
      · rw [e, e']
      · rw [if_neg e'] at h2
        rw [e, En.set_mu] at m1
        simp only [Option.some.injEq] at m1
        have := BR_size (s.blk _ _ h2) l2 (hmu _ _ e' m2)
        omega
    · rw [if_neg e] at h1
      by_cases e' : b' = h.nx
      · rw [e', En.set_mu] at m2
        simp only [Option.some.injEq] at m2
        have := BR_size (s.blk _ _ h1) l1 (hmu _ _ e m1)
        omega
      · rw [if_neg e'] at h2
        exact s.inj b b' k1 k2 r h1 h2 l1 l2 (hmu _ _ e m1) (hmu _ _ e' m2)
  · intro b k' r hb' hw hr
    rw [H.made_at] at hb'
    by_cases e : b = h.nx
    · rw [e, En.set_mu] at hr; simp only [Option.some.injEq] at hr; rw [← hr]; exact s.kept.size
    · rw [if_neg e] at hb'; exact s.fresh b k' r hb' hw (hmu _ _ e hr)
  · intro b hb'
    rw [H.made_at] at hb'
    by_cases e : b = h.nx
    · rw [if_pos e] at hb'; exact nomatch hb'
    · rw [if_neg e] at hb'; simpa [En.set, e] using s.dom b hb'
  · rw [H.made_at] at hb'
    by_cases e : b = h.nx
    · rw [e, En.set_mu] at hm
      simp only [Option.some.injEq] at hm
      have := hdf r hr
      omega
    · rw [if_neg e] at hb'; exact (s.defd r hr).2.2 b k' hb' hl' (hmu _ _ e hm)

/-- A block is turned. -/
theorem Sim.wrote {w0 : World} {E : En} {h : H} {w : World} (s : Sim w0 E h w) {b : Nat} {k : Blk} {r : Nat} (hb : h.at b = some k) (hw : wr k = true) (hr : E.mu b = some r) (k' : Blk) (hk : wr k' = true → live k' = true)
    (w' : World) (hbr : BR E w' b k') (he : ∀ i, i ≠ r → w'.heap[i]? = w.heap[i]?) (hs : w.heap.size ≤ w'.heap.size) (ho : w'.os = w.os) (ht : w'.tape = w.tape) (hu : w'.output = w.output) : Sim w0 E (h.wrote b k') w' := by
  have hlive : live k = true := by cases k <;> first | rfl | exact nomatch hw
  refine ⟨?_, ?_, ?_, ?_, s.kept.trans ⟨ho, ht, hu, hs, fun i hi => he i (fun e => ?_)⟩, s.old,
    fun r' hr' => ⟨(he r' (fun e => (s.defd r' hr').2.2 b k hb hlive (by rw [hr, e]))).trans (s.defd r' hr').1, (s.defd r' hr').2.1, fun c q hc hq hm => ?_⟩, s.once⟩
  · intro c q hc
    rw [H.wrote_at] at hc
    by_cases e : c = b
    · rw [if_pos e] at hc; simp only [Option.some.injEq] at hc; subst hc; rw [e]; exact hbr
    · rw [if_neg e] at hc
      refine BR_world (s.blk c q hc) fun r' hl' hr' => he r' (fun er => e ?_)
      exact s.inj c b q k r hc hb hl' hlive (by rw [hr', er]) hr
  · intro c c' q q' r' h1 h2 l1 l2 m1 m2
    rw [H.wrote_at] at h1 h2
    by_cases e : c = b
    · by_cases e' : c' = b
      · rw [e, e']
      · rw [if_neg e'] at h2
        have : r' = r := by rw [e, hr] at m1; simpa using m1.symm
        rw [e]; exact s.inj b c' k q' r hb h2 hlive l2 hr (by rw [m2, this])
    · rw [if_neg e] at h1
      by_cases e' : c' = b
      · have : r' = r := by rw [e', hr] at m2; simpa using m2.symm
        rw [e']; exact s.inj c b q k r h1 hb l1 hlive (by rw [m1, this]) hr
      · rw [if_neg e'] at h2; exact s.inj c c' q q' r' h1 h2 l1 l2 m1 m2
  · intro c q r' hc hq hr'
    rw [H.wrote_at] at hc
    by_cases e : c = b
    · rw [e, hr] at hr'; simp only [Option.some.injEq] at hr'; rw [← hr']; exact s.fresh b k r hb hw hr
    · rw [if_neg e] at hc; exact s.fresh c q r' hc hq hr'
  · intro c hc
    rw [H.wrote_at] at hc
    by_cases e : c = b
    · rw [if_pos e] at hc; exact nomatch hc
    · rw [if_neg e] at hc; exact s.dom c hc
  · have := s.fresh b k r hb hw hr
    omega
  · rw [H.wrote_at] at hc
    by_cases e : c = b
    · rw [e] at hm; exact (s.defd r' hr').2.2 b k hb hlive hm
    · rw [if_neg e] at hc; exact (s.defd r' hr').2.2 c q hc hq hm

theorem TR_put {E : En} {w : Nat} {tm : Tm} {a : Array Value} (h : TR E w tm a) {d : Nat} {v : V} {x : Value} (hd : d < lim w) (hs : d < a.size) (hv : RV E v x) :
    TR E w (Tp.put v (path w d) tm) (a.setIfInBounds d x) := by
  intro t u ht hu
  rw [Tp.get_put _ _ _ _] at hu
  by_cases e : path w t = path w d
  · rw [if_pos e] at hu
    simp only [Option.some.injEq] at hu
    subst hu
    have := path_inj w t d ht hd e
    subst this
    have : (a.setIfInBounds t x).getD t TR.undef' = x := by simp [Array.getD, hs]
    rw [this]; exact hv
  · rw [if_neg e] at hu
    have hne : d ≠ t := fun e' => e (by rw [e'])
    have : (a.setIfInBounds d x).getD t TR.undef' = a.getD t TR.undef' := by
      simp only [Array.getD_eq_getD_getElem?]
      rw [Array.getElem?_setIfInBounds_ne hne]
    rw [this]
    exact h t u ht hu

end Go.X
