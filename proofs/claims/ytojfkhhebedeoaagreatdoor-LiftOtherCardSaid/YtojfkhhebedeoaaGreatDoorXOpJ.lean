/- A verified executor, part 16b: what strings.Builder asks for: addresses that lose their type and get it back, held against themselves; where a slice lies; texts over rows of bytes. -/
import Derived.Test.YtojfkhhebedeoaaGreatDoorXGood
import Derived.Lib.Builder
import Derived.Lib.UnsafeStr
import Derived.Laws.Externs
set_option linter.unusedVariables false
set_option linter.unusedSimpArgs false
set_option linter.unusedSectionVars false
namespace Go.X
open Go.RowKit
variable [Nu]

theorem toPtr_some {v : V} {p : Nat × Nat} (h : v.toPtr = some p) : v = .ptr p.1 p.2 := by
  cases v with
  | ptr b o => have h' : some (b, o) = some p := h; simp only [Option.some.injEq] at h'; subst h'; rfl
  | _ => exact nomatch h
theorem toSlice_some {v : V} {p : Nat × Nat × Nat × Nat × Option Nat} (h : v.toSlice = some p) : v = .slice p.1 p.2.1 p.2.2.1 p.2.2.2.1 p.2.2.2.2 := by
  cases v with
  | slice b o n es cap => have h' : some (b, o, n, es, cap) = some p := h; simp only [Option.some.injEq] at h'; subst h'; rfl
  | _ => exact nomatch h
theorem to64_some {v : V} {n : Nat} (h : v.to64 = some n) : v = .int .i64 (Int.ofNat n) := by
  cases v with
  | int k m =>
    cases k with
    | i64 => cases m with
      | ofNat m => have h' : some m = some n := h; simp only [Option.some.injEq] at h'; subst h'; rfl
      | negSucc m => exact nomatch h
    | _ => exact nomatch h
  | _ => exact nomatch h
theorem toByte_some {v : V} {n : Nat} (h : v.toByte = some n) : v = .int .u8 (Int.ofNat n) ∧ n ≤ 255 := by
  cases v with
  | int k m =>
    cases k with
    | u8 => cases m with
      | ofNat m =>
        obtain ⟨h1, h2⟩ := (boolRec_some _ _ _).1 (show (Bool.rec none (some m) (Nat.ble m 255) : Option Nat) = some n from h)
        simp only [Option.some.injEq] at h2
        subst h2
        exact ⟨rfl, Nat.le_of_ble_eq_true h1⟩
      | negSucc m => exact nomatch h
    | _ => exact nomatch h
  | _ => exact nomatch h

/-- The first bytes of a row. -/
theorem bytesK_some {E : En} {R : Type} (r : R) : ∀ (n : Nat) (l : List V) (ys : List Value) (K : List Nat → Option R), RVs E l ys → bytesK n l K = some r →
    ∃ bs : List UInt8, bs.length = n ∧ n ≤ ys.length ∧ (∀ (j : Nat) (x : UInt8), bs[j]? = some x → ys[j]? = some (Value.int .u8 x.toNat)) ∧ K (bs.map (·.toNat)) = some r
  | 0, l, ys, K, hl, e => ⟨[], rfl, Nat.zero_le _, fun j x h => by simp at h, e⟩
  | n + 1, [], ys, K, hl, e => nomatch e
  | n + 1, x :: l, ys, K, hl, e => by
    obtain ⟨y, ys', rfl, h1, h2⟩ := RVs_cons.1 hl
    obtain ⟨m, h3, h4⟩ := (optRec_some _ _ _).1 (show (Option.rec none (fun m => bytesK n l fun q => K (m :: q)) x.toByte : Option R) = some r from e)
    obtain ⟨h5, h6⟩ := toByte_some h3
    obtain ⟨bs, q1, q2, q3, q4⟩ := bytesK_some r n l ys' _ h2 h4
    subst h5
    rw [RV] at h1
    subst h1
    have hm : (UInt8.ofNat m).toNat = m := by simp; omega
    refine ⟨UInt8.ofNat m :: bs, by simp [q1], by simp; omega, fun j z hz => ?_, by rw [List.map_cons, hm]; exact q4⟩
    cases j with
    | zero =>
      simp only [List.getElem?_cons_zero, Option.some.injEq] at hz ⊢
      subst hz
      rw [hm]
      rfl
    | succ j =>
      simp only [List.getElem?_cons_succ] at hz ⊢
      exact q3 j z hz

/-- A row of a type's own variables bears one at its beginning. -/
theorem liesAt_own {P : Program} {u : TypeId} {n c : Nat} {i : TypeInfo} (hi : P.info? u = some i) (hn : i.size = n) (h1 : 1 ≤ n) (hc : n ≤ c) : liesAt P P.depth u (c / P.cellsOf u) 0 u 1 = true := by
  have hcell : P.cellsOf u = n := by simp [Program.cellsOf, hi, hn]
  have hd : P.depth = (2 * (P.types.size + Made.depth) + 1) + 1 := rfl
  have hs : sameLayout P P.depth u u = true := by
    rw [hd, sameLayout]
    simp
  have hq : 1 ≤ c / n := (Nat.le_div_iff_mul_le (by omega)).2 (by omega)
  have hr : ∀ d, rowAt P (sameLayout P P.depth · u) (d + 1) u (c / P.cellsOf u) 0 1 = true := fun d => by
    rw [rowAt, hcell]
    have h0 : n ≠ 0 := by omega
    simp only [h0, if_false, Nat.zero_mod, Nat.zero_div, Nat.zero_add, hs, Bool.and_true]
    simp [hq]
  have h2 : ∀ d, liesAt P (d + 1) u (c / P.cellsOf u) 0 u 1 = true := fun d => by
    rw [liesAt]
    have := hr (2 * (P.types.size + Made.depth) + 1)
    rw [← hd] at this
    rw [this, Bool.true_or]
  have := h2 (2 * (P.types.size + Made.depth) + 1)
  rw [← hd] at this
  exact this

section
variable (F : CallF) (tm : Tm)
theorem toU_good (x : A) : Good (I.toU x F tm) :=
  Good.ev (f := fun v => J.toU v) fun v => Good.opt v.toPtr (f := fun p R h K => read p.1 R h fun k h => Blk.rec (fun c _ _ => Bool.rec none (K v h) (Nat.ble (Nat.succ p.2) (len c))) (fun _ => none) none (fun _ _ _ _ _ => none) k) fun p =>
    Good.bind (Good.read p.1) (k := fun k R h K => Blk.rec (fun c _ _ => Bool.rec none (K v h) (Nat.ble (Nat.succ p.2) (len c))) (fun _ => none) none (fun _ _ _ _ _ => none) k) fun k => by
      cases k with
      | cells c w y => exact Good.bool (Nat.ble (Nat.succ p.2) (len c)) (f := fun _ h K => K v h) (Good.pure v)
      | _ => exact Good.fail
theorem ofU_good (y n : Nat) (x : A) : Good (I.ofU y n x F tm) :=
  Good.ev (f := fun v => J.ofU y n v) fun v => Good.opt v.toPtr (f := fun p R h K => Bool.rec none (read p.1 R h fun k h => Blk.rec (fun c _ y' => Bool.rec none (Bool.rec none (K v h) (Nat.ble n (len c))) (Nat.beq y y')) (fun _ => none) none (fun _ _ _ _ _ => none) k) (Nat.beq p.2 0)) fun p =>
    Good.bool (Nat.beq p.2 0) (f := fun R h K => read p.1 R h fun k h => Blk.rec (fun c _ y' => Bool.rec none (Bool.rec none (K v h) (Nat.ble n (len c))) (Nat.beq y y')) (fun _ => none) none (fun _ _ _ _ _ => none) k) <|
    Good.bind (Good.read p.1) (k := fun k R h K => Blk.rec (fun c _ y' => Bool.rec none (Bool.rec none (K v h) (Nat.ble n (len c))) (Nat.beq y y')) (fun _ => none) none (fun _ _ _ _ _ => none) k) fun k => by
      cases k with
      | cells c w y' => exact Good.bool (Nat.beq y y') (f := fun R h K => Bool.rec none (K v h) (Nat.ble n (len c))) (Good.bool (Nat.ble n (len c)) (f := fun _ h K => K v h) (Good.pure v))
      | _ => exact Good.fail
theorem sameP_calm (neg : Bool) (x y : A) : Calm (I.sameP neg x y F tm) :=
  Calm.ev (f := fun v R h K => evK tm (fun u => J.sameP neg v u R h K) y) fun v => Calm.ev (f := fun u => J.sameP neg v u) fun u =>
    Calm.opt v.toPtr (f := fun p R h K => Option.rec none (fun q => Bool.rec none (Bool.rec none (K (V.bool (Bool.not neg)) h) (Nat.beq p.2 q.2)) (Nat.beq p.1 q.1)) u.toPtr) fun p =>
      Calm.opt u.toPtr (f := fun q R h K => Bool.rec none (Bool.rec none (K (V.bool (Bool.not neg)) h) (Nat.beq p.2 q.2)) (Nat.beq p.1 q.1)) fun q =>
        Calm.bool (Nat.beq p.1 q.1) (f := fun R h K => Bool.rec none (K (V.bool (Bool.not neg)) h) (Nat.beq p.2 q.2)) (Calm.bool (Nat.beq p.2 q.2) (f := fun _ h K => K (V.bool (Bool.not neg)) h) (Calm.pure _))
theorem sdata_calm (x : A) : Calm (I.sdata x F tm) :=
  Calm.ev (f := fun v => J.sdata v) fun v => by
    show Calm (fun R h K => (Option.rec (Bool.rec none (K V.nilp h) v.isNils) (fun p => Bool.rec none (K (V.ptr p.1 p.2.1) h) (Nat.ble 1 p.2.2.1)) v.toSlice : Option R))
    cases v.toSlice with
    | none => exact Calm.bool v.isNils (f := fun _ h K => K V.nilp h) (Calm.pure _)
    | some p => exact Calm.bool (Nat.ble 1 p.2.2.1) (f := fun _ h K => K (V.ptr p.1 p.2.1) h) (Calm.pure _)
theorem Good.bytes {α : Type} (n : Nat) : ∀ (l : List V) (f : List Nat → Kal α), (∀ v, Good (f v)) → Good (fun R h K => bytesK n l (fun v => f v R h K)) := by
  induction n with
  | zero => intro l f hf; exact hf []
  | succ n ih =>
    intro l f hf
    cases l with
    | nil => exact Good.fail
    | cons x l => exact Good.opt x.toByte (f := fun m R h K => bytesK n l fun q => f (m :: q) R h K) fun m => ih l (fun q => f (m :: q)) fun q => hf _
theorem ustrN_good (y m : Nat) (v : V) : Good (J.ustrN y m v) :=
  Good.opt v.toPtr (f := fun p R h K => Bool.rec none (read p.1 R h fun k h => Blk.rec (fun c w y' => Bool.rec none (Bool.rec none (bytesK m c fun s => write p.1 (.cells c false y') R h fun _ h => K (V.str s) h) (Nat.beq y y')) w) (fun _ => none) none (fun _ _ _ _ _ => none) k) (Nat.beq p.2 0)) fun p =>
    Good.bool (Nat.beq p.2 0) (f := fun R h K => read p.1 R h fun k h => Blk.rec (fun c w y' => Bool.rec none (Bool.rec none (bytesK m c fun s => write p.1 (.cells c false y') R h fun _ h => K (V.str s) h) (Nat.beq y y')) w) (fun _ => none) none (fun _ _ _ _ _ => none) k) <|
    Good.bind (Good.read p.1) (k := fun k R h K => Blk.rec (fun c w y' => Bool.rec none (Bool.rec none (bytesK m c fun s => write p.1 (.cells c false y') R h fun _ h => K (V.str s) h) (Nat.beq y y')) w) (fun _ => none) none (fun _ _ _ _ _ => none) k) fun k => by
      cases k with
      | cells c w y' =>
        exact Good.bool w (f := fun R h K => Bool.rec none (bytesK m c fun s => write p.1 (.cells c false y') R h fun _ h => K (V.str s) h) (Nat.beq y y')) <|
          Good.bool (Nat.beq y y') (f := fun R h K => bytesK m c fun s => write p.1 (.cells c false y') R h fun _ h => K (V.str s) h) <|
          Good.bytes m c (fun s R h K => write p.1 (.cells c false y') R h fun _ h => K (V.str s) h) fun s => Good.bind (Good.write p.1 (.cells c false y')) (k := fun _ _ h K => K (V.str s) h) fun _ => Good.pure _
      | _ => exact Good.fail
theorem ustr_good (q : Nat) (x y : A) : Good (I.ustr q x y F tm) :=
  Good.ev (f := fun v R h K => evK tm (fun u => J.ustr q v u R h K) y) fun v => Good.ev (f := fun u => J.ustr q v u) fun u =>
    Good.opt u.to64 (f := fun n R h K => Nat.rec (Option.rec none (fun _ => K (V.str []) h) v.nilP) (fun m _ => Bool.rec none (J.ustrN q (Nat.succ m) v R h K) (Nat.ble m 1073741824)) n) fun n => by
      cases n with
      | zero => exact Good.opt v.nilP (f := fun _ _ h K => K (V.str []) h) fun _ => Good.pure _
      | succ m => exact Good.bool (Nat.ble m 1073741824) (f := J.ustrN q (m + 1) v) (ustrN_good q (m + 1) v)
end

section
variable {Γ : Cx} (hΓ : Γ.Ok) {w : Nat} {dst : Option Tmp} {ty : TypeId} {pos : String} {after : Array Edge} {guard : Option (Nat × Bool)}
include hΓ

theorem toU_ok {s d t : TypeId} {n : Nat} (hs' : Γ.P.underlying s = some (.pointer t)) (hd : Γ.P.underlying d = some .unsafePointer) (hz : sizeT Γ t = some n) (h1 : 1 ≤ n) {x : Operand} {a : A} (hc : cA Γ w x = some a) :
    OpOK Γ w ⟨dst, .convert s d x, ty, pos, after, guard⟩ (I.toU a) := by
  intro F hA tm h v h' w0 E wd ar ds hr hs ht
  obtain ⟨i0, hi0, hi1⟩ := sizeT_some hz
  obtain ⟨u, hu, e⟩ := (evK_some tm _ a _).1 hr
  have hu' := cA_ok (ds := ds) hΓ hc ht hu
  obtain ⟨p, hp, e⟩ := (optRec_some _ _ _).1 e
  obtain rfl := toPtr_some hp
  obtain ⟨k, hb, _, e⟩ := (read_some _ _ _ _ _).1 e
  cases k with
  | cells c q y =>
    obtain ⟨hle, e⟩ := (boolRec_some _ _ _).1 e
    rw [len_eq] at hle
    have hle' := Nat.le_of_ble_eq_true hle
    have hu2 := hu'
    rw [RV] at hu2
    obtain ⟨r, hr1, hpx⟩ := hu2
    obtain ⟨ys, zs, el, fz, g1, g2, g3, g4⟩ := hs.cells hb hr1
    have hlen := RVs_length g2
    simp only [Option.some.injEq, Prod.mk.injEq] at e
    obtain ⟨rfl, rfl⟩ := e
    refine ⟨E, wd, _, En.le_refl E, hs.note _, hu', yields_value ?_⟩
    rw [hpx]
    exact Lib.run_to_unsafe wd ⟨r, p.2, none⟩ hs' hd hi0 (by omega) (cells := (ys ++ zs).length) (e := el) (by simp [World.shape?, g1]) (by show p.2 < _; rw [List.length_append]; omega)
  | _ => exact nomatch e
theorem ofU_ok {s d t : TypeId} {n : Nat} (hs' : Γ.P.underlying s = some .unsafePointer) (hd : Γ.P.underlying d = some (.pointer t)) (hz : sizeT Γ t = some n) (h1 : 1 ≤ n) {x : Operand} {a : A} (hc : cA Γ w x = some a) :
    OpOK Γ w ⟨dst, .convert s d x, ty, pos, after, guard⟩ (I.ofU (t + 1) n a) := by
  intro F hA tm h v h' w0 E wd ar ds hr hs ht
  obtain ⟨i0, hi0, hi1⟩ := sizeT_some hz
  obtain ⟨u, hu, e⟩ := (evK_some tm _ a _).1 hr
  have hu' := cA_ok (ds := ds) hΓ hc ht hu
  obtain ⟨p, hp, e⟩ := (optRec_some _ _ _).1 e
  obtain rfl := toPtr_some hp
  obtain ⟨h0, e⟩ := (boolRec_some _ _ _).1 e
  have h0' : p.2 = 0 := beq_true.1 h0
  obtain ⟨k, hb, _, e⟩ := (read_some _ _ _ _ _).1 e
  cases k with
  | cells c q y =>
    obtain ⟨hy, e⟩ := (boolRec_some _ _ _).1 e
    have hy' : t + 1 = y := beq_true.1 hy
    obtain ⟨hle, e⟩ := (boolRec_some _ _ _).1 e
    rw [len_eq] at hle
    have hle' := Nat.le_of_ble_eq_true hle
    have hu2 := hu'
    rw [RV] at hu2
    obtain ⟨r, hr1, hpx⟩ := hu2
    obtain ⟨ys, zs, el, fz, g1, g2, g3, g4, g5⟩ := hs.cellsY hb hr1
    have hel : el = t := g5 t hy'.symm
    have hlen := RVs_length g2
    simp only [Option.some.injEq, Prod.mk.injEq] at e
    obtain ⟨rfl, rfl⟩ := e
    refine ⟨E, wd, _, En.le_refl E, hs.note _, hu', yields_value ?_⟩
    rw [hpx]
    refine Lib.run_from_unsafe wd ⟨r, p.2, none⟩ hs' hd hi0 (cells := (ys ++ zs).length) (e := el) (by simp [World.shape?, g1]) ?_
    rw [h0', hel]
    exact liesAt_own hi0 hi1 h1 (by rw [List.length_append]; omega)
  | _ => exact nomatch e
theorem sameP_ok {op : BinOp} {neg : Bool} (hop : op = if neg then .neq else .eql) {t t' e0 : TypeId} {n : Nat} {x y : Operand} {a b : A} (hu0 : Γ.P.underlying t = some (.pointer e0)) (hz : sizeT Γ e0 = some n) (hx : cA Γ w x = some a) (hy : cA Γ w y = some b) :
    OpOK Γ w ⟨dst, .binOp op t x y t', ty, pos, after, guard⟩ (I.sameP neg a b) := by
  intro F hA tm h v h' w0 E wd ar ds hr hs ht
  obtain ⟨i0, hi0, hi1⟩ := sizeT_some hz
  obtain ⟨u, hu, e⟩ := (evK_some tm _ a _).1 hr
  have hu' := cA_ok (ds := ds) hΓ hx ht hu
  obtain ⟨u2, hv2, e⟩ := (evK_some tm _ b _).1 e
  have hv' := cA_ok (ds := ds) hΓ hy ht hv2
  obtain ⟨p, hp, e⟩ := (optRec_some _ _ _).1 e
  obtain rfl := toPtr_some hp
  obtain ⟨q, hq, e⟩ := (optRec_some _ _ _).1 e
  obtain rfl := toPtr_some hq
  obtain ⟨h1, e⟩ := (boolRec_some _ _ _).1 e
  obtain ⟨h2, e⟩ := (boolRec_some _ _ _).1 e
  have h1' : p.1 = q.1 := beq_true.1 h1
  have h2' : p.2 = q.2 := beq_true.1 h2
  rw [RV] at hu' hv'
  obtain ⟨r, hr1, hpx⟩ := hu'
  obtain ⟨r', hr2, hpy⟩ := hv'
  rw [h1', hr2] at hr1
  simp only [Option.some.injEq] at hr1
  subst hr1
  refine pure_end (x := .bool (Bool.not neg)) e hs (by rw [RV]) (yields_value ?_)
  have hg : ∀ wd', (eqGuard op t x y (.pointer (some ⟨r', p.2, none⟩)) (.pointer (some ⟨r', q.2, none⟩))).run Γ.P wd' = .ok () wd' := fun wd' => by subst hop; cases neg <;> simp [eqGuard]
  rw [hpx, hpy, Sem.run_bind, hg, h2']
  subst hop
  cases neg with
  | false => exact run_eql_ptr_same (P := Γ.P) (w := wd) _ hu0 hi0
  | true => exact Lib.run_neq_ptr_same wd _ hu0 hi0
theorem sdata_ok {t : TypeId} {x : Operand} {a : A} (hx : cA Γ w x = some a) : OpOK Γ w ⟨dst, .call ⟨.builtin .unsafeSliceData, #[x], #[t]⟩, ty, pos, after, guard⟩ (I.sdata a) := by
  intro F hA tm h v h' w0 E wd ar ds hr hs ht
  obtain ⟨u, hu, e⟩ := (evK_some tm _ a _).1 hr
  have hu' := cA_ok (ds := ds) hΓ hx ht hu
  cases hsl : u.toSlice with
  | none =>
    have e' : (Option.rec (Bool.rec none (some (V.nilp, h)) u.isNils) (fun p => Bool.rec none (some (V.ptr p.1 p.2.1, h)) (Nat.ble 1 p.2.2.1)) u.toSlice : Option (V × H)) = some (v, h') := e
    rw [hsl] at e'
    obtain ⟨h1, e2⟩ := (boolRec_some _ _ _).1 e'
    cases u with
    | nils =>
      rw [RV] at hu'
      refine pure_end (x := .pointer none) e2 hs (by rw [RV]) (.inl ?_)
      simp [execOp, resolve, invoke, builtin, hu', Lib.run_unsafeSliceData_nil]
    | _ => exact nomatch h1
  | some p =>
    have e' : (Option.rec (Bool.rec none (some (V.nilp, h)) u.isNils) (fun p => Bool.rec none (some (V.ptr p.1 p.2.1, h)) (Nat.ble 1 p.2.2.1)) u.toSlice : Option (V × H)) = some (v, h') := e
    rw [hsl] at e'
    obtain ⟨h1, e2⟩ := (boolRec_some _ _ _).1 e'
    have h1' := Nat.le_of_ble_eq_true h1
    obtain rfl := toSlice_some hsl
    rw [RV] at hu'
    obtain ⟨_, r, c, hr1, hpx, hnc, _⟩ := hu'
    refine pure_end (x := .pointer (some ⟨r, p.2.1, none⟩)) e2 hs (by rw [RV]; exact ⟨r, hr1, rfl⟩) (.inl ?_)
    have := Lib.run_unsafeSliceData_row (P := Γ.P) wd #[t] ty ⟨r, p.2.1, none⟩ p.2.2.1 c (by omega)
    simp [execOp, resolve, invoke, builtin, hpx, this]
theorem ustr_ok {t t2 e0 : TypeId} (ht0 : Γ.P.underlying t = some (.pointer e0)) (hz : sizeT Γ e0 = some 1) {x y : Operand} {a b : A} (hx : cA Γ w x = some a) (hy : cA Γ w y = some b) :
    OpOK Γ w ⟨dst, .call ⟨.builtin .unsafeString, #[x, y], #[t, t2]⟩, ty, pos, after, guard⟩ (I.ustr (e0 + 1) a b) := by
  intro F hA tm h v h' w0 E wd ar ds hr hs ht
  obtain ⟨i0, hi0, hi1⟩ := sizeT_some hz
  have hcell : Γ.P.cellsOf e0 = 1 := by simp [Program.cellsOf, hi0, hi1]
  obtain ⟨u, hu, e⟩ := (evK_some tm _ a _).1 hr
  have hu' := cA_ok (ds := ds) hΓ hx ht hu
  obtain ⟨u2, hv2, e⟩ := (evK_some tm _ b _).1 e
  have hv' := cA_ok (ds := ds) hΓ hy ht hv2
  obtain ⟨n, hn, e⟩ := (optRec_some _ _ _).1 e
  obtain rfl := to64_some hn
  rw [RV] at hv'
  cases n with
  | zero =>
    obtain ⟨q, hq, e⟩ := (optRec_some _ _ _).1 e
    have hp : ∃ p, Act.eval ⟨ar, ds⟩ x = .pointer p := by
      cases u with
      | ptr b o => rw [RV] at hu'; obtain ⟨r, _, h⟩ := hu'; exact ⟨_, h⟩
      | nilp => rw [RV] at hu'; exact ⟨_, hu'⟩
      | view l => rw [RV] at hu'; obtain ⟨r, _, h, _⟩ := hu'; exact ⟨_, h⟩
      | _ => exact nomatch hq
    obtain ⟨p, hpx⟩ := hp
    refine pure_end (x := .string .empty) e hs (by rw [RV]; exact ⟨_, rfl, rfl⟩) (.inl ?_)
    have := Lib.run_unsafeString_none (P := Γ.P) wd t t2 ty p
    have h0 : Act.eval ⟨ar, ds⟩ y = .int .i64 0 := hv'
    simp [execOp, resolve, invoke, builtin, hpx, h0, this]
  | succ m =>
    obtain ⟨hm63, e⟩ := (boolRec_some _ _ _).1 e
    have hm63' := Nat.le_of_ble_eq_true hm63
    obtain ⟨p, hp, e⟩ := (optRec_some _ _ _).1 e
    obtain rfl := toPtr_some hp
    obtain ⟨h0, e⟩ := (boolRec_some _ _ _).1 e
    have h0' : p.2 = 0 := beq_true.1 h0
    obtain ⟨k, hb, _, e⟩ := (read_some _ _ _ _ _).1 e
    cases k with
    | cells c q y1 =>
      obtain ⟨hq, e2⟩ := (boolRec_some _ _ _).1 e
      obtain ⟨hy1, e3⟩ := (boolRec_some _ _ _).1 e2
      clear e e2
      subst hq
      have hy1' : e0 + 1 = y1 := beq_true.1 hy1
      rw [RV] at hu'
      obtain ⟨r, hr1, hpx⟩ := hu'
      obtain ⟨ys, zs, el, fz, g1, g2, g3, g4, g5⟩ := hs.cellsY hb hr1
      have hel : el = e0 := g5 e0 hy1'.symm
      subst hel
      obtain ⟨bs, b1, b2, b3, e⟩ := bytesK_some _ (m + 1) c ys _ g2 e3
      obtain ⟨_, _, e⟩ := (write_some _ _ _ _ _ _).1 e
      simp only [Option.some.injEq, Prod.mk.injEq] at e
      obtain ⟨rfl, rfl⟩ := e
      have hbn : bs ≠ [] := fun h => by rw [h] at b1; exact nomatch b1
      have hcells : ∀ (j : Nat) (z : UInt8), bs[j]? = some z → wd.cell? ((⟨r, 0, none⟩ : Addr).add j) = some (.int .u8 z.toNat) := fun j z hz => by
        have h1 := b3 j z hz
        have hlt : j < ys.length := by
          rcases Nat.lt_or_ge j ys.length with hh | hh
          · exact hh
          · rw [List.getElem?_eq_none hh] at h1; exact nomatch h1
        rw [Addr.add_lit, Nat.zero_add, cell_of wd g1, List.getElem?_append_left hlt]
        exact h1
      have hrun := Lib.run_unsafeString_row (P := Γ.P) wd t t2 ty el ht0 hcell r (ys ++ zs).length (by simp [World.shape?, g1]) bs hbn (by rw [b1, List.length_append]; omega) (by omega) hcells
      have hn0 : ¬ bs.length = 0 := by omega
      have hfr : ∃ fz', (wd.freeze ⟨r, 0, none⟩ bs.length).heap[r]? = some (.cells (ys ++ zs).toArray el fz') := by
        unfold World.freeze
        rw [if_neg hn0]
        simp only [Array.getElem?_modify, if_true, g1, Option.map_some]
        exact ⟨_, rfl⟩
      obtain ⟨fz', hfr⟩ := hfr
      have hfo : ∀ i, i ≠ r → (wd.freeze ⟨r, 0, none⟩ bs.length).heap[i]? = wd.heap[i]? := fun i hi => by
        unfold World.freeze
        rw [if_neg hn0]
        simp only [Array.getElem?_modify]
        rw [if_neg (fun h => hi h.symm)]
      have hfs : (wd.freeze ⟨r, 0, none⟩ bs.length).heap.size = wd.heap.size := by
        unfold World.freeze
        rw [if_neg hn0]
        simp
      have hfx : (wd.freeze ⟨r, 0, none⟩ bs.length).os = wd.os ∧ (wd.freeze ⟨r, 0, none⟩ bs.length).tape = wd.tape ∧ (wd.freeze ⟨r, 0, none⟩ bs.length).output = wd.output := by
        unfold World.freeze
        rw [if_neg hn0]
        exact ⟨rfl, rfl, rfl⟩
      refine ⟨E, wd.freeze ⟨r, 0, none⟩ bs.length, .string ⟨bs.toArray⟩, En.le_refl E, ?_, by rw [RV]; exact ⟨_, rfl, by simp⟩, .inl ?_⟩
      · exact (hs.note p.1).wrote (k := .cells c true y1) (by rw [H.note_at]; exact hb) rfl hr1 (.cells c false y1) (fun h => rfl) _ ⟨r, ys, zs, el, fz', hr1, hfr, g2, g3, (fun h => nomatch h), g5⟩
          hfo (by rw [hfs]; exact Nat.le_refl _) hfx.1 hfx.2.1 hfx.2.2
      · have hlen : Act.eval ⟨ar, ds⟩ y = .int .i64 bs.length := by rw [hv', b1]; rfl
        have hpx' : Act.eval ⟨ar, ds⟩ x = .pointer (some ⟨r, 0, none⟩) := by rw [hpx, h0']
        simp [execOp, resolve, invoke, builtin, hpx', hlen, hrun]
    | _ => exact nomatch e
theorem noEsc_ok {f : Operand} {x : Operand} {a : A} {ts : Array TypeId} (hf : noEsc Γ f = true) (hx : cA Γ w x = some a) : OpOK Γ w ⟨dst, .call ⟨.value f, #[x], ts⟩, ty, pos, after, guard⟩ (I.mov a) := by
  intro F hA tm h v h' w0 E wd ar ds hr hs ht
  obtain ⟨u, hu, e⟩ := (evK_some tm _ a _).1 hr
  have hu' := cA_ok (ds := ds) hΓ hx ht hu
  cases f with
  | func g =>
    cases hg : Γ.P.funcs[g]? with
    | none => rw [noEsc, hg] at hf; exact nomatch hf
    | some fn =>
      rw [noEsc, hg] at hf
      simp only [Bool.and_eq_true, Bool.or_eq_true, beq_iff_eq] at hf
      obtain ⟨⟨hb, hn⟩, ho⟩ := hf
      have q1 : (fn.name == "runtime.NumGoroutine") = false := by rw [hn]; rfl
      have q2 : Extern.findNext fn = none := by
        unfold Extern.findNext
        rw [hn]
        rcases ho with ho | ho <;> rw [ho] <;> rfl
      have q3 : Extern.find fn = some Extern.AbiNoEscape.same := by
        unfold Extern.find
        rw [hn]
        rfl
      have hrun := run_callFunc_extern hg q1 hb q2 q3 #[Act.eval ⟨ar, ds⟩ x] wd
      refine pure_end e hs hu' (.inl ?_)
      rw [Lib.run_noEscape] at hrun
      simp only [Result.andThen] at hrun
      have hfe : Act.eval ⟨ar, ds⟩ (.func g) = .func (.func g) #[] #[] := rfl
      simp [execOp, resolve, invoke, Deferred.ofValue, hfe, hrun]
  | _ => exact nomatch hf
end
end Go.X
