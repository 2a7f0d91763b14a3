/- A verified executor, part 31: functions of Go's library, told by their contracts: rows. -/
import Derived.Test.YtojfkhhebedeoaaGreatDoorXMore
import Derived.Lib.Index
import Derived.Lib.Bytealg
import Derived.Lib.Atoi
import Derived.Lib.AtoiTie
import Derived.Lib.AtoiErrMem
import Derived.Lib.RuneCount
import Derived.Lib.Join
import Derived.Lib.ItoaMem
set_option linter.unusedVariables false
set_option linter.unusedSimpArgs false
set_option linter.unusedSectionVars false
namespace Go.X
open Go.RowKit
noncomputable section
variable [Nu]

/-! what is reckoned, on lists of numbers -/
def isPre (a : List Nat) : List Nat → Bool := List.rec (fun _ => true) (fun x _ ih b => List.rec false (fun y b _ => Bool.rec false (ih b) (Nat.beq x y)) b) a
def idxN (sub : List Nat) (l : List Nat) : Nat → Option Nat := List.rec (fun k => Bool.rec none (some k) (isPre sub [])) (fun x r ih k => Bool.rec (ih (Nat.succ k)) (some k) (isPre sub (x :: r))) l
def idxV (l sub : List Nat) : V := Option.rec (.int .i64 (Int.negSucc 0)) (fun k => .int .i64 (Int.ofNat k)) (idxN sub l 0)
def cntN (c : Nat) (l : List Nat) : Nat := List.rec 0 (fun x _ ih => Bool.rec ih (Nat.succ ih) (Nat.beq x c)) l
def allAscii (l : List Nat) : Bool := List.rec true (fun x _ ih => Bool.rec false ih (Nat.ble x 127)) l
def decN (l : List Nat) : Nat → Option Nat := List.rec (fun acc => some acc) (fun b _ ih acc => Bool.rec none (Bool.rec none (ih (Nat.add (Nat.mul acc 10) (Nat.sub b 48))) (Nat.ble b 57)) (Nat.ble 48 b)) l
def decN1 (l : List Nat) : Option Nat := List.rec none (fun _ _ _ => decN l 0) l
def atoiN (l : List Nat) : Option Int := List.rec none (fun b r _ => Bool.rec (Bool.rec (Option.rec none (fun m => some (Int.ofNat m)) (decN l 0)) (Option.rec none (fun m => some (Int.ofNat m)) (decN1 r)) (Nat.beq b 43)) (Option.rec none (fun m => some (ineg (Int.ofNat m))) (decN1 r)) (Nat.beq b 45)) l

theorem isPre_eq : ∀ a b : List UInt8, isPre (a.map (·.toNat)) (b.map (·.toNat)) = a.isPrefixOf b
  | [], _ => rfl
  | _ :: _, [] => rfl
  | x :: a, y :: b => by
    show (Bool.rec false (isPre (a.map (·.toNat)) (b.map (·.toNat))) (Nat.beq x.toNat y.toNat) : Bool) = (x == y && a.isPrefixOf b)
    rw [isPre_eq a b]
    have h2 : Nat.beq x.toNat y.toNat = (x == y) := by rw [beq_dec, Bool.eq_iff_iff]; simp [toNat_inj]
    rw [h2]
    cases (x == y) <;> rfl
theorem idxN_eq (sub : List UInt8) : ∀ (l : List UInt8) (k : Nat), (idxN (sub.map (·.toNat)) (l.map (·.toNat)) k = none ∧ Lib.index l sub = -1) ∨ ∃ j : Nat, idxN (sub.map (·.toNat)) (l.map (·.toNat)) k = some (k + j) ∧ Lib.index l sub = j
  | [], k => by
    show ((Bool.rec none (some k) (isPre (sub.map (·.toNat)) []) : Option Nat) = none ∧ _) ∨ ∃ j, (Bool.rec none (some k) (isPre (sub.map (·.toNat)) []) : Option Nat) = _ ∧ _
    have : isPre (sub.map (·.toNat)) [] = sub.isPrefixOf [] := isPre_eq sub []
    rw [this]
    cases sub with
    | nil => exact .inr ⟨0, rfl, rfl⟩
    | cons x s => exact .inl ⟨rfl, rfl⟩
  | x :: l, k => by
    show ((Bool.rec (idxN (sub.map (·.toNat)) (l.map (·.toNat)) (k + 1)) (some k) (isPre (sub.map (·.toNat)) ((x :: l).map (·.toNat))) : Option Nat) = none ∧ _) ∨ ∃ j, (Bool.rec (idxN (sub.map (·.toNat)) (l.map (·.toNat)) (k + 1)) (some k) (isPre (sub.map (·.toNat)) ((x :: l).map (·.toNat))) : Option Nat) = _ ∧ _
    rw [isPre_eq]
    unfold Lib.index
    cases hp : sub.isPrefixOf (x :: l) with
    | true => exact .inr ⟨0, rfl, rfl⟩
    | false =>
      rcases idxN_eq sub l (k + 1) with ⟨h1, h2⟩ | ⟨j, h1, h2⟩
      · exact .inl ⟨h1, by rw [h2]; rfl⟩
      · refine .inr ⟨j + 1, by rw [show k + (j + 1) = k + 1 + j from by omega]; exact h1, ?_⟩
        rw [h2]
        have : ((j : Int) == -1) = false := by simp
        simp [this]
theorem idxV_eq (s sub : List UInt8) : idxV (s.map (·.toNat)) (sub.map (·.toNat)) = .int .i64 (Lib.index s sub) := by
  unfold idxV
  rcases idxN_eq sub s 0 with ⟨h1, h2⟩ | ⟨j, h1, h2⟩
  · rw [h1, h2]; rfl
  · rw [h1, h2]; show V.int .i64 (Int.ofNat (0 + j)) = _; rw [Nat.zero_add]; rfl
theorem cntN_eq (c : UInt8) : ∀ l : List UInt8, cntN c.toNat (l.map (·.toNat)) = Lib.countByte l c
  | [] => rfl
  | x :: l => by
    show (Bool.rec (cntN c.toNat (l.map (·.toNat))) (Nat.succ (cntN c.toNat (l.map (·.toNat)))) (Nat.beq x.toNat c.toNat) : Nat) = List.count c (x :: l)
    have h2 : Nat.beq x.toNat c.toNat = (x == c) := by rw [beq_dec, Bool.eq_iff_iff]; simp [toNat_inj]
    have ih : cntN c.toNat (l.map (·.toNat)) = List.count c l := cntN_eq c l
    rw [h2, ih, List.count_cons]
    cases x == c <;> rfl
theorem allAscii_eq : ∀ l : List UInt8, allAscii (l.map (·.toNat)) = true → ∀ b ∈ l, b.toNat < 128
  | [], _, b, hb => nomatch hb
  | x :: l, h, b, hb => by
    have h' : (Bool.rec false (allAscii (l.map (·.toNat))) (Nat.ble x.toNat 127) : Bool) = true := h
    cases e : Nat.ble x.toNat 127 with
    | false => rw [e] at h'; exact nomatch h'
    | true =>
      rw [e] at h'
      have hx := Nat.le_of_ble_eq_true e
      rcases List.mem_cons.1 hb with rfl | hb
      · omega
      · exact allAscii_eq l h' b hb
theorem decN_eq : ∀ (l : List UInt8) (acc : Nat), decN (l.map (·.toNat)) acc = Lib.decFrom acc l
  | [], acc => rfl
  | b :: l, acc => by
    show (Bool.rec none (Bool.rec none (decN (l.map (·.toNat)) (acc * 10 + (b.toNat - 48))) (Nat.ble b.toNat 57)) (Nat.ble 48 b.toNat) : Option Nat) = _
    have e : Lib.decFrom acc (b :: l) = (match Lib.digitVal b with | some d => Lib.decFrom (acc * 10 + d) l | none => none) := rfl
    rw [e, decN_eq l, ble_if, ble_if, Lib.digitVal]
    by_cases h1 : 48 ≤ b.toNat
    · by_cases h2 : b.toNat ≤ 57
      · simp [h1, h2]
      · simp [h1, h2]
    · simp [h1]
theorem decN1_eq (l : List UInt8) : decN1 (l.map (·.toNat)) = Lib.decNat l := by
  cases l with
  | nil => rfl
  | cons b r => show decN ((b :: r).map (·.toNat)) 0 = _; rw [decN_eq]; rfl
theorem atoiN_eq (l : List UInt8) : atoiN (l.map (·.toNat)) = Lib.atoi l := by
  cases l with
  | nil => rfl
  | cons b r =>
    show (Bool.rec (Bool.rec (Option.rec none (fun m => some (Int.ofNat m)) (decN ((b :: r).map (·.toNat)) 0)) (Option.rec none (fun m => some (Int.ofNat m)) (decN1 (r.map (·.toNat)))) (Nat.beq b.toNat 43)) (Option.rec none (fun m => some (ineg (Int.ofNat m))) (decN1 (r.map (·.toNat)))) (Nat.beq b.toNat 45) : Option Int) = _
    have h45 : Nat.beq b.toNat 45 = (b == 45) := by rw [beq_dec, Bool.eq_iff_iff]; simp only [decide_eq_true_eq, beq_iff_eq]; exact toNat_inj (b := 45)
    have h43 : Nat.beq b.toNat 43 = (b == 43) := by rw [beq_dec, Bool.eq_iff_iff]; simp only [decide_eq_true_eq, beq_iff_eq]; exact toNat_inj (b := 43)
    have e : Lib.atoi (b :: r) = if b == 45 then (Lib.decNat r).map fun (m : Nat) => -(m : Int) else if b == 43 then (Lib.decNat r).map fun (m : Nat) => (m : Int) else (Lib.decNat (b :: r)).map fun (m : Nat) => (m : Int) := rfl
    rw [h45, h43, decN1_eq, decN_eq, e]
    cases b == 45 with
    | true =>
      cases Lib.decNat r with
      | none => rfl
      | some m => show some (ineg (Int.ofNat m)) = some (-(m : Int)); rw [ineg_eq]; rfl
    | false =>
      cases b == 43 with
      | true => cases Lib.decNat r <;> rfl
      | false =>
        have : Lib.decNat (b :: r) = Lib.decFrom 0 (b :: r) := rfl
        simp only [Bool.false_eq_true, if_false]
        rw [this]
        cases Lib.decFrom 0 (b :: r) <;> rfl

omit [Nu] in
/-- What lay there before lies there. -/
theorem belowCell {w0 w : World} (hb : Below w0.heap.size w0 w) {a : Addr} {v : Value} (h : w0.cell? a = some v) : w.cell? a = some v := by
  rw [hb.cell (Lib.lt_of_cell h)]; exact h
/-! rows over values alone -/
def FnThere (P : Program) (g : Nat) : Prop := ∃ fn, P.funcs[g]? = some fn ∧ (fn.name == "runtime.NumGoroutine") = false ∧ fn.body.isNone = false
def str1 (f : List Nat → Option V) (vs : List V) : Option V := List.rec none (fun v r _ => List.rec (Option.rec none (fun a => f a) v.toStr) (fun _ _ _ => none) r) vs
def str2 (f : List Nat → List Nat → Option V) (vs : List V) : Option V := List.rec none (fun v r _ => List.rec none (fun u q _ => List.rec (Option.rec none (fun a => Option.rec none (fun b => f a b) u.toStr) v.toStr) (fun _ _ _ => none) q) r) vs
theorem toStr_some {v : V} {a : List Nat} (h : v.toStr = some a) : v = .str a := by
  cases v with
  | str s => have h' : some s = some a := h; simp only [Option.some.injEq] at h'; rw [h']
  | _ => exact nomatch h
theorem str1_some {f : List Nat → Option V} {vs : List V} {r : V} (h : str1 f vs = some r) : ∃ a, vs = [.str a] ∧ f a = some r := by
  cases vs with
  | nil => exact nomatch h
  | cons v q =>
    cases q with
    | nil =>
      obtain ⟨a, h1, h2⟩ := (optRec_some _ _ _).1 (show (Option.rec none (fun a => f a) v.toStr : Option V) = some r from h)
      exact ⟨a, by rw [toStr_some h1], h2⟩
    | cons u q => exact nomatch h
theorem str2_some {f : List Nat → List Nat → Option V} {vs : List V} {r : V} (h : str2 f vs = some r) : ∃ a b, vs = [.str a, .str b] ∧ f a b = some r := by
  cases vs with
  | nil => exact nomatch h
  | cons v q =>
    cases q with
    | nil => exact nomatch h
    | cons u q =>
      cases q with
      | nil =>
        obtain ⟨a, h1, h2⟩ := (optRec_some _ _ _).1 (show (Option.rec none (fun a => Option.rec none (fun b => f a b) u.toStr) v.toStr : Option V) = some r from h)
        obtain ⟨b, h3, h4⟩ := (optRec_some _ _ _).1 h2
        exact ⟨a, b, by rw [toStr_some h1, toStr_some h3], h4⟩
      | cons _ _ => exact nomatch h
def KRow.pure (g : Nat) (f : List V → Option V) : KRow := ⟨g, fun vs => lift (f vs)⟩
theorem KRow.pure_ok {P : Program} {g : Nat} {f : List V → Option V} (h0 : FnThere P g)
    (h : ∀ (E : En) (vs : List V) (r : V) (args : List Value) (w : World), f vs = some r → RVs E vs args → Below Nu.old.heap.size Nu.old w → Calls P g args.toArray w fun e w' => ∃ x, e = .returned x ∧ Below w.heap.size w w' ∧ RV E r x) : (KRow.pure g f).OK P := by
  refine ⟨h0, fun vs => Good.lift _, fun vs h1 v h' w0 E wd args hr hs ha => ?_⟩
  obtain ⟨q1, q2⟩ := run_lift.1 hr
  subst q2
  exact (h E vs v args wd q1 ha hs.olds).mono fun e w' ⟨x, k1, k2, k3⟩ => ⟨x, E, k1, En.le_refl E, hs.beside k2, k3⟩
theorem args1 {E : En} {a : List Nat} {args : List Value} (h : RVs E [.str a] args) : ∃ s : ByteArray, args = [.string s] ∧ s.data.toList.map (·.toNat) = a := by
  obtain ⟨y, r, rfl, h1, h2⟩ := RVs_cons.1 h
  rw [RVs_nil.1 h2]
  rw [RV] at h1
  obtain ⟨s, rfl, h3⟩ := h1
  exact ⟨s, rfl, h3⟩
theorem args2 {E : En} {a b : List Nat} {args : List Value} (h : RVs E [.str a, .str b] args) : ∃ s t : ByteArray, args = [.string s, .string t] ∧ s.data.toList.map (·.toNat) = a ∧ t.data.toList.map (·.toNat) = b := by
  obtain ⟨y, r, rfl, h1, h2⟩ := RVs_cons.1 h
  obtain ⟨t, rfl, h4⟩ := args1 h2
  rw [RV] at h1
  obtain ⟨s, rfl, h3⟩ := h1
  exact ⟨s, t, rfl, h3, h4⟩
theorem size_list (s : ByteArray) : s.size = s.data.toList.length := by simp

/-- Index, stringslite.Index. -/
def indexRow (g : Nat) : KRow := KRow.pure g (str2 fun a b => Bool.rec none (some (idxV a b)) (Nat.ble (len a) 1000000))
/-- What lies in a package variable. -/
def OldInt (g : Nat) (m : Int) : Prop := ∀ w, Below Nu.old.heap.size Nu.old w → w.cell? ⟨g, 0, none⟩ = some (.int .i64 m)
theorem indexRow_ok {P : Program} {g gm : Nat} {m : Int} (h0 : FnThere P g) (hm : OldInt gm m)
    (hc : ∀ (s sub : ByteArray) (m : Int) (w : World), s.size < 4294967281 → w.cell? ⟨gm, 0, none⟩ = some (.int .i64 m) → Calls P g #[.string s, .string sub] w fun e w' => e = .returned (.int .i64 (Lib.index s.data.toList sub.data.toList)) ∧ w' = w) : (indexRow g).OK P := by
  refine KRow.pure_ok h0 fun E vs r args w hf ha ho => ?_
  obtain ⟨a, b, rfl, h1⟩ := str2_some hf
  obtain ⟨s, t, rfl, hs, ht⟩ := args2 ha
  obtain ⟨h2, h3⟩ := (boolRec_some _ _ _).1 h1
  simp only [Option.some.injEq] at h3
  subst hs ht
  have hlen := Nat.le_of_ble_eq_true h2
  rw [len_eq, List.length_map] at hlen
  refine (hc s t m w (by rw [size_list]; omega) (hm w ho)).mono fun e w' ⟨k1, k2⟩ => ⟨_, k1, by rw [k2]; exact Below.refl _ _, ?_⟩
  rw [← h3, idxV_eq, RV]
/-- Count of one byte. -/
def countRow (g : Nat) : KRow := KRow.pure g (str2 fun a b => List.rec none (fun c q _ => List.rec (some (.int .i64 (Int.ofNat (cntN c a)))) (fun _ _ _ => none) q) b)
theorem countRow_ok {P : Program} {g : Nat} (h0 : FnThere P g) (hc : ∀ (s : ByteArray) (c : UInt8) (w : World), Calls P g #[.string s, .string ⟨#[c]⟩] w fun e w' => e = .returned (.int .i64 (Lib.countByte s.data.toList c)) ∧ w' = w) : (countRow g).OK P := by
  refine KRow.pure_ok h0 fun E vs r args w hf ha ho => ?_
  obtain ⟨a, b, rfl, h1⟩ := str2_some hf
  obtain ⟨s, t, rfl, hs, ht⟩ := args2 ha
  obtain ⟨⟨tl⟩⟩ := t
  cases tl with
  | nil => subst ht; exact nomatch h1
  | cons c q =>
    cases q with
    | nil =>
      subst hs ht
      have h3 : some (V.int .i64 (Int.ofNat (cntN c.toNat (s.data.toList.map (·.toNat))))) = some r := h1
      simp only [Option.some.injEq] at h3
      refine (hc s c w).mono fun e w' ⟨k1, k2⟩ => ⟨_, k1, by rw [k2]; exact Below.refl _ _, ?_⟩
      rw [← h3, cntN_eq, RV]; rfl
    | cons d q => subst ht; exact nomatch h1
/-- RuneCountInString, of plain letters. -/
def runesRow (g : Nat) : KRow := KRow.pure g (str1 fun a => Bool.rec none (Bool.rec none (some (.int .i64 (Int.ofNat (len a)))) (allAscii a)) (Nat.ble (len a) 1000000))
theorem runesRow_ok {P : Program} {g : Nat} (h0 : FnThere P g) (hc : ∀ (s : ByteArray) (w : World), s.size < 9223372036854775807 → Calls P g #[.string s] w fun e w' => e = .returned (.int .i64 (Lib.runeCount s)) ∧ ∃ pos, w' = w.iter s pos) : (runesRow g).OK P := by
  refine KRow.pure_ok h0 fun E vs r args w hf ha ho => ?_
  obtain ⟨a, rfl, h1⟩ := str1_some hf
  obtain ⟨s, rfl, hs⟩ := args1 ha
  obtain ⟨h2, h3⟩ := (boolRec_some _ _ _).1 h1
  obtain ⟨h4, h5⟩ := (boolRec_some _ _ _).1 h3
  simp only [Option.some.injEq] at h5
  subst hs
  have hlen := Nat.le_of_ble_eq_true h2
  rw [len_eq, List.length_map] at hlen
  refine (hc s w (by rw [size_list]; omega)).mono fun e w' ⟨k1, pos, k2⟩ => ⟨_, k1, by rw [k2]; exact (Below.refl _ _).alloc (Nat.le_refl _) _, ?_⟩
  rw [Lib.runeCount_ascii s fun j hj => allAscii_eq _ h4 _ (by simp [ByteArray.getElem_eq_getElem_data]), ← h5, RV, len_eq, List.length_map, size_list]; rfl
/-- A number below 1000, as digits. -/
def dig3 (n : Nat) : Option (List Nat) := Bool.rec (Bool.rec (Bool.rec none (some [Nat.add 48 (Nat.div n 100), Nat.add 48 (Nat.mod (Nat.div n 10) 10), Nat.add 48 (Nat.mod n 10)]) (Nat.ble n 999)) (some [Nat.add 48 (Nat.div n 10), Nat.add 48 (Nat.mod n 10)]) (Nat.ble n 99)) (some [Nat.add 48 n]) (Nat.ble n 9)
theorem u8_of (n : Nat) (h : n < 256) : (UInt8.ofNat n).toNat = n := by rw [UInt8.toNat_ofNat']; omega
theorem dec1 {n : Nat} (h : n < 10) : (Lib.decDigits n).map (·.toNat) = [48 + n] := by
  rw [Lib.decDigits, dif_pos h]
  simp only [List.map_cons, List.map_nil, u8_of (48 + n) (by omega)]
theorem dec2 {n : Nat} (h : ¬ n < 10) : (Lib.decDigits n).map (·.toNat) = (Lib.decDigits (n / 10)).map (·.toNat) ++ [48 + n % 10] := by
  conv => lhs; rw [Lib.decDigits, dif_neg h]
  simp only [List.map_append, List.map_cons, List.map_nil, u8_of (48 + n % 10) (by omega)]
theorem dig3_eq {n : Nat} {l : List Nat} (h : dig3 n = some l) : n < 1000 ∧ (Lib.decDigits n).map (·.toNat) = l := by
  unfold dig3 at h
  rw [ble_if, ble_if, ble_if] at h
  by_cases h1 : n ≤ 9
  · rw [if_pos h1] at h
    simp only [Option.some.injEq] at h
    exact ⟨by omega, by rw [dec1 (by omega), ← h]; rfl⟩
  rw [if_neg h1] at h
  by_cases h2 : n ≤ 99
  · rw [if_pos h2] at h
    simp only [Option.some.injEq] at h
    exact ⟨by omega, by rw [dec2 (by omega), dec1 (by omega), ← h]; rfl⟩
  rw [if_neg h2] at h
  by_cases h3 : n ≤ 999
  · rw [if_pos h3] at h
    simp only [Option.some.injEq] at h
    refine ⟨by omega, ?_⟩
    rw [dec2 (by omega), dec2 (by omega), dec1 (by omega), ← h, show n / 10 / 10 = n / 100 by omega]; rfl
  · rw [if_neg h3] at h; exact nomatch h
/-- Itoa, of numbers below 1000. -/
def itoaF (vs : List V) : Option V := List.rec none (fun v r _ => List.rec (Option.rec none (fun n => Option.rec none (fun l => some (.str l)) (dig3 n)) v.to64) (fun _ _ _ => none) r) vs
def itoaRow (g : Nat) : KRow := KRow.pure g itoaF
theorem itoaRow_ok {P : Program} {g : Nat} (h0 : FnThere P g) (hc : ∀ (n : Nat) (w : World), n < 1000 → Below Nu.old.heap.size Nu.old w → Calls P g #[.int .i64 n] w fun e w' => e = .returned (.string ⟨(Lib.itoa n).toArray⟩) ∧ Below w.heap.size w w') : (itoaRow g).OK P := by
  refine KRow.pure_ok h0 fun E vs r args w hf ha ho => ?_
  cases vs with
  | nil => exact nomatch hf
  | cons v q =>
    cases q with
    | cons u q => exact nomatch hf
    | nil =>
      obtain ⟨n, h1, h2⟩ := (optRec_some _ _ _).1 (show (Option.rec none (fun n => Option.rec none (fun l => some (.str l)) (dig3 n)) v.to64 : Option V) = some r from hf)
      obtain ⟨l, h3, h4⟩ := (optRec_some _ _ _).1 h2
      simp only [Option.some.injEq] at h4
      obtain ⟨hn, hl⟩ := dig3_eq h3
      rw [to64_some h1] at ha
      obtain ⟨y, z, rfl, h5, h6⟩ := RVs_cons.1 ha
      rw [RVs_nil.1 h6]
      rw [RV] at h5
      subst h5
      refine (hc n w hn ho).mono fun e w' ⟨k1, k2⟩ => ⟨_, k1, k2, ?_⟩
      rw [← h4, RV, Lib.itoa_nonneg]
      exact ⟨_, rfl, by simpa using hl⟩
/-- Atoi, of at most 18 letters. -/
def atoiRow (g T : Nat) : KRow := KRow.pure g (str1 fun a => Bool.rec none (Option.rec (some (.tup [.int .i64 (Int.ofNat 0), .iface T (.view [])])) (fun n => some (.tup [.int .i64 n, .nili])) (atoiN a)) (Nat.ble (len a) 18))
theorem atoiRow_ok {P : Program} {g T : Nat} (h0 : FnThere P g)
    (h1 : ∀ (s : ByteArray) (v : Int) (w : World), s.size ≤ 9223372036854775806 → Lib.atoiAll s.data.toList = .ok v → Calls P g #[.string s] w fun e w' => e = .returned (.tuple #[.int .i64 v, .nilIface]) ∧ Below w.heap.size w w')
    (h2 : ∀ (s : ByteArray) (w : World), s.size ≤ 281474976710656 → Lib.atoiAll s.data.toList = Lib.NumEnd.ofOption none → Below Nu.old.heap.size Nu.old w → Calls P g #[.string s] w fun e w' => (∃ N, e = .returned (.tuple #[.int .i64 0, .iface T (.pointer (some ⟨N, 0, none⟩))])) ∧ Below w.heap.size w w') : (atoiRow g T).OK P := by
  refine KRow.pure_ok h0 fun E vs r args w hf ha ho => ?_
  obtain ⟨a, rfl, q1⟩ := str1_some hf
  obtain ⟨s, rfl, hs⟩ := args1 ha
  obtain ⟨q2, q3⟩ := (boolRec_some _ _ _).1 q1
  subst hs
  have hlen := Nat.le_of_ble_eq_true q2
  rw [len_eq, List.length_map] at hlen
  have ht := Lib.atoiAll_short s.data.toList hlen
  rw [atoiN_eq] at q3
  cases ea : Lib.atoi s.data.toList with
  | none =>
    rw [ea] at q3 ht
    have q4 : some (V.tup [.int .i64 (Int.ofNat 0), .iface T (.view [])]) = some r := q3
    simp only [Option.some.injEq] at q4
    refine (h2 s w (by rw [size_list]; omega) ht ho).mono fun e w' ⟨⟨N, k1⟩, k2⟩ => ⟨_, k1, k2, ?_⟩
    rw [← q4, RV]
    refine ⟨_, rfl, RVs_mk (by rw [RV]; rfl) (RVs_one ?_)⟩
    rw [RV]
    refine ⟨_, rfl, ?_⟩
    rw [RV]
    exact ⟨_, [], rfl, RVs_none, rfl, fun w' _ j y hy => by simp at hy⟩
  | some n =>
    rw [ea] at q3 ht
    have q4 : some (V.tup [.int .i64 n, .nili]) = some r := q3
    simp only [Option.some.injEq] at q4
    refine (h1 s n w (by rw [size_list]; omega) ht).mono fun e w' ⟨k1, k2⟩ => ⟨_, k1, k2, ?_⟩
    rw [← q4, RV]
    exact ⟨_, rfl, RVs_mk (by rw [RV]) (RVs_one (by rw [RV]))⟩

/-- A call without arguments that says yes. -/
def yesRow (g : Nat) : KRow := KRow.pure g (List.rec (some (.bool true)) (fun _ _ _ => none))
theorem yesRow_ok {P : Program} {g : Nat} (h0 : FnThere P g) (hc : ∀ w, Below Nu.old.heap.size Nu.old w → Calls P g #[] w fun e w' => e = .returned (.bool true) ∧ Below w.heap.size w w') : (yesRow g).OK P := by
  refine KRow.pure_ok h0 fun E vs r args w hf ha ho => ?_
  cases vs with
  | nil =>
    have h1 : some (V.bool true) = some r := hf
    simp only [Option.some.injEq] at h1
    rw [RVs_nil.1 ha]
    exact (hc w ho).mono fun e w' ⟨k1, k2⟩ => ⟨_, k1, k2, by rw [← h1, RV]⟩
  | cons v l => exact nomatch (show (none : Option V) = some r from hf)

/-! Join -/
def allStr : List V → Option (List (List Nat)) := List.rec (some []) (fun v _ ih => Option.rec none (fun a => Option.rec none (fun l => some (a :: l)) ih) v.toStr)
def joinT (sep : List Nat) : List (List Nat) → List Nat := List.rec [] (fun x _ ih => sep ++ (x ++ ih))
def joinN (sep : List Nat) (l : List (List Nat)) : List Nat := List.rec [] (fun x r _ => x ++ joinT sep r) l
def joinS (b o n : Nat) (sep : List Nat) : Kal V := fun R h K => Bool.rec none (ldN n b o R h fun l h => Option.rec none (fun xs => Bool.rec none (K (.str (joinN sep xs)) h) (Nat.ble (len (joinN sep xs)) 1000000)) (allStr l)) (Nat.ble n 1000000)
def joinK (vs : List V) : Kal V := fun R h K => List.rec none (fun v r _ => List.rec none (fun u q _ => List.rec (Option.rec none (fun sep => Option.rec (Bool.rec none (K (.str []) h) v.isNone) (fun p => joinS p.1 p.2.1 p.2.2.1 sep R h K) v.toSlice) u.toStr) (fun _ _ _ => none) q) r) vs
def joinRow (g : Nat) : KRow := ⟨g, joinK⟩
theorem joinS_good (b o n : Nat) (sep : List Nat) : Good (joinS b o n sep) := Good.bool _ <|
  Good.bind (ldN_good n b o) (k := fun l R h K => Option.rec none (fun xs => Bool.rec none (K (V.str (joinN sep xs)) h) (Nat.ble (len (joinN sep xs)) 1000000)) (allStr l)) fun l => Good.opt (allStr l) (f := fun xs R h K => Bool.rec none (K (V.str (joinN sep xs)) h) (Nat.ble (len (joinN sep xs)) 1000000)) fun xs => Good.bool _ (Good.pure _)
theorem joinK_good (vs : List V) : Good (joinK vs) := by
  cases vs with
  | nil => exact Good.fail
  | cons v r =>
    cases r with
    | nil => exact Good.fail
    | cons u q =>
      cases q with
      | nil =>
        refine Good.opt u.toStr (f := fun sep R h K => Option.rec (Bool.rec none (K (.str []) h) v.isNone) (fun p => joinS p.1 p.2.1 p.2.2.1 sep R h K) v.toSlice) fun sep => ?_
        cases hv : v.toSlice with
        | none => exact Good.bool _ (Good.pure _)
        | some p => exact joinS_good _ _ _ _
      | cons _ _ => exact Good.fail
theorem joinT_eq (sep : List UInt8) : ∀ r : List (List UInt8), joinT (sep.map (·.toNat)) (r.map (List.map (·.toNat))) = (Lib.joinTail sep r).map (·.toNat)
  | [] => rfl
  | x :: r => by
    show sep.map (·.toNat) ++ (x.map (·.toNat) ++ joinT (sep.map (·.toNat)) (r.map (List.map (·.toNat)))) = _
    rw [joinT_eq sep r]
    simp [Lib.joinTail]
theorem joinN_eq (sep : List UInt8) (l : List (List UInt8)) : joinN (sep.map (·.toNat)) (l.map (List.map (·.toNat))) = (Lib.join l sep).map (·.toNat) := by
  cases l with
  | nil => rfl
  | cons x r =>
    show x.map (·.toNat) ++ joinT (sep.map (·.toNat)) (r.map (List.map (·.toNat))) = _
    rw [joinT_eq, Lib.join_cons]
    simp
theorem allStr_some {E : En} : ∀ {l : List V} {ys : List Value} {xs : List (List Nat)}, allStr l = some xs → RVs E l ys → ∃ bs : List ByteArray, ys = bs.map Value.string ∧ bs.map (fun b => b.data.toList.map (·.toNat)) = xs
  | [], ys, xs, h, hr => by
    have h' : some [] = some xs := h
    simp only [Option.some.injEq] at h'
    subst h'
    rw [RVs_nil.1 hr]
    exact ⟨[], rfl, rfl⟩
  | v :: l, ys, xs, h, hr => by
    obtain ⟨a, h1, h2⟩ := (optRec_some _ _ _).1 (show (Option.rec none (fun a => Option.rec none (fun l => some (a :: l)) (allStr l)) v.toStr : Option (List (List Nat))) = some xs from h)
    obtain ⟨q, h3, h4⟩ := (optRec_some _ _ _).1 h2
    simp only [Option.some.injEq] at h4
    subst h4
    obtain ⟨y, r, rfl, hy, hr'⟩ := RVs_cons.1 hr
    obtain ⟨bs, rfl, hb⟩ := allStr_some h3 hr'
    obtain rfl := toStr_some h1
    rw [RV] at hy
    obtain ⟨t, rfl, ht⟩ := hy
    exact ⟨t :: bs, rfl, by rw [List.map_cons, hb, ht]⟩
theorem joinRow_ok {P : Program} {g : Nat} (h0 : FnThere P g)
    (hn : ∀ (a : Option Addr) (c : Nat) (sep : ByteArray) (w : World), Calls P g #[.slice a 0 c, .string sep] w fun e w' => e = .returned (.string ⟨#[]⟩) ∧ w' = w)
    (hc : ∀ (bk o c : Nat) (xs : List ByteArray) (sep : ByteArray) (w : World), (∀ (j : Nat) x, xs[j]? = some x → w.cell? ⟨bk, o + j, none⟩ = some (.string x)) → bk < w.heap.size → xs.length ≤ 140737488355328 → xs.length ≤ c →
      (Lib.join (xs.map (·.data.toList)) sep.data.toList).length ≤ 140737488355328 →
      Calls P g #[.slice (some ⟨bk, o, none⟩) xs.length c, .string sep] w fun e w' => e = .returned (.string ⟨(Lib.join (xs.map (·.data.toList)) sep.data.toList).toArray⟩) ∧ Below w.heap.size w w') : (joinRow g).OK P := by
  refine ⟨h0, joinK_good, fun vs h v h' w0 E wd args hr hs ha => ?_⟩
  cases vs with
  | nil => exact nomatch hr
  | cons v0 r =>
    cases r with
    | nil => exact nomatch hr
    | cons u q =>
      cases q with
      | cons _ _ => exact nomatch hr
      | nil =>
        obtain ⟨sep, h1, h2⟩ := (optRec_some _ _ _).1 (show (Option.rec none (fun sep => Option.rec (Bool.rec none (some (V.str [], h)) v0.isNone) (fun p => joinS p.1 p.2.1 p.2.2.1 sep _ h fun a h => some (a, h)) v0.toSlice) u.toStr : Option (V × H)) = some (v, h') from hr)
        obtain rfl := toStr_some h1
        obtain ⟨y, r, rfl, hy, hr'⟩ := RVs_cons.1 ha
        obtain ⟨sp, rfl, hsp⟩ := args1 hr'
        have none' : (∃ a c, y = .slice a 0 c) → some (V.str [], h) = some (v, h') → Calls P g (y :: [.string sp]).toArray wd fun e w' => ∃ x E', e = .returned x ∧ E.le E' ∧ Sim w0 E' h' w' ∧ RV E' v x := by
          rintro ⟨a, c, rfl⟩ e
          simp only [Option.some.injEq, Prod.mk.injEq] at e
          obtain ⟨rfl, rfl⟩ := e
          refine (hn a c sp wd).mono fun e w' ⟨k1, k2⟩ => ⟨_, E, k1, En.le_refl E, by rw [k2]; exact hs, ?_⟩
          rw [RV]
          exact ⟨_, rfl, rfl⟩
        cases v0 with
        | nils => rw [RV] at hy; subst hy; exact none' ⟨_, _, rfl⟩ h2
        | emp => rw [RV] at hy; obtain ⟨a, c, rfl⟩ := hy; exact none' ⟨_, _, rfl⟩ h2
        | slice b o n es cap =>
          rw [RV] at hy
          obtain ⟨_, r0, c, hmu, rfl, hnc, _⟩ := hy
          have h2' : joinS b o n sep _ h (fun a h => some (a, h)) = some (v, h') := h2
          obtain ⟨g0, h2'⟩ := (boolRec_some _ _ _).1 h2'
          have hn0 := Nat.le_of_ble_eq_true g0
          obtain ⟨cc, qq, yy, g1, g2, g3⟩ := ldN_some _ _ _ _ _ _ _ h2'
          obtain ⟨xs, g4, g5⟩ := (optRec_some _ _ _).1 g3
          obtain ⟨g6, g7⟩ := (boolRec_some _ _ _).1 g5
          simp only [Option.some.injEq, Prod.mk.injEq] at g7
          obtain ⟨rfl, rfl⟩ := g7
          obtain ⟨us, u1, u2, u3⟩ := hs.loads g1 hmu g2
          obtain ⟨bs, rfl, hbs⟩ := allStr_some g4 u2
          rw [List.length_map] at u1
          subst u1
          have hxs : xs = (bs.map (·.data.toList)).map (List.map (·.toNat)) := by rw [← hbs, List.map_map]; rfl
          have hlen := Nat.le_of_ble_eq_true g6
          rw [len_eq, hxs, ← hsp, joinN_eq, List.length_map] at hlen
          have hlt : r0 < wd.heap.size := BR_size (hs.blk b _ g1) rfl hmu
          refine (hc r0 o c bs sp wd (fun j x hx => u3 j _ (by rw [List.getElem?_map, hx]; rfl)) hlt (by omega) hnc (by omega)).mono fun e w' ⟨k1, k2⟩ => ⟨_, E, k1, En.le_refl E, (hs.note b).beside k2, ?_⟩
          rw [RV]
          refine ⟨_, rfl, ?_⟩
          rw [hxs, ← hsp, joinN_eq]
        | _ => exact nomatch h2
end
end Go.X
