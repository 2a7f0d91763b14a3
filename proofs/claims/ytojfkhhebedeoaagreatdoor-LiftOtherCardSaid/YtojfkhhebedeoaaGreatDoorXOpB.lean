/- A verified executor, part 8: arithmetic. -/
import Derived.Test.YtojfkhhebedeoaaGreatDoorXOpA
set_option linter.unusedVariables false
set_option linter.unusedSimpArgs false
set_option linter.unusedSectionVars false
namespace Go.X
open Go.RowKit
variable [Nu]

theorem boolRec_if {R : Type} (b : Bool) (x y : R) : (Bool.rec x y b : R) = if b = true then y else x := by cases b <;> rfl

theorem wrap64s_eq (n : Int) : wrap64s n = IntKind.i64.wrap n := by
  have e : IntKind.i64.wrap n = if 9223372036854775808 ≤ n % 18446744073709551616 then n % 18446744073709551616 - 18446744073709551616 else n % 18446744073709551616 := by
    simp [IntKind.wrap, IntKind.bits, IntKind.signed]
  rw [e]
  unfold wrap64s
  have h0 : 0 ≤ n.emod 18446744073709551616 := Int.emod_nonneg n (by decide)
  have h1 : n.emod 18446744073709551616 < 18446744073709551616 := Int.emod_lt_of_pos n (by decide)
  have h2 : n % 18446744073709551616 = n.emod 18446744073709551616 := rfl
  rw [h2]
  cases hm : n.emod 18446744073709551616 with
  | ofNat m =>
    rw [hm] at h0 h1
    show (Bool.rec (Int.ofNat m) (Int.negSucc (Nat.sub 18446744073709551615 m)) (Nat.ble 9223372036854775808 m) : Int) = _
    rw [ble_if]
    by_cases c : 9223372036854775808 ≤ m
    · rw [if_pos c, if_pos (by simp; omega), Int.negSucc_eq]
      simp only [Int.ofNat_eq_natCast] at h1 ⊢
      show -((18446744073709551615 - m : Nat) + 1 : Int) = _
      omega
    · rw [if_neg c, if_neg (by simp; omega)]
  | negSucc m => rw [hm] at h0; exact absurd h0 (by simp)
theorem wrap64_eq (n : Int) : wrap64 n = IntKind.i64.wrap n := by
  have e : IntKind.i64.wrap n = if 9223372036854775808 ≤ n % 18446744073709551616 then n % 18446744073709551616 - 18446744073709551616 else n % 18446744073709551616 := by
    simp [IntKind.wrap, IntKind.bits, IntKind.signed]
  cases n with
  | ofNat m =>
    show (Bool.rec (wrap64s (Int.ofNat m)) (Int.ofNat m) (Nat.ble m 9223372036854775807) : Int) = _
    rw [ble_if]
    by_cases c : m ≤ 9223372036854775807
    · rw [if_pos c, e]; simp only [Int.ofNat_eq_natCast]; rw [if_neg (by omega)]; omega
    · rw [if_neg c, wrap64s_eq]
  | negSucc m =>
    show (Bool.rec (wrap64s (Int.negSucc m)) (Int.negSucc m) (Nat.ble m 9223372036854775807) : Int) = _
    rw [ble_if]
    by_cases c : m ≤ 9223372036854775807
    · rw [if_pos c, e, Int.negSucc_eq, if_pos (by omega)]; omega
    · rw [if_neg c, wrap64s_eq]
theorem intV_eq {k : IntKind} {n : Int} {v : V} (h : intV k n = some v) : v = .int k (k.wrap n) := by
  cases k with
  | i32 =>
    have h1 : int32 n = some v := h
    cases n with
    | ofNat m =>
      obtain ⟨h2, h3⟩ := (boolRec_some _ _ _).1 (show (Bool.rec none (some (V.int .i32 (Int.ofNat m))) (Nat.ble m 2147483647) : Option V) = some v from h1)
      have h4 := Nat.le_of_ble_eq_true h2
      simp only [Option.some.injEq] at h3
      have e : (Int.ofNat m + 2147483648) % 4294967296 - 2147483648 = Int.ofNat m := by simp only [Int.ofNat_eq_natCast]; omega
      rw [← h3, IntKind.wrap_i32, e]
    | negSucc m =>
      obtain ⟨h2, h3⟩ := (boolRec_some _ _ _).1 (show (Bool.rec none (some (V.int .i32 (Int.negSucc m))) (Nat.ble m 2147483647) : Option V) = some v from h1)
      have h4 := Nat.le_of_ble_eq_true h2
      simp only [Option.some.injEq] at h3
      have e : (Int.negSucc m + 2147483648) % 4294967296 - 2147483648 = Int.negSucc m := by simp only [Int.negSucc_eq]; omega
      rw [← h3, IntKind.wrap_i32, e]
  | i64 => have h' : some (V.int .i64 (wrap64 n)) = some v := h; simp only [Option.some.injEq] at h'; rw [← h', wrap64_eq]
  | u64 => have h' : some (V.int .u64 (upto 18446744073709551616 n)) = some v := h; simp only [Option.some.injEq] at h'; rw [← h', upto_eq]; simp [IntKind.wrap, IntKind.bits, IntKind.signed]; rfl
  | u32 => have h' : some (V.int .u32 (upto 4294967296 n)) = some v := h; simp only [Option.some.injEq] at h'; rw [← h', upto_eq]; simp [IntKind.wrap, IntKind.bits, IntKind.signed]; rfl
  | u8 => have h' : some (V.int .u8 (upto 256 n)) = some v := h; simp only [Option.some.injEq] at h'; rw [← h', upto_eq]; simp [IntKind.wrap, IntKind.bits, IntKind.signed]; rfl
  | _ => exact nomatch h

theorem beq_true {m n : Nat} : Nat.beq m n = true ↔ m = n := by
  constructor
  · exact Nat.eq_of_beq_eq_true
  · rintro rfl; simp
theorem beq_dec (m n : Nat) : Nat.beq m n = decide (m = n) := by
  rw [Bool.eq_iff_iff, beq_true]; simp
theorem ble_dec (m n : Nat) : Nat.ble m n = decide (m ≤ n) := by
  rw [Bool.eq_iff_iff, Nat.ble_eq]; simp
theorem ieq_eq (a b : Int) : ieq a b = (a == b) := by
  cases a with
  | ofNat m =>
    cases b with
    | ofNat n => simp only [ieq, beq_dec]; rw [Bool.eq_iff_iff]; simp only [Int.ofNat_eq_natCast, decide_eq_true_eq, beq_iff_eq]; omega
    | negSucc n => simp only [ieq]; rw [Bool.eq_iff_iff]; simp
  | negSucc m =>
    cases b with
    | ofNat n => simp only [ieq]; rw [Bool.eq_iff_iff]; simp
    | negSucc n => simp only [ieq, beq_dec]; rw [Bool.eq_iff_iff]; simp
theorem ilt_eq (a b : Int) : ilt a b = decide (a < b) := by
  cases a with
  | ofNat m =>
    cases b with
    | ofNat n => simp only [ilt, ble_dec]; congr 1; simp only [Int.ofNat_eq_natCast, eq_iff_iff]; omega
    | negSucc n => simp only [ilt]; rw [eq_comm, decide_eq_false_iff_not]; simp only [Int.ofNat_eq_natCast, Int.negSucc_eq]; omega
  | negSucc m =>
    cases b with
    | ofNat n => simp only [ilt]; rw [eq_comm, decide_eq_true_iff]; simp only [Int.ofNat_eq_natCast, Int.negSucc_eq]; omega
    | negSucc n => simp only [ilt, ble_dec]; congr 1; simp only [Int.negSucc_eq, eq_iff_iff]; omega
theorem kindEq_eq {k k' : IntKind} (h : kindEq k k' = true) : k = k' := by
  cases k <;> cases k' <;> first | rfl | exact nomatch h
theorem sEq_eq : ∀ (a b : List Nat), sEq a b = decide (a = b)
  | [], [] => by simp; rfl
  | [], _ :: _ => by simp; rfl
  | _ :: _, [] => by simp; rfl
  | x :: a, y :: b => by
    show (Bool.rec false (sEq a b) (Nat.beq x y) : Bool) = _
    rw [boolRec_if, sEq_eq a b]
    by_cases h : x = y
    · rw [if_pos (beq_true.2 h)]; simp [h]
    · rw [if_neg (fun c => h (beq_true.1 c))]; simp [h]
theorem toNat_inj {a b : UInt8} : a.toNat = b.toNat ↔ a = b := UInt8.toNat_inj
theorem map_toNat_inj : ∀ {a b : List UInt8}, a.map (·.toNat) = b.map (·.toNat) ↔ a = b
  | [], [] => by simp
  | [], _ :: _ => by simp
  | _ :: _, [] => by simp
  | x :: a, y :: b => by
    rw [List.map_cons, List.map_cons, List.cons.injEq, List.cons.injEq, map_toNat_inj, toNat_inj]
theorem ba_toList (s : ByteArray) : s.toList = s.data.toList := by
  have key : ∀ (n i : Nat) (r : List UInt8), n = s.size - i → ByteArray.toList.loop s i r = r.reverse ++ s.data.toList.drop i := by
    intro n
    induction n with
    | zero =>
      intro i r h
      rw [ByteArray.toList.loop, if_neg (by omega)]
      have : s.data.toList.length ≤ i := by simp; have := (show s.data.size = s.size from rfl); omega
      rw [List.drop_eq_nil_of_le this, List.append_nil]
    | succ n ih =>
      intro i r h
      have hi : i < s.size := by omega
      rw [ByteArray.toList.loop, if_pos hi, ih (i + 1) _ (by omega)]
      have hl : i < s.data.toList.length := by simp; exact hi
      rw [List.drop_eq_getElem_cons hl, List.reverse_cons, List.append_assoc, List.singleton_append]
      congr 2
      simp [ByteArray.get!, hi]
  rw [ByteArray.toList, key s.size 0 [] rfl]; simp
theorem sEq_bytes (s t : ByteArray) : sEq (s.data.toList.map (·.toNat)) (t.data.toList.map (·.toNat)) = (s.toList == t.toList) := by
  rw [sEq_eq, Bool.eq_iff_iff]
  rw [decide_eq_true_eq, beq_iff_eq, map_toNat_inj, ba_toList, ba_toList]
theorem sLt_bytes : ∀ (a b : List UInt8), sLt (a.map (·.toNat)) (b.map (·.toNat)) = Op.bytesLess a b
  | _, [] => by rename_i a; cases a <;> rfl
  | [], _ :: _ => rfl
  | x :: a, y :: b => by
    show (Bool.rec (Bool.rec false (sLt (a.map (·.toNat)) (b.map (·.toNat))) (Nat.beq x.toNat y.toNat)) true (Nat.ble (Nat.succ x.toNat) y.toNat) : Bool) = (x < y || (x == y && Op.bytesLess a b))
    rw [boolRec_if, boolRec_if, sLt_bytes a b]
    have h1 : Nat.ble (Nat.succ x.toNat) y.toNat = decide (x < y) := by rw [ble_dec]; congr 1
    have h2 : Nat.beq x.toNat y.toNat = (x == y) := by rw [beq_dec, Bool.eq_iff_iff]; simp [toNat_inj]
    rw [h1, h2]
    cases decide (x < y) <;> cases (x == y) <;> simp

theorem bitsV_some {f : Nat → Nat → Nat} {k : IntKind} {a b : Int} {v : V} (h : bitsV k f a b = some v) (hf : ∀ (N x y : Nat), x < 2 ^ N → y < 2 ^ N → f x y < 2 ^ N) :
    ∃ x y : Nat, a = x ∧ b = y ∧ v = .int k (f x y : Nat) ∧ x < 2 ^ k.bits ∧ y < 2 ^ k.bits ∧ k.wrap (f x y : Nat) = (f x y : Nat) := by
  cases a with
  | negSucc m => cases k <;> cases b <;> exact nomatch h
  | ofNat x =>
    cases b with
    | negSucc m => cases k <;> exact nomatch h
    | ofNat y =>
      refine ⟨x, y, rfl, rfl, ?_⟩
      cases k with
      | i64 =>
        have h' : (Bool.rec none (Bool.rec none (some (V.int .i64 (Int.ofNat (f x y)))) (Nat.ble y 9223372036854775807)) (Nat.ble x 9223372036854775807) : Option V) = some v := h
        obtain ⟨h1, h'⟩ := (boolRec_some _ _ _).1 h'
        obtain ⟨h2, h'⟩ := (boolRec_some _ _ _).1 h'
        have h1' : x ≤ 9223372036854775807 := Nat.le_of_ble_eq_true h1
        have h2' : y ≤ 9223372036854775807 := Nat.le_of_ble_eq_true h2
        simp only [Option.some.injEq] at h'
        have hfl := hf 63 x y (by omega) (by omega)
        refine ⟨h'.symm, by simp only [IntKind.bits]; omega, by simp only [IntKind.bits]; omega, ?_⟩
        rw [← wrap64_eq]
        show (Bool.rec _ (Int.ofNat (f x y)) (Nat.ble (f x y) 9223372036854775807) : Int) = _
        rw [ble_if, if_pos (by omega)]; rfl
      | u64 =>
        have h' : (Bool.rec none (Bool.rec none (some (V.int .u64 (Int.ofNat (f x y)))) (Nat.ble y 18446744073709551615)) (Nat.ble x 18446744073709551615) : Option V) = some v := h
        obtain ⟨h1, h'⟩ := (boolRec_some _ _ _).1 h'
        obtain ⟨h2, h'⟩ := (boolRec_some _ _ _).1 h'
        have h1' : x ≤ 18446744073709551615 := Nat.le_of_ble_eq_true h1
        have h2' : y ≤ 18446744073709551615 := Nat.le_of_ble_eq_true h2
        simp only [Option.some.injEq] at h'
        have hfl := hf 64 x y (by omega) (by omega)
        refine ⟨h'.symm, by simp only [IntKind.bits]; omega, by simp only [IntKind.bits]; omega, ?_⟩
        simp [IntKind.wrap, IntKind.bits, IntKind.signed]; omega
      | u32 =>
        have h' : (Bool.rec none (Bool.rec none (some (V.int .u32 (Int.ofNat (f x y)))) (Nat.ble y 4294967295)) (Nat.ble x 4294967295) : Option V) = some v := h
        obtain ⟨h1, h'⟩ := (boolRec_some _ _ _).1 h'
        obtain ⟨h2, h'⟩ := (boolRec_some _ _ _).1 h'
        have h1' : x ≤ 4294967295 := Nat.le_of_ble_eq_true h1
        have h2' : y ≤ 4294967295 := Nat.le_of_ble_eq_true h2
        simp only [Option.some.injEq] at h'
        have hfl := hf 32 x y (by omega) (by omega)
        refine ⟨h'.symm, by simp only [IntKind.bits]; omega, by simp only [IntKind.bits]; omega, ?_⟩
        simp [IntKind.wrap, IntKind.bits, IntKind.signed]; omega
      | u8 =>
        have h' : (Bool.rec none (Bool.rec none (some (V.int .u8 (Int.ofNat (f x y)))) (Nat.ble y 255)) (Nat.ble x 255) : Option V) = some v := h
        obtain ⟨h1, h'⟩ := (boolRec_some _ _ _).1 h'
        obtain ⟨h2, h'⟩ := (boolRec_some _ _ _).1 h'
        have h1' : x ≤ 255 := Nat.le_of_ble_eq_true h1
        have h2' : y ≤ 255 := Nat.le_of_ble_eq_true h2
        simp only [Option.some.injEq] at h'
        have hfl := hf 8 x y (by omega) (by omega)
        refine ⟨h'.symm, by simp only [IntKind.bits]; omega, by simp only [IntKind.bits]; omega, ?_⟩
        simp [IntKind.wrap, IntKind.bits, IntKind.signed]; omega
      | _ => exact nomatch h
theorem ofInt_nat (N x : Nat) (h : x < 2 ^ N) : (BitVec.ofInt N (x : Int)).toNat = x := by
  rw [BitVec.ofInt_natCast, BitVec.toNat_ofNat, Nat.mod_eq_of_lt h]

theorem arith_ok {P : Program} {op : BinOp} {k : IntKind} {a b : Int} {v : V} (h : arith op k a b = some v) (E : En) (t : TypeId) (w : World) : ∃ x, RV E v x ∧ (binOp op t (.int k a) (.int k b)).run P w = .ok x w := by
  cases op with
  | add => refine ⟨_, ?_, by rw [binOp_add]; rfl⟩; rw [intV_eq h, RV, iadd_eq]
  | sub => refine ⟨_, ?_, by rw [binOp_sub]; rfl⟩; rw [intV_eq h, RV, isub_eq]
  | mul => refine ⟨_, ?_, by rw [binOp_mul]; rfl⟩; rw [intV_eq h, RV, imul_eq]
  | quo =>
    have h : (Bool.rec (intV k (idiv a b)) none (ieq b 0) : Option V) = some v := h
    rw [boolRec_if, ieq_eq] at h
    by_cases c : b = 0
    · rw [if_pos (by simpa using c)] at h; exact nomatch h
    · rw [if_neg (by simpa using c)] at h
      refine ⟨_, ?_, by rw [binOp_quo, Op.intDiv, if_neg c]; rfl⟩; rw [intV_eq h, RV, idiv_eq]
  | rem =>
    have h : (Bool.rec (some (V.int k (imod a b))) none (ieq b 0) : Option V) = some v := h
    rw [boolRec_if, ieq_eq] at h
    by_cases c : b = 0
    · rw [if_pos (by simpa using c)] at h; exact nomatch h
    · rw [if_neg (by simpa using c)] at h
      simp only [Option.some.injEq] at h
      refine ⟨_, ?_, by rw [binOp_rem, Op.intDiv, if_neg c]; rfl⟩; rw [← h, RV, imod_eq]
  | and =>
    obtain ⟨x, y, rfl, rfl, rfl, hx, hy, hw⟩ := bitsV_some h (fun N x y hx hy => Nat.and_lt_two_pow x hy)
    refine ⟨.int k (bits .and k x y), ?_, by rw [binOp_and, intBits_and]; rfl⟩
    have e : bits .and k (x : Int) (y : Int) = k.wrap ((BitVec.ofInt k.bits (x : Int) &&& BitVec.ofInt k.bits (y : Int)).toNat : Nat) := rfl
    rw [RV, e, BitVec.toNat_and, ofInt_nat _ x hx, ofInt_nat _ y hy]
    exact congrArg _ hw
  | or =>
    obtain ⟨x, y, rfl, rfl, rfl, hx, hy, hw⟩ := bitsV_some h (fun N x y hx hy => Nat.or_lt_two_pow hx hy)
    refine ⟨.int k (bits .or k x y), ?_, by rw [binOp_or, intBits_or]; rfl⟩
    have e : bits .or k (x : Int) (y : Int) = k.wrap ((BitVec.ofInt k.bits (x : Int) ||| BitVec.ofInt k.bits (y : Int)).toNat : Nat) := rfl
    rw [RV, e, BitVec.toNat_or, ofInt_nat _ x hx, ofInt_nat _ y hy]
    exact congrArg _ hw
  | xor =>
    obtain ⟨x, y, rfl, rfl, rfl, hx, hy, hw⟩ := bitsV_some h (fun N x y hx hy => Nat.xor_lt_two_pow hx hy)
    refine ⟨.int k (bits .xor k x y), ?_, by rw [binOp_xor, intBits_xor]; rfl⟩
    have e : bits .xor k (x : Int) (y : Int) = k.wrap ((BitVec.ofInt k.bits (x : Int) ^^^ BitVec.ofInt k.bits (y : Int)).toNat : Nat) := rfl
    rw [RV, e, BitVec.toNat_xor, ofInt_nat _ x hx, ofInt_nat _ y hy]
    exact congrArg _ hw
  | eql => have h : some (V.bool (ieq a b)) = some v := h; simp only [Option.some.injEq] at h; refine ⟨_, ?_, by rw [binOp_eql]; rfl⟩; rw [← h, RV, ieq_eq]
  | neq => have h : some (V.bool (Bool.not (ieq a b))) = some v := h; simp only [Option.some.injEq] at h; refine ⟨_, ?_, by rw [binOp_neq]; rfl⟩; rw [← h, RV, ieq_eq]; rfl
  | lss => have h : some (V.bool (ilt a b)) = some v := h; simp only [Option.some.injEq] at h; refine ⟨_, ?_, by rw [binOp_lss]; rfl⟩; rw [← h, RV, ilt_eq]
  | gtr => have h : some (V.bool (ilt b a)) = some v := h; simp only [Option.some.injEq] at h; refine ⟨_, ?_, by rw [binOp_gtr]; rfl⟩; rw [← h, RV, ilt_eq]
  | leq =>
    have h : some (V.bool (Bool.not (ilt b a))) = some v := h; simp only [Option.some.injEq] at h; refine ⟨_, ?_, by rw [binOp_leq]; rfl⟩; rw [← h, RV, ilt_eq]
    congr 1
    by_cases c : a ≤ b
    · simp [c] <;> omega
    · simp [c]; omega
  | geq =>
    have h : some (V.bool (Bool.not (ilt a b))) = some v := h; simp only [Option.some.injEq] at h; refine ⟨_, ?_, by rw [binOp_geq]; rfl⟩; rw [← h, RV, ilt_eq]
    congr 1
    by_cases c : a ≥ b
    · simp [c] <;> omega
    · simp [c]; omega
  | shl => exact nomatch h
  | shr => exact nomatch h
  | andNot =>
    obtain ⟨x, y, rfl, rfl, rfl, hx, hy, hw⟩ := bitsV_some h (fun N x y hx hy => Nat.xor_lt_two_pow hx (Nat.and_lt_two_pow x hy))
    refine ⟨.int k (bits .andNot k x y), ?_, by rw [binOp_andNot, intBits_andNot]; rfl⟩
    have e : bits .andNot k (x : Int) (y : Int) = k.wrap ((BitVec.ofInt k.bits (x : Int) &&& ~~~(BitVec.ofInt k.bits (y : Int))).toNat : Nat) := rfl
    have e2 : (BitVec.ofInt k.bits (x : Int) &&& ~~~(BitVec.ofInt k.bits (y : Int))) = (BitVec.ofInt k.bits (x : Int) ^^^ (BitVec.ofInt k.bits (x : Int) &&& BitVec.ofInt k.bits (y : Int))) := by
      ext i hi
      simp only [BitVec.getElem_and, BitVec.getElem_not, BitVec.getElem_xor]
      cases (BitVec.ofInt k.bits (x : Int))[i] <;> cases (BitVec.ofInt k.bits (y : Int))[i] <;> rfl
    rw [RV, e, e2, BitVec.toNat_xor, BitVec.toNat_and, ofInt_nat _ x hx, ofInt_nat _ y hy]
    exact congrArg _ hw

theorem shift_ok {P : Program} {op : BinOp} (hop : op = .shl ∨ op = .shr) {k k' : IntKind} {a b : Int} {v : V} (h : intOp op k a k' b = some v) (E : En) (t : TypeId) (w : World) : ∃ x, RV E v x ∧ (binOp op t (.int k a) (.int k' b)).run P w = .ok x w := by
  have hk : bitsOf k ≤ k.bits := by cases k <;> decide
  cases b with
  | negSucc m => rcases hop with rfl | rfl <;> exact nomatch h
  | ofNat n =>
    rcases hop with rfl | rfl
    · have h : (Bool.rec none (intV k (imul a (Int.ofNat (Nat.pow 2 n)))) (Nat.ble n (bitsOf k)) : Option V) = some v := h
      obtain ⟨h1, h⟩ := (boolRec_some _ _ _).1 h
      have hn : n ≤ bitsOf k := Nat.le_of_ble_eq_true h1
      refine ⟨_, ?_, by rw [binOp_shl, shift_shl k k' a (Int.ofNat n) (by simp) (by simp; omega)]; rfl⟩
      rw [intV_eq h, RV, imul_eq]
      congr 2
    · have h : (Bool.rec none (Int.rec (fun x => some (V.int k (Int.ofNat (Nat.div x (Nat.pow 2 n))))) (fun _ => none) a) (Nat.ble n (bitsOf k)) : Option V) = some v := h
      obtain ⟨h1, h⟩ := (boolRec_some _ _ _).1 h
      have hn : n ≤ bitsOf k := Nat.le_of_ble_eq_true h1
      cases a with
      | negSucc m => exact nomatch h
      | ofNat x =>
        have h : some (V.int k (Int.ofNat (Nat.div x (Nat.pow 2 n)))) = some v := h
        simp only [Option.some.injEq] at h
        refine ⟨_, ?_, by rw [binOp_shr, shift_shr k k' (Int.ofNat x) (Int.ofNat n) (by simp) (by simp; omega)]; rfl⟩
        rw [← h, RV]
        congr 1
end Go.X
