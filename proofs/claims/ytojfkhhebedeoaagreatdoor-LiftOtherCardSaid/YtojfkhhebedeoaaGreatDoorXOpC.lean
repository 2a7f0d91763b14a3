/- A verified executor, part 9: instructions that need no memory, continued. -/
import Derived.Test.YtojfkhhebedeoaaGreatDoorXOpB
import Derived.Laws.StructEq
set_option linter.unusedVariables false
set_option linter.unusedSimpArgs false
set_option linter.unusedSectionVars false
namespace Go.X
open Go.RowKit
variable [Nu]

theorem bytesLess_turn : ∀ a b : List UInt8, (Op.bytesLess a b || a == b) = Bool.not (Op.bytesLess b a)
  | [], [] => rfl
  | [], _ :: _ => rfl
  | _ :: _, [] => rfl
  | x :: a, y :: b => by
    have ih := bytesLess_turn a b
    show ((decide (x < y) || (x == y && Op.bytesLess a b)) || (x :: a == y :: b)) = Bool.not (decide (y < x) || (y == x && Op.bytesLess b a))
    by_cases h : x = y
    · subst h
      have h1 : decide (x < x) = false := by simp
      simp only [h1, beq_self_eq_true, Bool.false_or, Bool.true_and, List.cons_beq_cons]
      exact ih
    · have h2 : (x == y) = false := by simpa using h
      have h3 : (y == x) = false := by simpa using fun e => h e.symm
      have h4 : (x :: a == y :: b) = false := by rw [List.cons_beq_cons, h2]; rfl
      simp only [h2, h3, h4, Bool.false_and, Bool.or_false]
      have hne : x.toNat ≠ y.toNat := fun e => h (UInt8.toNat_inj.1 e)
      have e1 : decide (x < y) = decide (x.toNat < y.toNat) := by congr 1
      have e2 : decide (y < x) = decide (y.toNat < x.toNat) := by congr 1
      rw [e1, e2]
      by_cases hl : x.toNat < y.toNat
      · rw [decide_eq_true hl, decide_eq_false (by omega)]; rfl
      · rw [decide_eq_false hl, decide_eq_true (by omega)]; rfl
theorem binStr_ok {P : Program} {op : BinOp} {a b : List Nat} {v : V} (h : binV op (.str a) (.str b) = some v) (E : En) (t : TypeId) (w : World) {s q : ByteArray} (ha : s.data.toList.map (·.toNat) = a) (hb : q.data.toList.map (·.toNat) = b) :
    ∃ x, RV E v x ∧ (binOp op t (.string s) (.string q)).run P w = .ok x w := by
  subst ha hb
  cases op with
  | add =>
    obtain ⟨h1, h⟩ := (boolRec_some _ _ _).1 h
    rw [len_eq, len_eq] at h1
    have h1' : (s.data.toList.map (·.toNat)).length + (q.data.toList.map (·.toNat)).length ≤ 1073741824 := Nat.le_of_ble_eq_true h1
    have e1 : s.size = s.data.toList.length := by simp
    have e2 : q.size = q.data.toList.length := by simp
    simp only [List.length_map] at h1'
    simp only [Option.some.injEq] at h
    refine ⟨.string (s ++ q), ?_, ?_⟩
    · rw [← h, RV]; refine ⟨_, rfl, ?_⟩; simp [cat_eq]
    · have : ¬ (((s.size + q.size : Nat) : Int) > IntKind.i64.max) := by rw [IntKind.max_i64]; omega
      simp only [binOp, Op.stringOp, if_neg this]; rfl
  | eql => have h : some (V.bool (sEq (s.data.toList.map (·.toNat)) (q.data.toList.map (·.toNat)))) = some v := h; simp only [Option.some.injEq] at h; refine ⟨.bool (s.toList == q.toList), ?_, by simp [binOp, Op.stringOp]⟩; rw [← h, RV, sEq_bytes]
  | neq => have h : some (V.bool (Bool.not (sEq (s.data.toList.map (·.toNat)) (q.data.toList.map (·.toNat))))) = some v := h; simp only [Option.some.injEq] at h; refine ⟨.bool (!(s.toList == q.toList)), ?_, by simp only [binOp, Op.stringOp]; rfl⟩; rw [← h, RV, sEq_bytes]
  | lss =>
    have h : some (V.bool (sLt (s.data.toList.map (·.toNat)) (q.data.toList.map (·.toNat)))) = some v := h
    simp only [Option.some.injEq] at h
    refine ⟨.bool (Op.bytesLess s.toList q.toList), ?_, by simp only [binOp, Op.stringOp]; rfl⟩
    rw [← h, RV, sLt_bytes, ba_toList, ba_toList]
  | leq =>
    have h : some (V.bool (Bool.not (sLt (q.data.toList.map (·.toNat)) (s.data.toList.map (·.toNat))))) = some v := h
    simp only [Option.some.injEq] at h
    refine ⟨.bool (Op.bytesLess s.toList q.toList || s.toList == q.toList), ?_, by simp only [binOp, Op.stringOp]; rfl⟩
    rw [← h, RV, sLt_bytes, ba_toList, ba_toList, bytesLess_turn]
  | gtr =>
    have h : some (V.bool (sLt (q.data.toList.map (·.toNat)) (s.data.toList.map (·.toNat)))) = some v := h
    simp only [Option.some.injEq] at h
    refine ⟨.bool (!(Op.bytesLess s.toList q.toList || s.toList == q.toList)), ?_, by simp only [binOp, Op.stringOp]; rfl⟩
    rw [← h, RV, sLt_bytes, ba_toList, ba_toList, bytesLess_turn]
    cases Op.bytesLess q.data.toList s.data.toList <;> rfl
  | geq =>
    have h : some (V.bool (Bool.not (sLt (s.data.toList.map (·.toNat)) (q.data.toList.map (·.toNat))))) = some v := h
    simp only [Option.some.injEq] at h
    refine ⟨.bool (!(Op.bytesLess s.toList q.toList)), ?_, by simp only [binOp, Op.stringOp]; rfl⟩
    rw [← h, RV, sLt_bytes, ba_toList, ba_toList]
  | _ => exact nomatch h

section
variable {Γ : Cx} (hΓ : Γ.Ok) {w : Nat} {dst : Option Tmp} {ty : TypeId} {pos : String} {after : Array Edge} {guard : Option (Nat × Bool)}
include hΓ

theorem bin_ok {op : BinOp} {t t' : TypeId} {x y : Operand} {a b : A} (hx : cA Γ w x = some a) (hy : cA Γ w y = some b) : OpOK Γ w ⟨dst, .binOp op t x y t', ty, pos, after, guard⟩ (I.bin op a b) := by
  intro F hA tm h v h' w0 E wd ar ds hr hs ht
  obtain ⟨u, hu, e1⟩ := (evK_some tm _ a _).1 hr
  obtain ⟨u2, hu2, e2⟩ := (evK_some tm _ b _).1 e1
  obtain ⟨r, hb0, e⟩ := (optRec_some _ _ _).1 e2
  clear e1 e2
  have h1 := cA_ok (ds := ds) hΓ hx ht hu
  have h2 := cA_ok (ds := ds) hΓ hy ht hu2
  have hb' : binV op u u2 = some r ∨ F.ask op u u2 = some r := by
    unfold binF at hb0
    cases hv : binV op u u2 with
    | none => rw [hv] at hb0; exact .inr hb0
    | some r' => rw [hv] at hb0; exact .inl hb0
  rcases hb' with hb | hb
  case inr =>
    obtain ⟨z, q1, ⟨k, n, q2⟩, q3⟩ := hA op u u2 r hb E _ _ h1 h2 t wd
    refine pure_end e hs q1 (yields_value ?_)
    rw [q2] at q3
    simp [q2, eqGuard_at_int, q3]
  cases u with
  | int k m =>
    rw [RV] at h1
    cases u2 with
    | int k' n =>
      rw [RV] at h2
      have key : ∃ q, RV E r q ∧ (binOp op t (.int k m) (.int k' n)).run Γ.P wd = .ok q wd := by
        cases op with
        | shl => exact shift_ok (.inl rfl) hb E t wd
        | shr => exact shift_ok (.inr rfl) hb E t wd
        | _ =>
          obtain ⟨hk, hb'⟩ := (boolRec_some _ _ _).1 hb
          obtain rfl := kindEq_eq hk
          exact arith_ok hb' E t wd
      obtain ⟨q, hq, hrun⟩ := key
      exact pure_end e hs hq (yields_value (by simp [h1, h2, eqGuard_at_int, eqGuard_at_string, hrun]))
    | _ => exact nomatch hb
  | str s =>
    rw [RV] at h1
    obtain ⟨s', h1, h1'⟩ := h1
    cases u2 with
    | str q =>
      rw [RV] at h2
      obtain ⟨q', h2, h2'⟩ := h2
      obtain ⟨x', hq, hrun⟩ := binStr_ok (P := Γ.P) hb E t wd h1' h2'
      exact pure_end e hs hq (yields_value (by simp [h1, h2, eqGuard_at_int, eqGuard_at_string, hrun]))
    | _ => exact nomatch hb
  | _ => exact nomatch hb

theorem binB_ok {op : BinOp} {t t' : TypeId} (hu : Γ.P.underlying t = some .bool) {x y : Operand} {a b : A} (hx : cA Γ w x = some a) (hy : cA Γ w y = some b) : OpOK Γ w ⟨dst, .binOp op t x y t', ty, pos, after, guard⟩ (I.binB op a b) := by
  intro F hA tm h v h' w0 E wd ar ds hr hs ht
  rw [I.binB_def] at hr
  obtain ⟨u, hu1, e⟩ := (evK_some tm _ a _).1 hr
  have h1 := cA_ok (ds := ds) hΓ hx ht hu1
  cases u with
  | bool p =>
    obtain ⟨u2, hu2, e⟩ := (evK_some tm _ b _).1 e
    have h2 := cA_ok (ds := ds) hΓ hy ht hu2
    cases u2 with
    | bool q =>
      obtain ⟨r, hb, e⟩ := (optRec_some _ _ _).1 e
      rw [RV] at h1 h2
      cases op with
      | eql =>
        have hb : some _ = some r := hb; simp only [Option.some.injEq] at hb
        refine pure_end (x := .bool (p == q)) e hs (by first | (rw [← hb, RV]; cases p <;> cases q <;> rfl) | (rw [RV]; cases p <;> cases q <;> rfl)) (yields_value ?_)
        simp [h1, h2, eqGuard_at_bool, binOp, Op.equal, Op.maxDepth, run_equalIn_bool' wd 9999 t p q hu]
      | neq =>
        have hb : some _ = some r := hb; simp only [Option.some.injEq] at hb
        refine pure_end (x := .bool (!(p == q))) e hs (by first | (rw [← hb, RV]; cases p <;> cases q <;> rfl) | (rw [RV]; cases p <;> cases q <;> rfl)) (yields_value ?_)
        simp [h1, h2, eqGuard_at_bool, binOp, Op.equal, Op.maxDepth, run_equalIn_bool' wd 9999 t p q hu]
      | _ => exact nomatch hb
    | _ => exact nomatch e
  | _ => exact nomatch e

theorem part_flat {P : Program} {w : World} {f : Field} {xs : List Value} {i : Nat} {x : Value} (ho : f.offset = i) {d : TypeDesc} (hd : P.underlying f.type = some d) (hg : aggB d = false) (hx : xs[i]? = some x) :
    (part f.type xs.toArray f.offset).run P w = .ok x w := by
  simp [part, r_isAgg w hd, hg, ho, hx]

theorem flat_ok {E : En} {wd : World} {xs ys : List Value} : ∀ (fs : List Field) (i : Nat) (ks : List FK) (a b : List V) (r : Bool), flatK Γ fs i = some ks → flatEq ks a b = some r → RVs E a (xs.drop i) → RVs E b (ys.drop i) →
    (Op.eqFields 9999 xs.toArray ys.toArray fs).run Γ.P wd = .ok r wd
  | [], i, ks, a, b, r, hk, he, h1, h2 => by
    simp only [flatK, Option.some.injEq] at hk
    subst hk
    cases a with
    | nil =>
      cases b with
      | nil =>
        have : some true = some r := he
        simp only [Option.some.injEq] at this
        subst this
        simp [Op.eqFields]
      | cons y b => exact nomatch he
    | cons x a => exact nomatch he
  | f :: fs, i, ks, a, b, r, hk, he, h1, h2 => by
    rw [flatK] at hk
    by_cases hc : f.offset = i ∧ f.name ≠ "_"
    · rw [if_pos hc] at hk
      cases hd : Γ.P.underlying f.type with
      | none => rw [hd] at hk; exact nomatch hk
      | some d =>
        rw [hd] at hk
        cases hks : flatK Γ fs (i + 1) with
        | none => rw [hks] at hk; cases d <;> exact nomatch hk
        | some l =>
          rw [hks] at hk
          have step : ∀ (k : FK) (hk' : ks = k :: l) (hg : aggB d = false) (hq : ∀ (u v : V) (x y : Value) (q : Bool), eq1 k u v = some q → RV E u x → RV E v y → (Op.equalIn 9999 f.type x y).run Γ.P wd = .ok q wd),
              (Op.eqFields 9999 xs.toArray ys.toArray (f :: fs)).run Γ.P wd = .ok r wd := by
            intro k hk' hg hq
            subst hk'
            cases a with
            | nil => exact nomatch he
            | cons u a =>
              cases b with
              | nil => exact nomatch he
              | cons v b =>
                obtain ⟨q, hq1, he'⟩ := (optRec_some _ _ _).1 he
                obtain ⟨x, xr, ex, hx, hxr⟩ := RVs_cons.1 h1
                obtain ⟨y, yr, ey, hy, hyr⟩ := RVs_cons.1 h2
                have gx : xs[i]? = some x := by have := congrArg (fun l => l[0]?) ex; simpa using this
                have gy : ys[i]? = some y := by have := congrArg (fun l => l[0]?) ey; simpa using this
                have dx : xs.drop (i + 1) = xr := by rw [← List.drop_drop, ex]; rfl
                have dy : ys.drop (i + 1) = yr := by rw [← List.drop_drop, ey]; rfl
                have hrun := hq u v x y q hq1 hx hy
                simp only [Op.eqFields, if_pos hc.2, Sem.run_bind, part_flat hΓ hc.1 hd hg gx, part_flat hΓ hc.1 hd hg gy, Result.andThen_ok, hrun]
                cases q with
                | false =>
                  have : some false = some r := he'
                  simp only [Option.some.injEq] at this
                  subst this
                  simp
                | true =>
                  have he'' : flatEq l a b = some r := he'
                  simp only [Bool.not_true, Bool.false_eq_true, if_false]
                  exact flat_ok fs (i + 1) l a b r hks he'' (by rw [dx]; exact hxr) (by rw [dy]; exact hyr)
          cases d with
          | bool =>
            simp only [Option.some.injEq] at hk
            refine step .b hk.symm rfl fun u v x y q h3 h4 h5 => ?_
            cases u with
            | bool p =>
              cases v with
              | bool p' =>
                have h3 : some _ = some _ := h3; simp only [Option.some.injEq] at h3
                rw [RV] at h4 h5
                subst h4 h5
                rw [run_equalIn_bool' wd 9998 f.type p p' hd, ← h3]
                cases p <;> cases p' <;> rfl
              | _ => exact nomatch h3
            | _ => exact nomatch h3
          | int k0 =>
            simp only [Option.some.injEq] at hk
            refine step .i hk.symm rfl fun u v x y q h3 h4 h5 => ?_
            cases u with
            | int j p =>
              cases v with
              | int j' p' =>
                obtain ⟨hj, h3'⟩ := (boolRec_some _ _ _).1 h3
                obtain rfl := kindEq_eq hj
                simp only [Option.some.injEq] at h3'
                rw [RV] at h4 h5
                subst h4 h5
                rw [run_equalIn_int wd 9998 f.type j k0 p p' hd, ← h3', ieq_eq]
              | sym j' p' =>
                obtain ⟨hj, h3'⟩ := (boolRec_some _ _ _).1 h3
                have hj : j = j' := kindEq_eq hj
                subst hj
                obtain ⟨rfl, hn⟩ := symNe_ok (show symNe p' p = some q from h3')
                rw [RV] at h4
                rw [RV] at h5
                subst h4 h5
                rw [run_equalIn_int wd 9998 f.type _ k0 _ _ hd]
                exact congrArg (fun b => Result.ok b wd) (decide_eq_false fun c => hn c.symm)
              | _ => exact nomatch h3
            | sym j p =>
              cases v with
              | int j' p' =>
                obtain ⟨hj, h3'⟩ := (boolRec_some _ _ _).1 h3
                have hj : j = j' := kindEq_eq hj
                subst hj
                obtain ⟨rfl, hn⟩ := symNe_ok (show symNe p p' = some q from h3')
                rw [RV] at h4
                rw [RV] at h5
                subst h4 h5
                rw [run_equalIn_int wd 9998 f.type _ k0 _ _ hd]
                exact congrArg (fun b => Result.ok b wd) (decide_eq_false hn)
              | _ => exact nomatch h3
            | _ => exact nomatch h3
          | string =>
            simp only [Option.some.injEq] at hk
            refine step .s hk.symm rfl fun u v x y q h3 h4 h5 => ?_
            cases u with
            | str p =>
              cases v with
              | str p' =>
                have h3 : some _ = some _ := h3; simp only [Option.some.injEq] at h3
                rw [RV] at h4 h5
                obtain ⟨s, rfl, h4⟩ := h4
                obtain ⟨s', rfl, h5⟩ := h5
                rw [run_equalIn_string wd 9998 f.type s s' hd, ← h3, ← h4, ← h5, sEq_bytes]
              | _ => exact nomatch h3
            | _ => exact nomatch h3
          | _ => exact nomatch hk
    · rw [if_neg hc] at hk; exact nomatch hk

theorem eqs_ok {neg : Bool} {t t' : TypeId} {fs : Array Field} (hu : Γ.P.underlying t = some (.struct fs)) (he : t ∈ Γ.eqs) {ks : List FK} (hk : flatK Γ fs.toList 0 = some ks) {x y : Operand} {a b : A} (hx : cA Γ w x = some a) (hy : cA Γ w y = some b) :
    OpOK Γ w ⟨dst, .binOp (if neg then .neq else .eql) t x y t', ty, pos, after, guard⟩ (I.eqs neg ks a b) := by
  intro F hA tm h v h' w0 E wd ar ds hr hs ht
  rw [I.eqs_def] at hr
  obtain ⟨u, hu1, e⟩ := (evK_some tm _ a _).1 hr
  have h1 := cA_ok (ds := ds) hΓ hx ht hu1
  cases u with
  | agg p =>
    obtain ⟨u2, hu2, e⟩ := (evK_some tm _ b _).1 e
    have h2 := cA_ok (ds := ds) hΓ hy ht hu2
    cases u2 with
    | agg q =>
      obtain ⟨r, hb, e⟩ := (optRec_some _ _ _).1 e
      rw [RV] at h1 h2
      obtain ⟨xs, h1, h1'⟩ := h1
      obtain ⟨ys, h2, h2'⟩ := h2
      have hf : Γ.P.fieldsOf t = fs := by simp [Program.fieldsOf, hu]
      have hrun : (Op.equalIn 10000 t (.agg xs.toArray) (.agg ys.toArray)).run Γ.P wd = .ok r wd := by
        rw [run_equalIn_agg wd 9999 t _ _ (by rw [hf]; exact hu) (hΓ.eqs t he).1, hf]
        exact flat_ok hΓ fs.toList 0 ks p q r hk hb (by simpa using h1') (by simpa using h2')
      have hgd : ∀ op, (eqGuard op t x y (.agg xs.toArray) (.agg ys.toArray)).run Γ.P wd = .ok () wd := fun op => run_eqGuard_agg wd op t x y _ _ (hΓ.eqs t he).2
      cases neg
      · refine pure_end (x := .bool r) e hs (by rw [RV]) (yields_value ?_)
        simp only [Bool.false_eq_true, if_false, Sem.run_bind, h1, h2, hgd, Result.andThen_ok, run_eql_struct, hrun]
      · refine pure_end (x := .bool !r) e hs (by rw [RV]) (yields_value ?_)
        simp only [if_true, Sem.run_bind, h1, h2, hgd, Result.andThen_ok, run_neq_struct, hrun]
    | _ => exact nomatch e
  | _ => exact nomatch e

theorem neg_ok {t : TypeId} {x : Operand} {a : A} (hc : cA Γ w x = some a) : OpOK Γ w ⟨dst, .unOp .neg t x, ty, pos, after, guard⟩ (I.neg a) := by
  intro F hA tm h v h' w0 E wd ar ds hr hs ht
  rw [I.neg_def] at hr
  obtain ⟨u, hu, e⟩ := (evK_some tm _ a _).1 hr
  have hu' := cA_ok (ds := ds) hΓ hc ht hu
  cases u with
  | int k n =>
    obtain ⟨r, hb, e⟩ := (optRec_some _ _ _).1 e
    rw [RV] at hu'
    refine pure_end (x := .int k (k.wrap (0 - n))) e hs (by rw [intV_eq hb, RV]; rfl) (.inl ?_)
    simp [execOp, hu', Op.unary, Op.intArith]
  | _ => exact nomatch e
theorem conv_ok {s d : TypeId} {q k : IntKind} (hs1 : Γ.P.underlying s = some (.int q)) (hd1 : Γ.P.underlying d = some (.int k)) {x : Operand} {a : A} (hc : cA Γ w x = some a) : OpOK Γ w ⟨dst, .convert s d x, ty, pos, after, guard⟩ (I.conv k a) := by
  intro F hA tm h v h' w0 E wd ar ds hr hs ht
  rw [I.conv_def] at hr
  obtain ⟨u, hu, e⟩ := (evK_some tm _ a _).1 hr
  have hu' := cA_ok (ds := ds) hΓ hc ht hu
  cases u with
  | int k' n =>
    obtain ⟨r, hb, e⟩ := (optRec_some _ _ _).1 e
    rw [RV] at hu'
    refine pure_end (x := .int k (k.wrap n)) e hs (by rw [intV_eq hb, RV]) (.inl ?_)
    simp [execOp, hu', convert, r_under wd hs1, r_under wd hd1, Conv.intToInt]
  | _ => exact nomatch e
theorem same_ok {s d : TypeId} (hs1 : Γ.P.underlying s = some .string) (hd1 : Γ.P.underlying d = some .string) {x : Operand} {a : A} (hc : cA Γ w x = some a) : OpOK Γ w ⟨dst, .convert s d x, ty, pos, after, guard⟩ (I.same a) := by
  intro F hA tm h v h' w0 E wd ar ds hr hs ht
  rw [I.same_def] at hr
  obtain ⟨u, hu, e⟩ := (evK_some tm _ a _).1 hr
  have hu' := cA_ok (ds := ds) hΓ hc ht hu
  have hu2 := hu'
  cases u with
  | str q =>
    rw [RV] at hu'
    obtain ⟨t, h1, _⟩ := hu'
    refine pure_end e hs hu2 (.inl ?_)
    simp [execOp, h1, convert, r_under wd hs1, r_under wd hd1]
  | _ => exact nomatch e

theorem max_ok {ts : Array TypeId} {x y : Operand} {a b : A} (hx : cA Γ w x = some a) (hy : cA Γ w y = some b) : OpOK Γ w ⟨dst, .call ⟨.builtin .max, #[x, y], ts⟩, ty, pos, after, guard⟩ (I.max a b) := by
  intro F hA tm h v h' w0 E wd ar ds hr hs ht
  rw [I.max_def] at hr
  obtain ⟨u, hu, e⟩ := (evK_some tm _ a _).1 hr
  have h1 := cA_ok (ds := ds) hΓ hx ht hu
  cases u with
  | int k m =>
    obtain ⟨u2, hu2, e⟩ := (evK_some tm _ b _).1 e
    have h2 := cA_ok (ds := ds) hΓ hy ht hu2
    cases u2 with
    | int k' n =>
      rw [RV] at h1 h2
      refine pure_end (x := .int k (if n > m then n else m)) e hs ?_ (.inl ?_)
      · rw [RV, boolRec_if, ilt_eq]
        by_cases c : m < n
        · rw [if_pos c, if_pos (by simpa using c)]
        · rw [if_neg (by omega), if_neg (by simpa using c)]
      · simp [execOp, resolve, invoke, builtin, h1, h2, Builtin.max_, Builtin.max2]
    | _ => exact nomatch e
  | _ => exact nomatch e
theorem min_ok {ts : Array TypeId} {x y : Operand} {a b : A} (hx : cA Γ w x = some a) (hy : cA Γ w y = some b) : OpOK Γ w ⟨dst, .call ⟨.builtin .min, #[x, y], ts⟩, ty, pos, after, guard⟩ (I.min a b) := by
  intro F hA tm h v h' w0 E wd ar ds hr hs ht
  rw [I.min_def] at hr
  obtain ⟨u, hu, e⟩ := (evK_some tm _ a _).1 hr
  have h1 := cA_ok (ds := ds) hΓ hx ht hu
  cases u with
  | int k m =>
    obtain ⟨u2, hu2, e⟩ := (evK_some tm _ b _).1 e
    have h2 := cA_ok (ds := ds) hΓ hy ht hu2
    cases u2 with
    | int k' n =>
      rw [RV] at h1 h2
      refine pure_end (x := .int k (if n < m then n else m)) e hs ?_ (.inl ?_)
      · rw [RV, boolRec_if, ilt_eq]
        by_cases c : n < m
        · rw [if_pos c, if_pos (by simpa using c)]
        · rw [if_neg (by omega), if_neg (by simpa using c)]
      · simp [execOp, resolve, invoke, builtin, h1, h2, Builtin.min_, Builtin.min2]
    | _ => exact nomatch e
  | _ => exact nomatch e
theorem ofV_nilp {c : Value} (h : ofV c = some .nilp) : c = .pointer none := by
  cases c with
  | pointer p => cases p with
    | none => rfl
    | some a => simp [ofV] at h
  | slice a n c => cases a <;> (try cases n) <;> (try cases c) <;> simp [ofV] at h
  | map p => cases p <;> simp [ofV] at h
  | agg l => obtain ⟨l⟩ := l; rw [ofV] at h; cases hl : ofVs l <;> rw [hl] at h <;> simp at h
  | tuple l => obtain ⟨l⟩ := l; rw [ofV] at h; cases hl : ofVs l <;> rw [hl] at h <;> simp at h
  | _ => simp [ofV] at h
theorem ofV_nili {c : Value} (h : ofV c = some .nili) : c = .nilIface := by
  cases c with
  | nilIface => rfl
  | pointer p => cases p <;> simp [ofV] at h
  | slice a n c => cases a <;> (try cases n) <;> (try cases c) <;> simp [ofV] at h
  | map p => cases p <;> simp [ofV] at h
  | agg l => obtain ⟨l⟩ := l; rw [ofV] at h; cases hl : ofVs l <;> rw [hl] at h <;> simp at h
  | tuple l => obtain ⟨l⟩ := l; rw [ofV] at h; cases hl : ofVs l <;> rw [hl] at h <;> simp at h
  | _ => simp [ofV] at h
theorem ofV_nils {c : Value} (h : ofV c = some .nils) : c = .slice none 0 0 := by
  cases c with
  | slice a n c => cases a <;> (try cases n) <;> (try cases c) <;> first | rfl | simp [ofV] at h
  | pointer p => cases p <;> simp [ofV] at h
  | map p => cases p <;> simp [ofV] at h
  | agg l => obtain ⟨l⟩ := l; rw [ofV] at h; cases hl : ofVs l <;> rw [hl] at h <;> simp at h
  | tuple l => obtain ⟨l⟩ := l; rw [ofV] at h; cases hl : ofVs l <;> rw [hl] at h <;> simp at h
  | _ => simp [ofV] at h
/-- A written value's operand. -/
theorem cA_const {y : Operand} {v : V} (hy : cA Γ w y = some (.c v)) (h1 : ∀ f a c, v ≠ .fn f a c) (h2 : ∀ l, v ≠ .view l) : ∃ c, y = .const c ∧ ofV c = some v := by
  cases y with
  | tmp t => rw [cA] at hy; split at hy <;> simp at hy
  | const c =>
    rw [cA] at hy
    cases ho : ofV c with
    | none => rw [ho] at hy; exact nomatch hy
    | some u => rw [ho] at hy; simp only [Option.some.injEq, A.c.injEq] at hy; subst hy; exact ⟨c, rfl, ho⟩
  | func f => simp only [cA, Option.some.injEq, A.c.injEq] at hy; exact absurd hy.symm (h1 _ _ _)
  | global g => simp only [cA, Option.some.injEq, A.c.injEq] at hy; exact absurd hy.symm (h2 _)

theorem eqn_p {P : Program} {t el : TypeId} (hu : P.underlying t = some (.pointer el)) (p : Option Addr) (wd : World) : (Op.equal t (.pointer p) (.pointer none)).run P wd = .ok p.isNone wd := by
  have h : ∀ d, (Op.equalIn (d + 1) t (.pointer p) (.pointer none)).run P wd = .ok p.isNone wd := fun d => by cases p <;> simp [Op.equalIn, r_under wd hu]
  exact h 9999
theorem eqn_i {P : Program} {t : TypeId} {ms} (hu : P.underlying t = some (.interface ms)) (wd : World) : (Op.equal t .nilIface .nilIface).run P wd = .ok true wd := by
  have h : ∀ d, (Op.equalIn (d + 1) t .nilIface .nilIface).run P wd = .ok true wd := fun d => by simp [Op.equalIn, r_under wd hu]
  exact h 9999
theorem eqn_h {P : Program} {t : TypeId} {ms} (hu : P.underlying t = some (.interface ms)) (u : TypeId) (x : Value) (wd : World) : (Op.equal t (.iface u x) .nilIface).run P wd = .ok false wd := by
  have h : ∀ d, (Op.equalIn (d + 1) t (.iface u x) .nilIface).run P wd = .ok false wd := fun d => by simp [Op.equalIn, r_under wd hu]
  exact h 9999
theorem eqn_s {P : Program} {t el : TypeId} (hu : P.underlying t = some (.slice el)) (a : Option Addr) (n c : Nat) (wd : World) : (Op.equal t (.slice a n c) (.slice none 0 0)).run P wd = .ok a.isNone wd := by
  have h : ∀ d, (Op.equalIn (d + 1) t (.slice a n c) (.slice none 0 0)).run P wd = .ok a.isNone wd := fun d => by cases a <;> simp [Op.equalIn, r_under wd hu]
  exact h 9999
theorem nil_end {op : BinOp} {neg : Bool} (hop : op = if neg then .neq else .eql) {t t' : TypeId} {x y : Operand} {a : A} {f : V → Option Bool} {c : Value} (hy : y = .const c) (hx : cA Γ w x = some a)
    (key : ∀ (E : En) (v : V) (q : Bool) (z : Value) (wd : World), RV E v z → f v = some q → (eqGuard op t x (.const c) z c).run Γ.P wd = .ok () wd ∧ (Op.equal t z c).run Γ.P wd = .ok q wd ∧ (binOp .eql t z c = (do pure (.bool (← Op.equal t z c)))) ∧ (binOp .neq t z c = (do pure (.bool (!(← Op.equal t z c)))))) :
    OpOK Γ w ⟨dst, .binOp op t x y t', ty, pos, after, guard⟩ (I.nilK f neg a) := by
  intro F hA tm h v h' w0 E wd ar ds hr hs ht
  obtain ⟨u, hu, e⟩ := (evK_some tm _ a _).1 hr
  have hu' := cA_ok (ds := ds) hΓ hx ht hu
  obtain ⟨q, hq, e⟩ := (optRec_some _ _ _).1 e
  obtain ⟨k1, k2, k3, k4⟩ := key E u q _ wd hu' hq
  subst hy
  refine pure_end (x := .bool (Bool.rec q (Bool.not q) neg)) e hs (by rw [RV]) (yields_value ?_)
  have hc : Act.eval ⟨ar, ds⟩ (.const c) = c := rfl
  rw [hc, Sem.run_bind, k1]
  subst hop
  cases neg with
  | false => simp only [Result.andThen_ok, Bool.false_eq_true, if_false, k3, Sem.run_bind, k2, Sem.run_pure]
  | true => simp only [Result.andThen_ok, if_true, k4, Sem.run_bind, k2, Sem.run_pure]

theorem nil_ok {op : BinOp} {neg : Bool} (hop : op = if neg then .neq else .eql) {t t' : TypeId} {x y : Operand} {a b : A} {d : TypeDesc} (hu : Γ.P.underlying t = some d) (hx : cA Γ w x = some a) (hy : cA Γ w y = some b) {f : Bool → A → I} (hf : cNil d b = some f) :
    OpOK Γ w ⟨dst, .binOp op t x y t', ty, pos, after, guard⟩ (f neg a) := by
  cases b with
  | t p => cases d <;> exact nomatch hf
  | c v =>
    cases d with
    | pointer el =>
      cases v with
      | nilp =>
        simp only [cNil, Option.some.injEq] at hf
        subst hf
        obtain ⟨c, rfl, hc⟩ := cA_const hΓ hy (fun _ _ _ h => nomatch h) (fun _ h => nomatch h)
        obtain rfl := ofV_nilp hΓ hc
        refine nil_end hΓ hop rfl hx (fun E v q z wd hz hq => ?_)
        cases v with
        | ptr b o => rw [RV] at hz; obtain ⟨r, _, rfl⟩ := hz; simp only [V.nilP, Option.some.injEq] at hq; subst hq; exact ⟨by cases op <;> simp [eqGuard], eqn_p hΓ hu _ wd, rfl, rfl⟩
        | nilp => rw [RV] at hz; subst hz; simp only [V.nilP, Option.some.injEq] at hq; subst hq; exact ⟨by cases op <;> simp [eqGuard], eqn_p hΓ hu _ wd, rfl, rfl⟩
        | view l => rw [RV] at hz; obtain ⟨r, ys, rfl, _⟩ := hz; simp only [V.nilP, Option.some.injEq] at hq; subst hq; exact ⟨by cases op <;> simp [eqGuard], eqn_p hΓ hu _ wd, rfl, rfl⟩
        | _ => exact nomatch hq
      | _ => exact nomatch hf
    | interface ms =>
      cases v with
      | nili =>
        simp only [cNil, Option.some.injEq] at hf
        subst hf
        obtain ⟨c, rfl, hc⟩ := cA_const hΓ hy (fun _ _ _ h => nomatch h) (fun _ h => nomatch h)
        obtain rfl := ofV_nili hΓ hc
        refine nil_end hΓ hop rfl hx (fun E v q z wd hz hq => ?_)
        cases v with
        | iface b o => rw [RV] at hz; obtain ⟨r, rfl, _⟩ := hz; simp only [V.nilI, Option.some.injEq] at hq; subst hq; exact ⟨by cases op <;> simp [eqGuard], eqn_h hΓ hu _ _ wd, rfl, rfl⟩
        | nili => rw [RV] at hz; subst hz; simp only [V.nilI, Option.some.injEq] at hq; subst hq; exact ⟨by cases op <;> simp [eqGuard], eqn_i hΓ hu wd, rfl, rfl⟩
        | _ => exact nomatch hq
      | _ => exact nomatch hf
    | slice el =>
      cases v with
      | nils =>
        simp only [cNil, Option.some.injEq] at hf
        subst hf
        obtain ⟨c, rfl, hc⟩ := cA_const hΓ hy (fun _ _ _ h => nomatch h) (fun _ h => nomatch h)
        obtain rfl := ofV_nils hΓ hc
        refine nil_end hΓ hop rfl hx (fun E v q z wd hz hq => ?_)
        cases v with
        | slice b o n es cap => rw [RV] at hz; obtain ⟨_, r, c, _, rfl, _⟩ := hz; simp only [V.nilS, Option.some.injEq] at hq; subst hq; exact ⟨by cases op <;> simp [eqGuard], eqn_s hΓ hu _ _ _ wd, rfl, rfl⟩
        | emp => rw [RV] at hz; obtain ⟨r, c, rfl⟩ := hz; simp only [V.nilS, Option.some.injEq] at hq; subst hq; exact ⟨by cases op <;> simp [eqGuard], eqn_s hΓ hu _ _ _ wd, rfl, rfl⟩
        | nils => rw [RV] at hz; subst hz; simp only [V.nilS, Option.some.injEq] at hq; subst hq; exact ⟨by cases op <;> simp [eqGuard], eqn_s hΓ hu _ _ _ wd, rfl, rfl⟩
        | bigs es l n => rw [RV] at hz; obtain ⟨r, L, c, ys, rfl, _⟩ := hz; simp only [V.nilS, Option.some.injEq] at hq; subst hq; exact ⟨by cases op <;> simp [eqGuard], eqn_s hΓ hu _ _ _ wd, rfl, rfl⟩
        | _ => exact nomatch hq
      | _ => exact nomatch hf
    | _ => exact nomatch hf
end
end Go.X
