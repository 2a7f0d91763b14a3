/- A verified executor, part 10: addresses, parts, pieces of slices and texts. -/
import Derived.Test.YtojfkhhebedeoaaGreatDoorXOpC
set_option linter.unusedVariables false
set_option linter.unusedSimpArgs false
set_option linter.unusedSectionVars false
namespace Go.X
open Go.RowKit
variable [Nu]

theorem beq_and {R : Type} {m n : Nat} {x : Option R} {r : R} (h : (Bool.rec none x (Nat.beq m n) : Option R) = some r) : m = n ∧ x = some r := by
  obtain ⟨h1, h2⟩ := (boolRec_some _ _ _).1 h
  exact ⟨beq_true.1 h1, h2⟩
theorem ble_and {R : Type} {m n : Nat} {x : Option R} {r : R} (h : (Bool.rec none x (Nat.ble m n) : Option R) = some r) : m ≤ n ∧ x = some r := by
  obtain ⟨h1, h2⟩ := (boolRec_some _ _ _).1 h
  exact ⟨Nat.le_of_ble_eq_true h1, h2⟩

theorem sizeT_some {Γ : Cx} {t n : Nat} (h : sizeT Γ t = some n) : ∃ i, Γ.P.info? t = some i ∧ i.size = n := by
  unfold sizeT at h
  cases hi : Γ.P.info? t with
  | none => rw [hi] at h; exact nomatch h
  | some i => rw [hi] at h; simp only [Option.some.injEq] at h; exact ⟨i, rfl, h⟩
theorem isAggT_some {Γ : Cx} {t : Nat} {b : Bool} (h : isAggT Γ t = some b) : ∃ d, Γ.P.underlying t = some d ∧ aggB d = b := by
  unfold isAggT at h
  cases hd : Γ.P.underlying t with
  | none => rw [hd] at h; exact nomatch h
  | some d => rw [hd] at h; refine ⟨d, rfl, ?_⟩; cases d <;> simp_all [aggB]
theorem structPlace_some {Γ : Cx} {fs : Array Field} {i d n : Nat} (h : structPlace Γ fs i = some (d, n)) : ∃ f, fs[i]? = some f ∧ f.offset = d ∧ sizeT Γ f.type = some n := by
  unfold structPlace at h
  cases hf : fs[i]? with
  | none => rw [hf] at h; exact nomatch h
  | some f =>
    rw [hf] at h
    dsimp only at h
    cases hs : sizeT Γ f.type with
    | none => rw [hs] at h; exact nomatch h
    | some m =>
      rw [hs] at h
      simp only [Option.some.injEq, Prod.mk.injEq] at h
      exact ⟨f, rfl, h.1, by rw [hs, h.2]⟩

section
variable {Γ : Cx} (hΓ : Γ.Ok) {w : Nat} {dst : Option Tmp} {ty : TypeId} {pos : String} {after : Array Edge} {guard : Option (Nat × Bool)}
include hΓ

theorem fld_ok {t : TypeId} {fs : Array Field} (hu : Γ.P.underlying t = some (.struct fs)) {i d n : Nat} (hp : structPlace Γ fs i = some (d, n)) (hn : 1 ≤ n) {x : Operand} {a : A} (hc : cA Γ w x = some a) :
    OpOK Γ w ⟨dst, .fieldAddr t x i, ty, pos, after, guard⟩ (I.fld d a) := by
  intro F hA tm h v h' w0 E wd ar ds hr hs ht
  rw [I.fld_def] at hr
  obtain ⟨u, hu1, e⟩ := (evK_some tm _ a _).1 hr
  have hu' := cA_ok (ds := ds) hΓ hc ht hu1
  obtain ⟨f, hf, ho, hz⟩ := structPlace_some hp
  obtain ⟨i0, hi0, hi1⟩ := sizeT_some hz
  cases u with
  | ptr b o =>
    rw [RV] at hu'
    obtain ⟨r, h1, h2⟩ := hu'
    refine pure_end (x := .pointer (some ⟨r, o + d, none⟩)) e hs (by rw [RV]; exact ⟨r, h1, rfl⟩) (yields_value ?_)
    have hz0 : ¬ i0.size = 0 := by omega
    simp only [Instr.fieldAt, Sem.run_bind, r_under wd hu, Result.andThen_ok, hf, h2, Instr.sureAddr, Sem.run_pure, fieldPlace, r_size wd hi0, if_neg hz0, Addr.add_lit, ho]
  | view l =>
    rw [RV] at hu'
    obtain ⟨a0, ys, h2, h3, h4⟩ := hu'
    refine pure_end (x := .pointer (some (a0.add d))) e hs (by rw [RV]; exact ⟨a0.add d, ys.drop d, rfl, by rw [dropN_eq]; exact RVs_drop d h3, h4.drop d⟩) (yields_value ?_)
    have hz0 : ¬ i0.size = 0 := by omega
    simp only [Instr.fieldAt, Sem.run_bind, r_under wd hu, Result.andThen_ok, hf, h2, Instr.sureAddr, Sem.run_pure, fieldPlace, r_size wd hi0, if_neg hz0, ho]
  | _ => exact nomatch e

theorem part1_ok {t : TypeId} {fs : Array Field} (hu : Γ.P.underlying t = some (.struct fs)) {i : Nat} {f : Field} (hf : fs[i]? = some f) (hg : isAggT Γ f.type = some false) {x : Operand} {a : A} (hc : cA Γ w x = some a) :
    OpOK Γ w ⟨dst, .field t x i, ty, pos, after, guard⟩ (I.part1 f.offset a) := by
  intro F hA tm h v h' w0 E wd ar ds hr hs ht
  rw [I.part1_def] at hr
  obtain ⟨u, hu1, e⟩ := (evK_some tm _ a _).1 hr
  have hu' := cA_ok (ds := ds) hΓ hc ht hu1
  obtain ⟨d, hd, hd2⟩ := isAggT_some hg
  cases u with
  | agg l =>
    obtain ⟨q, hq, e⟩ := (optRec_some _ _ _).1 e
    rw [RV] at hu'
    obtain ⟨ys, h1, h2⟩ := hu'
    obtain ⟨y, hy1, hy2⟩ := RVs_get h2 hq
    refine pure_end e hs hy2 (yields_value ?_)
    simp [Instr.field, r_under wd hu, hf, h1, asAgg, part, r_isAgg wd hd, hd2, hy1]
  | _ => exact nomatch e
theorem partN_ok {t : TypeId} {fs : Array Field} (hu : Γ.P.underlying t = some (.struct fs)) {i n : Nat} {f : Field} (hf : fs[i]? = some f) (hg : isAggT Γ f.type = some true) (hn : sizeT Γ f.type = some n) {x : Operand} {a : A} (hc : cA Γ w x = some a) :
    OpOK Γ w ⟨dst, .field t x i, ty, pos, after, guard⟩ (I.partN f.offset n a) := by
  intro F hA tm h v h' w0 E wd ar ds hr hs ht
  rw [I.partN_def] at hr
  obtain ⟨u, hu1, e⟩ := (evK_some tm _ a _).1 hr
  have hu' := cA_ok (ds := ds) hΓ hc ht hu1
  obtain ⟨d, hd, hd2⟩ := isAggT_some hg
  obtain ⟨i0, hi0, hi1⟩ := sizeT_some hn
  cases u with
  | agg l =>
    obtain ⟨hle, e⟩ := ble_and e
    rw [RV] at hu'
    obtain ⟨ys, h1, h2⟩ := hu'
    refine pure_end (x := .agg ((ys.drop f.offset).take n).toArray) e hs (by rw [RV]; exact ⟨_, rfl, RVs_take _ (RVs_drop _ h2)⟩) (yields_value ?_)
    simp only [Instr.field, Sem.run_bind, r_under wd hu, Result.andThen_ok, hf, h1, asAgg, Sem.run_pure, part, r_isAgg wd hd, hd2, if_true, r_size wd hi0, hi1]
    congr 2
    simp [List.take_drop, Nat.add_comm]
  | _ => exact nomatch e

theorem idxK_ok {t e : TypeId} (hu : Γ.P.underlying t = some (.slice e)) {es : Nat} (hz : sizeT Γ e = some es) {x y : Operand} {b : A} (hy : cA Γ w y = some b) {tm : Tm} {h h' : H} {v : V} {w0 : World} {E : En} {wd : World} {ar : Array Value} {ds : List Deferred}
    (hs : Sim w0 E h wd) (ht : TR E w tm ar) {bb o n es' L c r : Nat} (hr1 : E.mu bb = some r) (h1 : Act.eval ⟨ar, ds⟩ x = .slice (some ⟨r, o, none⟩) L c) (hL : n ≤ L) (e1 : idxK es b tm bb o n es' (V × H) h (fun a h' => some (a, h')) = some (v, h')) :
    ∃ E' w' y', E.le E' ∧ Sim w0 E' h' w' ∧ RV E' v y' ∧ Yields Γ.P (execOp (Act.eval ⟨ar, ds⟩) ⟨dst, .indexAddr t x y, ty, pos, after, guard⟩) wd y' w' := by
  obtain ⟨i0, hi0, hi1⟩ := sizeT_some hz
  obtain ⟨u2, hu2, e2⟩ := (evK_some tm _ b _).1 e1
  have h2 := cA_ok (ds := ds) hΓ hy ht hu2
  clear e1
  cases u2 with
  | int k m =>
    cases m with
    | negSucc m => exact nomatch e2
    | ofNat i =>
      obtain ⟨hes, e3⟩ := beq_and e2
      obtain ⟨hi, e4⟩ := ble_and e3
      subst hes
      rw [RV] at h2
      refine pure_end (x := .pointer (some ⟨r, o + i * es, none⟩)) e4 hs (by rw [RV]; exact ⟨r, hr1, rfl⟩) (yields_value ?_)
      have c1 : (0 : Int) ≤ Int.ofNat i ∧ Int.ofNat i < (L : Int) := by simp only [Int.ofNat_eq_natCast]; omega
      simp only [Instr.indexAt, h1, h2, asIntOf, Sem.run_bind, Sem.run_pure, Result.andThen_ok, r_under wd hu, if_pos c1, r_size wd hi0, hi1]
      simp [Addr.add_lit]
  | _ => exact nomatch e2
theorem idxB_ok {t e : TypeId} (hu : Γ.P.underlying t = some (.slice e)) {es : Nat} (hz : sizeT Γ e = some es) {x y : Operand} {b : A} (hy : cA Γ w y = some b) {tm : Tm} {h h' : H} {v : V} {w0 : World} {E : En} {wd : World} {ar : Array Value} {ds : List Deferred}
    (hs : Sim w0 E h wd) (ht : TR E w tm ar) {es' L c : Nat} {l : List V} {a0 : Addr} {ys : List Value} (h1 : Act.eval ⟨ar, ds⟩ x = .slice (some a0) L c) (hL : l.length ≤ L * es') (hl : RVs E l ys) (ho : OldCells a0 ys)
    (e1 : idxB es b tm es' l (V × H) h (fun a h' => some (a, h')) = some (v, h')) :
    ∃ E' w' y', E.le E' ∧ Sim w0 E' h' w' ∧ RV E' v y' ∧ Yields Γ.P (execOp (Act.eval ⟨ar, ds⟩) ⟨dst, .indexAddr t x y, ty, pos, after, guard⟩) wd y' w' := by
  obtain ⟨i0, hi0, hi1⟩ := sizeT_some hz
  rw [idxB_def] at e1
  obtain ⟨u2, hu2, e2⟩ := (evK_some tm _ b _).1 e1
  have h2 := cA_ok (ds := ds) hΓ hy ht hu2
  clear e1
  cases u2 with
  | int k m =>
    cases m with
    | negSucc m => exact nomatch e2
    | ofNat i =>
      obtain ⟨hes0, e3⟩ := (boolRec_some _ _ _).1 e2
      obtain ⟨hi, e4⟩ := ble_and e3
      have hes1 : 1 ≤ es ∧ es = es' := by
        unfold sameEs at hes0
        rw [ble_if] at hes0
        by_cases c : 1 ≤ es
        · rw [if_pos c] at hes0; exact ⟨c, beq_true.1 hes0⟩
        · rw [if_neg c] at hes0; exact nomatch hes0
      obtain ⟨hpos, hes⟩ := hes1
      subst hes
      rw [RV] at h2
      rw [len_eq] at hi
      have hi' : (i + 1) * es ≤ l.length := hi
      refine pure_end (x := .pointer (some (a0.add (i * es)))) e4 hs (by rw [RV]; exact ⟨_, ys.drop (i * es), rfl, by rw [dropN_eq]; exact RVs_drop _ hl, ho.drop _⟩) (yields_value ?_)
      have hiL : i < L := Nat.lt_of_succ_le (Nat.le_of_mul_le_mul_right (Nat.le_trans hi' hL) hpos)
      have c1 : (0 : Int) ≤ Int.ofNat i ∧ Int.ofNat i < (L : Int) := by simp only [Int.ofNat_eq_natCast]; omega
      simp only [Instr.indexAt, h1, h2, asIntOf, Sem.run_bind, Sem.run_pure, Result.andThen_ok, r_under wd hu, if_pos c1, r_size wd hi0, hi1]
      simp
  | _ => exact nomatch e2
theorem idxL_ok {t e : TypeId} (hu : Γ.P.underlying t = some (.slice e)) {es : Nat} (hz : sizeT Γ e = some es) {x y : Operand} {a b : A} (hx : cA Γ w x = some a) (hy : cA Γ w y = some b) :
    OpOK Γ w ⟨dst, .indexAddr t x y, ty, pos, after, guard⟩ (I.idxL es a b) := by
  intro F hA tm h v h' w0 E wd ar ds hr hs ht
  rw [I.idxL_def] at hr
  obtain ⟨u, hu1, e1⟩ := (evK_some tm _ a _).1 hr
  have h1 := cA_ok (ds := ds) hΓ hx ht hu1
  cases u with
  | slice bb o n es' cap =>
    rw [RV] at h1
    obtain ⟨_, r, c, hr1, h1, _, _⟩ := h1
    exact idxK_ok hΓ hu hz hy hs ht hr1 h1 (Nat.le_refl n) e1
  | bigs es' l n =>
    rw [RV] at h1
    obtain ⟨a0, L, c, ys, h1, _, h2, _, h3, h4⟩ := h1
    exact idxB_ok hΓ hu hz hy hs ht h1 h2 h3 h4 e1
  | _ => exact nomatch e1
theorem idxA_ok {t e : TypeId} {n : Nat} (hu : Γ.P.underlying t = some (.array n e)) {es : Nat} (hz : sizeT Γ e = some es) {x y : Operand} {a b : A} (hx : cA Γ w x = some a) (hy : cA Γ w y = some b) :
    OpOK Γ w ⟨dst, .indexAddr t x y, ty, pos, after, guard⟩ (I.idxA n es a b) := by
  intro F hA tm h v h' w0 E wd ar ds hr hs ht
  rw [I.idxA_def] at hr
  obtain ⟨u, hu1, e1⟩ := (evK_some tm _ a _).1 hr
  have h1 := cA_ok (ds := ds) hΓ hx ht hu1
  obtain ⟨i0, hi0, hi1⟩ := sizeT_some hz
  cases u with
  | ptr bb o =>
    obtain ⟨u2, hu2, e2⟩ := (evK_some tm _ b _).1 e1
    have h2 := cA_ok (ds := ds) hΓ hy ht hu2
    clear e1
    cases u2 with
    | int k m =>
      cases m with
      | negSucc m => exact nomatch e2
      | ofNat i =>
        obtain ⟨hi, e4⟩ := ble_and e2
        rw [RV] at h1; rw [RV] at h2
        obtain ⟨r, hr1, h1⟩ := h1
        refine pure_end (x := .pointer (some ⟨r, o + i * es, none⟩)) e4 hs (by rw [RV]; exact ⟨r, hr1, rfl⟩) (yields_value ?_)
        have c1 : (0 : Int) ≤ Int.ofNat i ∧ Int.ofNat i < (n : Int) := by simp only [Int.ofNat_eq_natCast]; omega
        simp only [Instr.indexAt, h1, h2, asIntOf, Sem.run_bind, Sem.run_pure, Result.andThen_ok, r_under wd hu, Instr.sureAddr, if_pos c1, r_size wd hi0, hi1]
        simp [Addr.add_lit]
    | _ => exact nomatch e2
  | view l =>
    obtain ⟨u2, hu2, e2⟩ := (evK_some tm _ b _).1 e1
    have h2 := cA_ok (ds := ds) hΓ hy ht hu2
    clear e1
    cases u2 with
    | int k m =>
      cases m with
      | negSucc m => exact nomatch e2
      | ofNat i =>
        obtain ⟨hi, e3⟩ := ble_and e2
        obtain ⟨hpos, e4⟩ := ble_and e3
        obtain ⟨hlen, e5⟩ := ble_and e4
        rw [RV] at h1; rw [RV] at h2
        obtain ⟨a0, ys, h1, hl, ho⟩ := h1
        refine pure_end (x := .pointer (some (a0.add (i * es)))) e5 hs (by rw [RV]; exact ⟨_, ys.drop (i * es), rfl, by rw [dropN_eq]; exact RVs_drop _ hl, ho.drop _⟩) (yields_value ?_)
        have c1 : (0 : Int) ≤ Int.ofNat i ∧ Int.ofNat i < (n : Int) := by simp only [Int.ofNat_eq_natCast]; omega
        simp only [Instr.indexAt, h1, h2, asIntOf, Sem.run_bind, Sem.run_pure, Result.andThen_ok, r_under wd hu, Instr.sureAddr, if_pos c1, r_size wd hi0, hi1]
        simp
    | _ => exact nomatch e2
  | _ => exact nomatch e1

theorem byte_ok {t : TypeId} (hu : Γ.P.underlying t = some .string) {x y : Operand} {a b : A} (hx : cA Γ w x = some a) (hy : cA Γ w y = some b) :
    OpOK Γ w ⟨dst, .index t x y, ty, pos, after, guard⟩ (I.byte a b) := by
  intro F hA tm h v h' w0 E wd ar ds hr hs ht
  rw [I.byte_def] at hr
  obtain ⟨u, hu1, e1⟩ := (evK_some tm _ a _).1 hr
  have h1 := cA_ok (ds := ds) hΓ hx ht hu1
  cases u with
  | str s =>
    obtain ⟨u2, hu2, e2⟩ := (evK_some tm _ b _).1 e1
    have h2 := cA_ok (ds := ds) hΓ hy ht hu2
    clear e1
    cases u2 with
    | int k m =>
      cases m with
      | negSucc m => exact nomatch e2
      | ofNat i =>
        obtain ⟨c, hc, e4⟩ := (optRec_some _ _ _).1 e2
        rw [RV] at h1; rw [RV] at h2
        obtain ⟨q, h1, hq⟩ := h1
        subst hq
        rw [List.getElem?_map] at hc
        cases hb : q.data.toList[i]? with
        | none => rw [hb] at hc; exact nomatch hc
        | some bt =>
          rw [hb] at hc
          simp only [Option.map_some, Option.some.injEq] at hc
          subst hc
          refine pure_end (x := .int .u8 bt.toNat) e4 hs (by rw [RV]; rfl) (yields_value ?_)
          have hlt : i < q.data.toList.length := by
            rcases Nat.lt_or_ge i q.data.toList.length with h' | h'
            · exact h'
            · rw [List.getElem?_eq_none h'] at hb; exact nomatch hb
          have g : q[i]? = some bt := by
            have hlt' : i < q.size := by simpa using hlt
            rw [getElem?_pos q i hlt']
            rw [List.getElem?_eq_getElem hlt] at hb
            simp only [Option.some.injEq] at hb
            rw [← hb]; rfl
          simp [Instr.index, h1, h2, asIntOf, r_under wd hu, g]
    | _ => exact nomatch e2
  | _ => exact nomatch e1
theorem at1_ok {t e : TypeId} {n : Nat} (hu : Γ.P.underlying t = some (.array n e)) (hg : isAggT Γ e = some false) (hz : sizeT Γ e = some 1) {x y : Operand} {a b : A} (hx : cA Γ w x = some a) (hy : cA Γ w y = some b) :
    OpOK Γ w ⟨dst, .index t x y, ty, pos, after, guard⟩ (I.at1 n a b) := by
  intro F hA tm h v h' w0 E wd ar ds hr hs ht
  rw [I.at1_def] at hr
  obtain ⟨u, hu1, e1⟩ := (evK_some tm _ a _).1 hr
  have h1 := cA_ok (ds := ds) hΓ hx ht hu1
  obtain ⟨d, hd, hd2⟩ := isAggT_some hg
  obtain ⟨i0, hi0, hi1⟩ := sizeT_some hz
  cases u with
  | agg l =>
    obtain ⟨u2, hu2, e2⟩ := (evK_some tm _ b _).1 e1
    have h2 := cA_ok (ds := ds) hΓ hy ht hu2
    clear e1
    cases u2 with
    | int k m =>
      cases m with
      | negSucc m => exact nomatch e2
      | ofNat i =>
        obtain ⟨hi, e3⟩ := ble_and e2
        obtain ⟨c, hc, e4⟩ := (optRec_some _ _ _).1 e3
        rw [RV] at h1; rw [RV] at h2
        obtain ⟨ys, h1, hq⟩ := h1
        obtain ⟨z, hz1, hz2⟩ := RVs_get hq hc
        refine pure_end e4 hs hz2 (yields_value ?_)
        have c1 : (0 : Int) ≤ Int.ofNat i ∧ Int.ofNat i < (n : Int) := by simp only [Int.ofNat_eq_natCast]; omega
        simp only [Instr.index, h1, h2, asIntOf, Sem.run_bind, Sem.run_pure, Result.andThen_ok, r_under wd hu, if_pos c1, r_size wd hi0, hi1, part, r_isAgg wd hd, hd2]
        simp [hz1]
    | _ => exact nomatch e2
  | _ => exact nomatch e1
theorem atN_ok {t e : TypeId} {n es : Nat} (hu : Γ.P.underlying t = some (.array n e)) (hg : isAggT Γ e = some true) (hz : sizeT Γ e = some es) {x y : Operand} {a b : A} (hx : cA Γ w x = some a) (hy : cA Γ w y = some b) :
    OpOK Γ w ⟨dst, .index t x y, ty, pos, after, guard⟩ (I.atN n es a b) := by
  intro F hA tm h v h' w0 E wd ar ds hr hs ht
  rw [I.atN_def] at hr
  obtain ⟨u, hu1, e1⟩ := (evK_some tm _ a _).1 hr
  have h1 := cA_ok (ds := ds) hΓ hx ht hu1
  obtain ⟨d, hd, hd2⟩ := isAggT_some hg
  obtain ⟨i0, hi0, hi1⟩ := sizeT_some hz
  cases u with
  | agg l =>
    obtain ⟨u2, hu2, e2⟩ := (evK_some tm _ b _).1 e1
    have h2 := cA_ok (ds := ds) hΓ hy ht hu2
    clear e1
    cases u2 with
    | int k m =>
      cases m with
      | negSucc m => exact nomatch e2
      | ofNat i =>
        obtain ⟨hi, e3⟩ := ble_and e2
        obtain ⟨_, e4⟩ := ble_and e3
        rw [RV] at h1; rw [RV] at h2
        obtain ⟨ys, h1, hq⟩ := h1
        refine pure_end (x := .agg ((ys.drop (i * es)).take es).toArray) e4 hs (by rw [RV]; exact ⟨_, rfl, RVs_take _ (RVs_drop _ hq)⟩) (yields_value ?_)
        have c1 : (0 : Int) ≤ Int.ofNat i ∧ Int.ofNat i < (n : Int) := by simp only [Int.ofNat_eq_natCast]; omega
        simp only [Instr.index, h1, h2, asIntOf, Sem.run_bind, Sem.run_pure, Result.andThen_ok, r_under wd hu, if_pos c1, r_size wd hi0, hi1, part, r_isAgg wd hd, hd2, if_true]
        congr 2
        simp [List.take_drop, Nat.add_comm]
    | _ => exact nomatch e2
  | _ => exact nomatch e1

theorem assert_ok {t t' : TypeId} {d : TypeDesc} {i : TypeInfo} (hd : Γ.P.underlying t = some d) (hni : ∀ ms, d ≠ .interface ms) (hi : Γ.P.info? t = some i) {ok : Bool} {x : Operand} {a : A} (hc : cA Γ w x = some a) :
    OpOK Γ w ⟨dst, .typeAssert x t' t ok, ty, pos, after, guard⟩ (I.assert t ok (match i.zero with | some z => ofV z | none => none) a) := by
  intro F hA tm h v h' w0 E wd ar ds hr hs ht
  rw [I.assert_def] at hr
  obtain ⟨u, hu1, e⟩ := (evK_some tm _ a _).1 hr
  have hu' := cA_ok (ds := ds) hΓ hc ht hu1
  cases u with
  | iface q y =>
    rw [RV] at hu'
    obtain ⟨z, h1, h2⟩ := hu'
    have e' : (Bool.rec (Bool.rec none (Option.rec none (fun z => some (V.tup [z, .bool false], h)) (match i.zero with | some z => ofV z | none => none)) ok) (some (Bool.rec y (.tup [y, .bool true]) ok, h)) (Nat.beq q t) : Option (V × H)) = some (v, h') := e
    rw [boolRec_if] at e'
    by_cases c : q = t
    · subst c
      rw [if_pos (beq_true.2 rfl)] at e'
      cases ok
      · refine pure_end (x := z) e' hs h2 (yields_value ?_)
        simp only [Instr.typeAssert, Sem.run_bind, r_under wd hd, Result.andThen_ok, h1]
        cases d <;> first | simp | exact absurd rfl (hni _)
      · refine pure_end (x := .tuple #[z, .bool true]) e' hs (by rw [RV]; exact ⟨[z, .bool true], rfl, RVs_mk h2 (RVs_one (by rw [RV]))⟩) (yields_value ?_)
        simp only [Instr.typeAssert, Sem.run_bind, r_under wd hd, Result.andThen_ok, h1]
        cases d <;> first | simp | exact absurd rfl (hni _)
    · rw [if_neg (fun c' => c (beq_true.1 c'))] at e'
      obtain ⟨hok, e2⟩ := (boolRec_some _ _ _).1 e'
      subst hok
      obtain ⟨zz, hz, e3⟩ := (optRec_some _ _ _).1 e2
      cases hiz : i.zero with
      | none => rw [hiz] at hz; exact nomatch hz
      | some z0 =>
        rw [hiz] at hz
        have hrz := ofV_RV E z0 zz hz
        refine pure_end (x := .tuple #[z0, .bool false]) e3 hs (by rw [RV]; exact ⟨[z0, .bool false], rfl, RVs_mk hrz (RVs_one (by rw [RV]))⟩) (yields_value ?_)
        simp only [Instr.typeAssert, Sem.run_bind, r_under wd hd, Result.andThen_ok, h1]
        cases d <;> first | (simp [c, r_zero wd hi hiz]; done) | exact absurd rfl (hni _)
  | _ => exact nomatch e
end
end Go.X
