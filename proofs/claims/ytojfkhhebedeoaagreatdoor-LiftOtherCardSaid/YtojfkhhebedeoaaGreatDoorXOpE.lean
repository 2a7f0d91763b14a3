/- A verified executor, part 11: pieces of slices, arrays and texts. -/
import Derived.Test.YtojfkhhebedeoaaGreatDoorXOpD
set_option linter.unusedVariables false
set_option linter.unusedSimpArgs false
set_option linter.unusedSectionVars false
namespace Go.X
open Go.RowKit
variable [Nu]

/-- A bound, told. -/
def BRel (n : Option Nat) (x : Option Value) : Prop := match n, x with
  | none, none => True
  | some n, some v => ∃ k, v = .int k n
  | _, _ => False

def BA (tm : Tm) : Option A → Option Nat → Prop
  | none, q => q = none
  | some a, q => ∃ k n, evA tm a = some (.int k (Int.ofNat n)) ∧ q = some n
theorem boundK_some {R : Type} (tm : Tm) (K : Option Nat → Option R) (r : R) (o : Option A) : boundK tm o K = some r ↔ ∃ q, BA tm o q ∧ K q = some r := by
  cases o with
  | none => show K none = some r ↔ _; simp [BA]
  | some a =>
    rw [boundK_def]
    show evK tm (fun v => match v with | .int _ (.ofNat n) => K (some n) | _ => none) a = some r ↔ _
    rw [evK_some]
    constructor
    · rintro ⟨v, h1, h2⟩
      cases v with
      | int k m =>
        cases m with
        | ofNat n => exact ⟨some n, ⟨k, n, h1, rfl⟩, h2⟩
        | negSucc n => exact nomatch h2
      | _ => exact nomatch h2
    · rintro ⟨q, ⟨k, n, h1, rfl⟩, h2⟩; exact ⟨_, h1, h2⟩

section
variable {P : Program} (w : World)
theorem r_bound {k : IntKind} {n y : Nat} (h : n ≤ y) (c : BoundsCode) : (Instr.sliceBound (.int k n) y c).run P w = .ok n w := by
  have c1 : (0 : Int) ≤ (n : Int) ∧ (n : Int) ≤ (y : Int) := by omega
  simp only [Instr.sliceBound, asIntOf, Sem.run_bind, Sem.run_pure, Result.andThen_ok, if_pos c1, Int.toNat_natCast]
theorem r_bounds (b : Bool) (len cap : Nat) {lo hi : Option Nat} {l h : Option Value} (hl : BRel lo l) (hh : BRel hi h) (h1 : hi.getD len ≤ cap) (h2 : lo.getD 0 ≤ hi.getD len) :
    (Instr.sliceBounds b len cap l h none).run P w = .ok (lo.getD 0, hi.getD len, cap) w := by
  cases lo with
  | none =>
    cases l with
    | some v => exact hl.elim
    | none =>
      cases hi with
      | none =>
        cases h with
        | some v => exact hh.elim
        | none => simp [Instr.sliceBounds]
      | some n =>
        cases h with
        | none => exact hh.elim
        | some v => obtain ⟨k, rfl⟩ := hh; simp [Instr.sliceBounds, r_bound w (show n ≤ cap from h1)]
  | some m =>
    cases l with
    | none => exact hl.elim
    | some v =>
      obtain ⟨k, rfl⟩ := hl
      cases hi with
      | none =>
        cases h with
        | some v => exact hh.elim
        | none => simp [Instr.sliceBounds, r_bound w (show m ≤ len from h2)]
      | some n =>
        cases h with
        | none => exact hh.elim
        | some v => obtain ⟨k', rfl⟩ := hh; simp [Instr.sliceBounds, r_bound w (show n ≤ cap from h1), r_bound w (show m ≤ n from h2)]
theorem r_bounds3 (len cap n m : Nat) {lo : Option Nat} {l : Option Value} {k1 k2 : IntKind} (hl : BRel lo l) (h1 : m ≤ cap) (h2 : n ≤ m) (h3 : lo.getD 0 ≤ n) :
    (Instr.sliceBounds true len cap l (some (.int k1 n)) (some (.int k2 m))).run P w = .ok (lo.getD 0, n, m) w := by
  cases lo with
  | none =>
    cases l with
    | some v => exact hl.elim
    | none => simp [Instr.sliceBounds, r_bound w h1, r_bound w h2]
  | some q =>
    cases l with
    | none => exact hl.elim
    | some v =>
      obtain ⟨k, rfl⟩ := hl
      simp [Instr.sliceBounds, r_bound w h1, r_bound w h2, r_bound w (show q ≤ n from h3)]
end

section
variable {Γ : Cx} (hΓ : Γ.Ok) {w : Nat} {dst : Option Tmp} {ty : TypeId} {pos : String} {after : Array Edge} {guard : Option (Nat × Bool)}
include hΓ

theorem bound_ok {x : Option Operand} {a : Option A} (hc : cO Γ w x = some a) {E : En} {tm : Tm} {ar : Array Value} {ds : List Deferred} (ht : TR E w tm ar) {q : Option Nat}
    (hq : BA tm a q) : BRel q (x.map (Act.eval ⟨ar, ds⟩)) := by
  cases x with
  | none => simp only [cO, Option.some.injEq] at hc; subst hc; simp only [BA] at hq; subst hq; trivial
  | some o =>
    rw [cO] at hc
    cases ha : cA Γ w o with
    | none => rw [ha] at hc; exact nomatch hc
    | some b =>
      rw [ha] at hc
      simp only [Option.some.injEq] at hc
      subst hc
      obtain ⟨k, n, h1, rfl⟩ := hq
      have := cA_ok (ds := ds) hΓ ha ht h1
      rw [RV] at this
      exact ⟨k, this⟩

theorem cutS_ok {t : TypeId} (hu : Γ.P.underlying t = some .string) {x : Operand} {lo hi : Option Operand} {a : A} {l h' : Option A} (hx : cA Γ w x = some a) (hl : cO Γ w lo = some l) (hh : cO Γ w hi = some h') :
    OpOK Γ w ⟨dst, .slice t x lo hi none, ty, pos, after, guard⟩ (I.cutS l h' a) := by
  intro F hA tm h v h2 w0 E wd ar ds hr hs ht
  obtain ⟨u, hu1, e1⟩ := (evK_some tm _ a _).1 hr
  have hv := cA_ok (ds := ds) hΓ hx ht hu1
  obtain ⟨ql, hql, e2⟩ := (boundK_some tm _ _ l).1 e1
  obtain ⟨qh, hqh, e3⟩ := (boundK_some tm _ _ h').1 e2
  obtain ⟨r, hr1, e4⟩ := (optRec_some _ _ _).1 e3
  clear e1 e2 e3
  rw [sliceS_def] at hr1
  have bl := bound_ok (ds := ds) hΓ hl ht hql
  have bh := bound_ok (ds := ds) hΓ hh ht hqh
  cases u with
  | str s =>
    obtain ⟨h1, hr2⟩ := ble_and hr1
    obtain ⟨h3, hr3⟩ := ble_and hr2
    simp only [Option.some.injEq] at hr3
    subst hr3
    rw [RV] at hv
    obtain ⟨q, hv, hq⟩ := hv
    have hlen : s.length = q.size := by rw [← hq]; simp
    rw [hlen] at h1 h3 e4
    refine pure_end (x := .string (q.extract (ql.getD 0) (qh.getD q.size))) e4 hs ?_ (yields_value ?_)
    · rw [RV]
      refine ⟨_, rfl, ?_⟩
      rw [← hq, ← List.map_take, ← List.map_drop]
      congr 1
      rw [ByteArray.data_extract, Array.toList_extract]
      simp [List.extract_eq_take_drop, List.drop_take]
    · simp only [Instr.sliceAt, Sem.run_bind, r_under wd hu, Result.andThen_ok, hv, Instr.slice, Option.isSome_none, Bool.false_eq_true, if_false, Option.map_none, Sem.run_pure, r_bounds (P := Γ.P) wd false q.size q.size bl bh h3 h1]
  | _ => exact nomatch hr1

theorem cutL_val {E : En} {u r : V} {es : Nat} {lo hi : Option Nat} (h : sliceL es u lo hi = some r) (hes : 1 ≤ es) {x : Value} (hx : RV E u x) :
    ∃ a len cap, x = .slice a len cap ∧ hi.getD len ≤ cap ∧ lo.getD 0 ≤ hi.getD len ∧ RV E r (.slice (if cap = lo.getD 0 then a else a.map (·.add (lo.getD 0 * es))) (hi.getD len - lo.getD 0) (cap - lo.getD 0)) := by
  rw [sliceL_def] at h
  cases u with
  | slice b o n es' cap =>
    obtain ⟨hes', h1⟩ := beq_and h
    obtain ⟨h2, h3⟩ := ble_and h1
    subst hes'
    rw [RV] at hx
    obtain ⟨_, r0, c, hr0, rfl, hc, hcap⟩ := hx
    refine ⟨_, _, _, rfl, ?_⟩
    cases cap with
    | some q =>
      obtain ⟨h4, h5⟩ := ble_and h3
      simp only [Option.some.injEq] at h5
      dsimp only at hcap
      subst hcap
      refine ⟨h4, h2, ?_⟩
      rw [← h5, RV]
      refine ⟨hes, r0, c - lo.getD 0, hr0, ?_, Nat.sub_le_sub_right h4 _, rfl⟩
      rw [boolRec_if]
      by_cases e : c = lo.getD 0
      · rw [if_pos e, if_pos (beq_true.2 e.symm)]; try rfl
      · rw [if_neg e, if_neg (fun e' => e (beq_true.1 e').symm)]
        simp [Addr.add_lit]
    | none =>
      obtain ⟨h4, h5⟩ := ble_and h3
      dsimp only at hcap
      refine ⟨by omega, h2, ?_⟩
      rw [ble_if] at h5
      by_cases e : (lo.getD 0).succ ≤ n
      · rw [if_pos e] at h5
        simp only [Option.some.injEq] at h5
        have hne : ¬ c = lo.getD 0 := by omega
        rw [← h5, RV, if_neg hne]
        refine ⟨hes, r0, c - lo.getD 0, hr0, by simp [Addr.add_lit], Nat.sub_le_sub_right (Nat.le_trans h4 hc) _, ?_⟩
        dsimp only
        rw [← hcap, Nat.add_eq, Nat.mul_eq, Nat.add_assoc, ← Nat.add_mul]
        congr 2
        omega
      · rw [if_neg e] at h5
        have h5' : (Bool.rec (some V.emp) (some (V.slice b o (Nat.sub (hi.getD n) (lo.getD 0)) es none)) (Nat.beq (lo.getD 0) 0) : Option V) = some r := h5
        rw [boolRec_if] at h5'
        by_cases e0 : lo.getD 0 = 0
        · rw [if_pos (beq_true.2 e0)] at h5'
          simp only [Option.some.injEq] at h5'
          rw [← h5', RV]
          refine ⟨hes, r0, c - lo.getD 0, hr0, ?_, Nat.sub_le_sub_right (Nat.le_trans h4 hc) _, ?_⟩
          · rw [e0]; simp [Addr.add_lit]
          · dsimp only; rw [e0, ← hcap, Nat.sub_zero]
        · rw [if_neg (fun e' => e0 (beq_true.1 e'))] at h5'
          simp only [Option.some.injEq] at h5'
          rw [← h5', RV]
          have : hi.getD n - lo.getD 0 = 0 := by omega
          rw [this]
          split
          · exact ⟨_, _, rfl⟩
          · exact ⟨_, _, rfl⟩
  | emp =>
    obtain ⟨h1, h2⟩ := beq_and h
    obtain ⟨h3, h4⟩ := beq_and h2
    simp only [Option.some.injEq] at h4
    rw [RV] at hx
    obtain ⟨a, c, rfl⟩ := hx
    refine ⟨_, _, _, rfl, by omega, by omega, ?_⟩
    rw [← h4, RV, h1, h3]
    split
    · exact ⟨_, _, rfl⟩
    · exact ⟨_, _, rfl⟩
  | nils =>
    obtain ⟨h1, h2⟩ := beq_and h
    obtain ⟨h3, h4⟩ := beq_and h2
    simp only [Option.some.injEq] at h4
    rw [RV] at hx
    subst hx
    refine ⟨_, _, _, rfl, by omega, by omega, ?_⟩
    rw [← h4, RV, h1, h3]
    simp
  | bigs es' l m =>
    obtain ⟨n, hn, h1⟩ := (optRec_some _ _ _).1 h
    unfold cutBig at h1
    obtain ⟨hes', h2⟩ := beq_and h1
    obtain ⟨h3, h4⟩ := ble_and h2
    obtain ⟨h5, h6⟩ := ble_and h4
    subst hes'
    simp only [Option.some.injEq] at h6
    rw [getD_eq] at h3 h5 h6
    rw [getD_eq] at h3 h6
    rw [RV] at hx
    obtain ⟨a, L, c, ys, rfl, hc, hl, hL, hys, ho⟩ := hx
    have hnL : n = L := by
      cases m with
      | int k z =>
        cases z with
        | ofNat q =>
          have hq : some q = some n := hn
          simp only [Option.some.injEq] at hq
          subst hq
          rw [RV] at hL
          simp only [Value.int.injEq] at hL
          have := hL.2
          simp only [Int.ofNat_eq_natCast] at this
          omega
        | negSucc q => exact nomatch hn
      | _ => exact nomatch hn
    subst hnL
    refine ⟨_, _, _, rfl, Nat.le_trans h5 hc, h3, ?_⟩
    rw [← h6, RV, dropL_eq, takeL_eq]
    by_cases e : c = lo.getD 0
    · have h0 : hi.getD n - lo.getD 0 = 0 := by omega
      rw [if_pos e]
      simp only [Nat.sub_eq, Nat.mul_eq, h0, Nat.zero_mul, List.take_zero]
      exact ⟨a, 0, c - lo.getD 0, [], rfl, Nat.zero_le _, Nat.zero_le _, by rw [RV]; rfl, RVs_none, ho.1, fun w _ j y hj => by simp at hj⟩
    · rw [if_neg e]
      refine ⟨a.add (lo.getD 0 * es), hi.getD n - lo.getD 0, c - lo.getD 0, (ys.drop (lo.getD 0 * es)).take ((hi.getD n - lo.getD 0) * es), rfl, Nat.sub_le_sub_right (Nat.le_trans h5 hc) _, ?_, by rw [RV]; rfl, RVs_take _ (RVs_drop _ hys), (ho.drop _).take _⟩
      rw [List.length_take]; exact Nat.min_le_left _ _
  | _ => exact nomatch h

theorem cutM_val {E : En} {u r : V} {es n m : Nat} {lo : Option Nat} (h : sliceM es u lo (some n) (some m) = some r) (hes : 1 ≤ es) {x : Value} (hx : RV E u x) :
    ∃ a len cap, x = .slice a len cap ∧ m ≤ cap ∧ n ≤ m ∧ lo.getD 0 ≤ n ∧ RV E r (.slice (if m = lo.getD 0 then a else a.map (·.add (lo.getD 0 * es))) (n - lo.getD 0) (m - lo.getD 0)) := by
  rw [sliceM_def] at h
  dsimp only at h
  obtain ⟨h1, h2⟩ := ble_and h
  obtain ⟨h3, h4⟩ := ble_and h2
  cases u with
  | slice b o len es' cap =>
    obtain ⟨hes', h5⟩ := beq_and h4
    obtain ⟨h6, h7⟩ := ble_and h5
    subst hes'
    rw [RV] at hx
    obtain ⟨_, r0, c, hr0, rfl, hc, hcap⟩ := hx
    simp only [Option.some.injEq] at h7
    have hmc : m ≤ c := by
      cases cap with
      | some q => dsimp only at hcap; rw [hcap]; exact h6
      | none => exact Nat.le_trans h6 hc
    refine ⟨_, _, _, rfl, hmc, h3, h1, ?_⟩
    rw [← h7, RV]
    refine ⟨hes, r0, m - lo.getD 0, hr0, ?_, Nat.sub_le_sub_right h3 _, rfl⟩
    rw [boolRec_if]
    by_cases e : m = lo.getD 0
    · rw [if_pos e, if_pos (beq_true.2 e.symm)]; try rfl
    · rw [if_neg e, if_neg (fun e' => e (beq_true.1 e').symm)]
      simp [Addr.add_lit]
  | emp =>
    obtain ⟨h5, h6⟩ := beq_and h4
    simp only [Option.some.injEq] at h6
    rw [RV] at hx
    obtain ⟨a, c, rfl⟩ := hx
    refine ⟨_, _, _, rfl, by omega, h3, h1, ?_⟩
    have e0 : n - lo.getD 0 = 0 := by omega
    rw [← h6, RV, e0]
    split
    · exact ⟨_, _, rfl⟩
    · exact ⟨_, _, rfl⟩
  | nils =>
    obtain ⟨h5, h6⟩ := beq_and h4
    simp only [Option.some.injEq] at h6
    rw [RV] at hx
    subst hx
    refine ⟨_, _, _, rfl, by omega, h3, h1, ?_⟩
    have e0 : n - lo.getD 0 = 0 := by omega
    have e1 : m - lo.getD 0 = 0 := by omega
    rw [← h6, RV, e0, e1]
    simp
  | _ => exact nomatch h4
theorem cutM_ok {t e : TypeId} (hu : Γ.P.underlying t = some (.slice e)) {es : Nat} (hz : sizeT Γ e = some es) (hes : 1 ≤ es) {x y z : Operand} {lo : Option Operand} {a b c : A} {l : Option A} (hx : cA Γ w x = some a) (hl : cO Γ w lo = some l) (hy : cA Γ w y = some b) (hzz : cA Γ w z = some c) :
    OpOK Γ w ⟨dst, .slice t x lo (some y) (some z), ty, pos, after, guard⟩ (I.cutM es l (some b) (some c) a) := by
  intro F hA tm h v h2 w0 E wd ar ds hr hs ht
  obtain ⟨u, hu1, e1⟩ := (evK_some tm _ a _).1 hr
  have hv := cA_ok (ds := ds) hΓ hx ht hu1
  obtain ⟨ql, hql, e2⟩ := (boundK_some tm _ _ l).1 e1
  obtain ⟨_, ⟨k1, n, hb1, rfl⟩, e3⟩ := (boundK_some tm _ _ (some b)).1 e2
  obtain ⟨_, ⟨k2, m, hb2, rfl⟩, e4⟩ := (boundK_some tm _ _ (some c)).1 e3
  obtain ⟨r, hr1, e5⟩ := (optRec_some _ _ _).1 e4
  clear e1 e2 e3 e4
  have bl := bound_ok (ds := ds) hΓ hl ht hql
  have hy' := cA_ok (ds := ds) hΓ hy ht hb1
  have hz' := cA_ok (ds := ds) hΓ hzz ht hb2
  rw [RV] at hy' hz'
  obtain ⟨i0, hi0, hi1⟩ := sizeT_some hz
  obtain ⟨ad, len, cap, hxe, h3, h4, h5, hrv⟩ := cutM_val hΓ hr1 hes hv
  refine pure_end e5 hs hrv (yields_value ?_)
  simp only [Instr.sliceAt, Sem.run_bind, r_under wd hu, Result.andThen_ok, hxe, Instr.slice, Option.map_some, hy', hz', Int.ofNat_eq_natCast, r_bounds3 (P := Γ.P) wd len cap n m bl h3 h4 h5, r_size wd hi0, hi1, Sem.run_pure]
theorem cutL_ok {t e : TypeId} (hu : Γ.P.underlying t = some (.slice e)) {es : Nat} (hz : sizeT Γ e = some es) (hes : 1 ≤ es) {x : Operand} {lo hi : Option Operand} {a : A} {l h' : Option A} (hx : cA Γ w x = some a) (hl : cO Γ w lo = some l) (hh : cO Γ w hi = some h') :
    OpOK Γ w ⟨dst, .slice t x lo hi none, ty, pos, after, guard⟩ (I.cutL es l h' a) := by
  intro F hA tm h v h2 w0 E wd ar ds hr hs ht
  obtain ⟨u, hu1, e1⟩ := (evK_some tm _ a _).1 hr
  have hv := cA_ok (ds := ds) hΓ hx ht hu1
  obtain ⟨ql, hql, e2⟩ := (boundK_some tm _ _ l).1 e1
  obtain ⟨qh, hqh, e3⟩ := (boundK_some tm _ _ h').1 e2
  have bl := bound_ok (ds := ds) hΓ hl ht hql
  have bh := bound_ok (ds := ds) hΓ hh ht hqh
  obtain ⟨i0, hi0, hi1⟩ := sizeT_some hz
  rw [sliceK_eq] at e3
  cases hsl : sliceL es u ql qh with
  | some r =>
    rw [hsl] at e3
    have e4 : some (r, h) = some (v, h2) := e3
    obtain ⟨ad, len, cap, hxe, h3, h4, hrv⟩ := cutL_val hΓ hsl hes hv
    refine pure_end e4 hs hrv (yields_value ?_)
    simp only [Instr.sliceAt, Sem.run_bind, r_under wd hu, Result.andThen_ok, hxe, Instr.slice, Option.map_none, r_bounds (P := Γ.P) wd true len cap bl bh h3 h4, r_size wd hi0, hi1, Sem.run_pure]
  | none =>
    rw [hsl] at e3
    dsimp only at e3
    split at e3
    · rename_i b o n es' q
      obtain ⟨k, k1, _, k2⟩ := (read_some _ _ _ _ _).1 e3
      cases k with
      | cells c qw y =>
        obtain ⟨hes', k3⟩ := beq_and k2
        obtain ⟨k4, k5⟩ := ble_and k3
        obtain ⟨k6, k7⟩ := ble_and k5
        subst hes'
        rw [len_eq] at k4
        simp only [Option.some.injEq, Prod.mk.injEq] at k7
        obtain ⟨rfl, rfl⟩ := k7
        rw [RV] at hv
        obtain ⟨_, r0, c0, hr0, hxe, hc, hcap⟩ := hv
        dsimp only at hcap
        obtain ⟨r1, ys, zs, el, fz, g1, g2, g3, g4, _⟩ := hs.blk _ _ k1
        rw [hr0] at g1
        simp only [Option.some.injEq] at g1
        subst g1
        have hlen := RVs_length g3
        rw [g4, List.length_append, hlen] at hcap
        have k4' : o + q * es ≤ c.length := k4
        have hqc : q ≤ c0 := by
          have : q * es ≤ c0 * es := by omega
          exact Nat.le_of_mul_le_mul_right this (by omega)
        have k6' : ql.getD 0 + 1 ≤ q := k6
        refine ⟨E, wd, _, En.le_refl E, hs.note b, ?_, yields_value (x := .slice (some ⟨r0, o + ql.getD 0 * es, none⟩) (q - ql.getD 0) (c0 - ql.getD 0)) ?_⟩
        · rw [RV]
          refine ⟨hes, r0, c0 - ql.getD 0, hr0, rfl, Nat.sub_le_sub_right hqc _, ?_⟩
          show o + ql.getD 0 * es + (c0 - ql.getD 0) * es = E.sz b
          rw [g4, List.length_append, hlen, Nat.add_assoc, ← Nat.add_mul, show ql.getD 0 + (c0 - ql.getD 0) = c0 from by omega]
          exact hcap
        · have hne : ¬ c0 = ql.getD 0 := by omega
          simp only [Instr.sliceAt, Sem.run_bind, r_under wd hu, Result.andThen_ok, hxe, Instr.slice, Option.map_none, r_bounds (P := Γ.P) wd true n c0 bl bh (show (some q : Option Nat).getD n ≤ c0 from hqc) (show ql.getD 0 ≤ (some q : Option Nat).getD n by simp; omega), r_size wd hi0, hi1, Sem.run_pure, if_neg hne]
          simp [Addr.add_lit]
      | _ => exact nomatch k2
    · exact nomatch e3
theorem cutA_ok {t e : TypeId} {n : Nat} (hu : Γ.P.underlying t = some (.array n e)) {es : Nat} (hz : sizeT Γ e = some es) (hes : 1 ≤ es) {x : Operand} {lo hi : Option Operand} {a : A} {l h' : Option A} (hx : cA Γ w x = some a) (hl : cO Γ w lo = some l) (hh : cO Γ w hi = some h') :
    OpOK Γ w ⟨dst, .slice t x lo hi none, ty, pos, after, guard⟩ (I.cutA n es l h' a) := by
  intro F hA tm h v h2 w0 E wd ar ds hr hs ht
  rw [I.cutA_def] at hr
  obtain ⟨u, hu1, e1⟩ := (evK_some tm _ a _).1 hr
  have hv := cA_ok (ds := ds) hΓ hx ht hu1
  obtain ⟨i0, hi0, hi1⟩ := sizeT_some hz
  cases u with
  | ptr b o =>
    obtain ⟨ql, hql, e2⟩ := (boundK_some tm _ _ l).1 e1
    obtain ⟨qh, hqh, e3⟩ := (boundK_some tm _ _ h').1 e2
    obtain ⟨r, hr1, e4⟩ := (optRec_some _ _ _).1 e3
    clear e1 e2 e3
    have bl := bound_ok (ds := ds) hΓ hl ht hql
    have bh := bound_ok (ds := ds) hΓ hh ht hqh
    rw [RV] at hv
    obtain ⟨r0, hr0, hv⟩ := hv
    have hv' : RV E (.slice b o n es (some n)) (.slice (some ⟨r0, o, none⟩) n n) := by rw [RV]; exact ⟨hes, r0, n, hr0, rfl, Nat.le_refl _, rfl⟩
    obtain ⟨ad, len, cap, hxe, h3, h4, hrv⟩ := cutL_val hΓ hr1 hes hv'
    simp only [Value.slice.injEq] at hxe
    obtain ⟨rfl, rfl, rfl⟩ := hxe
    refine pure_end e4 hs hrv (yields_value ?_)
    simp only [Instr.sliceAt, Sem.run_bind, r_under wd hu, Result.andThen_ok, hv, Instr.sureAddr, Option.map_none, Sem.run_pure, r_bounds (P := Γ.P) wd false n n bl bh h3 h4, r_size wd hi0, hi1]
    split <;> rfl
  | _ => exact nomatch e1
end
end Go.X
