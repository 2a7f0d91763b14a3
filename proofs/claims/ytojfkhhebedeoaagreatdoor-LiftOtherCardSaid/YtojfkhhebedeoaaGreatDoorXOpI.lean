/- A verified executor, part 15: append, put together. -/
import Derived.Test.YtojfkhhebedeoaaGreatDoorXOpH
set_option linter.unusedVariables false
set_option linter.unusedSimpArgs false
set_option linter.unusedSectionVars false
namespace Go.X
open Go.RowKit
variable [Nu]

theorem boolRec_if' {R : Type} (b : Bool) (x y : R) : (Bool.rec x y b : R) = if b = true then y else x := by cases b <;> rfl

/-- growV, undone. -/
theorem growV_some (es bytes : Nat) (y : Nat) (b o n : Nat) (cap : Option Nat) (l c : List V) (w : Bool) (R : Type) (h : H) (K : V → H → Option R) (r : R) (e : growV es bytes y b o n cap l c w R h K = some r) :
    (n + l.length / es) * bytes ≤ 1048576 ∧ n * es ≤ (c.drop o).length ∧ ∃ h1, (match cap with
      | none => o = 0 ∧ n * es = c.length ∧ w = true ∧ h1 = h.wrote b .dead
      | some _ => h1 = h) ∧ allOne ((c.drop o).take (n * es) ++ l) = true ∧ h1.at h1.nx = none ∧
        K (.slice h1.nx 0 (n + l.length / es) es none) (h1.made (.cells ((c.drop o).take (n * es) ++ l) true y)) = some r := by
  rw [growV_def] at e
  obtain ⟨h0, e1⟩ := ble_and e
  obtain ⟨h2, e2⟩ := (takeK_some r _ _ _).1 e1
  rw [dropN_eq] at h2 e2
  refine ⟨h0, h2, ?_⟩
  cases cap with
  | none =>
    obtain ⟨q1, e3⟩ := (boolRec_some _ _ _).1 e2
    obtain ⟨q2, e4⟩ := (boolRec_some _ _ _).1 e3
    obtain ⟨q3, e5⟩ := (boolRec_some _ _ _).1 e4
    obtain ⟨_, _, e6⟩ := (write_some _ _ _ _ _ _).1 e5
    obtain ⟨q4, q5, q6⟩ := (grow_some _ _ _ _ _ _ _ _).1 e6
    exact ⟨_, ⟨beq_true.1 q1, beq_true.1 q2, q3, rfl⟩, q4, q5, q6⟩
  | some q =>
    obtain ⟨q4, q5, q6⟩ := (grow_some _ _ _ _ _ _ _ _).1 e2
    exact ⟨h, rfl, q4, q5, q6⟩

section
variable {Γ : Cx} (hΓ : Γ.Ok) {w : Nat} {dst : Option Tmp} {ty : TypeId} {pos : String} {after : Array Edge} {guard : Option (Nat × Bool)}
include hΓ

theorem append_val {t tx e : TypeId} {i : TypeInfo} {z : Value} (hu : Γ.P.underlying t = some (.slice e)) (hk : (∃ e', Γ.P.underlying tx = some (.slice e')) ∨ Γ.P.underlying tx = some .string)
    (hi : Γ.P.info? e = some i) (hz : i.zero = some z) (hzs : z.cells.size = i.size) (h1z : 1 ≤ i.size) (h1b : 1 ≤ i.bytes) {w0 : World} {E : En} {h : H} {wd : World} (hs : Sim w0 E h wd) {u y : V} {xv yv : Value} (hx : RV E u xv) (hy : RV E y yv)
    {v : V} {h' : H} (q0 : Nat) (hq0 : TyOK q0 e) (hr : run (appendV i.size i.bytes q0 u y) h = some (v, h')) :
    ∃ E' w' rv, E.le E' ∧ Sim w0 E' h' w' ∧ RV E' v rv ∧ (Builtin.append_ #[t, tx] ty #[xv, yv]).run Γ.P wd = .ok rv w' := by
  have hrA : appended i.size y (V × H) h (fun l h => (Bool.rec (appendL i.size i.bytes q0 u l (V × H) h fun a h' => some (a, h')) (Bool.rec none (some (u, h)) (isSlice u)) (isNil l) : Option (V × H))) = some (v, h') := hr
  obtain ⟨l, h1, e1, hh1, hfun⟩ := appended_some (P := Γ.P) wd i.size y (V × H) h _ (v, h') hrA
  obtain ⟨n, news, hnews, hlen, hsrc⟩ := hfun w0 E hs h1z tx yv hy hk
  have hs1 : Sim w0 E h1 wd := by
    rcases hh1 with rfl | ⟨b, rfl⟩
    · exact hs
    · exact hs.note b
  clear hr hrA hfun
  rw [boolRec_if'] at e1
  have hdiv : l.length / i.size = n := by rw [hlen]; exact Nat.mul_div_cancel _ h1z
  by_cases hnil : isNil l = true
  · rw [if_pos hnil] at e1
    obtain ⟨hsl, e2⟩ := (boolRec_some _ _ _).1 e1
    have hl0 := (isNil_iff l).1 hnil
    subst hl0
    have hn0 : n = 0 := by rw [← hdiv]; simp
    subst hn0
    have hnews0 := RVs_nil.1 hnews
    subst hnews0
    simp only [Option.some.injEq, Prod.mk.injEq] at e2
    obtain ⟨rfl, rfl⟩ := e2
    have hsrc0 := hsrc rfl
    refine ⟨E, wd, xv, En.le_refl E, hs1, hx, ?_⟩
    cases u with
    | nils => rw [RV] at hx; subst hx; exact r_append0 wd hu hi none 0 0 yv hsrc0 (Nat.le_refl _)
    | emp => rw [RV] at hx; obtain ⟨a, c, rfl⟩ := hx; exact r_append0 wd hu hi (some a) 0 c yv hsrc0 (Nat.zero_le _)
    | slice b o m es cap => rw [RV] at hx; obtain ⟨_, r0, c, _, rfl, hc, _⟩ := hx; exact r_append0 wd hu hi _ m c yv hsrc0 hc
    | _ => exact nomatch hsl
  · rw [if_neg hnil, appendL_def] at e1
    have hlne : l ≠ [] := fun hh => hnil ((isNil_iff l).2 hh)
    have hnpos : 0 < n := by
      rcases Nat.eq_zero_or_pos n with h0 | h0
      · rw [h0, Nat.zero_mul] at hlen; exact absurd (List.eq_nil_of_length_eq_zero hlen) hlne
      · exact h0
    cases u with
    | nils =>
      obtain ⟨hroom, e2⟩ := ble_and e1
      obtain ⟨ha, hn, e3⟩ := (grow_some _ _ _ _ _ _ _ _).1 e2
      rw [RV] at hx
      subst hx
      have hroom' : (0 + n) * i.bytes ≤ 1048576 := by rw [Nat.zero_add, ← hdiv]; exact hroom
      obtain ⟨E', w', rv, g1, g2, g3, g4⟩ := grow_ok (P := Γ.P) (tx := tx) (ty := ty) hs1 hn hu hi hz hzs h1z h1b none 0 0 (old := []) (olds := []) RVs_none hnews (run_firstCells_none wd.drew i.size 0 0 0) (by simp) yv n (hsrc ha) (by omega) hroom' q0 hq0
      simp only [Option.some.injEq, Prod.mk.injEq] at e3
      obtain ⟨e4, e5⟩ := e3
      have e4' : V.slice h1.nx 0 n i.size none = v := by rw [← e4, ← hdiv]; rfl
      rw [Nat.zero_add] at g3
      rw [List.nil_append] at g2
      exact ⟨E', w', rv, g1, by rw [← e5]; exact g2, by rw [← e4']; exact g3, g4⟩
    | slice b o m es cap =>
      obtain ⟨hes, e2⟩ := beq_and e1
      subst hes
      obtain ⟨k, hb, _, e3⟩ := (read_some _ _ _ _ _).1 e2
      have hxx := hx
      rw [RV] at hx
      obtain ⟨_, r0, sc, hr0, rfl, hsc, hcap⟩ := hx
      cases k with
      | cells c wr' y0 =>
        have hqe : TyOK (Bool.rec 0 q0 (Nat.beq q0 y0)) e := by
          cases Nat.beq q0 y0 with
          | false => exact TyOK.none
          | true => exact hq0
        have hqy : ∀ el, TyOK y0 el → TyOK (Bool.rec 0 q0 (Nat.beq q0 y0)) el := fun el hh => by
          cases eb : Nat.beq q0 y0 with
          | false => exact TyOK.none
          | true => rw [Nat.eq_of_beq_eq_true eb]; exact hh
        have e3' : (Bool.rec (growV i.size i.bytes (Bool.rec 0 q0 (Nat.beq q0 y0)) b o m cap l c wr' (V × H) (h1.note b) (fun a h' => some (a, h'))) (stN b (Nat.add o (Nat.mul m i.size)) l (V × H) (h1.note b) fun _ h => some (.slice b o (Nat.add m (Nat.div l.length i.size)) i.size cap, h))
          (Option.rec (Nat.ble (Nat.add o (Nat.mul (Nat.add m (Nat.div l.length i.size)) i.size)) c.length) (fun cap => Nat.ble (Nat.add m (Nat.div l.length i.size)) cap) cap : Bool) : Option (V × H)) = some (v, h') := by
          have e4 := e3
          rw [appendB_def] at e4
          exact e4
        rw [boolRec_if'] at e3'
        have hsn := hs1.note b
        have hbn : (h1.note b).at b = some (.cells c wr' y0) := by rw [H.note_at]; exact hb
        have hdiv' : Nat.div l.length i.size = n := hdiv
        rw [hdiv'] at e3'
        obtain ⟨ys, zs, el, fz, c1, c2, c3, c4, c5⟩ := hs1.cellsY hb hr0
        have hcl := RVs_length c2
        split at e3'
        · -- it fits
          rename_i hfit
          obtain ⟨ha, c', y1, hb', hle, e4⟩ := stN_some _ _ _ _ _ _ _ e3'
          simp only [Option.some.injEq, Prod.mk.injEq] at e4
          obtain ⟨e5, e6⟩ := e4
          have hroom : m + n ≤ sc := by
            cases cap with
            | some q =>
              have hq : m + n ≤ q := Nat.le_of_ble_eq_true hfit
              have hcap' : sc = q := hcap
              omega
            | none =>
              have hq : o + (m + n) * i.size ≤ c.length := Nat.le_of_ble_eq_true hfit
              have hcap' : o + sc * i.size = E.sz b := hcap
              rw [c3, List.length_append, hcl] at hcap'
              have : (m + n) * i.size ≤ sc * i.size := by omega
              exact Nat.le_of_mul_le_mul_right this h1z
          have hle' : o + m * i.size + l.length ≤ c'.length := hle
          refine ⟨E, _, _, En.le_refl E, by rw [← e6]; exact hsn.stored hb' hr0 hnews hle', ?_, room_ok (P := Γ.P) hsn hu hi hb' hr0 hnews hle' yv n (hsrc ha) hroom⟩
          rw [← e5, RV]
          exact ⟨h1z, r0, sc, hr0, rfl, hroom, hcap⟩
        · -- it may not
          rename_i hfit
          obtain ⟨hroom, hdr, h2, hcases, ha, hn, e4⟩ := growV_some _ _ _ _ _ _ _ _ _ _ _ _ _ _ e3'
          simp only [Option.some.injEq, Prod.mk.injEq] at e4
          obtain ⟨e5, e6⟩ := e4
          have hroom' : (m + n) * i.bytes ≤ 1048576 := by rw [← hdiv]; exact hroom
          rw [hdiv] at e5
          have hall : allOne l = true := by rw [allOne_append, Bool.and_eq_true] at ha; exact ha.2
          obtain ⟨us, u1, u2, u3⟩ := hs1.loads hb hr0 hdr
          have hold : (Builtin.firstCells i.size m (.slice (some ⟨r0, o, none⟩) m sc)).run Γ.P wd.drew = .ok us.toArray wd.drew :=
            run_firstCells_some wd.drew i.size m ⟨r0, o, none⟩ m sc us u1 (fun j u hu => by rw [Addr.add_lit]; exact u3 j u hu)
          cases cap with
          | some q =>
            dsimp only at hcases
            subst hcases
            have hq : ¬ m + n ≤ q := fun hh => hfit (Nat.ble_eq_true_of_le hh)
            have hcap' : sc = q := hcap
            obtain ⟨E', w', rv, g1, g2, g3, g4⟩ := grow_ok (P := Γ.P) (tx := tx) (ty := ty) hsn hn hu hi hz hzs h1z h1b (some ⟨r0, o, none⟩) m sc u2 hnews hold u1 yv n (hsrc hall) (by omega) hroom' _ hqe
            exact ⟨E', w', rv, g1, by rw [← e6]; exact g2, by rw [← e5]; exact g3, g4⟩
          | none =>
            dsimp only at hcases
            obtain ⟨ho, hmc, hw, rfl⟩ := hcases
            subst ho
            subst hw
            have hcap' : 0 + sc * i.size = E.sz b := hcap
            have hdead : Sim w0 E ((h1.note b).wrote b .dead) wd := hsn.wrote (k := .cells c true y0) hbn rfl hr0 .dead (fun hh => nomatch hh) wd trivial (fun _ _ => rfl) (Nat.le_refl _) rfl rfl rfl
            by_cases hfits : m + n ≤ sc
            · -- in place
              have hlen2 : m * i.size + news.length ≤ (ys ++ zs).length := by
                rw [← c3, ← hcap', Nat.zero_add, (hsrc hall).newsLen, ← Nat.add_mul]
                exact Nat.mul_le_mul_right _ hfits
              have hys : ys.length = m * i.size := by rw [hcl, hmc]
              have hov : over news (ys ++ zs) (m * i.size) = (ys ++ news) ++ zs.drop news.length := by
                rw [over, ← hys, List.take_left', List.drop_append]
                · simp
                · rfl
              have hset := setCells_heap r0 news (m * i.size) wd (ys ++ zs) el fz c1 hlen2
              have hlo := over_length news (ys ++ zs) (m * i.size) hlen2
              rw [hov] at hset hlo
              have hrun : (Builtin.append_ #[t, tx] ty #[.slice (some ⟨r0, 0, none⟩) m sc, yv]).run Γ.P wd = .ok (.slice (some ⟨r0, 0, none⟩) (m + n) sc) (wd.setCells r0 (0 + m * i.size) news) := by
                refine run_append_room_src wd t tx ty e i hu hi r0 0 m sc yv n news (hsrc hall) hfits (fun j hj => ?_) (fun j hj => frozen_of wd c1 (c4 rfl) _ (by omega))
                rw [cell_of wd c1, List.getElem?_eq_getElem (by omega)]
                rfl
              rw [Nat.zero_add] at hrun
              have hEz : E.sz b = ((ys ++ news) ++ zs.drop news.length).length := by rw [hlo, c3]
              refine ⟨E.set ((h1.note b).wrote b .dead).nx r0 (E.sz b), _, _, En.le_set (hdead.dom _ hn) _ _, ?_, ?_, hrun⟩
              · rw [← e6]
                have hE := En.le_set (hdead.dom _ hn) r0 (E.sz b)
                have htake : (c.drop 0).take (m * i.size) = c := by rw [List.drop_zero, hmc, List.take_length]
                rw [htake]
                refine hdead.adopt hn (fun b' k' hb' hl' hm' => ?_) (hsn.fresh b _ r0 hbn rfl hr0) (fun hr => (hsn.defd r0 hr).2.2 b _ hbn rfl hr0) _ rfl _ _ ⟨r0, ys ++ news, zs.drop news.length, el, fz, En.set_mu _ _ _ _, hset, RVs_mono hE _ _ (RVs_append c2 hnews), by rw [En.set_sz]; exact hEz, fun q i hi => c4 q i (by rw [hlo] at hi; exact hi), hqy _ c5⟩
                  (fun i hi => setCells_other r0 news _ wd i hi) (by rw [setCells_size]; exact Nat.le_refl _) (setCells_os r0 news _ wd) (setCells_tape r0 news _ wd) (setCells_output r0 news _ wd)
                rw [H.wrote_at] at hb'
                by_cases eb : b' = b
                · rw [if_pos eb] at hb'; simp only [Option.some.injEq] at hb'; rw [← hb'] at hl'; exact nomatch hl'
                · rw [if_neg eb] at hb'
                  exact eb (hsn.inj b' b k' _ r0 hb' hbn hl' rfl hm' hr0)
              · rw [← e5, RV]
                exact ⟨h1z, r0, sc, En.set_mu _ _ _ _, rfl, hfits, by show 0 + sc * i.size = _; rw [En.set_sz]; exact hcap'⟩
            · -- a new block
              obtain ⟨E', w', rv, g1, g2, g3, g4⟩ := grow_ok (P := Γ.P) (tx := tx) (ty := ty) hdead hn hu hi hz hzs h1z h1b (some ⟨r0, 0, none⟩) m sc u2 hnews hold u1 yv n (hsrc hall) (by omega) hroom' _ hqe
              exact ⟨E', w', rv, g1, by rw [← e6]; exact g2, by rw [← e5]; exact g3, g4⟩
      | _ => exact nomatch e3
    | _ => exact nomatch e1

theorem append_ok {t tx e : TypeId} (hu : Γ.P.underlying t = some (.slice e)) (hk : (∃ e', Γ.P.underlying tx = some (.slice e')) ∨ Γ.P.underlying tx = some .string)
    {n m : Nat} {z : List V} (hn : sizeT Γ e = some n) (hm : bytesT Γ e = some m) (hz : zeroL Γ e = some z) (h1n : 1 ≤ n) (h1m : 1 ≤ m) {x y : Operand} {a b : A} (hx : cA Γ w x = some a) (hy : cA Γ w y = some b)
    (q0 : Nat) (hq0 : TyOK q0 e) : OpOK Γ w ⟨dst, .call ⟨.builtin .append, #[x, y], #[t, tx]⟩, ty, pos, after, guard⟩ (I.appendQ q0 n m a b) := by
  intro F hA tm h v h' w0 E wd ar ds hr hs ht
  obtain ⟨i, zv, h1, h2, h3, h4⟩ := zeroL_some hz
  have hlz := RVs_length (h3 E)
  obtain ⟨i0, hi0, hi1⟩ := sizeT_some hn
  rw [h1] at hi0
  simp only [Option.some.injEq] at hi0
  subst hi0
  have hby : i.bytes = m := by
    unfold bytesT at hm
    rw [h1] at hm
    simpa using hm
  subst hi1
  subst hby
  obtain ⟨u, hu1, e1⟩ := (evK_some tm _ a _).1 hr
  obtain ⟨u2, hu2, e2⟩ := (evK_some tm _ b _).1 e1
  obtain ⟨E', w', rv, g1, g2, g3, g4⟩ := append_val (ty := ty) hΓ hu hk h1 h2 (by rw [← Array.length_toList, hlz, h4]) h1n h1m hs (cA_ok (ds := ds) hΓ hx ht hu1) (cA_ok (ds := ds) hΓ hy ht hu2) q0 hq0 e2
  refine ⟨E', w', rv, g1, g2, g3, .inl ?_⟩
  simp [execOp, resolve, invoke, builtin, g4]
end
end Go.X
