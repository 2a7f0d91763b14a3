/- A text of the verified executor, of contracts, or of this law; joined and trimmed by a program of mine (wip/gen). -/
import Derived.Test.YthkipncmnefomaaLowPM
import Derived.Test.YthkipncmnefomaaLowM
set_option linter.unusedVariables false
set_option linter.unusedSimpArgs false
set_option linter.unusedSectionVars false
set_option maxRecDepth 100000
set_option maxHeartbeats 4000000
namespace Go.Proofs.Ythkipncmnefomaa.XCodeL
open Go Go.X
noncomputable section
variable [Nu] {R : Type} {Q : Option R → Prop} {B : Nat} {A : Nat → Prop} {S : Nat} {L : Kn}
theorem lowerA_c {K : V → H → Option R} {m : Nat} {vs : List V} {locs : Int} {ps : List (List Ins)} {v : V} (hvs : vs = [.agg [.int .i64 locs, v]]) (hv : ThrR L v ps) (hf : Few ps) (q : checkP locs ps = 0 → ∀ w N, (∀ p ∈ N, B ≤ p.1) → PThr (N ++ L) w (ps.map lowT) → W Q B A S (N ++ L) (K (.tup [.agg [.int .i64 locs, w], .int .i64 0]))) (q' : checkP locs ps ≠ 0 → W Q B A S L (K (.tup [.agg [.int .i64 0, .nils], .int .i64 (checkP locs ps)]))) : W Q B A S (L) fun h => J.call (F (m + 9)) (.fn (.func 7) [] []) vs R h K := by
  subst hvs
  refine W.callE (d := d7) (c := c7) (by kernel_rfl) rfl (by rfl) ?_
  unfold c7
  have hone := hv.one
  have hbx : allOne (V.agg [.int .i64 locs, v]).cells = true := by show (Bool.rec false true v.one : Bool) = true; rw [hone]
  refine W.hd (W.en (W.box hbx fun b2 hb2 => W.newT fun b3 hb3 => W.loadNP (List.mem_cons_of_mem _ List.mem_cons_self) nl_ ?_))
  refine soundCheck_c rf_ hv.cons.cons hf ?_
  by_cases hck : checkP locs ps = 0
  · have hokP := check_ok hck
    have q := q hck
    refine W.neqF hck (W.condF (W.fldP (W.load1P (List.mem_cons_of_mem _ List.mem_cons_self) (.int .i64 locs) rfl ?_)))
    refine W.buildL (fun _ => rfl) (W.newT fun bq hbq => W.storeN om_ rf_ (by decide) rfl ?_)
    refine W.fldP (W.load1P (List.mem_cons_of_mem _ (List.mem_cons_of_mem _ List.mem_cons_self)) v rfl (ThrR.len hv.cons.cons.cons ?_))
    have hLX : ∀ q ∈ L, q ∈ (b3, Blk.cells [.int .i64 0, .nils] true 30) :: (b2, Blk.cells [.int .i64 locs, v] true 0) :: L := by grind
    have hps := hf.1
    generalize hX0 : (b3, Blk.cells [.int .i64 0, .nils] true 30) :: (b2, Blk.cells [.int .i64 locs, v] true 0) :: L = X0 at hLX
    refine W.loop5 (I := fun d x1 x2 x3 x4 x5 L' => ∃ (i : Nat) (vth : V) (tc : List V) (pth M : Kn), ps.length ≤ i + d ∧ i ≤ ps.length ∧ x1 = .ptr b3 0 ∧ x2 = .ptr bq 0 ∧ v = x3 ∧ x4 = .int .i64 ps.length ∧ x5 = .int .i64 i ∧ L' = (bq, .cells [.int .i64 locs, vth] true 30) :: (pth ++ (M ++ X0)) ∧ Own B 1 44 vth tc pth ∧ PT M ((ps.take i).map lowT) tc ∧ ∀ p ∈ M, B ≤ p.1) ?_ ps.length om_
      ⟨0, .nils, [], [], [], by omega, by omega, rfl, rfl, rfl, rfl, rfl, by rw [← hX0]; rfl, Own.nil, by simp [PT], by simp⟩
    rintro d k x1 x2 x3 x4 x5 L' ⟨i, vth, tc, pth, M, e1, e2, rfl, rfl, rfl, rfl, rfl, rfl, hth, hpt, hM⟩ hk
    rcases Nat.lt_or_ge i ps.length with hi | hi
    · obtain ⟨t, ht, _⟩ := drop_at hi
      have htm : t ∈ ps := List.mem_of_getElem? ht
      have hok := hokP t htm
      have ht16 := (hf.2 t htm).1
      have hfine : Fine t := ⟨ht16, fun x hx => ⟨(hf.2 t htm).2 x hx, by
        obtain ⟨j, hj⟩ := List.getElem?_of_mem hx
        have := insOK_fine (okT_at hok hj); exact ⟨this.1, this.2.1⟩⟩⟩
      refine W.lssT om_ (W.condT ?_)
      refine hv.idxM (by grind) i t rfl ht fun p vt r hvt hp => ?_
      refine W.load1A hp vt rfl ?_
      refine sizes_c rf_ (hvt.sub (by grind)) hfine fun xs psz hsz => ?_
      refine InsR.len (hvt.sub (by grind)) ?_
      have hLX1 : ∀ q ∈ X0, q ∈ psz ++ ((bq, Blk.cells [.int .i64 locs, vth] true 30) :: (pth ++ (M ++ X0))) := by grind
      have hszR := hsz.rd ((bq, Blk.cells [.int .i64 locs, vth] true 30) :: (pth ++ (M ++ X0))) t.length (by decide) (by rw [intsC_len, szs_len, Nat.mul_one])
      generalize hX1 : psz ++ ((bq, Blk.cells [.int .i64 locs, vth] true 30) :: (pth ++ (M ++ X0))) = X1 at hLX1 hszR
      refine W.loop10 (I := fun d x1 x2 x3 x4 x5 x6 x7 x8 x9 x10 L' => ∃ (j : Nat) (xo : V) (oc : List V) (o : List PIn) (po M1 : Kn), t.length ≤ j + d ∧ j ≤ t.length ∧ x1 = .ptr b3 0 ∧ x2 = .ptr bq 0 ∧ xs = x3 ∧ xo = x4 ∧ v = x5 ∧ x6 = .int .i64 ps.length ∧ x7 = .int .i64 i ∧ vt = x8 ∧ x9 = .int .i64 t.length ∧ x10 = .int .i64 j ∧ L' = po ++ (M1 ++ X1) ∧ Own B 5 46 xo oc po ∧ PC M1 o oc ∧ o ++ lowT (t.drop j) = lowT t ∧ ∀ p ∈ M1, B ≤ p.1) ?_ t.length om_
        ⟨0, .nils, [], [], [], [], by omega, by omega, rfl, rfl, rfl, rfl, rfl, rfl, rfl, rfl, rfl, rfl, rfl, Own.nil, rfl, rfl, by simp⟩
      rintro d2 k2 x1 x2 x3 x4 x5 x6 x7 x8 x9 x10 L' ⟨j, xo, oc, o, po, M1, f1, f2, rfl, rfl, rfl, rfl, rfl, rfl, rfl, rfl, rfl, rfl, rfl, hown, hpo, heqo, hM1⟩ hk2
      rcases Nat.lt_or_ge j t.length with hj | hj
      · obtain ⟨x, hx, hdx⟩ := drop_at hj
        have hxl := (hf.2 t htm).2 x (List.mem_of_getElem? hx)
        have hxk := insOK_fine (okT_at hok hx)
        have hld := lowT_drop hx
        rw [hld] at heqo
        have hsub0 : ∀ q ∈ L, q ∈ po ++ (M1 ++ X1) := by grind
        refine W.lssT om_ (W.condT ?_)
        refine hvt.idxM hsub0 j x rfl hx fun p ve r hve hp => ?_
        have hbx : allOne (V.agg (insC x ve)).cells = true := ins_one hve.one x
        refine loadIns hp (W.newT fun b50 hb50 => W.storeN om_ rf_ (by decide) hbx ?_)
        refine W.loadNP List.mem_cons_self nl_ ?_
        refine one_c rf_ hve (fun q hq => List.mem_cons_of_mem _ (hsub0 q hq)) hxl ⟨hxk.1, hxk.2.1⟩ fun b c y N cells hb hc hN hpc => ?_
        refine W.fldP (W.load1P (List.mem_cons_of_mem _ (List.mem_append_right _ List.mem_cons_self)) (.int .i64 x.k) rfl ?_)
        have hlT := lowT_len t
        have hlt : o.length ≤ 80 := by have := congrArg List.length heqo; rw [List.length_append] at this; omega
        have hle := lowT_e (hf.2 t htm).2
        refine W.eql ?_
        refine W.joinC (fun k68 => ∀ (res : List PIn) (cells : List V) (c : Option Nat) (y : Nat), PC (N ++ L) res cells → (c = none ∨ c = some res.length) → o ++ (res ++ lowT (t.drop (j + 1))) = lowT t → W Q B A S ((b, .cells cells true y) :: (N ++ ((b50, .cells (insC x ve) true 39) :: (po ++ (M1 ++ X1))))) (k68 (.ptr b3 0) (.ptr bq 0) xs xo (.slice b 0 res.length 5 c) v (.int .i64 ps.length) (.int .i64 i) vt (.int .i64 t.length) (.int .i64 j))) ?_ ?_
        · intro res cells c y hpc hc heq
          have hY : ∀ q ∈ N ++ L, q ∈ (b, .cells cells true y) :: (N ++ ((b50, .cells (insC x ve) true 39) :: (M1 ++ X1))) := by grind
          have hPR : PR ((b, .cells cells true y) :: (N ++ ((b50, .cells (insC x ve) true 39) :: (M1 ++ X1)))) (.slice b 0 res.length 5 c) res := ⟨cells, Rd.of (by decide) List.mem_cons_self hpc.len (by rintro q hq; rcases hc with rfl | rfl <;> simp at hq; omega), hpc.sub hY⟩
          generalize hYe : (b, Blk.cells cells true y) :: (N ++ ((b50, Blk.cells (insC x ve) true 39) :: (M1 ++ X1))) = Y at hPR
          have hr80 : res.length + o.length ≤ 80 := by have := congrArg List.length heq; rw [List.length_append, List.length_append] at this; omega
          refine W.swapE (N := (b, .cells cells true y) :: (N ++ [(b50, .cells (insC x ve) true 39)])) (M := po) (L' := M1 ++ X1) (by simp) ?_
          rw [show ((b, Blk.cells cells true y) :: (N ++ [(b50, Blk.cells (insC x ve) true 39)])) ++ (M1 ++ X1) = Y by rw [← hYe]; simp]
          refine W.lenS ?_
          refine W.loop13 (I := fun d x1 x2 x3 x4 x5 x6 x7 x8 x9 x10 x11 x12 x13 L' => ∃ (i2 : Nat) (xo' : V) (oc' : List V) (o' : List PIn) (po' M2 : Kn), res.length ≤ i2 + d ∧ i2 ≤ res.length ∧ x1 = .ptr b3 0 ∧ x2 = .ptr bq 0 ∧ xs = x3 ∧ xo' = x4 ∧ v = x5 ∧ x6 = .int .i64 ps.length ∧ x7 = .int .i64 i ∧ vt = x8 ∧ x9 = .int .i64 t.length ∧ x10 = .int .i64 j ∧ x11 = .slice b 0 res.length 5 c ∧ x12 = .int .i64 res.length ∧ x13 = .int .i64 i2 ∧ L' = po' ++ (M2 ++ Y) ∧ Own B 5 46 xo' oc' po' ∧ PC (M2 ++ M1) o' oc' ∧ o' ++ (res.drop i2 ++ lowT (t.drop (j + 1))) = lowT t ∧ (∀ p ∈ M2, B ≤ p.1) ∧ o'.length = o.length + i2) ?_ res.length om_
            ⟨0, xo, oc, o, po, [], by omega, by omega, rfl, rfl, rfl, rfl, rfl, rfl, rfl, rfl, rfl, rfl, rfl, rfl, rfl, rfl, hown, hpo.sub (by grind), heq, by simp, by omega⟩
          rintro d3 k3 x1 x2 x3 x4 x5 x6 x7 x8 x9 x10 x11 x12 x13 L' ⟨i2, xo', oc', o', po', M2, g1, g2, rfl, rfl, rfl, rfl, rfl, rfl, rfl, rfl, rfl, rfl, rfl, rfl, rfl, rfl, hown', hpo', heq', hM2, hol'⟩ hk3
          rcases Nat.lt_or_ge i2 res.length with hi2 | hi2
          · obtain ⟨z, hz, hdz⟩ := drop_at hi2
            refine W.lssT om_ (W.condT ?_)
            refine hPR.idxM (by grind) i2 z rfl hz fun p vz r hvz hp => ?_
            refine loadPin hp (W.newT fun b88 hb88 => ?_)
            refine W.storeN om_ rf_ (by decide) (pin_one hvz.one z) ?_
            refine W.fldP (W.load1P List.mem_cons_self vz rfl ?_)
            refine W.append (p := []) (n := 0) (m := z.e.length) Own.nil ((hvz.sub (by grind)).cons) rfl (by rw [List.nil_append]; exact tokCells_one _) (by have := hle z (by rw [← heq]; exact List.mem_append_right _ (List.mem_append_left _ (List.mem_of_getElem? hz))); omega) fun x' p' ho => ?_
            rw [List.nil_append] at ho
            have hoone := (ho.rd [] z.e.length (by decide) (tokCells_len _)).one
            refine W.fldP (W.swap1 (W.store1 om_ nl_ hoone ?_))
            refine W.loadNP List.mem_cons_self nl_ ?_
            refine W.swapE (N := (b88, .cells (pinC z x') true 46) :: p') (M := po') (L' := M2 ++ Y) rfl ?_
            have hoc : oc'.length = o'.length * 5 := hpo'.len
            refine W.push (v := .agg (pinC z x')) hown' (by decide) hoc rfl rfl (pin_one hoone z) (by rw [allOne_app, hpo'.one]; exact pin_one hoone z) (by have := hlt; omega) fun x'' p'' ho'' => ?_
            refine W.add om_ om_ ?_
            refine hk3 (d3 - 1) _ _ _ _ _ _ _ _ _ _ _ _ _ _ om_ ⟨i2 + 1, x'', _, o' ++ [z], p'', (b88, .cells (pinC z x') true 46) :: (p' ++ M2), by omega, by omega, rfl, rfl, rfl, rfl, rfl, rfl, rfl, rfl, rfl, rfl, rfl, rfl, by rw [Int.natCast_add]; rfl, ?_, ho'', ?_, ?_, ?_, by simp; omega⟩
            · simp
            · refine PC.app (hpo'.sub (by grind)) ⟨x', [], rfl, ?_, rfl⟩
              exact (ho.rd (M2 ++ M1) z.e.length (by decide) (tokCells_len _)).sub (by grind)
            · rw [← heq', hdz]; simp
            · have := ho.ge
              intro q hq
              rcases List.mem_cons.1 hq with rfl | hq
              · exact hb88
              · rcases List.mem_append.1 hq with hq | hq
                · exact this q hq
                · exact hM2 q hq
          · refine W.lssF om_ (W.condF (W.add om_ om_ ?_))
            refine hk2 (d2 - 1) _ _ _ _ _ _ _ _ _ _ _ om_ ⟨j + 1, xo', oc', o', po', M2 ++ ((b, .cells cells true y) :: (N ++ ((b50, .cells (insC x ve) true 39) :: M1))), by omega, by omega, rfl, rfl, rfl, rfl, rfl, rfl, rfl, rfl, rfl, by rw [Int.natCast_add]; rfl, by rw [← hYe]; simp, hown', ?_, ?_, ?_⟩
            · exact hpo'.sub (by grind)
            · rw [List.drop_of_length_le hi2, List.nil_append] at heq'; exact heq'
            · grind
        · intro k68 hk68
          by_cases hk6 : x.k = 6
          · rw [decide_eq_true hk6]
            refine W.condT ?_
            have hn := hxk.2.2 hk6
            have hlo : lowOne x = [⟨9, 0, 0, x.e, 0⟩] := by simp [lowOne, hk6]
            have hli : lowI x (t.drop (j + 1)) = [⟨9, 0, 0, x.e, (szs ((t.drop (j + 1)).take x.n.toNat)).sum⟩] := by simp [lowI, hk6]
            rw [hlo] at hpc hc
            rw [hlo]
            obtain ⟨vs, r0, rfl, htk, hr0⟩ := hpc
            have hr0' : r0 = [] := hr0
            subst hr0'
            refine W.add om_ om_ (W.add om_ om_ (W.fldP (W.load1P (List.mem_cons_of_mem _ (List.mem_append_right _ List.mem_cons_self)) (.int .i64 x.n) rfl (W.add om_ om_ ?_))))
            have hsub1 : ∀ q ∈ X1, q ∈ (N ++ ((b50, Blk.cells (insC x ve) true 39) :: (po ++ (M1 ++ X1)))) := by grind
            refine W.cutM (a := j + 1) (b := j + 1 + x.n.toNat) hszR (.inr (by rw [Int.natCast_add]; rfl)) (.inr (by rw [show (j : Int) + 1 + x.n = ((j + 1 + x.n.toNat : Nat) : Int) by omega])) om_ om_ fun w hw => ?_
            obtain ⟨w0, hw0, hcut⟩ : ∃ ns : List Int, ns = szs ((t.drop (j + 1)).take x.n.toNat) ∧ ns.length = x.n.toNat := ⟨_, rfl, by rw [szs_len, List.length_take, List.length_drop]; omega⟩
            have hcells : List.take ((j + 1 + x.n.toNat - (j + 1)) * 1) (List.drop ((j + 1) * 1) (intsC (szs t))) = intsC w0 := by
              rw [hw0, Nat.mul_one, Nat.mul_one, intsC_drop, intsC_take, show j + 1 + x.n.toNat - (j + 1) = x.n.toNat by omega]
              unfold szs; rw [← List.map_drop, ← List.map_take]
            rw [hcells, show j + 1 + x.n.toNat - (j + 1) = x.n.toNat by omega] at hw
            rw [← hw0] at hli
            refine W.lenM hw ?_
            have hwM : Rd X1 1 w x.n.toNat (intsC w0) := hw
            refine W.loop14 (I := fun d x1 x2 x3 x4 x5 x6 x7 x8 x9 x10 x11 x12 x13 x14 L' => ∃ i3 : Nat, x.n.toNat ≤ i3 + d ∧ i3 ≤ x.n.toNat ∧ x1 = .ptr b3 0 ∧ x2 = .ptr bq 0 ∧ xs = x3 ∧ xo = x4 ∧ x5 = .slice b 0 1 5 c ∧ v = x6 ∧ x7 = .int .i64 ps.length ∧ x8 = .int .i64 i ∧ vt = x9 ∧ x10 = .int .i64 t.length ∧ x11 = .int .i64 j ∧ w = x12 ∧ x13 = .int .i64 x.n.toNat ∧ x14 = .int .i64 i3 ∧ L' = (b, .cells (pinC ⟨9, 0, 0, x.e, (w0.take i3).sum⟩ vs) true y) :: (N ++ ((b50, Blk.cells (insC x ve) true 39) :: (po ++ (M1 ++ X1))))) ?_ x.n.toNat om_
              ⟨0, by omega, by omega, rfl, rfl, rfl, rfl, rfl, rfl, rfl, rfl, rfl, rfl, rfl, rfl, rfl, rfl, rfl⟩
            rintro d4 k4 x1 x2 x3 x4 x5 x6 x7 x8 x9 x10 x11 x12 x13 x14 L' ⟨i3, u1, u2, rfl, rfl, rfl, rfl, rfl, rfl, rfl, rfl, rfl, rfl, rfl, rfl, rfl, rfl, rfl⟩ hk4
            rcases Nat.lt_or_ge i3 x.n.toNat with hi3 | hi3
            · obtain ⟨z, hz, _⟩ := drop_at (l := w0) (i := i3) om_
              have hzb : 0 ≤ z ∧ z ≤ 5 := by
                rw [hw0] at hz
                have hm := List.mem_of_getElem? hz
                unfold szs at hm
                obtain ⟨a, _, rfl⟩ := List.mem_map.1 hm
                have := lowOne_le a; omega
              have hsum := szs_sum (((t.drop (j + 1)).take x.n.toNat).take i3)
              have hsl : (((t.drop (j + 1)).take x.n.toNat).take i3).length ≤ 16 := by rw [List.length_take, List.length_take, List.length_drop]; omega
              have hte : szs (((t.drop (j + 1)).take x.n.toNat).take i3) = w0.take i3 := by rw [hw0]; unfold szs; rw [List.map_take]
              rw [hte] at hsum
              have hstep : (w0.take (i3 + 1)).sum = (w0.take i3).sum + z := by rw [List.take_add_one, hz]; simp
              refine W.lssT om_ (W.condT (W.idxM hwM i3 rfl hi3 fun p hp => ?_))
              refine W.load1A ((hp.sub hsub1).cons) (.int .i64 z) (by rw [Nat.mul_one, intsC_drop, List.drop_eq_getElem_cons om_]; rw [(List.getElem?_eq_some_iff.1 hz).2]; rfl) ?_
              refine W.idxS 0 rfl om_ (W.fldP (W.load1P List.mem_cons_self (.int .i64 (w0.take i3).sum) rfl (W.add om_ om_ ?_)))
              refine W.idxS 0 rfl om_ (W.fldP (W.store1 om_ nl_ rfl (W.add om_ om_ ?_)))
              exact hk4 (d4 - 1) _ _ _ _ _ _ _ _ _ _ _ _ _ _ _ om_ ⟨i3 + 1, by omega, by omega, rfl, rfl, rfl, rfl, rfl, rfl, rfl, rfl, rfl, rfl, rfl, rfl, rfl, by rw [Int.natCast_add]; rfl, by rw [hstep]; rfl⟩
            · refine W.lssF om_ (W.condF ?_)
              rw [List.take_of_length_le om_]
              exact hk68 [⟨9, 0, 0, x.e, w0.sum⟩] _ c y ⟨vs, [], rfl, htk, rfl⟩ hc (by rw [← heqo, hli])
          · rw [decide_eq_false hk6]
            refine W.condF ?_
            exact hk68 (lowOne x) cells c y hpc hc (by rw [← heqo, lowI, if_neg hk6])
      · have hot : o = lowT t := by
          rw [List.drop_of_length_le hj] at heqo
          rw [← heqo]; show o = o ++ []; rw [List.append_nil]
        subst hot
        have hlT := lowT_len t
        have hPRo : PR (po ++ M1) xo (lowT t) := ⟨oc, hown.rd M1 _ (by decide) hpo.len, hpo.sub (by grind)⟩
        have hxo1 : xo.one = true := by obtain ⟨_, h, _⟩ := hPRo; exact h.one
        refine W.lssF om_ (W.condF (W.fldP (W.load1P (b := bq) (c := [.int .i64 locs, vth]) (w := true) (y := 30) (by rw [← hX1]; grind) vth rfl ?_)))
        refine W.swapE (N := po ++ (M1 ++ (psz ++ [(bq, .cells [.int .i64 locs, vth] true 30)]))) (M := pth) (L' := M ++ X0) (by rw [← hX1]; simp) ?_
        have htl := hpt.len
        rw [List.length_map, List.length_take] at htl
        refine W.push (n := i) (v := xo) hth (by decide) om_ (by rw [one_cells hxo1]; rfl) (by rfl) (by rw [one_cells hxo1]; exact allOne_c (l := []) hxo1 rfl) (by rw [one_cells hxo1, allOne_app, hpt.one]; exact allOne_c (l := []) hxo1 rfl) om_ fun x' p' ho => ?_
        rw [one_cells hxo1] at ho
        have hx'1 : x'.one = true := (ho.rd [] (i + 1) (by decide) (by rw [List.length_append, htl]; simp; omega)).one
        refine W.fldP (W.swapE (N := p' ++ (po ++ (M1 ++ psz))) (M := [(bq, .cells [.int .i64 locs, vth] true 30)]) (L' := M ++ X0) (by simp) ?_)
        refine W.store1 om_ nl_ hx'1 (W.add om_ om_ ?_)
        refine hk (d - 1) _ _ _ _ _ _ om_ ⟨i + 1, x', _, p', po ++ (M1 ++ (psz ++ M)), by omega, by omega, rfl, rfl, rfl, rfl, by rw [Int.natCast_add]; rfl, by simp, ho, ?_, ?_⟩
        · rw [List.take_add_one, ht, List.map_append]
          exact PT.snoc (hPRo.sub (by grind)) (hpt.sub (by grind))
        · have h1 := hown.ge
          have h2 := hsz.ge
          grind
    · refine W.lssF om_ (W.condF ?_)
      rw [List.take_of_length_le hi] at hpt
      have htl := hpt.len
      have hv1 : vth.one = true := (hth.rd [] _ (by decide) htl).one
      have hb1 : allOne [V.int .i64 locs, vth] = true := allOne_c rfl (allOne_c hv1 rfl)
      refine W.loadNP List.mem_cons_self nl_ ?_
      refine W.swapE (N := (bq, .cells [.int .i64 locs, vth] true 30) :: (pth ++ M)) (M := [(b3, .cells [.int .i64 0, .nils] true 30)]) (L' := (b2, .cells [.int .i64 locs, v] true 0) :: L) (by rw [← hX0]; simp) ?_
      refine W.storeN om_ rf_ nl_ hb1 (W.rdCNP List.mem_cons_self nl_ ?_)
      refine W.eqL (L' := ((b3, .cells [.int .i64 locs, vth] true 30) :: ((bq, .cells [.int .i64 locs, vth] true 30) :: (pth ++ (M ++ [(b2, .cells [.int .i64 locs, v] true 0)])))) ++ L) (by simp; rfl) (q vth _ ?_ ?_)
      · have h1 := hth.ge
        grind
      · refine ⟨tc, (hth.rd (M ++ ([(b2, .cells [.int .i64 locs, v] true 0)] ++ L)) _ (by decide) htl).sub (by grind), hpt.sub (by grind)⟩
  · have q' := q' hck
    refine W.neqT hck (W.condT (W.buildL (fun _ => rfl) (W.storeN om_ rf_ (by decide) rfl (W.rdCNP List.mem_cons_self (by decide) ?_))))
    exact W.drop (W.drop q')
end
end Go.Proofs.Ythkipncmnefomaa.XCodeL
set_option maxRecDepth 100000
set_option maxHeartbeats 4000000
namespace Go.Proofs.Ythkipncmnefomaa.XCodeL
open Go Go.X
noncomputable section
variable [Nu] {R : Type} {Q : Option R → Prop} {B : Nat} {A : Nat → Prop} {S : Nat} {L : Kn}
end
end Go.Proofs.Ythkipncmnefomaa.XCodeL
