/- A text of the verified executor, of contracts, or of this law; joined and trimmed by a program of mine (wip/gen). -/
import Derived.Test.YthkipncmnefomaaLowU
set_option linter.unusedVariables false
set_option linter.unusedSimpArgs false
set_option linter.unusedSectionVars false
set_option maxRecDepth 100000
set_option maxHeartbeats 4000000
namespace Go.Proofs.Ythkipncmnefomaa.XCodeL
open Go Go.X
noncomputable section
variable [Nu] {R : Type} {Q : Option R → Prop} {B : Nat} {A : Nat → Prop} {S : Nat} {L : Kn}
theorem pick3 (c : Int) {i : Int} (h0 : 0 ≤ i) (h1 : i < 3) : ∃ z, ([V.int .i64 0, V.int .i64 0, V.int .i64 c] : List V)[i.toNat]? = some (.int .i64 z) ∧ (z = 0 ∨ z = c) := by
  have : i = 0 ∨ i = 1 ∨ i = 2 := by omega
  rcases this with rfl | rfl | rfl
  · exact ⟨0, rfl, .inl rfl⟩
  · exact ⟨0, rfl, .inl rfl⟩
  · exact ⟨c, rfl, .inr rfl⟩
theorem instrL_c {K : V → H → Option R} {m : Nat} {vs : List V} {v locs left : Int} (hvs : vs = [.int .i64 v, .int .i64 locs, .int .i64 left]) (hl : 1 ≤ locs) (hl4 : locs ≤ 4) (hlf : 0 ≤ left) (hlf2 : left ≤ 1000) (q : ∀ x ve N, insOK x locs left = true → x.e.length ≤ 3 → (∀ p ∈ N, B ≤ p.1) → Tk N ve x.e → W Q B A S (N ++ L) (K (.agg (insC x ve)))) : W Q B A S (L) fun h => J.call (F (m + 3)) (.fn (.func 10) [] []) vs R h K := by
  subst hvs
  refine W.callE (d := d10) (c := c10) (by kernel_rfl) rfl (by rfl) ?_
  unfold c10
  refine W.hd (W.hd (W.hd (W.en (W.newT fun b4 hb4 => place_c rfl (by decide) (by decide) ?_))))
  have h0 := Int.emod_nonneg v (show (1099511627776 : Int) ≠ 0 by decide)
  have h1 := Int.emod_lt_of_pos v (show (0 : Int) < 1099511627776 by decide)
  generalize v % 1099511627776 = k at h0 h1
  refine W.quo ?_
  have hw0 : 0 ≤ k / 20 := by omega
  have hw1 : k / 20 < 1099511627776 := by omega
  generalize hw : k / 20 = w at hw0 hw1
  refine W.nextOf fun n0 hn0 hids => W.rem (W.quo (W.rem (W.quo ?_ ) (Int.ediv_nonneg hw0 (by decide)) (by omega)))
  have hr0 := Int.emod_nonneg w (show (3 : Int) ≠ 0 by decide)
  have hr1 := Int.emod_lt_of_pos w (show (0 : Int) < 3 by decide)
  have hl0 := Int.emod_nonneg (w / 3) (show locs ≠ 0 by omega)
  have hl1 := Int.emod_lt_of_pos (w / 3) (show 0 < locs by omega)
  generalize w % 3 = r at hr0 hr1
  generalize w / 3 % locs = lc at hl0 hl1
  refine W.logged fun B1 hB1 hS1 K1 hK0 hK1 => exprL_c rfl fun e ve N hce hel hN hve => hK1 N ve hN fun lgs1 hi1 ro1 hN1 hh1 => ?_
  dsimp only
  have hN : ∀ p ∈ N, B ≤ p.1 := fun p hp => Nat.le_trans hB1 (hN p hp)
  refine W.okP S (by omega) St.ps0 ?_
  have hone := hve.one
  have hcells := one_cells hone
  have hi7 : 0 ≤ w / 7 % 3 ∧ w / 7 % 3 < 3 := ⟨Int.emod_nonneg _ (by decide), Int.emod_lt_of_pos _ (by decide)⟩
  have hi11 : 0 ≤ w / 11 % 3 ∧ w / 11 % 3 < 3 := ⟨Int.emod_nonneg _ (by decide), Int.emod_lt_of_pos _ (by decide)⟩
  obtain ⟨z1, hz1, hm1⟩ := pick3 1 hi7.1 hi7.2
  obtain ⟨z2, hz2, hm2⟩ := pick3 2 hi11.1 hi11.2
  have hq7 : 0 ≤ w / 7 := Int.ediv_nonneg hw0 (by decide)
  have hq11 : 0 ≤ w / 11 := Int.ediv_nonneg hw0 (by decide)
  refine W.nextOf fun n1 hn1 hids1 => W.buildL rg_ (W.quo (W.rem (W.at1 (by omega) hz1 (by omega) (W.buildL rg_ (W.quo (W.rem (W.at1 (by omega) hz2 (by omega) (W.okP S (by omega) St.ps0 ?_)) hq11)))) hq7))
  refine W.rem ?_
  have ht0 := Int.emod_nonneg k (show (20 : Int) ≠ 0 by decide)
  have ht1 := Int.emod_lt_of_pos k (show (0 : Int) < 20 by decide)
  generalize k % 20 = t at ht0 ht1
  by_cases c1 : t < 6
  · refine W.lssT c1 (W.condT ?_)
    refine W.buildL ft_ (W.swap1 (W.storeN (by omega) rfl nl_ (ins_one (v := V.nils) rfl ⟨1, z1, 0, r, lc, [], 0⟩) (W.rdCNP List.mem_cons_self nl_ (W.drop ?_))))
    exact q ⟨1, z1, 0, r, lc, [], 0⟩ V.nils (N) (by unfold insOK; simp [hce, hm1]; try omega) (by simp; try omega) hN (Rd.nils (by decide))
  refine W.lssF (by omega) (W.condF ?_)
  by_cases c2 : t < 12
  · refine W.lssT c2 (W.condT ?_)
    refine W.buildL ft_ (W.swap1 (W.storeN (by omega) rfl nl_ (ins_one (v := ve) hone ⟨2, z2, 0, 0, lc, e, 0⟩) (W.rdCNP List.mem_cons_self nl_ (W.drop ?_))))
    exact q ⟨2, z2, 0, 0, lc, e, 0⟩ ve (N) (by unfold insOK; simp [hce, hm2]; try omega) (by simp; try omega) hN hve
  refine W.lssF (by omega) (W.condF ?_)
  by_cases c3 : t < 15
  · refine W.lssT c3 (W.condT (W.quo (W.rem (W.add (by omega) (by omega) ?_) (Int.ediv_nonneg hw0 (by decide)))))
    have hf0 := Int.emod_nonneg (w / 5) (show (4 : Int) ≠ 0 by decide)
    have hf1 := Int.emod_lt_of_pos (w / 5) (show (0 : Int) < 4 by decide)
    generalize w / 5 % 4 = f at hf0 hf1
    refine W.buildL ft_ (W.swap1 (W.storeN (by omega) rfl nl_ (ins_one (v := V.nils) rfl ⟨3, 1 + f, 0, 0, 0, [], 0⟩) (W.rdCNP List.mem_cons_self nl_ (W.drop ?_))))
    exact q ⟨3, 1 + f, 0, 0, 0, [], 0⟩ V.nils (N) (by unfold insOK; simp [hce]; try omega) (by simp; try omega) hN (Rd.nils (by decide))
  refine W.lssF (by omega) (W.condF ?_)
  by_cases c4 : t < 16
  · refine W.lssT c4 (W.condT (W.quo (W.rem (numL_c rfl (W.slitL rg_ rf_ fun b5 hb5 => ?_)) (Int.ediv_nonneg hw0 (by decide)))))
    have hf0 := Int.emod_nonneg (w / 17) (show (2 : Int) ≠ 0 by decide)
    have hf1 := Int.emod_lt_of_pos (w / 17) (show (0 : Int) < 2 by decide)
    generalize w / 17 % 2 = f at hf0 hf1
    have hce : checkE [(1, f)] = true := by simp [checkE, checkG, checkStep, mayC hf0 (show f < 3 by omega)]
    refine W.buildL ft_ (W.swapE (N := (b5, .cells [.int .i64 1, .int .i64 f] true 0) :: N) (M := [(b4, _)]) (L' := L) rfl (W.storeN (by omega) rfl nl_ (ins_one (v := (V.slice b5 0 1 2 (some 1))) rfl ⟨4, z1, z2, r, lc, [(1, f)], 0⟩) (W.rdCNP List.mem_cons_self nl_ (W.drop ?_))))
    exact q ⟨4, z1, z2, r, lc, [(1, f)], 0⟩ (V.slice b5 0 1 2 (some 1)) ((b5, .cells [.int .i64 1, .int .i64 f] true 0) :: N) (by unfold insOK; simp [hce, hm1, hm2, regL]; try omega) (by simp; try omega) (fun p hp => (List.mem_cons.1 hp).elim (fun h => by rw [h]; exact hb5) (hN p)) (Rd.of (by decide) List.mem_cons_self rfl (by rintro q hq; simp at hq; omega))
  refine W.lssF (by omega) (W.condF ?_)
  by_cases c5 : t < 18
  · refine W.lssT c5 (W.condT ?_)
    refine W.buildL ft_ (W.swap1 (W.storeN (by omega) rfl nl_ (ins_one (v := ve) hone ⟨5, 0, 0, r, 0, e, 0⟩) (W.rdCNP List.mem_cons_self nl_ (W.drop ?_))))
    exact q ⟨5, 0, 0, r, 0, e, 0⟩ ve (N) (by unfold insOK; simp [hce]; try omega) (by simp; try omega) hN hve
  refine W.lssF (by omega) (W.condF (W.quo (W.add (by omega) (by omega) (W.rem ?_ (Int.ediv_nonneg hw0 (by decide)) (by omega)))))
  have hf0 := Int.emod_nonneg (w / 19) (show left + 1 ≠ 0 by omega)
  have hf1 := Int.emod_lt_of_pos (w / 19) (show 0 < left + 1 by omega)
  generalize w / 19 % (left + 1) = f at hf0 hf1
  refine W.buildL ft_ (W.swap1 (W.storeN (by omega) rfl nl_ (ins_one (v := ve) hone ⟨6, 0, 0, 0, 0, e, f⟩) (W.rdCNP List.mem_cons_self nl_ (W.drop ?_))))
  exact q ⟨6, 0, 0, 0, 0, e, f⟩ ve (N) (by unfold insOK; simp [hce]; try omega) (by simp; try omega) hN hve
end
end Go.Proofs.Ythkipncmnefomaa.XCodeL
