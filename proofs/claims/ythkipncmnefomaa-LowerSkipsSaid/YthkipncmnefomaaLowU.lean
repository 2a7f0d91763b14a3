/- A text of the verified executor, of contracts, or of this law; joined and trimmed by a program of mine (wip/gen). -/
import Derived.Test.YthkipncmnefomaaLowSM
import Derived.Test.YthkipncmnefomaaXSep6
set_option linter.unusedVariables false
set_option linter.unusedSimpArgs false
set_option linter.unusedSectionVars false
set_option maxRecDepth 100000
set_option maxHeartbeats 4000000
namespace Go.Proofs.Ythkipncmnefomaa.XCodeL
open Go Go.X
noncomputable section
variable [Nu] {R : Type} {Q : Option R → Prop} {B : Nat} {A : Nat → Prop} {S : Nat} {L : Kn}
theorem place_c {K : V → H → Option R} {m : Nat} {vs : List V} {v n : Int} (hvs : vs = [.int .i64 v, .int .i64 n]) (hn : 0 < n) (hn2 : n ≤ 4611686018427387904) (q : W Q B A S L (K (.int .i64 (v % n)))) : W Q B A S (L) fun h => J.call (F (m + 1)) (.fn (.func 11) [] []) vs R h K := by
  subst hvs
  refine W.callE (d := d11) (c := c11) (by kernel_rfl) rfl (by rfl) ?_
  unfold c11
  have h1 := Int.emod_nonneg v (show n ≠ 0 by omega)
  have h2 := Int.emod_lt_of_pos v hn
  refine W.hd (W.hd (W.en (W.remT (by omega) ?_)))
  by_cases c : 0 ≤ v ∨ n ∣ v
  · have e : Int.tmod v n = v % n := by rw [Int.tmod_eq_emod, if_pos c]; omega
    rw [e]
    exact W.lssF (by omega) (W.join (W.condF q))
  · have e : Int.tmod v n = v % n - n := by rw [Int.tmod_eq_emod, if_neg c]; omega
    rw [e]
    refine W.lssT (by omega) (W.join (W.condT (W.add (by omega) (by omega) ?_)))
    rw [show v % n - n + n = v % n by omega]; exact q
theorem numL_c {K : V → H → Option R} {m : Nat} {vs : List V} {v : Int} (hvs : vs = [.int .i64 v])  (q : W Q B A S L (K (.agg [.int .i64 1, .int .i64 v]))) : W Q B A S (L) fun h => J.call (F (m + 1)) (.fn (.func 20) [] []) vs R h K := by
  subst hvs
  refine W.callE (d := d20) (c := c20) (by kernel_rfl) rfl (by rfl) ?_
  unfold c20
  refine W.hd (W.en (W.newT fun b hb => W.buildL (fun _ => rfl) (W.storeN (by omega) rfl nl_ rfl (W.rdCNP List.mem_cons_self nl_ ?_))))
  exact W.drop q
theorem regL_c {K : V → H → Option R} {m : Nat} {vs : List V} {v : Int} (hvs : vs = [.int .i64 v])  (q : W Q B A S L (K (.agg [.int .i64 2, .int .i64 v]))) : W Q B A S (L) fun h => J.call (F (m + 1)) (.fn (.func 37) [] []) vs R h K := by
  subst hvs
  refine W.callE (d := d37) (c := c37) (by kernel_rfl) rfl (by rfl) ?_
  unfold c37
  refine W.hd (W.en (W.newT fun b hb => W.buildL (fun _ => rfl) (W.storeN (by omega) rfl nl_ rfl (W.rdCNP List.mem_cons_self nl_ ?_))))
  exact W.drop q
theorem opL_c {K : V → H → Option R} {m : Nat} {vs : List V} {v : Int} (hvs : vs = [.int .i64 v])  (q : W Q B A S L (K (.agg [.int .i64 3, .int .i64 v]))) : W Q B A S (L) fun h => J.call (F (m + 1)) (.fn (.func 38) [] []) vs R h K := by
  subst hvs
  refine W.callE (d := d38) (c := c38) (by kernel_rfl) rfl (by rfl) ?_
  unfold c38
  refine W.hd (W.en (W.newT fun b hb => W.buildL (fun _ => rfl) (W.storeN (by omega) rfl nl_ rfl (W.rdCNP List.mem_cons_self nl_ ?_))))
  exact W.drop q
theorem mayC {c : Int} (h : 0 ≤ c) (h' : c < 3) : mayT 1 c = true := by unfold mayT; rw [if_pos rfl, decide_eq_true (by omega), decide_eq_true (by omega)]; rfl
theorem mayR {c : Int} (h : 0 ≤ c) (h' : c < 3) : mayT 2 c = true := by unfold mayT; rw [if_neg (by decide), if_pos rfl, decide_eq_true (by omega), decide_eq_true (by omega)]; rfl
theorem mayO1 : mayT 1 1 = true := rfl
theorem mayO3 : mayT 3 3 = true := rfl
theorem mayO4 : mayT 3 4 = true := rfl
theorem mayO5 : mayT 3 5 = true := rfl
theorem mayO6 : mayT 3 6 = true := rfl
theorem exprL_c {K : V → H → Option R} {m : Nat} {vs : List V} {v : Int} (hvs : vs = [.int .i64 v])  (q : ∀ e ve N, checkE e = true → e.length ≤ 3 → (∀ p ∈ N, B ≤ p.1) → Tk N ve e → W Q B A S (N ++ L) (K ve)) : W Q B A S (L) fun h => J.call (F (m + 2)) (.fn (.func 19) [] []) vs R h K := by
  subst hvs
  refine W.callE (d := d19) (c := c19) (by kernel_rfl) rfl (by rfl) ?_
  unfold c19
  refine W.hd (W.en (place_c rfl (by decide) (by decide) ?_))
  have h0 := Int.emod_nonneg v (show (1073741824 : Int) ≠ 0 by decide)
  have h1 := Int.emod_lt_of_pos v (show (0 : Int) < 1073741824 by decide)
  generalize v % 1073741824 = k at h0 h1
  refine W.quo (W.rem (regL_c rfl (W.quo (W.rem (numL_c rfl (W.newT fun b9 hb9 => W.newT fun b10 hb10 => ?_))))))
  refine W.front1 (W.storeN (by omega) rfl nl_ rfl (W.front1 (W.storeN (by omega) rfl nl_ rfl (W.rem ?_))))
  have ha0 := Int.emod_nonneg (k / 10) (show (3 : Int) ≠ 0 by decide)
  have ha1 := Int.emod_lt_of_pos (k / 10) (show (0 : Int) < 3 by decide)
  have hb0 := Int.emod_nonneg (k / 30) (show (3 : Int) ≠ 0 by decide)
  have hb1 := Int.emod_lt_of_pos (k / 30) (show (0 : Int) < 3 by decide)
  have hj : k % 10 = 0 ∨ k % 10 = 1 ∨ k % 10 = 2 ∨ k % 10 = 3 ∨ k % 10 = 4 ∨ k % 10 = 5 ∨ k % 10 = 6 ∨ k % 10 = 7 ∨ k % 10 = 8 ∨ k % 10 = 9 := by omega
  generalize k % 10 = j at hj
  generalize k / 10 % 3 = a at ha0 ha1
  generalize k / 30 % 3 = c at hb0 hb1
  rcases hj with rfl | rfl | rfl | rfl | rfl | rfl | rfl | rfl | rfl | rfl
  · (repeat' (first | with_reducible refine W.eqlT om_ ?_ | with_reducible refine W.eqlF om_ ?_ | with_reducible refine W.join ?_ | with_reducible refine W.condT ?_ | with_reducible refine W.condF ?_ | with_reducible refine W.loadNP mm_ nl_ ?_ | with_reducible refine W.slitL rg_ rf_ fun b3 hb3 => ?_ | fail))
    exact q [(1, c)] _ [(b3, _), (b10, _), (b9, _)] (by simp [checkE, checkG, checkStep, mayC hb0 hb1, mayR ha0 ha1, mayO1, mayO3, mayO4, mayO5, mayO6]) (by simp) (by intro p hp; simp only [List.mem_cons, List.not_mem_nil, or_false] at hp; rcases hp with rfl | rfl | rfl <;> (dsimp only; omega)) (Rd.of (by decide) List.mem_cons_self rfl (by rintro q hq; simp at hq; omega))
  · (repeat' (first | with_reducible refine W.eqlT om_ ?_ | with_reducible refine W.eqlF om_ ?_ | with_reducible refine W.join ?_ | with_reducible refine W.condT ?_ | with_reducible refine W.condF ?_ | with_reducible refine W.loadNP mm_ nl_ ?_ | with_reducible refine W.slitL rg_ rf_ fun b3 hb3 => ?_ | fail))
    exact q [(1, c)] _ [(b3, _), (b10, _), (b9, _)] (by simp [checkE, checkG, checkStep, mayC hb0 hb1, mayR ha0 ha1, mayO1, mayO3, mayO4, mayO5, mayO6]) (by simp) (by intro p hp; simp only [List.mem_cons, List.not_mem_nil, or_false] at hp; rcases hp with rfl | rfl | rfl <;> (dsimp only; omega)) (Rd.of (by decide) List.mem_cons_self rfl (by rintro q hq; simp at hq; omega))
  · (repeat' (first | with_reducible refine W.eqlT om_ ?_ | with_reducible refine W.eqlF om_ ?_ | with_reducible refine W.join ?_ | with_reducible refine W.condT ?_ | with_reducible refine W.condF ?_ | with_reducible refine W.loadNP mm_ nl_ ?_ | with_reducible refine W.slitL rg_ rf_ fun b3 hb3 => ?_ | fail))
    exact q [(1, c)] _ [(b3, _), (b10, _), (b9, _)] (by simp [checkE, checkG, checkStep, mayC hb0 hb1, mayR ha0 ha1, mayO1, mayO3, mayO4, mayO5, mayO6]) (by simp) (by intro p hp; simp only [List.mem_cons, List.not_mem_nil, or_false] at hp; rcases hp with rfl | rfl | rfl <;> (dsimp only; omega)) (Rd.of (by decide) List.mem_cons_self rfl (by rintro q hq; simp at hq; omega))
  · (repeat' (first | with_reducible refine W.eqlT om_ ?_ | with_reducible refine W.eqlF om_ ?_ | with_reducible refine W.join ?_ | with_reducible refine W.condT ?_ | with_reducible refine W.condF ?_ | with_reducible refine W.loadNP mm_ nl_ ?_ | with_reducible refine W.slitL rg_ rf_ fun b3 hb3 => ?_ | fail))
    exact q [(2, a)] _ [(b3, _), (b10, _), (b9, _)] (by simp [checkE, checkG, checkStep, mayC hb0 hb1, mayR ha0 ha1, mayO1, mayO3, mayO4, mayO5, mayO6]) (by simp) (by intro p hp; simp only [List.mem_cons, List.not_mem_nil, or_false] at hp; rcases hp with rfl | rfl | rfl <;> (dsimp only; omega)) (Rd.of (by decide) List.mem_cons_self rfl (by rintro q hq; simp at hq; omega))
  · (repeat' (first | with_reducible refine W.eqlT om_ ?_ | with_reducible refine W.eqlF om_ ?_ | with_reducible refine W.join ?_ | with_reducible refine W.condT ?_ | with_reducible refine W.condF ?_ | with_reducible refine W.loadNP mm_ nl_ ?_ | with_reducible refine W.slitL rg_ rf_ fun b3 hb3 => ?_ | fail))
    exact q [(2, a)] _ [(b3, _), (b10, _), (b9, _)] (by simp [checkE, checkG, checkStep, mayC hb0 hb1, mayR ha0 ha1, mayO1, mayO3, mayO4, mayO5, mayO6]) (by simp) (by intro p hp; simp only [List.mem_cons, List.not_mem_nil, or_false] at hp; rcases hp with rfl | rfl | rfl <;> (dsimp only; omega)) (Rd.of (by decide) List.mem_cons_self rfl (by rintro q hq; simp at hq; omega))
  · (repeat' (first | with_reducible refine W.eqlT om_ ?_ | with_reducible refine W.eqlF om_ ?_ | with_reducible refine W.join ?_ | with_reducible refine W.condT ?_ | with_reducible refine W.condF ?_ | with_reducible refine W.loadNP mm_ nl_ ?_ | with_reducible refine W.slitL rg_ rf_ fun b3 hb3 => ?_ | fail))
    exact q [(2, a)] _ [(b3, _), (b10, _), (b9, _)] (by simp [checkE, checkG, checkStep, mayC hb0 hb1, mayR ha0 ha1, mayO1, mayO3, mayO4, mayO5, mayO6]) (by simp) (by intro p hp; simp only [List.mem_cons, List.not_mem_nil, or_false] at hp; rcases hp with rfl | rfl | rfl <;> (dsimp only; omega)) (Rd.of (by decide) List.mem_cons_self rfl (by rintro q hq; simp at hq; omega))
  · (repeat' (first | with_reducible refine W.eqlT om_ ?_ | with_reducible refine W.eqlF om_ ?_ | with_reducible refine W.join ?_ | with_reducible refine W.condT ?_ | with_reducible refine W.condF ?_ | with_reducible refine W.loadNP mm_ nl_ ?_ | with_reducible refine W.slitL rg_ rf_ fun b3 hb3 => ?_ | fail))
    refine W.nextOf fun n0 hn0 hids => ?_
    refine W.logged fun B0 hB0 hS0 K0 hK00 hK10 => ?_
    refine W.loadNP mm_ nl_ (hK00 _ fun lgs0 hi0 ro0 hh0 => ?_)
    dsimp only
    refine W.logged fun B1 hB1 hS1 K1 hK01 hK11 => ?_
    refine W.loadNP mm_ nl_ (hK01 _ fun lgs1 hi1 ro1 hh1 => ?_)
    dsimp only
    refine W.logged fun B2 hB2 hS2 K2 hK02 hK12 => opL_c rfl (hK02 _ fun lgs2 hi2 ro2 hh2 => ?_)
    dsimp only
    refine W.logged fun B3 hB3 hS3 K3 hK03 hK13 => W.slitL (fun _ => rfl) rfl fun b3 hb3 => hK13 [(b3, _)] _ (by intro p hp; simp only [List.mem_singleton] at hp; rw [hp]; exact hb3) fun lgs3 hi3 ro3 hN3 hh3 => ?_
    dsimp only
    refine W.okP S (by omega) (St.psC rf_ rf_ (W.clashRO ro0 ro1 (n := n0) (by omega) (by omega) hids (by omega)) (St.psC rf_ rf_ (W.clashRO ro0 ro2 (n := n0) (by omega) (by omega) hids (by omega)) (St.psC rf_ rf_ (W.clashRO ro1 ro2 (n := n0) (by omega) (by omega) hids (by omega)) St.ps0))) ?_
    exact q [(2, a), (2, a), (3, 4)] _ [(b3, _), (b10, _), (b9, _)] (by simp [checkE, checkG, checkStep, mayC hb0 hb1, mayR ha0 ha1, mayO1, mayO3, mayO4, mayO5, mayO6]) (by simp) (by intro p hp; simp only [List.mem_cons, List.not_mem_nil, or_false] at hp; rcases hp with rfl | rfl | rfl <;> (dsimp only; omega)) (Rd.of (by decide) List.mem_cons_self rfl (by rintro q hq; simp at hq; omega))
  · (repeat' (first | with_reducible refine W.eqlT om_ ?_ | with_reducible refine W.eqlF om_ ?_ | with_reducible refine W.join ?_ | with_reducible refine W.condT ?_ | with_reducible refine W.condF ?_ | with_reducible refine W.loadNP mm_ nl_ ?_ | with_reducible refine W.slitL rg_ rf_ fun b3 hb3 => ?_ | fail))
    refine W.nextOf fun n0 hn0 hids => ?_
    refine W.logged fun B0 hB0 hS0 K0 hK00 hK10 => ?_
    refine W.loadNP mm_ nl_ (hK00 _ fun lgs0 hi0 ro0 hh0 => ?_)
    dsimp only
    refine W.logged fun B1 hB1 hS1 K1 hK01 hK11 => ?_
    refine W.loadNP mm_ nl_ (hK01 _ fun lgs1 hi1 ro1 hh1 => ?_)
    dsimp only
    refine W.logged fun B2 hB2 hS2 K2 hK02 hK12 => opL_c rfl (hK02 _ fun lgs2 hi2 ro2 hh2 => ?_)
    dsimp only
    refine W.logged fun B3 hB3 hS3 K3 hK03 hK13 => W.slitL (fun _ => rfl) rfl fun b3 hb3 => hK13 [(b3, _)] _ (by intro p hp; simp only [List.mem_singleton] at hp; rw [hp]; exact hb3) fun lgs3 hi3 ro3 hN3 hh3 => ?_
    dsimp only
    refine W.okP S (by omega) (St.psC rf_ rf_ (W.clashRO ro0 ro1 (n := n0) (by omega) (by omega) hids (by omega)) (St.psC rf_ rf_ (W.clashRO ro0 ro2 (n := n0) (by omega) (by omega) hids (by omega)) (St.psC rf_ rf_ (W.clashRO ro1 ro2 (n := n0) (by omega) (by omega) hids (by omega)) St.ps0))) ?_
    exact q [(2, a), (1, c), (3, 5)] _ [(b3, _), (b10, _), (b9, _)] (by simp [checkE, checkG, checkStep, mayC hb0 hb1, mayR ha0 ha1, mayO1, mayO3, mayO4, mayO5, mayO6]) (by simp) (by intro p hp; simp only [List.mem_cons, List.not_mem_nil, or_false] at hp; rcases hp with rfl | rfl | rfl <;> (dsimp only; omega)) (Rd.of (by decide) List.mem_cons_self rfl (by rintro q hq; simp at hq; omega))
  · (repeat' (first | with_reducible refine W.eqlT om_ ?_ | with_reducible refine W.eqlF om_ ?_ | with_reducible refine W.join ?_ | with_reducible refine W.condT ?_ | with_reducible refine W.condF ?_ | with_reducible refine W.loadNP mm_ nl_ ?_ | with_reducible refine W.slitL rg_ rf_ fun b3 hb3 => ?_ | fail))
    refine W.nextOf fun n0 hn0 hids => ?_
    refine W.logged fun B0 hB0 hS0 K0 hK00 hK10 => ?_
    refine W.loadNP mm_ nl_ (hK00 _ fun lgs0 hi0 ro0 hh0 => ?_)
    dsimp only
    refine W.logged fun B1 hB1 hS1 K1 hK01 hK11 => ?_
    refine W.loadNP mm_ nl_ (hK01 _ fun lgs1 hi1 ro1 hh1 => ?_)
    dsimp only
    refine W.logged fun B2 hB2 hS2 K2 hK02 hK12 => opL_c rfl (hK02 _ fun lgs2 hi2 ro2 hh2 => ?_)
    dsimp only
    refine W.logged fun B3 hB3 hS3 K3 hK03 hK13 => W.slitL (fun _ => rfl) rfl fun b3 hb3 => hK13 [(b3, _)] _ (by intro p hp; simp only [List.mem_singleton] at hp; rw [hp]; exact hb3) fun lgs3 hi3 ro3 hN3 hh3 => ?_
    dsimp only
    refine W.okP S (by omega) (St.psC rf_ rf_ (W.clashRO ro0 ro1 (n := n0) (by omega) (by omega) hids (by omega)) (St.psC rf_ rf_ (W.clashRO ro0 ro2 (n := n0) (by omega) (by omega) hids (by omega)) (St.psC rf_ rf_ (W.clashRO ro1 ro2 (n := n0) (by omega) (by omega) hids (by omega)) St.ps0))) ?_
    exact q [(2, a), (1, c), (3, 6)] _ [(b3, _), (b10, _), (b9, _)] (by simp [checkE, checkG, checkStep, mayC hb0 hb1, mayR ha0 ha1, mayO1, mayO3, mayO4, mayO5, mayO6]) (by simp) (by intro p hp; simp only [List.mem_cons, List.not_mem_nil, or_false] at hp; rcases hp with rfl | rfl | rfl <;> (dsimp only; omega)) (Rd.of (by decide) List.mem_cons_self rfl (by rintro q hq; simp at hq; omega))
  · (repeat' (first | with_reducible refine W.eqlT om_ ?_ | with_reducible refine W.eqlF om_ ?_ | with_reducible refine W.join ?_ | with_reducible refine W.condT ?_ | with_reducible refine W.condF ?_ | with_reducible refine W.loadNP mm_ nl_ ?_ | with_reducible refine W.slitL rg_ rf_ fun b3 hb3 => ?_ | fail))
    refine W.nextOf fun n0 hn0 hids => ?_
    refine W.logged fun B0 hB0 hS0 K0 hK00 hK10 => ?_
    refine W.loadNP mm_ nl_ (hK00 _ fun lgs0 hi0 ro0 hh0 => ?_)
    dsimp only
    refine W.logged fun B1 hB1 hS1 K1 hK01 hK11 => ?_
    refine numL_c rfl (hK01 _ fun lgs1 hi1 ro1 hh1 => ?_)
    dsimp only
    refine W.logged fun B2 hB2 hS2 K2 hK02 hK12 => opL_c rfl (hK02 _ fun lgs2 hi2 ro2 hh2 => ?_)
    dsimp only
    refine W.logged fun B3 hB3 hS3 K3 hK03 hK13 => W.slitL (fun _ => rfl) rfl fun b3 hb3 => hK13 [(b3, _)] _ (by intro p hp; simp only [List.mem_singleton] at hp; rw [hp]; exact hb3) fun lgs3 hi3 ro3 hN3 hh3 => ?_
    dsimp only
    refine W.okP S (by omega) (St.psC rf_ rf_ (W.clashRO ro0 ro1 (n := n0) (by omega) (by omega) hids (by omega)) (St.psC rf_ rf_ (W.clashRO ro0 ro2 (n := n0) (by omega) (by omega) hids (by omega)) St.ps0)) ?_
    exact q [(1, c), (1, 1), (3, 3)] _ [(b3, _), (b10, _), (b9, _)] (by simp [checkE, checkG, checkStep, mayC hb0 hb1, mayR ha0 ha1, mayO1, mayO3, mayO4, mayO5, mayO6]) (by simp) (by intro p hp; simp only [List.mem_cons, List.not_mem_nil, or_false] at hp; rcases hp with rfl | rfl | rfl <;> (dsimp only; omega)) (Rd.of (by decide) List.mem_cons_self rfl (by rintro q hq; simp at hq; omega))
end
end Go.Proofs.Ythkipncmnefomaa.XCodeL
