/- A text of the verified executor, of contracts, or of this law; joined and trimmed by a program of mine (wip/gen). -/
import Derived.Test.YthkipncmnefomaaLowW
set_option linter.unusedVariables false
set_option linter.unusedSimpArgs false
set_option linter.unusedSectionVars false
set_option maxRecDepth 100000
set_option maxHeartbeats 4000000
namespace Go.Proofs.Ythkipncmnefomaa.XCodeL
open Go Go.X
noncomputable section
variable [Nu] {R : Type} {Q : Option R → Prop} {B : Nat} {A : Nat → Prop} {S : Nat} {L : Kn}
noncomputable def skRest : CallF → V → V → Kal V := fun F x4 x5 R h K => J.lenL x5 R h fun v13 h => J.bin F .add v13 (.int .i64 1) R h fun v14 h => J.call F (.fn (.func 11) [] []) [x4, v14] R h fun v15 h => J.build [(.int .i64 0), (.int .i64 0)] [(0, 1, (.int .i64 1)), (1, 1, (.int .i64 1))] R h fun v16 h => J.slit [(.int .i64 0), (.int .i64 0)] 2 1 [(0, 2, v16)] R h fun v17 h => J.build [(.int .i64 0), (.int .i64 0), (.int .i64 0), (.int .i64 0), (.int .i64 0), .nils, (.int .i64 0)] [(0, 1, (.int .i64 6)), (6, 1, v15), (5, 1, v17)] R h fun v18 h => J.slit [(.int .i64 0), (.int .i64 0), (.int .i64 0), (.int .i64 0), (.int .i64 0), .nils, (.int .i64 0)] 7 1 [(0, 7, v18)] R h fun v19 h => J.appendQ 39 7 72 v19 x5 R h fun v20 h => J.slit [.nils] 1 1 [(0, 1, v20)] R h fun v21 h => J.build [(.int .i64 0), .nils] [(0, 1, (.int .i64 2)), (1, 1, v21)] R h fun v22 h => J.call F (.fn (.func 7) [] []) [v22] R h fun v23 h => J.ext 0 v23 R h fun v24 h => J.ext 1 v23 R h fun v25 h => J.newT 30 [(.int .i64 0), .nils] R h fun v26 h => J.storeN 2 v26 v24 R h fun v27 h => nextOf R h fun n28 h => logged (J.cutL 7 none (some v15) x5) R h fun r29 h => logged (J.cutL 7 (some v15) none x5) R h fun r30 h => logged (J.slit [.nils, .nils] 1 2 [(0, 1, r29.1), (1, 1, r30.1)]) R h fun r31 h => J.build [(.int .i64 0), .nils] [(0, 1, (.int .i64 2)), (1, 1, r31.1)] R h fun v32 h => logged (J.call F (.fn (.func 7) [] []) [v32]) R h fun r33 h => J.ext 0 r33.1 R h fun v34 h => J.ext 1 r33.1 R h fun v35 h => logged (J.newT 30 [(.int .i64 0), .nils]) R h fun r36 h => logged (J.storeN 2 r36.1 v34) R h fun r37 h => okP [⟨[], n28, n28⟩, ⟨[], n28, n28⟩, ⟨r29.2.1, n28, r29.2.2⟩, ⟨[], r29.2.2, r29.2.2⟩, ⟨[], r29.2.2, r29.2.2⟩, ⟨r30.2.1, r29.2.2, r30.2.2⟩, ⟨r31.2.1, r30.2.2, r31.2.2⟩, ⟨[], r31.2.2, r31.2.2⟩, ⟨r33.2.1, r31.2.2, r33.2.2⟩, ⟨[], r33.2.2, r33.2.2⟩, ⟨[], r33.2.2, r33.2.2⟩, ⟨[], r33.2.2, r33.2.2⟩, ⟨r36.2.1, r33.2.2, r36.2.2⟩, ⟨r37.2.1, r36.2.2, r37.2.2⟩, ⟨[], r37.2.2, r37.2.2⟩] [(2, 5), (2, 12), (5, 12), (6, 12), (8, 12)] (nextOf R h fun n38 h => J.bin F .neq v25 (.int .i64 0) R h fun v39 h => runK (whenK v39 false (J.pure v35)) R h fun v40 h => runK (whenK v39 false (J.bin F .neq v40 (.int .i64 0))) R h fun v41 h => J.pick v39 (.bool true) v41 R h fun v42 h => runK (whenK v42 false (J.fld 1 v26)) R h fun v43 h => logged (runK (whenK v42 false (J.load1 v43))) R h fun r44 h => runK (whenK v42 false (J.lenL r44.1)) R h fun v45 h => runK (whenK v42 false (J.bin F .neq v45 (.int .i64 1))) R h fun v46 h => J.pick v42 (.bool true) v46 R h fun v47 h => runK (whenK v47 false (J.fld 1 r36.1)) R h fun v48 h => logged (runK (whenK v47 false (J.load1 v48))) R h fun r49 h => runK (whenK v47 false (J.lenL r49.1)) R h fun v50 h => runK (whenK v47 false (J.bin F .neq v50 (.int .i64 2))) R h fun v51 h => J.pick v47 (.bool true) v51 R h fun v52 h => runK (whenK v52 false (J.fld 1 v26)) R h fun v53 h => logged (runK (whenK v52 false (J.load1 v53))) R h fun r54 h => runK (whenK v52 false (J.idxL 1 r54.1 (.int .i64 0))) R h fun v55 h => logged (runK (whenK v52 false (J.load1 v55))) R h fun r56 h => runK (whenK v52 false (J.lenL r56.1)) R h fun v57 h => runK (whenK v52 false (J.fld 1 r36.1)) R h fun v58 h => logged (runK (whenK v52 false (J.load1 v58))) R h fun r59 h => runK (whenK v52 false (J.idxL 1 r59.1 (.int .i64 0))) R h fun v60 h => logged (runK (whenK v52 false (J.load1 v60))) R h fun r61 h => runK (whenK v52 false (J.lenL r61.1)) R h fun v62 h => runK (whenK v52 false (J.bin F .add (.int .i64 1) v62)) R h fun v63 h => runK (whenK v52 false (J.fld 1 r36.1)) R h fun v64 h => logged (runK (whenK v52 false (J.load1 v64))) R h fun r65 h => runK (whenK v52 false (J.idxL 1 r65.1 (.int .i64 1))) R h fun v66 h => logged (runK (whenK v52 false (J.load1 v66))) R h fun r67 h => runK (whenK v52 false (J.lenL r67.1)) R h fun v68 h => runK (whenK v52 false (J.bin F .add v63 v68)) R h fun v69 h => runK (whenK v52 false (J.bin F .neq v57 v69)) R h fun v70 h => J.pick v52 (.bool true) v70 R h fun v71 h => okP [⟨[], n38, n38⟩, ⟨[], n38, n38⟩, ⟨[], n38, n38⟩, ⟨[], n38, n38⟩, ⟨[], n38, n38⟩, ⟨[], n38, n38⟩, ⟨[], n38, n38⟩, ⟨[], n38, n38⟩, ⟨r44.2.1, n38, r44.2.2⟩, ⟨[], r44.2.2, r44.2.2⟩, ⟨[], r44.2.2, r44.2.2⟩, ⟨[], r44.2.2, r44.2.2⟩, ⟨[], r44.2.2, r44.2.2⟩, ⟨[], r44.2.2, r44.2.2⟩, ⟨r49.2.1, r44.2.2, r49.2.2⟩, ⟨[], r49.2.2, r49.2.2⟩, ⟨[], r49.2.2, r49.2.2⟩, ⟨[], r49.2.2, r49.2.2⟩, ⟨[], r49.2.2, r49.2.2⟩, ⟨[], r49.2.2, r49.2.2⟩, ⟨r54.2.1, r49.2.2, r54.2.2⟩, ⟨[], r54.2.2, r54.2.2⟩, ⟨r56.2.1, r54.2.2, r56.2.2⟩, ⟨[], r56.2.2, r56.2.2⟩, ⟨[], r56.2.2, r56.2.2⟩, ⟨r59.2.1, r56.2.2, r59.2.2⟩, ⟨[], r59.2.2, r59.2.2⟩, ⟨r61.2.1, r59.2.2, r61.2.2⟩, ⟨[], r61.2.2, r61.2.2⟩, ⟨[], r61.2.2, r61.2.2⟩, ⟨[], r61.2.2, r61.2.2⟩, ⟨r65.2.1, r61.2.2, r65.2.2⟩, ⟨[], r65.2.2, r65.2.2⟩, ⟨r67.2.1, r65.2.2, r67.2.2⟩, ⟨[], r67.2.2, r67.2.2⟩, ⟨[], r67.2.2, r67.2.2⟩, ⟨[], r67.2.2, r67.2.2⟩, ⟨[], r67.2.2, r67.2.2⟩] [(20, 25), (22, 25), (20, 27), (22, 27), (20, 31), (22, 31), (25, 31), (27, 31), (20, 33), (22, 33), (25, 33), (27, 33)] (condK v71 (nextOf R h fun n72 h => J.fld 1 v26 R h fun v73 h => logged (J.load1 v73) R h fun r74 h => J.idxL 1 r74.1 (.int .i64 0) R h fun v75 h => logged (J.load1 v75) R h fun r76 h => J.idxL 5 r76.1 (.int .i64 0) R h fun v77 h => J.fld 0 v77 R h fun v78 h => logged (J.load1 v78) R h fun r79 h => J.bin F .eql r79.1 (.int .i64 9) R h fun v80 h => runK (whenK v80 true (J.fld 1 v26)) R h fun v81 h => logged (runK (whenK v80 true (J.load1 v81))) R h fun r82 h => runK (whenK v80 true (J.idxL 1 r82.1 (.int .i64 0))) R h fun v83 h => logged (runK (whenK v80 true (J.load1 v83))) R h fun r84 h => runK (whenK v80 true (J.idxL 5 r84.1 (.int .i64 0))) R h fun v85 h => runK (whenK v80 true (J.fld 4 v85)) R h fun v86 h => logged (runK (whenK v80 true (J.load1 v86))) R h fun r87 h => runK (whenK v80 true (J.fld 1 r36.1)) R h fun v88 h => logged (runK (whenK v80 true (J.load1 v88))) R h fun r89 h => runK (whenK v80 true (J.idxL 1 r89.1 (.int .i64 0))) R h fun v90 h => logged (runK (whenK v80 true (J.load1 v90))) R h fun r91 h => runK (whenK v80 true (J.lenL r91.1)) R h fun v92 h => runK (whenK v80 true (J.bin F .eql r87.1 v92)) R h fun v93 h => J.pick v80 v93 (.bool false) R h fun v94 h => logged (runK (whenK v94 true (J.call F (.fn (.func 6) [] []) []))) R h fun r95 h => J.pick v94 r95.1 (.bool false) R h fun v96 h => okP [⟨[], n72, n72⟩, ⟨r74.2.1, n72, r74.2.2⟩, ⟨[], r74.2.2, r74.2.2⟩, ⟨r76.2.1, r74.2.2, r76.2.2⟩, ⟨[], r76.2.2, r76.2.2⟩, ⟨[], r76.2.2, r76.2.2⟩, ⟨r79.2.1, r76.2.2, r79.2.2⟩, ⟨[], r79.2.2, r79.2.2⟩, ⟨[], r79.2.2, r79.2.2⟩, ⟨[], r79.2.2, r79.2.2⟩, ⟨r82.2.1, r79.2.2, r82.2.2⟩, ⟨[], r82.2.2, r82.2.2⟩, ⟨r84.2.1, r82.2.2, r84.2.2⟩, ⟨[], r84.2.2, r84.2.2⟩, ⟨[], r84.2.2, r84.2.2⟩, ⟨r87.2.1, r84.2.2, r87.2.2⟩, ⟨[], r87.2.2, r87.2.2⟩, ⟨r89.2.1, r87.2.2, r89.2.2⟩, ⟨[], r89.2.2, r89.2.2⟩, ⟨r91.2.1, r89.2.2, r91.2.2⟩, ⟨[], r91.2.2, r91.2.2⟩, ⟨[], r91.2.2, r91.2.2⟩, ⟨[], r91.2.2, r91.2.2⟩, ⟨[], r91.2.2, r91.2.2⟩, ⟨r95.2.1, r91.2.2, r95.2.2⟩, ⟨[], r95.2.2, r95.2.2⟩, ⟨[], r95.2.2, r95.2.2⟩] [(10, 17), (12, 17), (15, 17), (10, 19), (12, 19), (15, 19)] (K v96 h)) (K (.bool false) h)))
def fenceI : Ins := ⟨3, 4, 0, 0, 0, [], 0⟩
theorem InsCells.len {L : Kn} : ∀ {is : List Ins} {l : List V}, InsCells L is l → l.length = is.length * 7
  | [], l, h => by rw [show l = [] from h]; rfl
  | x :: is, l, h => by obtain ⟨v, r, h1, _, h3⟩ := h; rw [h1, List.length_append, InsCells.len h3, List.length_cons]; simp; omega
theorem InsCells.one {L : Kn} : ∀ {is : List Ins} {l : List V}, InsCells L is l → allOne l = true
  | [], l, h => by rw [show l = [] from h]; rfl
  | x :: is, l, h => by obtain ⟨v, r, h1, h2, h3⟩ := h; rw [h1, allOne_app, InsCells.one h3, show allOne (insC x v) = true from ins_one h2.one x]; rfl
theorem InsCells.app {L : Kn} : ∀ {is js : List Ins} {l l' : List V}, InsCells L is l → InsCells L js l' → InsCells L (is ++ js) (l ++ l')
  | [], js, l, l', h, h' => by rw [show l = [] from h]; exact h'
  | x :: is, js, l, l', h, h' => by obtain ⟨v, r, h1, h2, h3⟩ := h; exact ⟨v, r ++ l', by rw [h1, List.append_assoc], h2, InsCells.app h3 h'⟩
theorem InsCells.take {L : Kn} : ∀ {is : List Ins} {l : List V} (k : Nat), InsCells L is l → InsCells L (is.take k) (l.take (k * 7))
  | [], l, k, h => by rw [show l = [] from h]; simp; rfl
  | x :: is, l, 0, h => by simp; rfl
  | x :: is, l, k + 1, h => by
    obtain ⟨v, r, h1, h2, h3⟩ := h
    have := InsCells.take k h3
    refine ⟨v, r.take (k * 7), ?_, h2, this⟩
    rw [h1, List.take_append, List.take_of_length_le (by simp; omega)]
    congr 2
    simp; omega
theorem InsCells.drop {L : Kn} : ∀ {is : List Ins} {l : List V} (k : Nat), InsCells L is l → InsCells L (is.drop k) (l.drop (k * 7))
  | [], l, k, h => by rw [show l = [] from h]; simp; rfl
  | x :: is, l, 0, h => by simpa using h
  | x :: is, l, k + 1, h => by
    obtain ⟨v, r, h1, h2, h3⟩ := h
    have := InsCells.drop k h3
    have e0 : List.drop ((k + 1) * 7) (insC x v) = [] := List.drop_of_length_le (by simp; omega)
    have e : (k + 1) * 7 - (insC x v).length = k * 7 := by simp; omega
    rw [h1, List.drop_append, e0, List.nil_append, List.drop_succ_cons, e]
    exact this
theorem skRest_w {K : V → H → Option R} {m : Nat} {n : Int} {x5 : V} {t : List Ins} {tc : List V} {po M : Kn} (hown : Own B 7 39 x5 tc po) (hcells : InsCells (M ++ L) t tc) (hpl : Plain t) (hl : t.length ≤ 11) (q : W Q B A S L (K (.bool true))) : W Q B A S (po ++ (M ++ L)) fun h => skRest (F (m + 9)) (.int .i64 n) x5 R h K := by
  unfold skRest
  have htc : tc.length = t.length * 7 := hcells.len
  have hR : Rd (po ++ (M ++ L)) 7 x5 t.length tc := hown.rd (M ++ L) t.length (by decide) htc
  have hcX : InsCells (po ++ (M ++ L)) t tc := hcells.sub (by grind)
  have hs : List.Sublist L (po ++ (M ++ L)) := (List.sublist_append_right M L).trans (List.sublist_append_right po _)
  generalize po ++ (M ++ L) = X at hR hcX hs
  clear hown hcells
  refine W.lenM hR (W.add (by omega) (by omega) (place_c rfl (by omega) (by omega) ?_))
  have hm0 := Int.emod_nonneg n (show ((t.length : Int) + 1) ≠ 0 by omega)
  have hm1 := Int.emod_lt_of_pos n (show 0 < (t.length : Int) + 1 by omega)
  generalize n % ((t.length : Int) + 1) = k0 at hm0 hm1
  obtain ⟨k, rfl⟩ : ∃ k : Nat, k0 = k := ⟨k0.toNat, by omega⟩
  have hkl : k ≤ t.length := by omega
  refine W.buildL rg_ (W.slitL rg_ rf_ fun b17 hb17 => W.buildL rg_ (W.slitL rg_ rf_ fun b19 hb19 => ?_))
  have hoS : Own B 7 39 (V.slice b19 0 1 7 (some 1)) (insC (skipI k) (.slice b17 0 1 2 (some 1))) [(b19, .cells (insC (skipI k) (.slice b17 0 1 2 (some 1))) true 0)] := .inr ⟨b19, 1, some 1, 0, rfl, .inr rfl, rfl, Nat.le_refl 1, rfl, hb19⟩
  refine W.append (p := [(b19, .cells (insC (skipI k) (.slice b17 0 1 2 (some 1))) true 0)]) (L := (b17, .cells [.int .i64 1, .int .i64 1] true 0) :: X) (n := 1) hoS hR.cons rfl (by rw [allOne_app, hcX.one]; rfl) (by omega) fun x' p' ho => ?_
  have hIall : InsR (p' ++ (b17, .cells [.int .i64 1, .int .i64 1] true 0) :: X) x' (skipI k :: t) := ⟨_, ho.rd _ (t.length + 1) (by decide) (by rw [List.length_append, htc]; simp; omega), ⟨.slice b17 0 1 2 (some 1), tc, rfl, Rd.of (by decide) (List.mem_append_right _ List.mem_cons_self) rfl (by rintro q hq; simp at hq; omega), hcX.sub (by grind)⟩⟩
  have hXY : ∀ q ∈ X, q ∈ p' ++ (b17, .cells [.int .i64 1, .int .i64 1] true 0) :: X := by grind
  have hs : List.Sublist L (p' ++ (b17, .cells [.int .i64 1, .int .i64 1] true 0) :: X) := (hs.trans (List.sublist_cons_self _ X)).trans (List.sublist_append_right _ _)
  generalize p' ++ (b17, Blk.cells [.int .i64 1, .int .i64 1] true 0) :: X = Y at hIall hXY hs
  have hx1 : x'.one = true := by obtain ⟨_, h1, _⟩ := hIall; exact h1.one
  have hcx := one_cells hx1
  refine W.slitL ft_ (allOne_c hx1 rfl) fun b21 hb21 => W.buildL rg_ ?_
  have hT : ThrR ((b21, .cells [x'] true 0) :: Y) (.slice b21 0 1 1 (some 1)) [skipI k :: t] := ⟨[x'], Rd.of (by decide) List.mem_cons_self rfl (by rintro q hq; simp at hq; omega), ⟨x', [], rfl, hIall.sub (by grind), rfl⟩⟩
  refine lowerA_c rfl hT (few_all hpl hl) (fun hck w N hN hPT => ?_) (fun hck => absurd (check_all hpl hl hkl) hck)
  refine W.ext _ rfl (W.ext _ rfl (W.newT fun b26 hb26 => W.storeN (by omega) (by with_unfolding_all rfl) (by decide) (allOne_c rfl (allOne_c hPT.one rfl)) ?_))
  have hm26 : (b26, Blk.cells [.int .i64 2, w] true 30) ∈ (b26, Blk.cells [.int .i64 2, w] true 30) :: (N ++ (b21, .cells [x'] true 0) :: Y) := List.mem_cons_self
  have hPZ : PThr ((b26, Blk.cells [.int .i64 2, w] true 30) :: (N ++ (b21, .cells [x'] true 0) :: Y)) w [lowT (skipI k :: t)] := hPT.sub (by grind)
  have hXZ : ∀ q ∈ X, q ∈ (b26, Blk.cells [.int .i64 2, w] true 30) :: (N ++ (b21, .cells [x'] true 0) :: Y) := by grind
  have hs : List.Sublist L ((b26, Blk.cells [.int .i64 2, w] true 30) :: (N ++ (b21, .cells [x'] true 0) :: Y)) := ((hs.trans (List.sublist_cons_self _ _)).trans (List.sublist_append_right N _)).trans (List.sublist_cons_self _ _)
  show W Q B A S ((b26, Blk.cells [.int .i64 2, w] true 30) :: (N ++ (b21, .cells [x'] true 0) :: Y)) _
  generalize (b26, Blk.cells [.int .i64 2, w] true 30) :: (N ++ (b21, Blk.cells [x'] true 0) :: Y) = Z at hm26 hPZ hXZ hs
  clear hPT hT hIall hXY
  refine W.nextOf fun n0 hn0 hids => ?_
  have hRZ := hR.sub hXZ
  have hcZ := hcX.sub hXZ
  refine W.lcutR hRZ (.inl ⟨rfl, rfl⟩) (.inr rfl) (Nat.zero_le _) hkl fun w1 B1 hi1 hw1 hS1 ro1 hh1 => ?_
  dsimp only
  refine W.lcutR hRZ (.inr rfl) (.inl ⟨rfl, rfl⟩) hkl (Nat.le_refl _) fun w2 B2 hi2 hw2 hS2 ro2 hh2 => ?_
  dsimp only
  have hI1 : InsR Z w1 (t.take k) := ⟨_, by rw [List.length_take, Nat.min_eq_left hkl]; simpa using hw1, hcZ.take k⟩
  have hI2 : InsR Z w2 (t.drop k) := ⟨_, by
    rw [List.length_drop]
    have e : ((tc.drop (k * 7)).take ((t.length - k) * 7)) = tc.drop (k * 7) := List.take_of_length_le (by rw [List.length_drop]; omega)
    rw [e] at hw2; exact hw2, hcZ.drop k⟩
  have hcw1 := one_cells hw1.one
  have hcw2 := one_cells hw2.one
  refine W.logged fun B3 hB3 hS3 K3 hK03 hK13 => W.slitL ft_ (allOne_c hw1.one (allOne_c hw2.one rfl)) fun b31 hb31 => hK13 [(b31, _)] _ (by intro p hp; rw [List.mem_singleton.1 hp]; assumption) fun lg3 hi3 ro3 hN3 hh3 => ?_
  dsimp only
  refine W.buildL rg_ ?_
  have hT2 : ThrR ([(b31, .cells [w1, w2] true 0)] ++ Z) (.slice b31 0 2 1 (some 2)) [t.take k, t.drop k] := ⟨[w1, w2], Rd.of (by decide) List.mem_cons_self rfl (by rintro q hq; simp at hq; omega), ⟨w1, [w2], rfl, hI1.sub (by grind), ⟨w2, [], rfl, hI2.sub (by grind), rfl⟩⟩⟩
  refine W.logged fun B4 hB4 hS4 K4 hK04 hK14 => lowerA_c rfl hT2 (few_two hpl hl) (fun hck u N' hN' hPU => hK14 N' _ hN' fun lg4 hi4 ro4 hN4 hh4 => ?_) (fun hck => absurd (check_two hpl hl) hck)
  dsimp only
  refine W.ext _ rfl (W.ext _ rfl (W.lnewT fun b36 hi5 hb36 hS5 hh5 => ?_))
  dsimp only
  refine W.lstoreN (by omega) (by with_unfolding_all rfl) (by decide) (allOne_c rfl (allOne_c hPU.one rfl)) fun lg6 hi6 hh6 tn6 => ?_
  dsimp only
  refine W.okP S (by omega) (St.psC rf_ rf_ W.clashE (St.psC rf_ rf_ W.clashE (St.psC rf_ rf_ W.clashE (St.psC rf_ rf_ W.clashE (St.psC rf_ rf_ W.clashE St.ps0))))) ?_
  show W Q B A S ((b36, Blk.cells [.int .i64 2, u] true 30) :: (N' ++ ([(b31, .cells [w1, w2] true 0)] ++ Z))) _
  have hm36 : (b36, Blk.cells [.int .i64 2, u] true 30) ∈ (b36, Blk.cells [.int .i64 2, u] true 30) :: (N' ++ ([(b31, .cells [w1, w2] true 0)] ++ Z)) := List.mem_cons_self
  have hPZ' : PThr ((b36, Blk.cells [.int .i64 2, u] true 30) :: (N' ++ ([(b31, .cells [w1, w2] true 0)] ++ Z))) w [lowT (skipI k :: t)] := hPZ.sub (by grind)
  have hPU' : PThr ((b36, Blk.cells [.int .i64 2, u] true 30) :: (N' ++ ([(b31, .cells [w1, w2] true 0)] ++ Z))) u [lowT (t.take k), lowT (t.drop k)] := hPU.sub (by grind)
  have hm26' : (b26, Blk.cells [.int .i64 2, w] true 30) ∈ (b36, Blk.cells [.int .i64 2, u] true 30) :: (N' ++ ([(b31, .cells [w1, w2] true 0)] ++ Z)) := by grind
  have hs : List.Sublist L ((b36, Blk.cells [.int .i64 2, u] true 30) :: (N' ++ ([(b31, .cells [w1, w2] true 0)] ++ Z))) := ((hs.trans (List.sublist_cons_self _ _)).trans (List.sublist_append_right N' _)).trans (List.sublist_cons_self _ _)
  generalize (b36, Blk.cells [.int .i64 2, u] true 30) :: (N' ++ ([(b31, Blk.cells [w1, w2] true 0)] ++ Z)) = Z2 at hm36 hPZ' hPU' hm26' hs
  clear hm26 hPZ hPU hT2 hI1 hI2 hcZ hRZ
  have hm26 := hm26'
  have hlen1 : (lowT (skipI k :: t)).length = 1 + (lowT t).length := by rw [lowT_all hkl]; simp; omega
  have hlen2 := lowT_plain hpl
  have hlen3 := lowT_plain (hpl.take k)
  have hlen4 := lowT_plain (hpl.drop k)
  have hlen5 := szs_split t k
  have hlen6 := lowT_len t
  have hall := lowT_all (t := t) hkl
  generalize lowT (skipI k :: t) = TA at hPZ' hlen1 hall
  generalize lowT (t.take k) = TB at hPU' hlen3
  generalize lowT (t.drop k) = TC at hPU' hlen4
  generalize lowT t = TT at hlen1 hlen2 hall hlen6
  generalize (szs (t.take k)).sum = e9 at hlen3 hlen5 hall
  obtain ⟨_, hRA, va, _, rfl, ⟨la, hRa, hca⟩, h0⟩ := hPZ'
  cases h0
  obtain ⟨_, hRU, vb, _, rfl, ⟨lb, hRb, hcb⟩, vc, _, rfl, ⟨lc, hRc, hcc⟩, h0⟩ := hPU'
  cases h0
  subst hall
  obtain ⟨vt9, r9, rfl, htk9, hr9⟩ := hca
  refine W.nextOf fun n2 hn2 hids2 => ?_
  refine W.neqF rfl (W.whenFF (W.pure (W.whenFF (W.neqF rfl (W.pickF ?_)))))
  refine W.whenFF (W.fldP ?_)
  refine W.lwhenFF (W.lload1P hm26 w rfl fun Br1 lgr1 hir1 hSr1 ror1 hhr1 => ?_)
  dsimp only
  refine W.whenFF (W.lenM hRA ?_)
  refine W.whenFF (W.neqF rfl ?_)
  refine W.pickF ?_
  refine W.whenFF (W.fldP ?_)
  refine W.lwhenFF (W.lload1P hm36 u rfl fun Br2 lgr2 hir2 hSr2 ror2 hhr2 => ?_)
  dsimp only
  refine W.whenFF (W.lenM hRU ?_)
  refine W.whenFF (W.neqF rfl ?_)
  refine W.pickF ?_
  refine W.whenFF (W.fldP ?_)
  refine W.lwhenFF (W.lload1P hm26 w rfl fun Br3 lgr3 hir3 hSr3 ror3 hhr3 => ?_)
  dsimp only
  refine W.whenFF (W.idxM hRA 0 rfl (by simp) fun p hp => ?_)
  refine W.lwhenFF (W.lload1M hp (fun q hq => hq) va rfl fun Br4 lgr4 hir4 hSr4 ror4 hhr4 => ?_)
  dsimp only
  refine W.whenFF (W.lenM hRa ?_)
  refine W.whenFF (W.fldP ?_)
  refine W.lwhenFF (W.lload1P hm36 u rfl fun Br5 lgr5 hir5 hSr5 ror5 hhr5 => ?_)
  dsimp only
  refine W.whenFF (W.idxM hRU 0 rfl (by simp) fun p hp => ?_)
  refine W.lwhenFF (W.lload1M hp (fun q hq => hq) vb rfl fun Br6 lgr6 hir6 hSr6 ror6 hhr6 => ?_)
  dsimp only
  refine W.whenFF (W.lenM hRb ?_)
  refine W.whenFF (W.add (by omega) (by omega) ?_)
  refine W.whenFF (W.fldP ?_)
  refine W.lwhenFF (W.lload1P hm36 u rfl fun Br7 lgr7 hir7 hSr7 ror7 hhr7 => ?_)
  dsimp only
  refine W.whenFF (W.idxM hRU 1 rfl (by simp) fun p hp => ?_)
  refine W.lwhenFF (W.lload1M hp (fun q hq => hq) vc rfl fun Br8 lgr8 hir8 hSr8 ror8 hhr8 => ?_)
  dsimp only
  refine W.whenFF (W.lenM hRc ?_)
  refine W.whenFF (W.add (by omega) (by omega) ?_)
  refine W.whenFF (W.neqF (by omega) ?_)
  refine W.pickF ?_
  refine W.okP S (by omega) (St.psC rf_ rf_ (W.clashRO ror3 ror5 (by omega) (by omega) (fun i hi => hids2 i (W.ids_one hm36 hi)) (by omega)) (St.psC rf_ rf_ (W.clashRO ror4 ror5 (by omega) (by omega) (fun i hi => hids2 i (W.ids_one hm36 hi)) (by omega)) (St.psC rf_ rf_ (W.clashRO ror3 ror6 (by omega) (by omega) (fun i hi => hids2 i hi) (by omega)) (St.psC rf_ rf_ (W.clashRO ror4 ror6 (by omega) (by omega) (fun i hi => hids2 i hi) (by omega)) (St.psC rf_ rf_ (W.clashRO ror3 ror7 (by omega) (by omega) (fun i hi => hids2 i (W.ids_one hm36 hi)) (by omega)) (St.psC rf_ rf_ (W.clashRO ror4 ror7 (by omega) (by omega) (fun i hi => hids2 i (W.ids_one hm36 hi)) (by omega)) (St.psC rf_ rf_ (W.clashRO ror5 ror7 (by omega) (by omega) (fun i hi => hids2 i (W.ids_one hm36 hi)) (by omega)) (St.psC rf_ rf_ (W.clashRO ror6 ror7 (by omega) (by omega) (fun i hi => hids2 i (W.ids_one hm36 hi)) (by omega)) (St.psC rf_ rf_ (W.clashRO ror3 ror8 (by omega) (by omega) (fun i hi => hids2 i hi) (by omega)) (St.psC rf_ rf_ (W.clashRO ror4 ror8 (by omega) (by omega) (fun i hi => hids2 i hi) (by omega)) (St.psC rf_ rf_ (W.clashRO ror5 ror8 (by omega) (by omega) (fun i hi => hids2 i hi) (by omega)) (St.psC rf_ rf_ (W.clashRO ror6 ror8 (by omega) (by omega) (fun i hi => hids2 i hi) (by omega)) St.ps0)))))))))))) ?_
  refine W.condF (W.nextOf fun n3 hn3 hids3 => ?_)
  refine W.fldP ?_
  refine W.lload1P hm26 w rfl fun Bs1 lgs1 his1 hSs1 ros1 hhs1 => ?_
  dsimp only
  refine W.idxM hRA 0 rfl (by simp) fun p hp => ?_
  refine W.lload1M hp (fun q hq => hq) va rfl fun Bs2 lgs2 his2 hSs2 ros2 hhs2 => ?_
  dsimp only
  refine W.idxM hRa 0 rfl (by omega) fun p hp => W.fldA hp (by simp) fun p hp => ?_
  refine W.lload1M hp (fun q hq => hq) (.int .i64 9) rfl fun Bs3 lgs3 his3 hSs3 ros3 hhs3 => ?_
  dsimp only
  refine W.eqlT rfl ?_
  refine W.whenTT (W.fldP ?_)
  refine W.lwhenTT (W.lload1P hm26 w rfl fun Bs4 lgs4 his4 hSs4 ros4 hhs4 => ?_)
  dsimp only
  refine W.whenTT (W.idxM hRA 0 rfl (by simp) fun p hp => ?_)
  refine W.lwhenTT (W.lload1M hp (fun q hq => hq) va rfl fun Bs5 lgs5 his5 hSs5 ros5 hhs5 => ?_)
  dsimp only
  refine W.whenTT (W.idxM hRa 0 rfl (by omega) fun p hp => ?_)
  refine W.whenTT (W.fldA hp (by simp) fun p hp => ?_)
  refine W.lwhenTT (W.lload1M hp (fun q hq => hq) (.int .i64 e9) rfl fun Bs6 lgs6 his6 hSs6 ros6 hhs6 => ?_)
  dsimp only
  refine W.whenTT (W.fldP ?_)
  refine W.lwhenTT (W.lload1P hm36 u rfl fun Bs7 lgs7 his7 hSs7 ros7 hhs7 => ?_)
  dsimp only
  refine W.whenTT (W.idxM hRU 0 rfl (by simp) fun p hp => ?_)
  refine W.lwhenTT (W.lload1M hp (fun q hq => hq) vb rfl fun Bs8 lgs8 his8 hSs8 ros8 hhs8 => ?_)
  dsimp only
  refine W.whenTT (W.lenM hRb ?_)
  refine W.whenTT (W.eqlT (by omega) ?_)
  refine W.pickT ?_
  refine W.lwhenTT (W.logged fun B9 hB9 hS9 K9 hK09 hK19 => W.callR (by rfl) (hK09 _ fun lg9 hi9 ro9 hh9 => ?_))
  dsimp only
  refine W.pickT ?_
  refine W.okP S (by omega) (St.psC rf_ rf_ (W.clashRO ros4 ros7 (by omega) (by omega) (fun i hi => hids3 i (W.ids_one hm36 hi)) (by omega)) (St.psC rf_ rf_ (W.clashRO ros5 ros7 (by omega) (by omega) (fun i hi => hids3 i (W.ids_one hm36 hi)) (by omega)) (St.psC rf_ rf_ (W.clashRO ros6 ros7 (by omega) (by omega) (fun i hi => hids3 i (W.ids_one hm36 hi)) (by omega)) (St.psC rf_ rf_ (W.clashRO ros4 ros8 (by omega) (by omega) (fun i hi => hids3 i hi) (by omega)) (St.psC rf_ rf_ (W.clashRO ros5 ros8 (by omega) (by omega) (fun i hi => hids3 i hi) (by omega)) (St.psC rf_ rf_ (W.clashRO ros6 ros8 (by omega) (by omega) (fun i hi => hids3 i hi) (by omega)) St.ps0)))))) ?_
  exact W.weak hs q
theorem lowerSkips_c {K : V → H → Option R} {m : Nat} {vs : List V} {l : List Int} {v : V} {n : Int} (hvs : vs = [v, .int .i64 n]) (hv : Rd L 1 v l.length (intsC l)) (q : W Q B A S L (K (.bool true))) : W Q B A S (L) fun h => J.call (F (m + 10)) (.fn (.func 4) [] []) vs R h K := by
  subst hvs
  refine W.callE (d := d4) (c := c4) (by kernel_rfl) rfl (by rfl) ?_
  unfold c4
  refine W.hd (W.hd (W.en ?_))
  refine W.loop4 (I := fun d x1 x2 x3 x4 L' => ∃ (i : Nat) (t : List Ins) (tc : List V) (po M : Kn), 11 ≤ i + d ∧ i ≤ 11 ∧ i ≤ l.length ∧ v = x1 ∧ x2 = .int .i64 n ∧ x4 = .int .i64 i ∧ t.length = i ∧ Own B 7 39 x3 tc po ∧ InsCells (M ++ L) t tc ∧ Plain t ∧ L' = po ++ (M ++ L)) ?_ 11 (by omega)
    ⟨0, [], [], [], [], by omega, by omega, by omega, rfl, rfl, rfl, rfl, Own.nil, rfl, (fun _ h => nomatch h), rfl⟩
  rintro d k x1 x2 x3 x4 L' ⟨i, t, tc, po, M, e1, e2, e3, rfl, rfl, rfl, hlen, hown, hcells, hpl, rfl⟩ hk
  have hvX : Rd (po ++ (M ++ L)) 1 v l.length (intsC l) := hv.sub (by grind)
  refine W.lenM hvX ?_
  rcases Nat.lt_or_ge i l.length with hi | hi
  · rcases Nat.lt_or_ge i 11 with hi1 | hi1
    · refine W.lssT (by omega) (W.whenTT (W.pure (W.whenTT (W.lssT (by omega) (W.pickT (W.condT ?_))))))
      refine W.idxM hvX i rfl hi fun p hp => ?_
      have hli : (List.drop (i * 1) (intsC l))[0]? = some (V.int .i64 l[i]) := by
        unfold intsC; rw [List.getElem?_drop, Nat.mul_one, Nat.add_zero, List.getElem?_map, List.getElem?_eq_getElem hi]; rfl
      refine W.load1A hp (.int .i64 l[i]) hli ?_
      refine instrL_c rfl (by decide) (by decide) (by decide) (by decide) fun x ve N hok hel hN hve => ?_
      have hone := hve.one
      refine W.newT fun b100 hb100 => W.storeN (by omega) (by with_unfolding_all rfl) (by decide) (ins_one hone x) ?_
      refine W.fldP (W.load1P List.mem_cons_self (.int .i64 x.k) rfl ?_)
      refine W.eql ?_
      refine W.joinC (fun k110 => ∀ (x : Ins) (ve : V), Tk N ve x.e → insOK x 2 0 = true → x.k ≠ 6 → x.e.length ≤ 3 → W Q B A S ((b100, .cells (insC x ve) true 39) :: (N ++ (po ++ (M ++ L)))) (k110 v (.int .i64 n) x3 (.int .i64 i) (.ptr b100 0))) ?_ ?_
      · intro x ve hve hok hk6 hel
        have hone := hve.one
        refine W.loadNP List.mem_cons_self (by with_unfolding_all exact Nat.le_of_ble_eq_true rfl) ?_
        refine W.swapE (N := (b100, .cells (insC x ve) true 39) :: N) (M := po) (L' := M ++ L) rfl ?_
        refine W.push (v := .agg (insC x ve)) (n := t.length) hown (by decide) hcells.len rfl rfl (ins_one hone x) (by rw [allOne_app, hcells.one]; exact ins_one hone x) (by omega) fun x' p' ho => ?_
        refine W.add (by omega) (by omega) ?_
        refine hk (d - 1) _ _ _ _ _ (by omega) ⟨i + 1, t ++ [x], _, p', (b100, .cells (insC x ve) true 39) :: (N ++ M), by omega, by omega, by omega, rfl, rfl, by rw [Int.natCast_add]; rfl, by rw [List.length_append, hlen]; rfl, ho, ?_, ?_, ?_⟩
        · exact InsCells.app (hcells.sub (fun q hq => (List.mem_append.1 hq).elim (fun hq => List.mem_append_left _ (List.mem_cons_of_mem _ (List.mem_append_right _ hq))) fun hq => List.mem_append_right _ hq)) ⟨ve, [], rfl, hve.sub (by grind), rfl⟩
        · intro y hy
          rcases List.mem_append.1 hy with hy | hy
          · exact hpl y hy
          · rw [List.mem_singleton.1 hy]; exact ⟨hok, hk6, hel⟩
        · simp
      · intro k110 hk110
        by_cases hk6 : x.k = 6
        · rw [decide_eq_true hk6]
          refine W.condT (W.buildL rg_ (W.storeN (by omega) (by with_unfolding_all rfl) (by with_unfolding_all exact Nat.le_of_ble_eq_true rfl) rfl ?_))
          exact hk110 fenceI .nils (Rd.nils (by decide)) (by decide) (by decide) (by decide)
        · rw [decide_eq_false hk6]
          exact W.condF (hk110 x ve hve hok hk6 hel)
    · refine W.lssT (by omega) (W.whenTT (W.pure (W.whenTT (W.lssF (by omega) (W.pickT (W.condF ?_))))))
      exact skRest_w hown hcells hpl (by omega) q
  · refine W.lssF (by omega) (W.whenFT (W.whenFT (W.pickF (W.condF ?_))))
    exact skRest_w hown hcells hpl (by omega) q
theorem intsArg {v : V} (h : SlV 1 IntT v) : ∃ l : List Int, Rd L 1 v l.length (intsC l) := by
  rcases h with rfl | rfl | ⟨ls, h1, h2, rfl⟩
  · exact ⟨[], Rd.nils (by decide)⟩
  · exact ⟨[], by decide, rfl, .inl ⟨.inr rfl, rfl⟩⟩
  · have key : ∀ ls : List (List V), (∀ l ∈ ls, IntT l ∧ l.length = 1) → ∃ is : List Int, intsC is = ls.flatten ∧ is.length = ls.length := by
      intro ls
      induction ls with
      | nil => exact fun _ => ⟨[], rfl, rfl⟩
      | cons l ls ih =>
        intro h
        obtain ⟨is, e1, e2⟩ := ih fun l hl => h l (List.mem_cons_of_mem _ hl)
        obtain ⟨x, rfl, _⟩ := (h l List.mem_cons_self).1
        exact ⟨x :: is, by rw [List.flatten_cons, ← e1]; rfl, by simp [e2]⟩
    obtain ⟨is, e1, e2⟩ := key ls h2
    exact ⟨is, by decide, by rw [intsC_len, Nat.mul_one], .inr (.inr (by rw [e1, e2]))⟩
theorem lowerSkips_run {m : Nat} {n : Int} {v : V} (h : SlV 1 IntT v) : isTrue (run ((F (m + 10)).call 4 [v, .int .i64 n]) h0) = true := by
  obtain ⟨l, hv⟩ := intsArg (L := []) h
  exact W.run (Q := fun o => isTrue o = true) (P := fun h => J.call (F (m + 10)) (.fn (.func 4) [] []) [v, .int .i64 n] (V × H) h fun v h => some (v, h)) (lowerSkips_c (K := fun v h => some (v, h)) rfl hv fun h m => rfl)
end
end Go.Proofs.Ythkipncmnefomaa.XCodeL
