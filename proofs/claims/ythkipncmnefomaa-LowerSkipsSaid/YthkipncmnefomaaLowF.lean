/- A text of the verified executor, of contracts, or of this law; joined and trimmed by a program of mine (wip/gen). -/
import Derived.Test.YthkipncmnefomaaLowAM
set_option linter.unusedVariables false
set_option linter.unusedSimpArgs false
set_option linter.unusedSectionVars false
set_option maxRecDepth 100000
set_option maxHeartbeats 4000000
namespace Go.Proofs.Ythkipncmnefomaa.XCodeL
open Go Go.X
noncomputable section
variable [Nu] {R : Type} {Q : Option R → Prop} {B : Nat} {A : Nat → Prop} {S : Nat} {L : Kn}
theorem boolE {c : Bool} {K : V → H → Option R} (q : c = true → W Q B A S L (K (.bool true))) (q' : c = false → W Q B A S L (K (.bool false))) : W Q B A S L (K (.bool c)) := by
  cases c with
  | true => exact q rfl
  | false => exact q' rfl
theorem checkS_c {K : V → H → Option R} {m : Nat} {vs : List V} {ts : List (Int × Int)} {v : V} (hvs : vs = [v]) (hv : Tk L v ts) (hl : ts.length < 100000) (q : checkE ts = true → W Q B A S L (K (.bool true))) (q' : checkE ts = false → W Q B A S L (K (.bool false))) : W Q B A S L fun h => J.call (F (m + 2)) (.fn (.func 45) [] []) vs R h K :=
  check_c hvs hv hl (boolE q q')
theorem ofk_c {K : V → H → Option R} {m : Nat} {vs : List V} {k a b c d : Int} (hvs : vs = [.int .i64 k]) (h : kindT k = (a, b, c, d)) (q : W Q B A S L (K (.agg [.int .i64 a, .int .i64 b, .int .i64 c, .int .i64 d]))) : W Q B A S L fun h => J.call (F (m + 2)) (.fn (.func 39) [] []) vs R h K :=
  of_c hvs (by rw [h]; exact q)
theorem boolC {P : Prop} [Decidable P] {K : V → H → Option R} (q : P → W Q B A S L (K (.bool true))) (q' : ¬ P → W Q B A S L (K (.bool false))) : W Q B A S L (K (.bool (decide P))) := by
  by_cases h : P
  · rw [decide_eq_true h]; exact q h
  · rw [decide_eq_false h]; exact q' h
theorem partT_c {K : V → H → Option R} {m : Nat} {vs : List V} {v most : Int} (hvs : vs = [.bool true, .int .i64 v, .int .i64 most]) (q : 0 ≤ v ∧ v ≤ most → W Q B A S L (K (.bool true))) (q' : ¬ (0 ≤ v ∧ v ≤ most) → W Q B A S L (K (.bool false))) : W Q B A S L fun h => J.call (F (m + 1)) (.fn (.func 42) [] []) vs R h K :=
  part_c hvs (boolC q q')
theorem partF_c {K : V → H → Option R} {m : Nat} {vs : List V} {v most : Int} (hvs : vs = [.bool false, .int .i64 v, .int .i64 most]) (q : v = 0 → W Q B A S L (K (.bool true))) (q' : ¬ v = 0 → W Q B A S L (K (.bool false))) : W Q B A S L fun h => J.call (F (m + 1)) (.fn (.func 42) [] []) vs R h K :=
  part_c hvs (boolC (fun h => q (by simp at h; omega)) (fun h => q' (by simp at h; omega)))
theorem mode3_c {K : V → H → Option R} {m : Nat} {vs : List V} {v : Int} (hvs : vs = [.int .i64 v, .int .i64 3]) (q : (v = 0 ∨ v = 1) → W Q B A S L (K (.bool true))) (q' : ¬ (v = 0 ∨ v = 1) → W Q B A S L (K (.bool false))) : W Q B A S L fun h => J.call (F (m + 1)) (.fn (.func 41) [] []) vs R h K :=
  mode_c hvs om_ (by show W Q B A S L (K (.bool (decide (v = 0 ∨ v = 1)))); exact boolC q q')
theorem mode5_c {K : V → H → Option R} {m : Nat} {vs : List V} {v : Int} (hvs : vs = [.int .i64 v, .int .i64 5]) (q : (v = 0 ∨ v = 2) → W Q B A S L (K (.bool true))) (q' : ¬ (v = 0 ∨ v = 2) → W Q B A S L (K (.bool false))) : W Q B A S L fun h => J.call (F (m + 1)) (.fn (.func 41) [] []) vs R h K :=
  mode_c hvs om_ (by show W Q B A S L (K (.bool (decide (v = 0 ∨ v = 2)))); exact boolC q q')
theorem mode30_c {K : V → H → Option R} {m : Nat} {vs : List V} {v : Int} (hvs : vs = [.int .i64 v, .int .i64 30]) (q : (v = 1 ∨ v = 2 ∨ v = 3 ∨ v = 4) → W Q B A S L (K (.bool true))) (q' : ¬ (v = 1 ∨ v = 2 ∨ v = 3 ∨ v = 4) → W Q B A S L (K (.bool false))) : W Q B A S L fun h => J.call (F (m + 1)) (.fn (.func 41) [] []) vs R h K :=
  mode_c hvs om_ (by show W Q B A S L (K (.bool (decide (v = 1 ∨ v = 2 ∨ v = 3 ∨ v = 4)))); exact boolC q q')
theorem mode1_c {K : V → H → Option R} {m : Nat} {vs : List V} {v : Int} (hvs : vs = [.int .i64 v, .int .i64 1]) (q : (v = 0) → W Q B A S L (K (.bool true))) (q' : ¬ (v = 0) → W Q B A S L (K (.bool false))) : W Q B A S L fun h => J.call (F (m + 1)) (.fn (.func 41) [] []) vs R h K :=
  mode_c hvs om_ (by show W Q B A S L (K (.bool (decide (v = 0)))); exact boolC q q')
theorem has_w {K : V → H → Option R} {m : Nat} {b y : Nat} {w : Bool} {cs : List V} {parts bit r : Int} (hb : (b, Blk.cells cs w y) ∈ L) (hc : cs[0]? = some (.int .i64 parts)) (hr : binV .and (.int .i64 parts) (.int .i64 bit) = some (.int .i64 r)) (q : W Q B A S L (K (.bool (decide (r ≠ 0))))) : W Q B A S L fun h => c40 (F m) [.int .i64 bit, .ptr b 0] R h K := by
  unfold c40
  refine W.hd (W.hd (W.en (W.fldP (W.load1P hb _ (by exact hc) (W.bin hr ?_)))))
  exact W.neq q
theorem hasT_c {K : V → H → Option R} {m : Nat} {b y : Nat} {w : Bool} {cs : List V} {parts bit r : Int} (hb : (b, Blk.cells cs w y) ∈ L) (hc : cs[0]? = some (.int .i64 parts)) (hr : binV .and (.int .i64 parts) (.int .i64 bit) = some (.int .i64 r)) (h0 : r ≠ 0) (q : W Q B A S L (K (.bool true))) : W Q B A S L fun h => J.call (F (m + 1)) (.fn (.func 40) [] [.ptr b 0]) [.int .i64 bit] R h K :=
  W.callF (d := d40) (c := c40) (by kernel_rfl) rfl rfl (by rfl) (has_w hb hc hr (by rw [decide_eq_true h0]; exact q))
theorem hasF_c {K : V → H → Option R} {m : Nat} {b y : Nat} {w : Bool} {cs : List V} {parts bit r : Int} (hb : (b, Blk.cells cs w y) ∈ L) (hc : cs[0]? = some (.int .i64 parts)) (hr : binV .and (.int .i64 parts) (.int .i64 bit) = some (.int .i64 r)) (h0 : r = 0) (q : W Q B A S L (K (.bool false))) : W Q B A S L fun h => J.call (F (m + 1)) (.fn (.func 40) [] [.ptr b 0]) [.int .i64 bit] R h K :=
  W.callF (d := d40) (c := c40) (by kernel_rfl) rfl rfl (by rfl) (has_w hb hc hr (by rw [h0]; exact q))
theorem instr1_c {K : V → H → Option R} {m : Nat} {vs : List V} {m1 m2 r l n : Int} {e : List (Int × Int)} {ve : V} {locs left : Int} (hvs : vs = [.agg [.int .i64 1, .int .i64 m1, .int .i64 m2, .int .i64 r, .int .i64 l, ve, .int .i64 n], .int .i64 locs, .int .i64 left]) (hv : Tk L ve e) (hl : e.length ≤ 12) (h1 : 1 ≤ locs) (h4 : locs ≤ 4) (q : W Q B A S L (K (.bool (insOK ⟨1, m1, m2, r, l, e, n⟩ locs left)))) : W Q B A S (L) fun h => J.call (F (m + 7)) (.fn (.func 21) [] []) vs R h K := by
  subst hvs
  refine W.callE (d := d21) (c := c21) (by kernel_rfl) rfl (by rfl) ?_
  unfold c21
  have hbx : ∀ k, allOne (V.agg [.int .i64 k, .int .i64 m1, .int .i64 m2, .int .i64 r, .int .i64 l, ve, .int .i64 n]).cells = true := fun k => ins_one hv.one ⟨k, m1, m2, r, l, e, n⟩
  have qT : (0 ≤ r ∧ r ≤ 7 ∧ 0 ≤ l ∧ l ≤ locs - 1 ∧ (m1 = 0 ∨ m1 = 1) ∧ m2 = 0 ∧ e.length = 0 ∧ n = 0) → W Q B A S L (K (.bool true)) := fun h => (by
    have e : insOK ⟨1, m1, m2, r, l, e, n⟩ locs left = true := decide_eq_true h
    rw [e] at q; exact q)
  have qF : ¬ (0 ≤ r ∧ r ≤ 7 ∧ 0 ≤ l ∧ l ≤ locs - 1 ∧ (m1 = 0 ∨ m1 = 1) ∧ m2 = 0 ∧ e.length = 0 ∧ n = 0) → W Q B A S L (K (.bool false)) := fun h => (by
    have e : insOK ⟨1, m1, m2, r, l, e, n⟩ locs left = false := decide_eq_false h
    rw [e] at q; exact q)
  clear q
  (iterate 3 refine .hd ?_)
  refine .en ?_
  refine .box bx_ fun b hb => ?_
  refine .fl ?_
  refine ofk_c rf_ rf_ ?_
  refine .newT fun b hb => ?_
  (refine .storeN om_ rf_ sd_ bx_ ?_)
  refine .loadNP mm_ nl_ ?_
  refine .build0 ?_
  refine .eqsNT rf_ ?_
  refine .whenTT ?_
  refine .fldP ?_
  refine .whenTT ?_
  refine .load1P mm_ _ rf_ ?_
  refine .whenTT ?_
  refine .fldP ?_
  refine .whenTT ?_
  refine .load1P mm_ _ rf_ ?_
  refine .whenTT ?_
  refine mode3_c rf_ (fun c => ?_) (fun c => ?_)
  refine .pickT ?_
  refine .whenTT ?_
  refine .fldP ?_
  refine .whenTT ?_
  refine .load1P mm_ _ rf_ ?_
  refine .whenTT ?_
  refine .fldP ?_
  refine .whenTT ?_
  refine .load1P mm_ _ rf_ ?_
  refine .whenTT ?_
  refine mode1_c rf_ (fun c => ?_) (fun c => ?_)
  refine .pickT ?_
  refine .nx fun _ _ _ _ => ?_
  refine .whenTT ?_
  refine .pure ?_
  refine .lwhenTT ?_
  refine .logged fun B1 hB1 hS1 K1 hK0 hK1 => ?_
  refine hasT_c mm_ rf_ rf_ (by decide) ?_
  (refine hK0 _ (fun lgs1 hi1 ro1 hh1 => ?_); clear hK0 hK1; dsimp only)
  refine .whenTT ?_
  refine .fldP ?_
  refine .lwhenTT ?_
  (refine .lload1T mm_ _ rf_ fun _ _ _ _ _ _ _ => ?_; dsimp only)
  refine .lwhenTT ?_
  refine .logged fun B1 hB1 hS1 K1 hK0 hK1 => ?_
  refine partT_c rf_ (fun c => ?_) (fun c => ?_)
  (refine hK0 _ (fun lgs1 hi1 ro1 hh1 => ?_); clear hK0 hK1; dsimp only)
  refine .pickT ?_
  refine .whenTT ?_
  refine .pure ?_
  refine .lwhenTT ?_
  refine .logged fun B1 hB1 hS1 K1 hK0 hK1 => ?_
  refine hasT_c mm_ rf_ rf_ (by decide) ?_
  (refine hK0 _ (fun lgs1 hi1 ro1 hh1 => ?_); clear hK0 hK1; dsimp only)
  refine .whenTT ?_
  refine .fldP ?_
  refine .lwhenTT ?_
  (refine .lload1T mm_ _ rf_ fun _ _ _ _ _ _ _ => ?_; dsimp only)
  refine .whenTT ?_
  refine .pure ?_
  refine .whenTT ?_
  refine .maxA om_ ?_
  refine .whenTT ?_
  refine .sub om_ om_ ?_
  refine .lwhenTT ?_
  refine .logged fun B1 hB1 hS1 K1 hK0 hK1 => ?_
  refine partT_c rf_ (fun c => ?_) (fun c => ?_)
  (refine hK0 _ (fun lgs1 hi1 ro1 hh1 => ?_); clear hK0 hK1; dsimp only)
  refine .pickT ?_
  refine .whenTT ?_
  refine .pure ?_
  refine .lwhenTT ?_
  refine .logged fun B1 hB1 hS1 K1 hK0 hK1 => ?_
  refine hasF_c mm_ rf_ rf_ (by decide) ?_
  (refine hK0 _ (fun lgs1 hi1 ro1 hh1 => ?_); clear hK0 hK1; dsimp only)
  refine .whenTT ?_
  refine .fldP ?_
  refine .lwhenTT ?_
  (refine .lload1T mm_ _ rf_ fun _ _ _ _ _ _ _ => ?_; dsimp only)
  refine .whenTT ?_
  refine .pure ?_
  refine .lwhenTT ?_
  refine .logged fun B1 hB1 hS1 K1 hK0 hK1 => ?_
  refine partF_c rf_ (fun c => ?_) (fun c => ?_)
  (refine hK0 _ (fun lgs1 hi1 ro1 hh1 => ?_); clear hK0 hK1; dsimp only)
  refine .pickT ?_
  refine .ok S ?_
  refine .nx fun _ _ _ _ => ?_
  (refine .ft fun _ _ _ _ _ _ _ => ?_; dsimp only)
  refine .eqlF om_ ?_
  refine .whenFT ?_
  (refine .lwhenFT fun _ _ _ _ _ => ?_; dsimp only)
  (iterate 3 refine .whenFT ?_)
  refine .whenU ?_
  (iterate 2 (refine .lwhenU fun _ _ _ _ _ => ?_; dsimp only))
  refine .whenU ?_
  (iterate 2 (refine .lwhenU fun _ _ _ _ _ => ?_; dsimp only))
  refine .whenFT ?_
  refine .pickF ?_
  refine .ok S ?_
  refine .condF ?_
  refine .whenTT ?_
  refine .pure ?_
  refine .whenTT ?_
  refine hasF_c mm_ rf_ rf_ (by decide) ?_
  refine .whenTT ?_
  refine .pure ?_
  (iterate 3 refine .whenFT ?_)
  refine .whenTT ?_
  refine .pickF ?_
  refine .whenTT ?_
  refine .pure ?_
  refine .whenFF ?_
  refine .pure ?_
  refine .whenFF ?_
  refine hasF_c mm_ rf_ rf_ (by decide) ?_
  refine .whenFF ?_
  refine .notF ?_
  refine .whenFF ?_
  refine .pure ?_
  refine .whenTT ?_
  refine .fldP ?_
  refine .whenTT ?_
  refine .load1P mm_ _ rf_ ?_
  refine .whenTT ?_
  refine .lenR rc_ ?_
  refine .whenTT ?_
  refine .eqlC (fun c => ?_) (fun c => ?_)
  refine .whenFF ?_
  refine .pickT ?_
  refine .whenTT ?_
  refine .pickF ?_
  refine .pickT ?_
  rotate_left
  refine .whenFF ?_
  refine .pickT ?_
  refine .whenTT ?_
  refine .pickF ?_
  refine .pickT ?_
  rotate_right
  rotate_left 2
  (refine hK0 _ (fun lgs1 hi1 ro1 hh1 => ?_); clear hK0 hK1; dsimp only)
  refine .pickT ?_
  refine .ok S ?_
  refine .nx fun _ _ _ _ => ?_
  (refine .ft fun _ _ _ _ _ _ _ => ?_; dsimp only)
  refine .eqlF om_ ?_
  refine .whenFT ?_
  (refine .lwhenFT fun _ _ _ _ _ => ?_; dsimp only)
  (iterate 3 refine .whenFT ?_)
  refine .whenU ?_
  (iterate 2 (refine .lwhenU fun _ _ _ _ _ => ?_; dsimp only))
  refine .whenU ?_
  (iterate 2 (refine .lwhenU fun _ _ _ _ _ => ?_; dsimp only))
  refine .whenFT ?_
  refine .pickF ?_
  refine .ok S ?_
  refine .condF ?_
  (iterate 3 refine .whenFT ?_)
  (iterate 3 refine .whenU ?_)
  (iterate 2 refine .whenFT ?_)
  (iterate 9 refine .whenU ?_)
  refine .whenFT ?_
  refine .pickF ?_
  rotate_right 2
  rotate_left 3
  (refine hK0 _ (fun lgs1 hi1 ro1 hh1 => ?_); clear hK0 hK1; dsimp only)
  refine .pickT ?_
  refine .whenFT ?_
  (refine .lwhenFT fun _ _ _ _ _ => ?_; dsimp only)
  refine .whenFT ?_
  (refine .lwhenFT fun _ _ _ _ _ => ?_; dsimp only)
  refine .whenFT ?_
  (refine .lwhenFT fun _ _ _ _ _ => ?_; dsimp only)
  refine .pickF ?_
  refine .ok S ?_
  refine .nx fun _ _ _ _ => ?_
  (refine .ft fun _ _ _ _ _ _ _ => ?_; dsimp only)
  refine .eqlF om_ ?_
  refine .whenFT ?_
  (refine .lwhenFT fun _ _ _ _ _ => ?_; dsimp only)
  (iterate 3 refine .whenFT ?_)
  refine .whenU ?_
  (iterate 2 (refine .lwhenU fun _ _ _ _ _ => ?_; dsimp only))
  refine .whenU ?_
  (iterate 2 (refine .lwhenU fun _ _ _ _ _ => ?_; dsimp only))
  refine .whenFT ?_
  refine .pickF ?_
  refine .ok S ?_
  refine .condF ?_
  (iterate 3 refine .whenFT ?_)
  (iterate 3 refine .whenU ?_)
  (iterate 2 refine .whenFT ?_)
  (iterate 9 refine .whenU ?_)
  refine .whenFT ?_
  refine .pickF ?_
  rotate_right 3
  rotate_left 4
  (refine hK0 _ (fun lgs1 hi1 ro1 hh1 => ?_); clear hK0 hK1; dsimp only)
  refine .pickT ?_
  refine .whenFT ?_
  (refine .lwhenFT fun _ _ _ _ _ => ?_; dsimp only)
  refine .whenFT ?_
  (refine .lwhenFT fun _ _ _ _ _ => ?_; dsimp only)
  (iterate 3 refine .whenFT ?_)
  (refine .lwhenFT fun _ _ _ _ _ => ?_; dsimp only)
  refine .pickF ?_
  refine .whenFT ?_
  (refine .lwhenFT fun _ _ _ _ _ => ?_; dsimp only)
  refine .whenFT ?_
  (refine .lwhenFT fun _ _ _ _ _ => ?_; dsimp only)
  refine .whenFT ?_
  (refine .lwhenFT fun _ _ _ _ _ => ?_; dsimp only)
  refine .pickF ?_
  refine .ok S ?_
  refine .nx fun _ _ _ _ => ?_
  (refine .ft fun _ _ _ _ _ _ _ => ?_; dsimp only)
  refine .eqlF om_ ?_
  refine .whenFT ?_
  (refine .lwhenFT fun _ _ _ _ _ => ?_; dsimp only)
  (iterate 3 refine .whenFT ?_)
  refine .whenU ?_
  (iterate 2 (refine .lwhenU fun _ _ _ _ _ => ?_; dsimp only))
  refine .whenU ?_
  (iterate 2 (refine .lwhenU fun _ _ _ _ _ => ?_; dsimp only))
  refine .whenFT ?_
  refine .pickF ?_
  refine .ok S ?_
  refine .condF ?_
  (iterate 3 refine .whenFT ?_)
  (iterate 3 refine .whenU ?_)
  (iterate 2 refine .whenFT ?_)
  (iterate 9 refine .whenU ?_)
  refine .whenFT ?_
  refine .pickF ?_
  rotate_right 4
  rotate_left 5
  refine .pickT ?_
  refine .nx fun _ _ _ _ => ?_
  refine .whenFT ?_
  (refine .lwhenFT fun _ _ _ _ _ => ?_; dsimp only)
  refine .whenFT ?_
  (iterate 2 (refine .lwhenFT fun _ _ _ _ _ => ?_; dsimp only))
  refine .pickF ?_
  refine .whenFT ?_
  (refine .lwhenFT fun _ _ _ _ _ => ?_; dsimp only)
  refine .whenFT ?_
  (refine .lwhenFT fun _ _ _ _ _ => ?_; dsimp only)
  (iterate 3 refine .whenFT ?_)
  (refine .lwhenFT fun _ _ _ _ _ => ?_; dsimp only)
  refine .pickF ?_
  refine .whenFT ?_
  (refine .lwhenFT fun _ _ _ _ _ => ?_; dsimp only)
  refine .whenFT ?_
  (refine .lwhenFT fun _ _ _ _ _ => ?_; dsimp only)
  refine .whenFT ?_
  (refine .lwhenFT fun _ _ _ _ _ => ?_; dsimp only)
  refine .pickF ?_
  refine .ok S ?_
  refine .nx fun _ _ _ _ => ?_
  (refine .ft fun _ _ _ _ _ _ _ => ?_; dsimp only)
  refine .eqlF om_ ?_
  refine .whenFT ?_
  (refine .lwhenFT fun _ _ _ _ _ => ?_; dsimp only)
  (iterate 3 refine .whenFT ?_)
  refine .whenU ?_
  (iterate 2 (refine .lwhenU fun _ _ _ _ _ => ?_; dsimp only))
  refine .whenU ?_
  (iterate 2 (refine .lwhenU fun _ _ _ _ _ => ?_; dsimp only))
  refine .whenFT ?_
  refine .pickF ?_
  refine .ok S ?_
  refine .condF ?_
  (iterate 3 refine .whenFT ?_)
  (iterate 3 refine .whenU ?_)
  (iterate 2 refine .whenFT ?_)
  (iterate 9 refine .whenU ?_)
  refine .whenFT ?_
  refine .pickF ?_
  rotate_right 5
  rotate_left 6
  refine .pickT ?_
  (iterate 2 refine .whenFT ?_)
  refine .wp3 ?_
  refine .nx fun _ _ _ _ => ?_
  refine .whenFT ?_
  (refine .lwhenFT fun _ _ _ _ _ => ?_; dsimp only)
  refine .whenFT ?_
  (iterate 2 (refine .lwhenFT fun _ _ _ _ _ => ?_; dsimp only))
  refine .pickF ?_
  refine .whenFT ?_
  (refine .lwhenFT fun _ _ _ _ _ => ?_; dsimp only)
  refine .whenFT ?_
  (refine .lwhenFT fun _ _ _ _ _ => ?_; dsimp only)
  (iterate 3 refine .whenFT ?_)
  (refine .lwhenFT fun _ _ _ _ _ => ?_; dsimp only)
  refine .pickF ?_
  refine .whenFT ?_
  (refine .lwhenFT fun _ _ _ _ _ => ?_; dsimp only)
  refine .whenFT ?_
  (refine .lwhenFT fun _ _ _ _ _ => ?_; dsimp only)
  refine .whenFT ?_
  (refine .lwhenFT fun _ _ _ _ _ => ?_; dsimp only)
  refine .pickF ?_
  refine .ok S ?_
  refine .nx fun _ _ _ _ => ?_
  (refine .ft fun _ _ _ _ _ _ _ => ?_; dsimp only)
  refine .eqlF om_ ?_
  refine .whenFT ?_
  (refine .lwhenFT fun _ _ _ _ _ => ?_; dsimp only)
  (iterate 3 refine .whenFT ?_)
  refine .whenU ?_
  (iterate 2 (refine .lwhenU fun _ _ _ _ _ => ?_; dsimp only))
  refine .whenU ?_
  (iterate 2 (refine .lwhenU fun _ _ _ _ _ => ?_; dsimp only))
  refine .whenFT ?_
  refine .pickF ?_
  refine .ok S ?_
  refine .condF ?_
  (iterate 3 refine .whenFT ?_)
  (iterate 3 refine .whenU ?_)
  (iterate 2 refine .whenFT ?_)
  (iterate 9 refine .whenU ?_)
  refine .whenFT ?_
  refine .pickF ?_
  rotate_right 6
  all_goals (repeat (first | exact qT (by first | omega | (refine ⟨?_, ?_, ?_, ?_, ?_, ?_, ?_, ?_, ?_, ?_⟩ <;> first | omega | assumption | (intro hx; exact absurd (hr5.2 ((hm5 _).2 hx)) Bool.false_ne_true) | fail) | (refine ⟨?_, ?_, ?_, ?_, ?_, ?_, ?_⟩ <;> first | omega | assumption | fail) | fail) | exact qF (by intro hx; first | omega | exact absurd (c.symm.trans hx.2.2.2.2.2.1) Bool.false_ne_true | exact absurd (c.symm.trans hx.2.2.2.2.2.2) Bool.false_ne_true | exact absurd (c.symm.trans hx.2.2.2.2.2.2.2.2.2) Bool.false_ne_true | exact hx.2.2.2.2.2.2.2.2.1 ((hm5 _).1 (hr5.1 rfl)) | fail) | refine W.drop ?_ | refine W.dropN _ ?_))
theorem instr2_c {K : V → H → Option R} {m : Nat} {vs : List V} {m1 m2 r l n : Int} {e : List (Int × Int)} {ve : V} {locs left : Int} (hvs : vs = [.agg [.int .i64 2, .int .i64 m1, .int .i64 m2, .int .i64 r, .int .i64 l, ve, .int .i64 n], .int .i64 locs, .int .i64 left]) (hv : Tk L ve e) (hl : e.length ≤ 12) (h1 : 1 ≤ locs) (h4 : locs ≤ 4) (q : W Q B A S L (K (.bool (insOK ⟨2, m1, m2, r, l, e, n⟩ locs left)))) : W Q B A S (L) fun h => J.call (F (m + 7)) (.fn (.func 21) [] []) vs R h K := by
  subst hvs
  refine W.callE (d := d21) (c := c21) (by kernel_rfl) rfl (by rfl) ?_
  unfold c21
  have hbx : ∀ k, allOne (V.agg [.int .i64 k, .int .i64 m1, .int .i64 m2, .int .i64 r, .int .i64 l, ve, .int .i64 n]).cells = true := fun k => ins_one hv.one ⟨k, m1, m2, r, l, e, n⟩
  have qT : (r = 0 ∧ 0 ≤ l ∧ l ≤ locs - 1 ∧ (m1 = 0 ∨ m1 = 2) ∧ m2 = 0 ∧ checkE e = true ∧ n = 0) → W Q B A S L (K (.bool true)) := fun h => (by
    have e : insOK ⟨2, m1, m2, r, l, e, n⟩ locs left = true := decide_eq_true h
    rw [e] at q; exact q)
  have qF : ¬ (r = 0 ∧ 0 ≤ l ∧ l ≤ locs - 1 ∧ (m1 = 0 ∨ m1 = 2) ∧ m2 = 0 ∧ checkE e = true ∧ n = 0) → W Q B A S L (K (.bool false)) := fun h => (by
    have e : insOK ⟨2, m1, m2, r, l, e, n⟩ locs left = false := decide_eq_false h
    rw [e] at q; exact q)
  clear q
  (iterate 3 refine .hd ?_)
  refine .en ?_
  refine .box bx_ fun b hb => ?_
  refine .fl ?_
  refine ofk_c rf_ rf_ ?_
  refine .newT fun b hb => ?_
  (refine .storeN om_ rf_ sd_ bx_ ?_)
  refine .loadNP mm_ nl_ ?_
  refine .build0 ?_
  refine .eqsNT rf_ ?_
  refine .whenTT ?_
  refine .fldP ?_
  refine .whenTT ?_
  refine .load1P mm_ _ rf_ ?_
  refine .whenTT ?_
  refine .fldP ?_
  refine .whenTT ?_
  refine .load1P mm_ _ rf_ ?_
  refine .whenTT ?_
  refine mode5_c rf_ (fun c => ?_) (fun c => ?_)
  refine .pickT ?_
  refine .whenTT ?_
  refine .fldP ?_
  refine .whenTT ?_
  refine .load1P mm_ _ rf_ ?_
  refine .whenTT ?_
  refine .fldP ?_
  refine .whenTT ?_
  refine .load1P mm_ _ rf_ ?_
  refine .whenTT ?_
  refine mode1_c rf_ (fun c => ?_) (fun c => ?_)
  refine .pickT ?_
  refine .nx fun _ _ _ _ => ?_
  refine .whenTT ?_
  refine .pure ?_
  refine .lwhenTT ?_
  refine .logged fun B1 hB1 hS1 K1 hK0 hK1 => ?_
  refine hasF_c mm_ rf_ rf_ (by decide) ?_
  (refine hK0 _ (fun lgs1 hi1 ro1 hh1 => ?_); clear hK0 hK1; dsimp only)
  refine .whenTT ?_
  refine .fldP ?_
  refine .lwhenTT ?_
  (refine .lload1T mm_ _ rf_ fun _ _ _ _ _ _ _ => ?_; dsimp only)
  refine .lwhenTT ?_
  refine .logged fun B1 hB1 hS1 K1 hK0 hK1 => ?_
  refine partF_c rf_ (fun c => ?_) (fun c => ?_)
  (refine hK0 _ (fun lgs1 hi1 ro1 hh1 => ?_); clear hK0 hK1; dsimp only)
  refine .pickT ?_
  refine .whenTT ?_
  refine .pure ?_
  refine .lwhenTT ?_
  refine .logged fun B1 hB1 hS1 K1 hK0 hK1 => ?_
  refine hasT_c mm_ rf_ rf_ (by decide) ?_
  (refine hK0 _ (fun lgs1 hi1 ro1 hh1 => ?_); clear hK0 hK1; dsimp only)
  refine .whenTT ?_
  refine .fldP ?_
  refine .lwhenTT ?_
  (refine .lload1T mm_ _ rf_ fun _ _ _ _ _ _ _ => ?_; dsimp only)
  refine .whenTT ?_
  refine .pure ?_
  refine .whenTT ?_
  refine .maxA om_ ?_
  refine .whenTT ?_
  refine .sub om_ om_ ?_
  refine .lwhenTT ?_
  refine .logged fun B1 hB1 hS1 K1 hK0 hK1 => ?_
  refine partT_c rf_ (fun c => ?_) (fun c => ?_)
  (refine hK0 _ (fun lgs1 hi1 ro1 hh1 => ?_); clear hK0 hK1; dsimp only)
  refine .pickT ?_
  refine .whenTT ?_
  refine .pure ?_
  refine .lwhenTT ?_
  refine .logged fun B1 hB1 hS1 K1 hK0 hK1 => ?_
  refine hasF_c mm_ rf_ rf_ (by decide) ?_
  (refine hK0 _ (fun lgs1 hi1 ro1 hh1 => ?_); clear hK0 hK1; dsimp only)
  refine .whenTT ?_
  refine .fldP ?_
  refine .lwhenTT ?_
  (refine .lload1T mm_ _ rf_ fun _ _ _ _ _ _ _ => ?_; dsimp only)
  refine .whenTT ?_
  refine .pure ?_
  refine .lwhenTT ?_
  refine .logged fun B1 hB1 hS1 K1 hK0 hK1 => ?_
  refine partF_c rf_ (fun c => ?_) (fun c => ?_)
  (refine hK0 _ (fun lgs1 hi1 ro1 hh1 => ?_); clear hK0 hK1; dsimp only)
  refine .pickT ?_
  refine .ok S ?_
  refine .nx fun _ _ _ _ => ?_
  (refine .ft fun _ _ _ _ _ _ _ => ?_; dsimp only)
  refine .eqlF om_ ?_
  refine .whenFT ?_
  (refine .lwhenFT fun _ _ _ _ _ => ?_; dsimp only)
  (iterate 3 refine .whenFT ?_)
  refine .whenU ?_
  (iterate 2 (refine .lwhenU fun _ _ _ _ _ => ?_; dsimp only))
  refine .whenU ?_
  (iterate 2 (refine .lwhenU fun _ _ _ _ _ => ?_; dsimp only))
  refine .whenFT ?_
  refine .pickF ?_
  refine .ok S ?_
  refine .condF ?_
  refine .whenTT ?_
  refine .pure ?_
  refine .whenTT ?_
  refine hasT_c mm_ rf_ rf_ (by decide) ?_
  refine .whenTT ?_
  refine .pure ?_
  refine .whenTT ?_
  refine .fldP ?_
  refine .whenTT ?_
  refine .load1P mm_ _ rf_ ?_
  refine .whenTT ?_
  refine checkS_c rf_ rc_ om_ (fun c => ?_) (fun c => ?_)
  refine .whenTT ?_
  refine .pickT ?_
  refine .whenTT ?_
  refine .pure ?_
  (iterate 4 refine .whenTF ?_)
  (iterate 4 refine .whenU ?_)
  refine .whenTF ?_
  refine .whenTT ?_
  (iterate 2 refine .pickT ?_)
  rotate_left
  refine .whenTT ?_
  refine .pickT ?_
  refine .whenTT ?_
  refine .pure ?_
  refine .whenFF ?_
  refine .pure ?_
  refine .whenFF ?_
  refine hasT_c mm_ rf_ rf_ (by decide) ?_
  refine .whenFF ?_
  refine .notT ?_
  refine .whenFF ?_
  refine .pure ?_
  (iterate 4 refine .whenFT ?_)
  refine .whenFF ?_
  refine .pickF ?_
  refine .whenTT ?_
  refine .pickF ?_
  refine .pickT ?_
  rotate_right
  rotate_left 2
  (refine hK0 _ (fun lgs1 hi1 ro1 hh1 => ?_); clear hK0 hK1; dsimp only)
  refine .pickT ?_
  refine .ok S ?_
  refine .nx fun _ _ _ _ => ?_
  (refine .ft fun _ _ _ _ _ _ _ => ?_; dsimp only)
  refine .eqlF om_ ?_
  refine .whenFT ?_
  (refine .lwhenFT fun _ _ _ _ _ => ?_; dsimp only)
  (iterate 3 refine .whenFT ?_)
  refine .whenU ?_
  (iterate 2 (refine .lwhenU fun _ _ _ _ _ => ?_; dsimp only))
  refine .whenU ?_
  (iterate 2 (refine .lwhenU fun _ _ _ _ _ => ?_; dsimp only))
  refine .whenFT ?_
  refine .pickF ?_
  refine .ok S ?_
  refine .condF ?_
  (iterate 3 refine .whenFT ?_)
  (iterate 3 refine .whenU ?_)
  (iterate 2 refine .whenFT ?_)
  (iterate 9 refine .whenU ?_)
  refine .whenFT ?_
  refine .pickF ?_
  rotate_right 2
  rotate_left 3
  (refine hK0 _ (fun lgs1 hi1 ro1 hh1 => ?_); clear hK0 hK1; dsimp only)
  refine .pickT ?_
  refine .whenFT ?_
  (refine .lwhenFT fun _ _ _ _ _ => ?_; dsimp only)
  refine .whenFT ?_
  (refine .lwhenFT fun _ _ _ _ _ => ?_; dsimp only)
  refine .whenFT ?_
  (refine .lwhenFT fun _ _ _ _ _ => ?_; dsimp only)
  refine .pickF ?_
  refine .ok S ?_
  refine .nx fun _ _ _ _ => ?_
  (refine .ft fun _ _ _ _ _ _ _ => ?_; dsimp only)
  refine .eqlF om_ ?_
  refine .whenFT ?_
  (refine .lwhenFT fun _ _ _ _ _ => ?_; dsimp only)
  (iterate 3 refine .whenFT ?_)
  refine .whenU ?_
  (iterate 2 (refine .lwhenU fun _ _ _ _ _ => ?_; dsimp only))
  refine .whenU ?_
  (iterate 2 (refine .lwhenU fun _ _ _ _ _ => ?_; dsimp only))
  refine .whenFT ?_
  refine .pickF ?_
  refine .ok S ?_
  refine .condF ?_
  (iterate 3 refine .whenFT ?_)
  (iterate 3 refine .whenU ?_)
  (iterate 2 refine .whenFT ?_)
  (iterate 9 refine .whenU ?_)
  refine .whenFT ?_
  refine .pickF ?_
  rotate_right 3
  rotate_left 4
  (refine hK0 _ (fun lgs1 hi1 ro1 hh1 => ?_); clear hK0 hK1; dsimp only)
  refine .pickT ?_
  refine .whenFT ?_
  (refine .lwhenFT fun _ _ _ _ _ => ?_; dsimp only)
  refine .whenFT ?_
  (refine .lwhenFT fun _ _ _ _ _ => ?_; dsimp only)
  (iterate 3 refine .whenFT ?_)
  (refine .lwhenFT fun _ _ _ _ _ => ?_; dsimp only)
  refine .pickF ?_
  refine .whenFT ?_
  (refine .lwhenFT fun _ _ _ _ _ => ?_; dsimp only)
  refine .whenFT ?_
  (refine .lwhenFT fun _ _ _ _ _ => ?_; dsimp only)
  refine .whenFT ?_
  (refine .lwhenFT fun _ _ _ _ _ => ?_; dsimp only)
  refine .pickF ?_
  refine .ok S ?_
  refine .nx fun _ _ _ _ => ?_
  (refine .ft fun _ _ _ _ _ _ _ => ?_; dsimp only)
  refine .eqlF om_ ?_
  refine .whenFT ?_
  (refine .lwhenFT fun _ _ _ _ _ => ?_; dsimp only)
  (iterate 3 refine .whenFT ?_)
  refine .whenU ?_
  (iterate 2 (refine .lwhenU fun _ _ _ _ _ => ?_; dsimp only))
  refine .whenU ?_
  (iterate 2 (refine .lwhenU fun _ _ _ _ _ => ?_; dsimp only))
  refine .whenFT ?_
  refine .pickF ?_
  refine .ok S ?_
  refine .condF ?_
  (iterate 3 refine .whenFT ?_)
  (iterate 3 refine .whenU ?_)
  (iterate 2 refine .whenFT ?_)
  (iterate 9 refine .whenU ?_)
  refine .whenFT ?_
  refine .pickF ?_
  rotate_right 4
  rotate_left 5
  refine .pickT ?_
  refine .nx fun _ _ _ _ => ?_
  refine .whenFT ?_
  (refine .lwhenFT fun _ _ _ _ _ => ?_; dsimp only)
  refine .whenFT ?_
  (iterate 2 (refine .lwhenFT fun _ _ _ _ _ => ?_; dsimp only))
  refine .pickF ?_
  refine .whenFT ?_
  (refine .lwhenFT fun _ _ _ _ _ => ?_; dsimp only)
  refine .whenFT ?_
  (refine .lwhenFT fun _ _ _ _ _ => ?_; dsimp only)
  (iterate 3 refine .whenFT ?_)
  (refine .lwhenFT fun _ _ _ _ _ => ?_; dsimp only)
  refine .pickF ?_
  refine .whenFT ?_
  (refine .lwhenFT fun _ _ _ _ _ => ?_; dsimp only)
  refine .whenFT ?_
  (refine .lwhenFT fun _ _ _ _ _ => ?_; dsimp only)
  refine .whenFT ?_
  (refine .lwhenFT fun _ _ _ _ _ => ?_; dsimp only)
  refine .pickF ?_
  refine .ok S ?_
  refine .nx fun _ _ _ _ => ?_
  (refine .ft fun _ _ _ _ _ _ _ => ?_; dsimp only)
  refine .eqlF om_ ?_
  refine .whenFT ?_
  (refine .lwhenFT fun _ _ _ _ _ => ?_; dsimp only)
  (iterate 3 refine .whenFT ?_)
  refine .whenU ?_
  (iterate 2 (refine .lwhenU fun _ _ _ _ _ => ?_; dsimp only))
  refine .whenU ?_
  (iterate 2 (refine .lwhenU fun _ _ _ _ _ => ?_; dsimp only))
  refine .whenFT ?_
  refine .pickF ?_
  refine .ok S ?_
  refine .condF ?_
  (iterate 3 refine .whenFT ?_)
  (iterate 3 refine .whenU ?_)
  (iterate 2 refine .whenFT ?_)
  (iterate 9 refine .whenU ?_)
  refine .whenFT ?_
  refine .pickF ?_
  rotate_right 5
  rotate_left 6
  refine .pickT ?_
  (iterate 2 refine .whenFT ?_)
  refine .wp3 ?_
  refine .nx fun _ _ _ _ => ?_
  refine .whenFT ?_
  (refine .lwhenFT fun _ _ _ _ _ => ?_; dsimp only)
  refine .whenFT ?_
  (iterate 2 (refine .lwhenFT fun _ _ _ _ _ => ?_; dsimp only))
  refine .pickF ?_
  refine .whenFT ?_
  (refine .lwhenFT fun _ _ _ _ _ => ?_; dsimp only)
  refine .whenFT ?_
  (refine .lwhenFT fun _ _ _ _ _ => ?_; dsimp only)
  (iterate 3 refine .whenFT ?_)
  (refine .lwhenFT fun _ _ _ _ _ => ?_; dsimp only)
  refine .pickF ?_
  refine .whenFT ?_
  (refine .lwhenFT fun _ _ _ _ _ => ?_; dsimp only)
  refine .whenFT ?_
  (refine .lwhenFT fun _ _ _ _ _ => ?_; dsimp only)
  refine .whenFT ?_
  (refine .lwhenFT fun _ _ _ _ _ => ?_; dsimp only)
  refine .pickF ?_
  refine .ok S ?_
  refine .nx fun _ _ _ _ => ?_
  (refine .ft fun _ _ _ _ _ _ _ => ?_; dsimp only)
  refine .eqlF om_ ?_
  refine .whenFT ?_
  (refine .lwhenFT fun _ _ _ _ _ => ?_; dsimp only)
  (iterate 3 refine .whenFT ?_)
  refine .whenU ?_
  (iterate 2 (refine .lwhenU fun _ _ _ _ _ => ?_; dsimp only))
  refine .whenU ?_
  (iterate 2 (refine .lwhenU fun _ _ _ _ _ => ?_; dsimp only))
  refine .whenFT ?_
  refine .pickF ?_
  refine .ok S ?_
  refine .condF ?_
  (iterate 3 refine .whenFT ?_)
  (iterate 3 refine .whenU ?_)
  (iterate 2 refine .whenFT ?_)
  (iterate 9 refine .whenU ?_)
  refine .whenFT ?_
  refine .pickF ?_
  rotate_right 6
  all_goals (repeat (first | exact qT (by first | omega | (refine ⟨?_, ?_, ?_, ?_, ?_, ?_, ?_, ?_, ?_, ?_⟩ <;> first | omega | assumption | (intro hx; exact absurd (hr5.2 ((hm5 _).2 hx)) Bool.false_ne_true) | fail) | (refine ⟨?_, ?_, ?_, ?_, ?_, ?_, ?_⟩ <;> first | omega | assumption | fail) | fail) | exact qF (by intro hx; first | omega | exact absurd (c.symm.trans hx.2.2.2.2.2.1) Bool.false_ne_true | exact absurd (c.symm.trans hx.2.2.2.2.2.2) Bool.false_ne_true | exact absurd (c.symm.trans hx.2.2.2.2.2.2.2.2.2) Bool.false_ne_true | exact hx.2.2.2.2.2.2.2.2.1 ((hm5 _).1 (hr5.1 rfl)) | fail) | refine W.drop ?_ | refine W.dropN _ ?_))
theorem instr3_c {K : V → H → Option R} {m : Nat} {vs : List V} {m1 m2 r l n : Int} {e : List (Int × Int)} {ve : V} {locs left : Int} (hvs : vs = [.agg [.int .i64 3, .int .i64 m1, .int .i64 m2, .int .i64 r, .int .i64 l, ve, .int .i64 n], .int .i64 locs, .int .i64 left]) (hv : Tk L ve e) (hl : e.length ≤ 12) (h1 : 1 ≤ locs) (h4 : locs ≤ 4) (q : W Q B A S L (K (.bool (insOK ⟨3, m1, m2, r, l, e, n⟩ locs left)))) : W Q B A S (L) fun h => J.call (F (m + 7)) (.fn (.func 21) [] []) vs R h K := by
  subst hvs
  refine W.callE (d := d21) (c := c21) (by kernel_rfl) rfl (by rfl) ?_
  unfold c21
  have hbx : ∀ k, allOne (V.agg [.int .i64 k, .int .i64 m1, .int .i64 m2, .int .i64 r, .int .i64 l, ve, .int .i64 n]).cells = true := fun k => ins_one hv.one ⟨k, m1, m2, r, l, e, n⟩
  have qT : (r = 0 ∧ l = 0 ∧ (m1 = 1 ∨ m1 = 2 ∨ m1 = 3 ∨ m1 = 4) ∧ m2 = 0 ∧ e.length = 0 ∧ n = 0) → W Q B A S L (K (.bool true)) := fun h => (by
    have e : insOK ⟨3, m1, m2, r, l, e, n⟩ locs left = true := decide_eq_true h
    rw [e] at q; exact q)
  have qF : ¬ (r = 0 ∧ l = 0 ∧ (m1 = 1 ∨ m1 = 2 ∨ m1 = 3 ∨ m1 = 4) ∧ m2 = 0 ∧ e.length = 0 ∧ n = 0) → W Q B A S L (K (.bool false)) := fun h => (by
    have e : insOK ⟨3, m1, m2, r, l, e, n⟩ locs left = false := decide_eq_false h
    rw [e] at q; exact q)
  clear q
  (iterate 3 refine .hd ?_)
  refine .en ?_
  refine .box bx_ fun b hb => ?_
  refine .fl ?_
  refine ofk_c rf_ rf_ ?_
  refine .newT fun b hb => ?_
  (refine .storeN om_ rf_ sd_ bx_ ?_)
  refine .loadNP mm_ nl_ ?_
  refine .build0 ?_
  refine .eqsNT rf_ ?_
  refine .whenTT ?_
  refine .fldP ?_
  refine .whenTT ?_
  refine .load1P mm_ _ rf_ ?_
  refine .whenTT ?_
  refine .fldP ?_
  refine .whenTT ?_
  refine .load1P mm_ _ rf_ ?_
  refine .whenTT ?_
  refine mode30_c rf_ (fun c => ?_) (fun c => ?_)
  refine .pickT ?_
  refine .whenTT ?_
  refine .fldP ?_
  refine .whenTT ?_
  refine .load1P mm_ _ rf_ ?_
  refine .whenTT ?_
  refine .fldP ?_
  refine .whenTT ?_
  refine .load1P mm_ _ rf_ ?_
  refine .whenTT ?_
  refine mode1_c rf_ (fun c => ?_) (fun c => ?_)
  refine .pickT ?_
  refine .nx fun _ _ _ _ => ?_
  refine .whenTT ?_
  refine .pure ?_
  refine .lwhenTT ?_
  refine .logged fun B1 hB1 hS1 K1 hK0 hK1 => ?_
  refine hasF_c mm_ rf_ rf_ (by decide) ?_
  (refine hK0 _ (fun lgs1 hi1 ro1 hh1 => ?_); clear hK0 hK1; dsimp only)
  refine .whenTT ?_
  refine .fldP ?_
  refine .lwhenTT ?_
  (refine .lload1T mm_ _ rf_ fun _ _ _ _ _ _ _ => ?_; dsimp only)
  refine .lwhenTT ?_
  refine .logged fun B1 hB1 hS1 K1 hK0 hK1 => ?_
  refine partF_c rf_ (fun c => ?_) (fun c => ?_)
  (refine hK0 _ (fun lgs1 hi1 ro1 hh1 => ?_); clear hK0 hK1; dsimp only)
  refine .pickT ?_
  refine .whenTT ?_
  refine .pure ?_
  refine .lwhenTT ?_
  refine .logged fun B1 hB1 hS1 K1 hK0 hK1 => ?_
  refine hasF_c mm_ rf_ rf_ (by decide) ?_
  (refine hK0 _ (fun lgs1 hi1 ro1 hh1 => ?_); clear hK0 hK1; dsimp only)
  refine .whenTT ?_
  refine .fldP ?_
  refine .lwhenTT ?_
  (refine .lload1T mm_ _ rf_ fun _ _ _ _ _ _ _ => ?_; dsimp only)
  refine .whenTT ?_
  refine .pure ?_
  refine .whenTT ?_
  refine .maxA om_ ?_
  refine .whenTT ?_
  refine .sub om_ om_ ?_
  refine .lwhenTT ?_
  refine .logged fun B1 hB1 hS1 K1 hK0 hK1 => ?_
  refine partF_c rf_ (fun c => ?_) (fun c => ?_)
  (refine hK0 _ (fun lgs1 hi1 ro1 hh1 => ?_); clear hK0 hK1; dsimp only)
  refine .pickT ?_
  refine .whenTT ?_
  refine .pure ?_
  refine .lwhenTT ?_
  refine .logged fun B1 hB1 hS1 K1 hK0 hK1 => ?_
  refine hasF_c mm_ rf_ rf_ (by decide) ?_
  (refine hK0 _ (fun lgs1 hi1 ro1 hh1 => ?_); clear hK0 hK1; dsimp only)
  refine .whenTT ?_
  refine .fldP ?_
  refine .lwhenTT ?_
  (refine .lload1T mm_ _ rf_ fun _ _ _ _ _ _ _ => ?_; dsimp only)
  refine .whenTT ?_
  refine .pure ?_
  refine .lwhenTT ?_
  refine .logged fun B1 hB1 hS1 K1 hK0 hK1 => ?_
  refine partF_c rf_ (fun c => ?_) (fun c => ?_)
  (refine hK0 _ (fun lgs1 hi1 ro1 hh1 => ?_); clear hK0 hK1; dsimp only)
  refine .pickT ?_
  refine .ok S ?_
  refine .nx fun _ _ _ _ => ?_
  (refine .ft fun _ _ _ _ _ _ _ => ?_; dsimp only)
  refine .eqlF om_ ?_
  refine .whenFT ?_
  (refine .lwhenFT fun _ _ _ _ _ => ?_; dsimp only)
  (iterate 3 refine .whenFT ?_)
  refine .whenU ?_
  (iterate 2 (refine .lwhenU fun _ _ _ _ _ => ?_; dsimp only))
  refine .whenU ?_
  (iterate 2 (refine .lwhenU fun _ _ _ _ _ => ?_; dsimp only))
  refine .whenFT ?_
  refine .pickF ?_
  refine .ok S ?_
  refine .condF ?_
  refine .whenTT ?_
  refine .pure ?_
  refine .whenTT ?_
  refine hasF_c mm_ rf_ rf_ (by decide) ?_
  refine .whenTT ?_
  refine .pure ?_
  (iterate 3 refine .whenFT ?_)
  refine .whenTT ?_
  refine .pickF ?_
  refine .whenTT ?_
  refine .pure ?_
  refine .whenFF ?_
  refine .pure ?_
  refine .whenFF ?_
  refine hasF_c mm_ rf_ rf_ (by decide) ?_
  refine .whenFF ?_
  refine .notF ?_
  refine .whenFF ?_
  refine .pure ?_
  refine .whenTT ?_
  refine .fldP ?_
  refine .whenTT ?_
  refine .load1P mm_ _ rf_ ?_
  refine .whenTT ?_
  refine .lenR rc_ ?_
  refine .whenTT ?_
  refine .eqlC (fun c => ?_) (fun c => ?_)
  refine .whenFF ?_
  refine .pickT ?_
  refine .whenTT ?_
  refine .pickF ?_
  refine .pickT ?_
  rotate_left
  refine .whenFF ?_
  refine .pickT ?_
  refine .whenTT ?_
  refine .pickF ?_
  refine .pickT ?_
  rotate_right
  rotate_left 2
  (refine hK0 _ (fun lgs1 hi1 ro1 hh1 => ?_); clear hK0 hK1; dsimp only)
  refine .pickT ?_
  refine .ok S ?_
  refine .nx fun _ _ _ _ => ?_
  (refine .ft fun _ _ _ _ _ _ _ => ?_; dsimp only)
  refine .eqlF om_ ?_
  refine .whenFT ?_
  (refine .lwhenFT fun _ _ _ _ _ => ?_; dsimp only)
  (iterate 3 refine .whenFT ?_)
  refine .whenU ?_
  (iterate 2 (refine .lwhenU fun _ _ _ _ _ => ?_; dsimp only))
  refine .whenU ?_
  (iterate 2 (refine .lwhenU fun _ _ _ _ _ => ?_; dsimp only))
  refine .whenFT ?_
  refine .pickF ?_
  refine .ok S ?_
  refine .condF ?_
  (iterate 3 refine .whenFT ?_)
  (iterate 3 refine .whenU ?_)
  (iterate 2 refine .whenFT ?_)
  (iterate 9 refine .whenU ?_)
  refine .whenFT ?_
  refine .pickF ?_
  rotate_right 2
  rotate_left 3
  (refine hK0 _ (fun lgs1 hi1 ro1 hh1 => ?_); clear hK0 hK1; dsimp only)
  refine .pickT ?_
  refine .whenFT ?_
  (refine .lwhenFT fun _ _ _ _ _ => ?_; dsimp only)
  refine .whenFT ?_
  (refine .lwhenFT fun _ _ _ _ _ => ?_; dsimp only)
  refine .whenFT ?_
  (refine .lwhenFT fun _ _ _ _ _ => ?_; dsimp only)
  refine .pickF ?_
  refine .ok S ?_
  refine .nx fun _ _ _ _ => ?_
  (refine .ft fun _ _ _ _ _ _ _ => ?_; dsimp only)
  refine .eqlF om_ ?_
  refine .whenFT ?_
  (refine .lwhenFT fun _ _ _ _ _ => ?_; dsimp only)
  (iterate 3 refine .whenFT ?_)
  refine .whenU ?_
  (iterate 2 (refine .lwhenU fun _ _ _ _ _ => ?_; dsimp only))
  refine .whenU ?_
  (iterate 2 (refine .lwhenU fun _ _ _ _ _ => ?_; dsimp only))
  refine .whenFT ?_
  refine .pickF ?_
  refine .ok S ?_
  refine .condF ?_
  (iterate 3 refine .whenFT ?_)
  (iterate 3 refine .whenU ?_)
  (iterate 2 refine .whenFT ?_)
  (iterate 9 refine .whenU ?_)
  refine .whenFT ?_
  refine .pickF ?_
  rotate_right 3
  rotate_left 4
  (refine hK0 _ (fun lgs1 hi1 ro1 hh1 => ?_); clear hK0 hK1; dsimp only)
  refine .pickT ?_
  refine .whenFT ?_
  (refine .lwhenFT fun _ _ _ _ _ => ?_; dsimp only)
  refine .whenFT ?_
  (refine .lwhenFT fun _ _ _ _ _ => ?_; dsimp only)
  (iterate 3 refine .whenFT ?_)
  (refine .lwhenFT fun _ _ _ _ _ => ?_; dsimp only)
  refine .pickF ?_
  refine .whenFT ?_
  (refine .lwhenFT fun _ _ _ _ _ => ?_; dsimp only)
  refine .whenFT ?_
  (refine .lwhenFT fun _ _ _ _ _ => ?_; dsimp only)
  refine .whenFT ?_
  (refine .lwhenFT fun _ _ _ _ _ => ?_; dsimp only)
  refine .pickF ?_
  refine .ok S ?_
  refine .nx fun _ _ _ _ => ?_
  (refine .ft fun _ _ _ _ _ _ _ => ?_; dsimp only)
  refine .eqlF om_ ?_
  refine .whenFT ?_
  (refine .lwhenFT fun _ _ _ _ _ => ?_; dsimp only)
  (iterate 3 refine .whenFT ?_)
  refine .whenU ?_
  (iterate 2 (refine .lwhenU fun _ _ _ _ _ => ?_; dsimp only))
  refine .whenU ?_
  (iterate 2 (refine .lwhenU fun _ _ _ _ _ => ?_; dsimp only))
  refine .whenFT ?_
  refine .pickF ?_
  refine .ok S ?_
  refine .condF ?_
  (iterate 3 refine .whenFT ?_)
  (iterate 3 refine .whenU ?_)
  (iterate 2 refine .whenFT ?_)
  (iterate 9 refine .whenU ?_)
  refine .whenFT ?_
  refine .pickF ?_
  rotate_right 4
  rotate_left 5
  refine .pickT ?_
  refine .nx fun _ _ _ _ => ?_
  refine .whenFT ?_
  (refine .lwhenFT fun _ _ _ _ _ => ?_; dsimp only)
  refine .whenFT ?_
  (iterate 2 (refine .lwhenFT fun _ _ _ _ _ => ?_; dsimp only))
  refine .pickF ?_
  refine .whenFT ?_
  (refine .lwhenFT fun _ _ _ _ _ => ?_; dsimp only)
  refine .whenFT ?_
  (refine .lwhenFT fun _ _ _ _ _ => ?_; dsimp only)
  (iterate 3 refine .whenFT ?_)
  (refine .lwhenFT fun _ _ _ _ _ => ?_; dsimp only)
  refine .pickF ?_
  refine .whenFT ?_
  (refine .lwhenFT fun _ _ _ _ _ => ?_; dsimp only)
  refine .whenFT ?_
  (refine .lwhenFT fun _ _ _ _ _ => ?_; dsimp only)
  refine .whenFT ?_
  (refine .lwhenFT fun _ _ _ _ _ => ?_; dsimp only)
  refine .pickF ?_
  refine .ok S ?_
  refine .nx fun _ _ _ _ => ?_
  (refine .ft fun _ _ _ _ _ _ _ => ?_; dsimp only)
  refine .eqlF om_ ?_
  refine .whenFT ?_
  (refine .lwhenFT fun _ _ _ _ _ => ?_; dsimp only)
  (iterate 3 refine .whenFT ?_)
  refine .whenU ?_
  (iterate 2 (refine .lwhenU fun _ _ _ _ _ => ?_; dsimp only))
  refine .whenU ?_
  (iterate 2 (refine .lwhenU fun _ _ _ _ _ => ?_; dsimp only))
  refine .whenFT ?_
  refine .pickF ?_
  refine .ok S ?_
  refine .condF ?_
  (iterate 3 refine .whenFT ?_)
  (iterate 3 refine .whenU ?_)
  (iterate 2 refine .whenFT ?_)
  (iterate 9 refine .whenU ?_)
  refine .whenFT ?_
  refine .pickF ?_
  rotate_right 5
  rotate_left 6
  refine .pickT ?_
  (iterate 2 refine .whenFT ?_)
  refine .wp3 ?_
  refine .nx fun _ _ _ _ => ?_
  refine .whenFT ?_
  (refine .lwhenFT fun _ _ _ _ _ => ?_; dsimp only)
  refine .whenFT ?_
  (iterate 2 (refine .lwhenFT fun _ _ _ _ _ => ?_; dsimp only))
  refine .pickF ?_
  refine .whenFT ?_
  (refine .lwhenFT fun _ _ _ _ _ => ?_; dsimp only)
  refine .whenFT ?_
  (refine .lwhenFT fun _ _ _ _ _ => ?_; dsimp only)
  (iterate 3 refine .whenFT ?_)
  (refine .lwhenFT fun _ _ _ _ _ => ?_; dsimp only)
  refine .pickF ?_
  refine .whenFT ?_
  (refine .lwhenFT fun _ _ _ _ _ => ?_; dsimp only)
  refine .whenFT ?_
  (refine .lwhenFT fun _ _ _ _ _ => ?_; dsimp only)
  refine .whenFT ?_
  (refine .lwhenFT fun _ _ _ _ _ => ?_; dsimp only)
  refine .pickF ?_
  refine .ok S ?_
  refine .nx fun _ _ _ _ => ?_
  (refine .ft fun _ _ _ _ _ _ _ => ?_; dsimp only)
  refine .eqlF om_ ?_
  refine .whenFT ?_
  (refine .lwhenFT fun _ _ _ _ _ => ?_; dsimp only)
  (iterate 3 refine .whenFT ?_)
  refine .whenU ?_
  (iterate 2 (refine .lwhenU fun _ _ _ _ _ => ?_; dsimp only))
  refine .whenU ?_
  (iterate 2 (refine .lwhenU fun _ _ _ _ _ => ?_; dsimp only))
  refine .whenFT ?_
  refine .pickF ?_
  refine .ok S ?_
  refine .condF ?_
  (iterate 3 refine .whenFT ?_)
  (iterate 3 refine .whenU ?_)
  (iterate 2 refine .whenFT ?_)
  (iterate 9 refine .whenU ?_)
  refine .whenFT ?_
  refine .pickF ?_
  rotate_right 6
  all_goals (repeat (first | exact qT (by first | omega | (refine ⟨?_, ?_, ?_, ?_, ?_, ?_, ?_, ?_, ?_, ?_⟩ <;> first | omega | assumption | (intro hx; exact absurd (hr5.2 ((hm5 _).2 hx)) Bool.false_ne_true) | fail) | (refine ⟨?_, ?_, ?_, ?_, ?_, ?_, ?_⟩ <;> first | omega | assumption | fail) | fail) | exact qF (by intro hx; first | omega | exact absurd (c.symm.trans hx.2.2.2.2.2.1) Bool.false_ne_true | exact absurd (c.symm.trans hx.2.2.2.2.2.2) Bool.false_ne_true | exact absurd (c.symm.trans hx.2.2.2.2.2.2.2.2.2) Bool.false_ne_true | exact hx.2.2.2.2.2.2.2.2.1 ((hm5 _).1 (hr5.1 rfl)) | fail) | refine W.drop ?_ | refine W.dropN _ ?_))
theorem instr4_c {K : V → H → Option R} {m : Nat} {vs : List V} {m1 m2 r l n : Int} {e : List (Int × Int)} {ve : V} {locs left : Int} (hvs : vs = [.agg [.int .i64 4, .int .i64 m1, .int .i64 m2, .int .i64 r, .int .i64 l, ve, .int .i64 n], .int .i64 locs, .int .i64 left]) (hv : Tk L ve e) (hl : e.length ≤ 12) (h1 : 1 ≤ locs) (h4 : locs ≤ 4) (q : W Q B A S L (K (.bool (insOK ⟨4, m1, m2, r, l, e, n⟩ locs left)))) : W Q B A S (L) fun h => J.call (F (m + 7)) (.fn (.func 21) [] []) vs R h K := by
  subst hvs
  refine W.callE (d := d21) (c := c21) (by kernel_rfl) rfl (by rfl) ?_
  unfold c21
  have hbx : ∀ k, allOne (V.agg [.int .i64 k, .int .i64 m1, .int .i64 m2, .int .i64 r, .int .i64 l, ve, .int .i64 n]).cells = true := fun k => ins_one hv.one ⟨k, m1, m2, r, l, e, n⟩
  have qT : (0 ≤ r ∧ r ≤ 7 ∧ 0 ≤ l ∧ l ≤ locs - 1 ∧ (m1 = 0 ∨ m1 = 1) ∧ (m2 = 0 ∨ m2 = 2) ∧ n = 0 ∧ e.length ≤ 7 ∧ r ∉ regL e ∧ checkE e = true) → W Q B A S L (K (.bool true)) := fun h => (by
    have e : insOK ⟨4, m1, m2, r, l, e, n⟩ locs left = true := decide_eq_true h
    rw [e] at q; exact q)
  have qF : ¬ (0 ≤ r ∧ r ≤ 7 ∧ 0 ≤ l ∧ l ≤ locs - 1 ∧ (m1 = 0 ∨ m1 = 1) ∧ (m2 = 0 ∨ m2 = 2) ∧ n = 0 ∧ e.length ≤ 7 ∧ r ∉ regL e ∧ checkE e = true) → W Q B A S L (K (.bool false)) := fun h => (by
    have e : insOK ⟨4, m1, m2, r, l, e, n⟩ locs left = false := decide_eq_false h
    rw [e] at q; exact q)
  clear q
  (iterate 3 refine .hd ?_)
  refine .en ?_
  refine .box bx_ fun b hb => ?_
  refine .fl ?_
  refine ofk_c rf_ rf_ ?_
  refine .newT fun b hb => ?_
  (refine .storeN om_ rf_ sd_ bx_ ?_)
  refine .loadNP mm_ nl_ ?_
  refine .build0 ?_
  refine .eqsNT rf_ ?_
  refine .whenTT ?_
  refine .fldP ?_
  refine .whenTT ?_
  refine .load1P mm_ _ rf_ ?_
  refine .whenTT ?_
  refine .fldP ?_
  refine .whenTT ?_
  refine .load1P mm_ _ rf_ ?_
  refine .whenTT ?_
  refine mode3_c rf_ (fun c => ?_) (fun c => ?_)
  refine .pickT ?_
  refine .whenTT ?_
  refine .fldP ?_
  refine .whenTT ?_
  refine .load1P mm_ _ rf_ ?_
  refine .whenTT ?_
  refine .fldP ?_
  refine .whenTT ?_
  refine .load1P mm_ _ rf_ ?_
  refine .whenTT ?_
  refine mode5_c rf_ (fun c => ?_) (fun c => ?_)
  refine .pickT ?_
  refine .nx fun _ _ _ _ => ?_
  refine .whenTT ?_
  refine .pure ?_
  refine .lwhenTT ?_
  refine .logged fun B1 hB1 hS1 K1 hK0 hK1 => ?_
  refine hasT_c mm_ rf_ rf_ (by decide) ?_
  (refine hK0 _ (fun lgs1 hi1 ro1 hh1 => ?_); clear hK0 hK1; dsimp only)
  refine .whenTT ?_
  refine .fldP ?_
  refine .lwhenTT ?_
  (refine .lload1T mm_ _ rf_ fun _ _ _ _ _ _ _ => ?_; dsimp only)
  refine .lwhenTT ?_
  refine .logged fun B1 hB1 hS1 K1 hK0 hK1 => ?_
  refine partT_c rf_ (fun c => ?_) (fun c => ?_)
  (refine hK0 _ (fun lgs1 hi1 ro1 hh1 => ?_); clear hK0 hK1; dsimp only)
  refine .pickT ?_
  refine .whenTT ?_
  refine .pure ?_
  refine .lwhenTT ?_
  refine .logged fun B1 hB1 hS1 K1 hK0 hK1 => ?_
  refine hasT_c mm_ rf_ rf_ (by decide) ?_
  (refine hK0 _ (fun lgs1 hi1 ro1 hh1 => ?_); clear hK0 hK1; dsimp only)
  refine .whenTT ?_
  refine .fldP ?_
  refine .lwhenTT ?_
  (refine .lload1T mm_ _ rf_ fun _ _ _ _ _ _ _ => ?_; dsimp only)
  refine .whenTT ?_
  refine .pure ?_
  refine .whenTT ?_
  refine .maxA om_ ?_
  refine .whenTT ?_
  refine .sub om_ om_ ?_
  refine .lwhenTT ?_
  refine .logged fun B1 hB1 hS1 K1 hK0 hK1 => ?_
  refine partT_c rf_ (fun c => ?_) (fun c => ?_)
  (refine hK0 _ (fun lgs1 hi1 ro1 hh1 => ?_); clear hK0 hK1; dsimp only)
  refine .pickT ?_
  refine .whenTT ?_
  refine .pure ?_
  refine .lwhenTT ?_
  refine .logged fun B1 hB1 hS1 K1 hK0 hK1 => ?_
  refine hasF_c mm_ rf_ rf_ (by decide) ?_
  (refine hK0 _ (fun lgs1 hi1 ro1 hh1 => ?_); clear hK0 hK1; dsimp only)
  refine .whenTT ?_
  refine .fldP ?_
  refine .lwhenTT ?_
  (refine .lload1T mm_ _ rf_ fun _ _ _ _ _ _ _ => ?_; dsimp only)
  refine .whenTT ?_
  refine .pure ?_
  refine .lwhenTT ?_
  refine .logged fun B1 hB1 hS1 K1 hK0 hK1 => ?_
  refine partF_c rf_ (fun c => ?_) (fun c => ?_)
  (refine hK0 _ (fun lgs1 hi1 ro1 hh1 => ?_); clear hK0 hK1; dsimp only)
  refine .pickT ?_
  refine .ok S ?_
  refine .nx fun _ _ _ _ => ?_
  (refine .ft fun _ _ _ _ _ _ _ => ?_; dsimp only)
  refine .eqlT om_ ?_
  refine .whenTT ?_
  refine .fldP ?_
  refine .lwhenTT ?_
  (refine .lload1T mm_ _ rf_ fun _ _ _ _ _ _ _ => ?_; dsimp only)
  refine .whenTT ?_
  refine .lenR rc_ ?_
  refine .whenTT ?_
  refine .gtrC (fun c => ?_) (fun c => ?_)
  refine .whenTT ?_
  refine .pure ?_
  refine .whenTF ?_
  (iterate 2 (refine .lwhenTF fun _ _ _ _ _ => ?_; dsimp only))
  refine .whenTF ?_
  (iterate 2 (refine .lwhenTF fun _ _ _ _ _ => ?_; dsimp only))
  refine .whenTT ?_
  (iterate 2 refine .pickT ?_)
  refine .ok S ?_
  refine .condT ?_
  rotate_left
  refine .whenTT ?_
  refine .pure ?_
  refine .whenFF ?_
  refine .fldP ?_
  refine .lwhenFF ?_
  (refine .lload1T mm_ _ rf_ fun _ _ _ _ _ _ _ => ?_; dsimp only)
  refine .lwhenFF ?_
  refine .logged fun B1 hB1 hS1 K1 hK0 hK1 => ?_
  (refine regs_c rf_ rc_ om_ fun v5 l5 N5 hm5 hll5 hB5 hiv5 => ?_; refine hK1 N5 _ hB5 fun lgs1 hi1 ro1 hn1 hh1 => ?_; clear hK0 hK1; dsimp only)
  refine .whenFF ?_
  refine .fldP ?_
  refine .lwhenFF ?_
  (refine .lload1T mm_ _ rf_ fun _ _ _ _ _ _ _ => ?_; dsimp only)
  refine .lwhenFF ?_
  refine .logged fun B1 hB1 hS1 K1 hK0 hK1 => ?_
  (refine contains_c rf_ rc_ om_ fun r5 hr5 => ?_; (refine hK0 _ (fun lgs1 hi1 ro1 hh1 => ?_); clear hK0 hK1; dsimp only; cases r5))
  refine .whenTT ?_
  refine .pickF ?_
  refine .pickT ?_
  refine .ok S ?_
  refine .condF ?_
  refine .whenTT ?_
  refine .pure ?_
  refine .whenTT ?_
  refine hasT_c mm_ rf_ rf_ (by decide) ?_
  refine .whenTT ?_
  refine .pure ?_
  refine .whenTT ?_
  refine .fldP ?_
  refine .whenTT ?_
  refine .load1P mm_ _ rf_ ?_
  refine .whenTT ?_
  refine checkS_c rf_ rc_ om_ (fun c => ?_) (fun c => ?_)
  refine .whenTT ?_
  refine .pickT ?_
  refine .whenTT ?_
  refine .pure ?_
  (iterate 4 refine .whenTF ?_)
  (iterate 4 refine .whenU ?_)
  refine .whenTF ?_
  refine .whenTT ?_
  (iterate 2 refine .pickT ?_)
  rotate_left
  refine .whenTT ?_
  refine .pickT ?_
  refine .whenTT ?_
  refine .pure ?_
  refine .whenFF ?_
  refine .pure ?_
  refine .whenFF ?_
  refine hasT_c mm_ rf_ rf_ (by decide) ?_
  refine .whenFF ?_
  refine .notT ?_
  refine .whenFF ?_
  refine .pure ?_
  (iterate 4 refine .whenFT ?_)
  refine .whenFF ?_
  refine .pickF ?_
  refine .whenTT ?_
  refine .pickF ?_
  refine .pickT ?_
  rotate_right
  rotate_left 2
  refine .whenTT ?_
  refine .pickF ?_
  refine .pickT ?_
  refine .ok S ?_
  refine .condT ?_
  rotate_right 2
  rotate_right
  rotate_left 4
  (refine hK0 _ (fun lgs1 hi1 ro1 hh1 => ?_); clear hK0 hK1; dsimp only)
  refine .pickT ?_
  refine .ok S ?_
  refine .nx fun _ _ _ _ => ?_
  (refine .ft fun _ _ _ _ _ _ _ => ?_; dsimp only)
  refine .eqlT om_ ?_
  refine .whenTT ?_
  refine .fldP ?_
  refine .lwhenTT ?_
  (refine .lload1T mm_ _ rf_ fun _ _ _ _ _ _ _ => ?_; dsimp only)
  refine .whenTT ?_
  refine .lenR rc_ ?_
  refine .whenTT ?_
  refine .gtrC (fun c => ?_) (fun c => ?_)
  refine .whenTT ?_
  refine .pure ?_
  refine .whenTF ?_
  (iterate 2 (refine .lwhenTF fun _ _ _ _ _ => ?_; dsimp only))
  refine .whenTF ?_
  (iterate 2 (refine .lwhenTF fun _ _ _ _ _ => ?_; dsimp only))
  refine .whenTT ?_
  (iterate 2 refine .pickT ?_)
  refine .ok S ?_
  refine .condT ?_
  rotate_left
  refine .whenTT ?_
  refine .pure ?_
  refine .whenFF ?_
  refine .fldP ?_
  refine .lwhenFF ?_
  (refine .lload1T mm_ _ rf_ fun _ _ _ _ _ _ _ => ?_; dsimp only)
  refine .lwhenFF ?_
  refine .logged fun B1 hB1 hS1 K1 hK0 hK1 => ?_
  (refine regs_c rf_ rc_ om_ fun v5 l5 N5 hm5 hll5 hB5 hiv5 => ?_; refine hK1 N5 _ hB5 fun lgs1 hi1 ro1 hn1 hh1 => ?_; clear hK0 hK1; dsimp only)
  refine .whenFF ?_
  refine .fldP ?_
  refine .lwhenFF ?_
  (refine .lload1T mm_ _ rf_ fun _ _ _ _ _ _ _ => ?_; dsimp only)
  refine .lwhenFF ?_
  refine .logged fun B1 hB1 hS1 K1 hK0 hK1 => ?_
  (refine contains_c rf_ rc_ om_ fun r5 hr5 => ?_; (refine hK0 _ (fun lgs1 hi1 ro1 hh1 => ?_); clear hK0 hK1; dsimp only; cases r5))
  refine .whenTT ?_
  refine .pickF ?_
  refine .pickT ?_
  refine .ok S ?_
  refine .condF ?_
  (iterate 3 refine .whenFT ?_)
  (iterate 3 refine .whenU ?_)
  (iterate 2 refine .whenFT ?_)
  (iterate 9 refine .whenU ?_)
  refine .whenFT ?_
  refine .pickF ?_
  rotate_left
  refine .whenTT ?_
  refine .pickF ?_
  refine .pickT ?_
  refine .ok S ?_
  refine .condT ?_
  rotate_right
  rotate_right
  rotate_right 4
  rotate_left 7
  (refine hK0 _ (fun lgs1 hi1 ro1 hh1 => ?_); clear hK0 hK1; dsimp only)
  refine .pickT ?_
  refine .whenFT ?_
  (refine .lwhenFT fun _ _ _ _ _ => ?_; dsimp only)
  refine .whenFT ?_
  (refine .lwhenFT fun _ _ _ _ _ => ?_; dsimp only)
  refine .whenFT ?_
  (refine .lwhenFT fun _ _ _ _ _ => ?_; dsimp only)
  refine .pickF ?_
  refine .ok S ?_
  refine .nx fun _ _ _ _ => ?_
  (refine .ft fun _ _ _ _ _ _ _ => ?_; dsimp only)
  refine .eqlT om_ ?_
  refine .whenTT ?_
  refine .fldP ?_
  refine .lwhenTT ?_
  (refine .lload1T mm_ _ rf_ fun _ _ _ _ _ _ _ => ?_; dsimp only)
  refine .whenTT ?_
  refine .lenR rc_ ?_
  refine .whenTT ?_
  refine .gtrC (fun c => ?_) (fun c => ?_)
  refine .whenTT ?_
  refine .pure ?_
  refine .whenTF ?_
  (iterate 2 (refine .lwhenTF fun _ _ _ _ _ => ?_; dsimp only))
  refine .whenTF ?_
  (iterate 2 (refine .lwhenTF fun _ _ _ _ _ => ?_; dsimp only))
  refine .whenTT ?_
  (iterate 2 refine .pickT ?_)
  refine .ok S ?_
  refine .condT ?_
  rotate_left
  refine .whenTT ?_
  refine .pure ?_
  refine .whenFF ?_
  refine .fldP ?_
  refine .lwhenFF ?_
  (refine .lload1T mm_ _ rf_ fun _ _ _ _ _ _ _ => ?_; dsimp only)
  refine .lwhenFF ?_
  refine .logged fun B1 hB1 hS1 K1 hK0 hK1 => ?_
  (refine regs_c rf_ rc_ om_ fun v5 l5 N5 hm5 hll5 hB5 hiv5 => ?_; refine hK1 N5 _ hB5 fun lgs1 hi1 ro1 hn1 hh1 => ?_; clear hK0 hK1; dsimp only)
  refine .whenFF ?_
  refine .fldP ?_
  refine .lwhenFF ?_
  (refine .lload1T mm_ _ rf_ fun _ _ _ _ _ _ _ => ?_; dsimp only)
  refine .lwhenFF ?_
  refine .logged fun B1 hB1 hS1 K1 hK0 hK1 => ?_
  (refine contains_c rf_ rc_ om_ fun r5 hr5 => ?_; (refine hK0 _ (fun lgs1 hi1 ro1 hh1 => ?_); clear hK0 hK1; dsimp only; cases r5))
  refine .whenTT ?_
  refine .pickF ?_
  refine .pickT ?_
  refine .ok S ?_
  refine .condF ?_
  (iterate 3 refine .whenFT ?_)
  (iterate 3 refine .whenU ?_)
  (iterate 2 refine .whenFT ?_)
  (iterate 9 refine .whenU ?_)
  refine .whenFT ?_
  refine .pickF ?_
  rotate_left
  refine .whenTT ?_
  refine .pickF ?_
  refine .pickT ?_
  refine .ok S ?_
  refine .condT ?_
  rotate_right
  rotate_right
  rotate_right 7
  rotate_left 10
  (refine hK0 _ (fun lgs1 hi1 ro1 hh1 => ?_); clear hK0 hK1; dsimp only)
  refine .pickT ?_
  refine .whenFT ?_
  (refine .lwhenFT fun _ _ _ _ _ => ?_; dsimp only)
  refine .whenFT ?_
  (refine .lwhenFT fun _ _ _ _ _ => ?_; dsimp only)
  (iterate 3 refine .whenFT ?_)
  (refine .lwhenFT fun _ _ _ _ _ => ?_; dsimp only)
  refine .pickF ?_
  refine .whenFT ?_
  (refine .lwhenFT fun _ _ _ _ _ => ?_; dsimp only)
  refine .whenFT ?_
  (refine .lwhenFT fun _ _ _ _ _ => ?_; dsimp only)
  refine .whenFT ?_
  (refine .lwhenFT fun _ _ _ _ _ => ?_; dsimp only)
  refine .pickF ?_
  refine .ok S ?_
  refine .nx fun _ _ _ _ => ?_
  (refine .ft fun _ _ _ _ _ _ _ => ?_; dsimp only)
  refine .eqlT om_ ?_
  refine .whenTT ?_
  refine .fldP ?_
  refine .lwhenTT ?_
  (refine .lload1T mm_ _ rf_ fun _ _ _ _ _ _ _ => ?_; dsimp only)
  refine .whenTT ?_
  refine .lenR rc_ ?_
  refine .whenTT ?_
  refine .gtrC (fun c => ?_) (fun c => ?_)
  refine .whenTT ?_
  refine .pure ?_
  refine .whenTF ?_
  (iterate 2 (refine .lwhenTF fun _ _ _ _ _ => ?_; dsimp only))
  refine .whenTF ?_
  (iterate 2 (refine .lwhenTF fun _ _ _ _ _ => ?_; dsimp only))
  refine .whenTT ?_
  (iterate 2 refine .pickT ?_)
  refine .ok S ?_
  refine .condT ?_
  rotate_left
  refine .whenTT ?_
  refine .pure ?_
  refine .whenFF ?_
  refine .fldP ?_
  refine .lwhenFF ?_
  (refine .lload1T mm_ _ rf_ fun _ _ _ _ _ _ _ => ?_; dsimp only)
  refine .lwhenFF ?_
  refine .logged fun B1 hB1 hS1 K1 hK0 hK1 => ?_
  (refine regs_c rf_ rc_ om_ fun v5 l5 N5 hm5 hll5 hB5 hiv5 => ?_; refine hK1 N5 _ hB5 fun lgs1 hi1 ro1 hn1 hh1 => ?_; clear hK0 hK1; dsimp only)
  refine .whenFF ?_
  refine .fldP ?_
  refine .lwhenFF ?_
  (refine .lload1T mm_ _ rf_ fun _ _ _ _ _ _ _ => ?_; dsimp only)
  refine .lwhenFF ?_
  refine .logged fun B1 hB1 hS1 K1 hK0 hK1 => ?_
  (refine contains_c rf_ rc_ om_ fun r5 hr5 => ?_; (refine hK0 _ (fun lgs1 hi1 ro1 hh1 => ?_); clear hK0 hK1; dsimp only; cases r5))
  refine .whenTT ?_
  refine .pickF ?_
  refine .pickT ?_
  refine .ok S ?_
  refine .condF ?_
  (iterate 3 refine .whenFT ?_)
  (iterate 3 refine .whenU ?_)
  (iterate 2 refine .whenFT ?_)
  (iterate 9 refine .whenU ?_)
  refine .whenFT ?_
  refine .pickF ?_
  rotate_left
  refine .whenTT ?_
  refine .pickF ?_
  refine .pickT ?_
  refine .ok S ?_
  refine .condT ?_
  rotate_right
  rotate_right
  rotate_right 10
  rotate_left 13
  refine .pickT ?_
  refine .nx fun _ _ _ _ => ?_
  refine .whenFT ?_
  (refine .lwhenFT fun _ _ _ _ _ => ?_; dsimp only)
  refine .whenFT ?_
  (iterate 2 (refine .lwhenFT fun _ _ _ _ _ => ?_; dsimp only))
  refine .pickF ?_
  refine .whenFT ?_
  (refine .lwhenFT fun _ _ _ _ _ => ?_; dsimp only)
  refine .whenFT ?_
  (refine .lwhenFT fun _ _ _ _ _ => ?_; dsimp only)
  (iterate 3 refine .whenFT ?_)
  (refine .lwhenFT fun _ _ _ _ _ => ?_; dsimp only)
  refine .pickF ?_
  refine .whenFT ?_
  (refine .lwhenFT fun _ _ _ _ _ => ?_; dsimp only)
  refine .whenFT ?_
  (refine .lwhenFT fun _ _ _ _ _ => ?_; dsimp only)
  refine .whenFT ?_
  (refine .lwhenFT fun _ _ _ _ _ => ?_; dsimp only)
  refine .pickF ?_
  refine .ok S ?_
  refine .nx fun _ _ _ _ => ?_
  (refine .ft fun _ _ _ _ _ _ _ => ?_; dsimp only)
  refine .eqlT om_ ?_
  refine .whenTT ?_
  refine .fldP ?_
  refine .lwhenTT ?_
  (refine .lload1T mm_ _ rf_ fun _ _ _ _ _ _ _ => ?_; dsimp only)
  refine .whenTT ?_
  refine .lenR rc_ ?_
  refine .whenTT ?_
  refine .gtrC (fun c => ?_) (fun c => ?_)
  refine .whenTT ?_
  refine .pure ?_
  refine .whenTF ?_
  (iterate 2 (refine .lwhenTF fun _ _ _ _ _ => ?_; dsimp only))
  refine .whenTF ?_
  (iterate 2 (refine .lwhenTF fun _ _ _ _ _ => ?_; dsimp only))
  refine .whenTT ?_
  (iterate 2 refine .pickT ?_)
  refine .ok S ?_
  refine .condT ?_
  rotate_left
  refine .whenTT ?_
  refine .pure ?_
  refine .whenFF ?_
  refine .fldP ?_
  refine .lwhenFF ?_
  (refine .lload1T mm_ _ rf_ fun _ _ _ _ _ _ _ => ?_; dsimp only)
  refine .lwhenFF ?_
  refine .logged fun B1 hB1 hS1 K1 hK0 hK1 => ?_
  (refine regs_c rf_ rc_ om_ fun v5 l5 N5 hm5 hll5 hB5 hiv5 => ?_; refine hK1 N5 _ hB5 fun lgs1 hi1 ro1 hn1 hh1 => ?_; clear hK0 hK1; dsimp only)
  refine .whenFF ?_
  refine .fldP ?_
  refine .lwhenFF ?_
  (refine .lload1T mm_ _ rf_ fun _ _ _ _ _ _ _ => ?_; dsimp only)
  refine .lwhenFF ?_
  refine .logged fun B1 hB1 hS1 K1 hK0 hK1 => ?_
  (refine contains_c rf_ rc_ om_ fun r5 hr5 => ?_; (refine hK0 _ (fun lgs1 hi1 ro1 hh1 => ?_); clear hK0 hK1; dsimp only; cases r5))
  refine .whenTT ?_
  refine .pickF ?_
  refine .pickT ?_
  refine .ok S ?_
  refine .condF ?_
  (iterate 3 refine .whenFT ?_)
  (iterate 3 refine .whenU ?_)
  (iterate 2 refine .whenFT ?_)
  (iterate 9 refine .whenU ?_)
  refine .whenFT ?_
  refine .pickF ?_
  rotate_left
  refine .whenTT ?_
  refine .pickF ?_
  refine .pickT ?_
  refine .ok S ?_
  refine .condT ?_
  rotate_right
  rotate_right
  rotate_right 13
  rotate_left 16
  refine .pickT ?_
  (iterate 2 refine .whenFT ?_)
  refine .wp3 ?_
  refine .nx fun _ _ _ _ => ?_
  refine .whenFT ?_
  (refine .lwhenFT fun _ _ _ _ _ => ?_; dsimp only)
  refine .whenFT ?_
  (iterate 2 (refine .lwhenFT fun _ _ _ _ _ => ?_; dsimp only))
  refine .pickF ?_
  refine .whenFT ?_
  (refine .lwhenFT fun _ _ _ _ _ => ?_; dsimp only)
  refine .whenFT ?_
  (refine .lwhenFT fun _ _ _ _ _ => ?_; dsimp only)
  (iterate 3 refine .whenFT ?_)
  (refine .lwhenFT fun _ _ _ _ _ => ?_; dsimp only)
  refine .pickF ?_
  refine .whenFT ?_
  (refine .lwhenFT fun _ _ _ _ _ => ?_; dsimp only)
  refine .whenFT ?_
  (refine .lwhenFT fun _ _ _ _ _ => ?_; dsimp only)
  refine .whenFT ?_
  (refine .lwhenFT fun _ _ _ _ _ => ?_; dsimp only)
  refine .pickF ?_
  refine .ok S ?_
  refine .nx fun _ _ _ _ => ?_
  (refine .ft fun _ _ _ _ _ _ _ => ?_; dsimp only)
  refine .eqlT om_ ?_
  refine .whenTT ?_
  refine .fldP ?_
  refine .lwhenTT ?_
  (refine .lload1T mm_ _ rf_ fun _ _ _ _ _ _ _ => ?_; dsimp only)
  refine .whenTT ?_
  refine .lenR rc_ ?_
  refine .whenTT ?_
  refine .gtrC (fun c => ?_) (fun c => ?_)
  refine .whenTT ?_
  refine .pure ?_
  refine .whenTF ?_
  (iterate 2 (refine .lwhenTF fun _ _ _ _ _ => ?_; dsimp only))
  refine .whenTF ?_
  (iterate 2 (refine .lwhenTF fun _ _ _ _ _ => ?_; dsimp only))
  refine .whenTT ?_
  (iterate 2 refine .pickT ?_)
  refine .ok S ?_
  refine .condT ?_
  rotate_left
  refine .whenTT ?_
  refine .pure ?_
  refine .whenFF ?_
  refine .fldP ?_
  refine .lwhenFF ?_
  (refine .lload1T mm_ _ rf_ fun _ _ _ _ _ _ _ => ?_; dsimp only)
  refine .lwhenFF ?_
  refine .logged fun B1 hB1 hS1 K1 hK0 hK1 => ?_
  (refine regs_c rf_ rc_ om_ fun v5 l5 N5 hm5 hll5 hB5 hiv5 => ?_; refine hK1 N5 _ hB5 fun lgs1 hi1 ro1 hn1 hh1 => ?_; clear hK0 hK1; dsimp only)
  refine .whenFF ?_
  refine .fldP ?_
  refine .lwhenFF ?_
  (refine .lload1T mm_ _ rf_ fun _ _ _ _ _ _ _ => ?_; dsimp only)
  refine .lwhenFF ?_
  refine .logged fun B1 hB1 hS1 K1 hK0 hK1 => ?_
  (refine contains_c rf_ rc_ om_ fun r5 hr5 => ?_; (refine hK0 _ (fun lgs1 hi1 ro1 hh1 => ?_); clear hK0 hK1; dsimp only; cases r5))
  refine .whenTT ?_
  refine .pickF ?_
  refine .pickT ?_
  refine .ok S ?_
  refine .condF ?_
  (iterate 3 refine .whenFT ?_)
  (iterate 3 refine .whenU ?_)
  (iterate 2 refine .whenFT ?_)
  (iterate 9 refine .whenU ?_)
  refine .whenFT ?_
  refine .pickF ?_
  rotate_left
  refine .whenTT ?_
  refine .pickF ?_
  refine .pickT ?_
  refine .ok S ?_
  refine .condT ?_
  rotate_right
  rotate_right
  rotate_right 16
  all_goals (repeat (first | exact qT (by first | omega | (refine ⟨?_, ?_, ?_, ?_, ?_, ?_, ?_, ?_, ?_, ?_⟩ <;> first | omega | assumption | (intro hx; exact absurd (hr5.2 ((hm5 _).2 hx)) Bool.false_ne_true) | fail) | (refine ⟨?_, ?_, ?_, ?_, ?_, ?_, ?_⟩ <;> first | omega | assumption | fail) | fail) | exact qF (by intro hx; first | omega | exact absurd (c.symm.trans hx.2.2.2.2.2.1) Bool.false_ne_true | exact absurd (c.symm.trans hx.2.2.2.2.2.2) Bool.false_ne_true | exact absurd (c.symm.trans hx.2.2.2.2.2.2.2.2.2) Bool.false_ne_true | exact hx.2.2.2.2.2.2.2.2.1 ((hm5 _).1 (hr5.1 rfl)) | fail) | refine W.drop ?_ | refine W.dropN _ ?_))
theorem instr5_c {K : V → H → Option R} {m : Nat} {vs : List V} {m1 m2 r l n : Int} {e : List (Int × Int)} {ve : V} {locs left : Int} (hvs : vs = [.agg [.int .i64 5, .int .i64 m1, .int .i64 m2, .int .i64 r, .int .i64 l, ve, .int .i64 n], .int .i64 locs, .int .i64 left]) (hv : Tk L ve e) (hl : e.length ≤ 12) (h1 : 1 ≤ locs) (h4 : locs ≤ 4) (q : W Q B A S L (K (.bool (insOK ⟨5, m1, m2, r, l, e, n⟩ locs left)))) : W Q B A S (L) fun h => J.call (F (m + 7)) (.fn (.func 21) [] []) vs R h K := by
  subst hvs
  refine W.callE (d := d21) (c := c21) (by kernel_rfl) rfl (by rfl) ?_
  unfold c21
  have hbx : ∀ k, allOne (V.agg [.int .i64 k, .int .i64 m1, .int .i64 m2, .int .i64 r, .int .i64 l, ve, .int .i64 n]).cells = true := fun k => ins_one hv.one ⟨k, m1, m2, r, l, e, n⟩
  have qT : (0 ≤ r ∧ r ≤ 7 ∧ l = 0 ∧ m1 = 0 ∧ m2 = 0 ∧ n = 0 ∧ checkE e = true) → W Q B A S L (K (.bool true)) := fun h => (by
    have e : insOK ⟨5, m1, m2, r, l, e, n⟩ locs left = true := decide_eq_true h
    rw [e] at q; exact q)
  have qF : ¬ (0 ≤ r ∧ r ≤ 7 ∧ l = 0 ∧ m1 = 0 ∧ m2 = 0 ∧ n = 0 ∧ checkE e = true) → W Q B A S L (K (.bool false)) := fun h => (by
    have e : insOK ⟨5, m1, m2, r, l, e, n⟩ locs left = false := decide_eq_false h
    rw [e] at q; exact q)
  clear q
  (iterate 3 refine .hd ?_)
  refine .en ?_
  refine .box bx_ fun b hb => ?_
  refine .fl ?_
  refine ofk_c rf_ rf_ ?_
  refine .newT fun b hb => ?_
  (refine .storeN om_ rf_ sd_ bx_ ?_)
  refine .loadNP mm_ nl_ ?_
  refine .build0 ?_
  refine .eqsNT rf_ ?_
  refine .whenTT ?_
  refine .fldP ?_
  refine .whenTT ?_
  refine .load1P mm_ _ rf_ ?_
  refine .whenTT ?_
  refine .fldP ?_
  refine .whenTT ?_
  refine .load1P mm_ _ rf_ ?_
  refine .whenTT ?_
  refine mode1_c rf_ (fun c => ?_) (fun c => ?_)
  refine .pickT ?_
  refine .whenTT ?_
  refine .fldP ?_
  refine .whenTT ?_
  refine .load1P mm_ _ rf_ ?_
  refine .whenTT ?_
  refine .fldP ?_
  refine .whenTT ?_
  refine .load1P mm_ _ rf_ ?_
  refine .whenTT ?_
  refine mode1_c rf_ (fun c => ?_) (fun c => ?_)
  refine .pickT ?_
  refine .nx fun _ _ _ _ => ?_
  refine .whenTT ?_
  refine .pure ?_
  refine .lwhenTT ?_
  refine .logged fun B1 hB1 hS1 K1 hK0 hK1 => ?_
  refine hasT_c mm_ rf_ rf_ (by decide) ?_
  (refine hK0 _ (fun lgs1 hi1 ro1 hh1 => ?_); clear hK0 hK1; dsimp only)
  refine .whenTT ?_
  refine .fldP ?_
  refine .lwhenTT ?_
  (refine .lload1T mm_ _ rf_ fun _ _ _ _ _ _ _ => ?_; dsimp only)
  refine .lwhenTT ?_
  refine .logged fun B1 hB1 hS1 K1 hK0 hK1 => ?_
  refine partT_c rf_ (fun c => ?_) (fun c => ?_)
  (refine hK0 _ (fun lgs1 hi1 ro1 hh1 => ?_); clear hK0 hK1; dsimp only)
  refine .pickT ?_
  refine .whenTT ?_
  refine .pure ?_
  refine .lwhenTT ?_
  refine .logged fun B1 hB1 hS1 K1 hK0 hK1 => ?_
  refine hasF_c mm_ rf_ rf_ (by decide) ?_
  (refine hK0 _ (fun lgs1 hi1 ro1 hh1 => ?_); clear hK0 hK1; dsimp only)
  refine .whenTT ?_
  refine .fldP ?_
  refine .lwhenTT ?_
  (refine .lload1T mm_ _ rf_ fun _ _ _ _ _ _ _ => ?_; dsimp only)
  refine .whenTT ?_
  refine .pure ?_
  refine .whenTT ?_
  refine .maxA om_ ?_
  refine .whenTT ?_
  refine .sub om_ om_ ?_
  refine .lwhenTT ?_
  refine .logged fun B1 hB1 hS1 K1 hK0 hK1 => ?_
  refine partF_c rf_ (fun c => ?_) (fun c => ?_)
  (refine hK0 _ (fun lgs1 hi1 ro1 hh1 => ?_); clear hK0 hK1; dsimp only)
  refine .pickT ?_
  refine .whenTT ?_
  refine .pure ?_
  refine .lwhenTT ?_
  refine .logged fun B1 hB1 hS1 K1 hK0 hK1 => ?_
  refine hasF_c mm_ rf_ rf_ (by decide) ?_
  (refine hK0 _ (fun lgs1 hi1 ro1 hh1 => ?_); clear hK0 hK1; dsimp only)
  refine .whenTT ?_
  refine .fldP ?_
  refine .lwhenTT ?_
  (refine .lload1T mm_ _ rf_ fun _ _ _ _ _ _ _ => ?_; dsimp only)
  refine .whenTT ?_
  refine .pure ?_
  refine .lwhenTT ?_
  refine .logged fun B1 hB1 hS1 K1 hK0 hK1 => ?_
  refine partF_c rf_ (fun c => ?_) (fun c => ?_)
  (refine hK0 _ (fun lgs1 hi1 ro1 hh1 => ?_); clear hK0 hK1; dsimp only)
  refine .pickT ?_
  refine .ok S ?_
  refine .nx fun _ _ _ _ => ?_
  (refine .ft fun _ _ _ _ _ _ _ => ?_; dsimp only)
  refine .eqlF om_ ?_
  refine .whenFT ?_
  (refine .lwhenFT fun _ _ _ _ _ => ?_; dsimp only)
  (iterate 3 refine .whenFT ?_)
  refine .whenU ?_
  (iterate 2 (refine .lwhenU fun _ _ _ _ _ => ?_; dsimp only))
  refine .whenU ?_
  (iterate 2 (refine .lwhenU fun _ _ _ _ _ => ?_; dsimp only))
  refine .whenFT ?_
  refine .pickF ?_
  refine .ok S ?_
  refine .condF ?_
  refine .whenTT ?_
  refine .pure ?_
  refine .whenTT ?_
  refine hasT_c mm_ rf_ rf_ (by decide) ?_
  refine .whenTT ?_
  refine .pure ?_
  refine .whenTT ?_
  refine .fldP ?_
  refine .whenTT ?_
  refine .load1P mm_ _ rf_ ?_
  refine .whenTT ?_
  refine checkS_c rf_ rc_ om_ (fun c => ?_) (fun c => ?_)
  refine .whenTT ?_
  refine .pickT ?_
  refine .whenTT ?_
  refine .pure ?_
  (iterate 4 refine .whenTF ?_)
  (iterate 4 refine .whenU ?_)
  refine .whenTF ?_
  refine .whenTT ?_
  (iterate 2 refine .pickT ?_)
  rotate_left
  refine .whenTT ?_
  refine .pickT ?_
  refine .whenTT ?_
  refine .pure ?_
  refine .whenFF ?_
  refine .pure ?_
  refine .whenFF ?_
  refine hasT_c mm_ rf_ rf_ (by decide) ?_
  refine .whenFF ?_
  refine .notT ?_
  refine .whenFF ?_
  refine .pure ?_
  (iterate 4 refine .whenFT ?_)
  refine .whenFF ?_
  refine .pickF ?_
  refine .whenTT ?_
  refine .pickF ?_
  refine .pickT ?_
  rotate_right
  rotate_left 2
  (refine hK0 _ (fun lgs1 hi1 ro1 hh1 => ?_); clear hK0 hK1; dsimp only)
  refine .pickT ?_
  refine .ok S ?_
  refine .nx fun _ _ _ _ => ?_
  (refine .ft fun _ _ _ _ _ _ _ => ?_; dsimp only)
  refine .eqlF om_ ?_
  refine .whenFT ?_
  (refine .lwhenFT fun _ _ _ _ _ => ?_; dsimp only)
  (iterate 3 refine .whenFT ?_)
  refine .whenU ?_
  (iterate 2 (refine .lwhenU fun _ _ _ _ _ => ?_; dsimp only))
  refine .whenU ?_
  (iterate 2 (refine .lwhenU fun _ _ _ _ _ => ?_; dsimp only))
  refine .whenFT ?_
  refine .pickF ?_
  refine .ok S ?_
  refine .condF ?_
  (iterate 3 refine .whenFT ?_)
  (iterate 3 refine .whenU ?_)
  (iterate 2 refine .whenFT ?_)
  (iterate 9 refine .whenU ?_)
  refine .whenFT ?_
  refine .pickF ?_
  rotate_right 2
  rotate_left 3
  (refine hK0 _ (fun lgs1 hi1 ro1 hh1 => ?_); clear hK0 hK1; dsimp only)
  refine .pickT ?_
  refine .whenFT ?_
  (refine .lwhenFT fun _ _ _ _ _ => ?_; dsimp only)
  refine .whenFT ?_
  (refine .lwhenFT fun _ _ _ _ _ => ?_; dsimp only)
  refine .whenFT ?_
  (refine .lwhenFT fun _ _ _ _ _ => ?_; dsimp only)
  refine .pickF ?_
  refine .ok S ?_
  refine .nx fun _ _ _ _ => ?_
  (refine .ft fun _ _ _ _ _ _ _ => ?_; dsimp only)
  refine .eqlF om_ ?_
  refine .whenFT ?_
  (refine .lwhenFT fun _ _ _ _ _ => ?_; dsimp only)
  (iterate 3 refine .whenFT ?_)
  refine .whenU ?_
  (iterate 2 (refine .lwhenU fun _ _ _ _ _ => ?_; dsimp only))
  refine .whenU ?_
  (iterate 2 (refine .lwhenU fun _ _ _ _ _ => ?_; dsimp only))
  refine .whenFT ?_
  refine .pickF ?_
  refine .ok S ?_
  refine .condF ?_
  (iterate 3 refine .whenFT ?_)
  (iterate 3 refine .whenU ?_)
  (iterate 2 refine .whenFT ?_)
  (iterate 9 refine .whenU ?_)
  refine .whenFT ?_
  refine .pickF ?_
  rotate_right 3
  rotate_left 4
  (refine hK0 _ (fun lgs1 hi1 ro1 hh1 => ?_); clear hK0 hK1; dsimp only)
  refine .pickT ?_
  refine .whenFT ?_
  (refine .lwhenFT fun _ _ _ _ _ => ?_; dsimp only)
  refine .whenFT ?_
  (refine .lwhenFT fun _ _ _ _ _ => ?_; dsimp only)
  (iterate 3 refine .whenFT ?_)
  (refine .lwhenFT fun _ _ _ _ _ => ?_; dsimp only)
  refine .pickF ?_
  refine .whenFT ?_
  (refine .lwhenFT fun _ _ _ _ _ => ?_; dsimp only)
  refine .whenFT ?_
  (refine .lwhenFT fun _ _ _ _ _ => ?_; dsimp only)
  refine .whenFT ?_
  (refine .lwhenFT fun _ _ _ _ _ => ?_; dsimp only)
  refine .pickF ?_
  refine .ok S ?_
  refine .nx fun _ _ _ _ => ?_
  (refine .ft fun _ _ _ _ _ _ _ => ?_; dsimp only)
  refine .eqlF om_ ?_
  refine .whenFT ?_
  (refine .lwhenFT fun _ _ _ _ _ => ?_; dsimp only)
  (iterate 3 refine .whenFT ?_)
  refine .whenU ?_
  (iterate 2 (refine .lwhenU fun _ _ _ _ _ => ?_; dsimp only))
  refine .whenU ?_
  (iterate 2 (refine .lwhenU fun _ _ _ _ _ => ?_; dsimp only))
  refine .whenFT ?_
  refine .pickF ?_
  refine .ok S ?_
  refine .condF ?_
  (iterate 3 refine .whenFT ?_)
  (iterate 3 refine .whenU ?_)
  (iterate 2 refine .whenFT ?_)
  (iterate 9 refine .whenU ?_)
  refine .whenFT ?_
  refine .pickF ?_
  rotate_right 4
  rotate_left 5
  refine .pickT ?_
  refine .nx fun _ _ _ _ => ?_
  refine .whenFT ?_
  (refine .lwhenFT fun _ _ _ _ _ => ?_; dsimp only)
  refine .whenFT ?_
  (iterate 2 (refine .lwhenFT fun _ _ _ _ _ => ?_; dsimp only))
  refine .pickF ?_
  refine .whenFT ?_
  (refine .lwhenFT fun _ _ _ _ _ => ?_; dsimp only)
  refine .whenFT ?_
  (refine .lwhenFT fun _ _ _ _ _ => ?_; dsimp only)
  (iterate 3 refine .whenFT ?_)
  (refine .lwhenFT fun _ _ _ _ _ => ?_; dsimp only)
  refine .pickF ?_
  refine .whenFT ?_
  (refine .lwhenFT fun _ _ _ _ _ => ?_; dsimp only)
  refine .whenFT ?_
  (refine .lwhenFT fun _ _ _ _ _ => ?_; dsimp only)
  refine .whenFT ?_
  (refine .lwhenFT fun _ _ _ _ _ => ?_; dsimp only)
  refine .pickF ?_
  refine .ok S ?_
  refine .nx fun _ _ _ _ => ?_
  (refine .ft fun _ _ _ _ _ _ _ => ?_; dsimp only)
  refine .eqlF om_ ?_
  refine .whenFT ?_
  (refine .lwhenFT fun _ _ _ _ _ => ?_; dsimp only)
  (iterate 3 refine .whenFT ?_)
  refine .whenU ?_
  (iterate 2 (refine .lwhenU fun _ _ _ _ _ => ?_; dsimp only))
  refine .whenU ?_
  (iterate 2 (refine .lwhenU fun _ _ _ _ _ => ?_; dsimp only))
  refine .whenFT ?_
  refine .pickF ?_
  refine .ok S ?_
  refine .condF ?_
  (iterate 3 refine .whenFT ?_)
  (iterate 3 refine .whenU ?_)
  (iterate 2 refine .whenFT ?_)
  (iterate 9 refine .whenU ?_)
  refine .whenFT ?_
  refine .pickF ?_
  rotate_right 5
  rotate_left 6
  refine .pickT ?_
  (iterate 2 refine .whenFT ?_)
  refine .wp3 ?_
  refine .nx fun _ _ _ _ => ?_
  refine .whenFT ?_
  (refine .lwhenFT fun _ _ _ _ _ => ?_; dsimp only)
  refine .whenFT ?_
  (iterate 2 (refine .lwhenFT fun _ _ _ _ _ => ?_; dsimp only))
  refine .pickF ?_
  refine .whenFT ?_
  (refine .lwhenFT fun _ _ _ _ _ => ?_; dsimp only)
  refine .whenFT ?_
  (refine .lwhenFT fun _ _ _ _ _ => ?_; dsimp only)
  (iterate 3 refine .whenFT ?_)
  (refine .lwhenFT fun _ _ _ _ _ => ?_; dsimp only)
  refine .pickF ?_
  refine .whenFT ?_
  (refine .lwhenFT fun _ _ _ _ _ => ?_; dsimp only)
  refine .whenFT ?_
  (refine .lwhenFT fun _ _ _ _ _ => ?_; dsimp only)
  refine .whenFT ?_
  (refine .lwhenFT fun _ _ _ _ _ => ?_; dsimp only)
  refine .pickF ?_
  refine .ok S ?_
  refine .nx fun _ _ _ _ => ?_
  (refine .ft fun _ _ _ _ _ _ _ => ?_; dsimp only)
  refine .eqlF om_ ?_
  refine .whenFT ?_
  (refine .lwhenFT fun _ _ _ _ _ => ?_; dsimp only)
  (iterate 3 refine .whenFT ?_)
  refine .whenU ?_
  (iterate 2 (refine .lwhenU fun _ _ _ _ _ => ?_; dsimp only))
  refine .whenU ?_
  (iterate 2 (refine .lwhenU fun _ _ _ _ _ => ?_; dsimp only))
  refine .whenFT ?_
  refine .pickF ?_
  refine .ok S ?_
  refine .condF ?_
  (iterate 3 refine .whenFT ?_)
  (iterate 3 refine .whenU ?_)
  (iterate 2 refine .whenFT ?_)
  (iterate 9 refine .whenU ?_)
  refine .whenFT ?_
  refine .pickF ?_
  rotate_right 6
  all_goals (repeat (first | exact qT (by first | omega | (refine ⟨?_, ?_, ?_, ?_, ?_, ?_, ?_, ?_, ?_, ?_⟩ <;> first | omega | assumption | (intro hx; exact absurd (hr5.2 ((hm5 _).2 hx)) Bool.false_ne_true) | fail) | (refine ⟨?_, ?_, ?_, ?_, ?_, ?_, ?_⟩ <;> first | omega | assumption | fail) | fail) | exact qF (by intro hx; first | omega | exact absurd (c.symm.trans hx.2.2.2.2.2.1) Bool.false_ne_true | exact absurd (c.symm.trans hx.2.2.2.2.2.2) Bool.false_ne_true | exact absurd (c.symm.trans hx.2.2.2.2.2.2.2.2.2) Bool.false_ne_true | exact hx.2.2.2.2.2.2.2.2.1 ((hm5 _).1 (hr5.1 rfl)) | fail) | refine W.drop ?_ | refine W.dropN _ ?_))
theorem instr6_c {K : V → H → Option R} {m : Nat} {vs : List V} {m1 m2 r l n : Int} {e : List (Int × Int)} {ve : V} {locs left : Int} (hvs : vs = [.agg [.int .i64 6, .int .i64 m1, .int .i64 m2, .int .i64 r, .int .i64 l, ve, .int .i64 n], .int .i64 locs, .int .i64 left]) (hv : Tk L ve e) (hl : e.length ≤ 12) (h1 : 1 ≤ locs) (h4 : locs ≤ 4) (q : W Q B A S L (K (.bool (insOK ⟨6, m1, m2, r, l, e, n⟩ locs left)))) : W Q B A S (L) fun h => J.call (F (m + 7)) (.fn (.func 21) [] []) vs R h K := by
  subst hvs
  refine W.callE (d := d21) (c := c21) (by kernel_rfl) rfl (by rfl) ?_
  unfold c21
  have hbx : ∀ k, allOne (V.agg [.int .i64 k, .int .i64 m1, .int .i64 m2, .int .i64 r, .int .i64 l, ve, .int .i64 n]).cells = true := fun k => ins_one hv.one ⟨k, m1, m2, r, l, e, n⟩
  have qT : (r = 0 ∧ l = 0 ∧ m1 = 0 ∧ m2 = 0 ∧ 0 ≤ n ∧ n ≤ left ∧ checkE e = true) → W Q B A S L (K (.bool true)) := fun h => (by
    have e : insOK ⟨6, m1, m2, r, l, e, n⟩ locs left = true := decide_eq_true h
    rw [e] at q; exact q)
  have qF : ¬ (r = 0 ∧ l = 0 ∧ m1 = 0 ∧ m2 = 0 ∧ 0 ≤ n ∧ n ≤ left ∧ checkE e = true) → W Q B A S L (K (.bool false)) := fun h => (by
    have e : insOK ⟨6, m1, m2, r, l, e, n⟩ locs left = false := decide_eq_false h
    rw [e] at q; exact q)
  clear q
  (iterate 3 refine .hd ?_)
  refine .en ?_
  refine .box bx_ fun b hb => ?_
  refine .fl ?_
  refine ofk_c rf_ rf_ ?_
  refine .newT fun b hb => ?_
  (refine .storeN om_ rf_ sd_ bx_ ?_)
  refine .loadNP mm_ nl_ ?_
  refine .build0 ?_
  refine .eqsNT rf_ ?_
  refine .whenTT ?_
  refine .fldP ?_
  refine .whenTT ?_
  refine .load1P mm_ _ rf_ ?_
  refine .whenTT ?_
  refine .fldP ?_
  refine .whenTT ?_
  refine .load1P mm_ _ rf_ ?_
  refine .whenTT ?_
  refine mode1_c rf_ (fun c => ?_) (fun c => ?_)
  refine .pickT ?_
  refine .whenTT ?_
  refine .fldP ?_
  refine .whenTT ?_
  refine .load1P mm_ _ rf_ ?_
  refine .whenTT ?_
  refine .fldP ?_
  refine .whenTT ?_
  refine .load1P mm_ _ rf_ ?_
  refine .whenTT ?_
  refine mode1_c rf_ (fun c => ?_) (fun c => ?_)
  refine .pickT ?_
  refine .nx fun _ _ _ _ => ?_
  refine .whenTT ?_
  refine .pure ?_
  refine .lwhenTT ?_
  refine .logged fun B1 hB1 hS1 K1 hK0 hK1 => ?_
  refine hasF_c mm_ rf_ rf_ (by decide) ?_
  (refine hK0 _ (fun lgs1 hi1 ro1 hh1 => ?_); clear hK0 hK1; dsimp only)
  refine .whenTT ?_
  refine .fldP ?_
  refine .lwhenTT ?_
  (refine .lload1T mm_ _ rf_ fun _ _ _ _ _ _ _ => ?_; dsimp only)
  refine .lwhenTT ?_
  refine .logged fun B1 hB1 hS1 K1 hK0 hK1 => ?_
  refine partF_c rf_ (fun c => ?_) (fun c => ?_)
  (refine hK0 _ (fun lgs1 hi1 ro1 hh1 => ?_); clear hK0 hK1; dsimp only)
  refine .pickT ?_
  refine .whenTT ?_
  refine .pure ?_
  refine .lwhenTT ?_
  refine .logged fun B1 hB1 hS1 K1 hK0 hK1 => ?_
  refine hasF_c mm_ rf_ rf_ (by decide) ?_
  (refine hK0 _ (fun lgs1 hi1 ro1 hh1 => ?_); clear hK0 hK1; dsimp only)
  refine .whenTT ?_
  refine .fldP ?_
  refine .lwhenTT ?_
  (refine .lload1T mm_ _ rf_ fun _ _ _ _ _ _ _ => ?_; dsimp only)
  refine .whenTT ?_
  refine .pure ?_
  refine .whenTT ?_
  refine .maxA om_ ?_
  refine .whenTT ?_
  refine .sub om_ om_ ?_
  refine .lwhenTT ?_
  refine .logged fun B1 hB1 hS1 K1 hK0 hK1 => ?_
  refine partF_c rf_ (fun c => ?_) (fun c => ?_)
  (refine hK0 _ (fun lgs1 hi1 ro1 hh1 => ?_); clear hK0 hK1; dsimp only)
  refine .pickT ?_
  refine .whenTT ?_
  refine .pure ?_
  refine .lwhenTT ?_
  refine .logged fun B1 hB1 hS1 K1 hK0 hK1 => ?_
  refine hasT_c mm_ rf_ rf_ (by decide) ?_
  (refine hK0 _ (fun lgs1 hi1 ro1 hh1 => ?_); clear hK0 hK1; dsimp only)
  refine .whenTT ?_
  refine .fldP ?_
  refine .lwhenTT ?_
  (refine .lload1T mm_ _ rf_ fun _ _ _ _ _ _ _ => ?_; dsimp only)
  refine .whenTT ?_
  refine .pure ?_
  refine .lwhenTT ?_
  refine .logged fun B1 hB1 hS1 K1 hK0 hK1 => ?_
  refine partT_c rf_ (fun c => ?_) (fun c => ?_)
  (refine hK0 _ (fun lgs1 hi1 ro1 hh1 => ?_); clear hK0 hK1; dsimp only)
  refine .pickT ?_
  refine .ok S ?_
  refine .nx fun _ _ _ _ => ?_
  (refine .ft fun _ _ _ _ _ _ _ => ?_; dsimp only)
  refine .eqlF om_ ?_
  refine .whenFT ?_
  (refine .lwhenFT fun _ _ _ _ _ => ?_; dsimp only)
  (iterate 3 refine .whenFT ?_)
  refine .whenU ?_
  (iterate 2 (refine .lwhenU fun _ _ _ _ _ => ?_; dsimp only))
  refine .whenU ?_
  (iterate 2 (refine .lwhenU fun _ _ _ _ _ => ?_; dsimp only))
  refine .whenFT ?_
  refine .pickF ?_
  refine .ok S ?_
  refine .condF ?_
  refine .whenTT ?_
  refine .pure ?_
  refine .whenTT ?_
  refine hasT_c mm_ rf_ rf_ (by decide) ?_
  refine .whenTT ?_
  refine .pure ?_
  refine .whenTT ?_
  refine .fldP ?_
  refine .whenTT ?_
  refine .load1P mm_ _ rf_ ?_
  refine .whenTT ?_
  refine checkS_c rf_ rc_ om_ (fun c => ?_) (fun c => ?_)
  refine .whenTT ?_
  refine .pickT ?_
  refine .whenTT ?_
  refine .pure ?_
  (iterate 4 refine .whenTF ?_)
  (iterate 4 refine .whenU ?_)
  refine .whenTF ?_
  refine .whenTT ?_
  (iterate 2 refine .pickT ?_)
  rotate_left
  refine .whenTT ?_
  refine .pickT ?_
  refine .whenTT ?_
  refine .pure ?_
  refine .whenFF ?_
  refine .pure ?_
  refine .whenFF ?_
  refine hasT_c mm_ rf_ rf_ (by decide) ?_
  refine .whenFF ?_
  refine .notT ?_
  refine .whenFF ?_
  refine .pure ?_
  (iterate 4 refine .whenFT ?_)
  refine .whenFF ?_
  refine .pickF ?_
  refine .whenTT ?_
  refine .pickF ?_
  refine .pickT ?_
  rotate_right
  rotate_left 2
  (refine hK0 _ (fun lgs1 hi1 ro1 hh1 => ?_); clear hK0 hK1; dsimp only)
  refine .pickT ?_
  refine .ok S ?_
  refine .nx fun _ _ _ _ => ?_
  (refine .ft fun _ _ _ _ _ _ _ => ?_; dsimp only)
  refine .eqlF om_ ?_
  refine .whenFT ?_
  (refine .lwhenFT fun _ _ _ _ _ => ?_; dsimp only)
  (iterate 3 refine .whenFT ?_)
  refine .whenU ?_
  (iterate 2 (refine .lwhenU fun _ _ _ _ _ => ?_; dsimp only))
  refine .whenU ?_
  (iterate 2 (refine .lwhenU fun _ _ _ _ _ => ?_; dsimp only))
  refine .whenFT ?_
  refine .pickF ?_
  refine .ok S ?_
  refine .condF ?_
  (iterate 3 refine .whenFT ?_)
  (iterate 3 refine .whenU ?_)
  (iterate 2 refine .whenFT ?_)
  (iterate 9 refine .whenU ?_)
  refine .whenFT ?_
  refine .pickF ?_
  rotate_right 2
  rotate_left 3
  (refine hK0 _ (fun lgs1 hi1 ro1 hh1 => ?_); clear hK0 hK1; dsimp only)
  refine .pickT ?_
  refine .whenFT ?_
  (refine .lwhenFT fun _ _ _ _ _ => ?_; dsimp only)
  refine .whenFT ?_
  (refine .lwhenFT fun _ _ _ _ _ => ?_; dsimp only)
  refine .whenFT ?_
  (refine .lwhenFT fun _ _ _ _ _ => ?_; dsimp only)
  refine .pickF ?_
  refine .ok S ?_
  refine .nx fun _ _ _ _ => ?_
  (refine .ft fun _ _ _ _ _ _ _ => ?_; dsimp only)
  refine .eqlF om_ ?_
  refine .whenFT ?_
  (refine .lwhenFT fun _ _ _ _ _ => ?_; dsimp only)
  (iterate 3 refine .whenFT ?_)
  refine .whenU ?_
  (iterate 2 (refine .lwhenU fun _ _ _ _ _ => ?_; dsimp only))
  refine .whenU ?_
  (iterate 2 (refine .lwhenU fun _ _ _ _ _ => ?_; dsimp only))
  refine .whenFT ?_
  refine .pickF ?_
  refine .ok S ?_
  refine .condF ?_
  (iterate 3 refine .whenFT ?_)
  (iterate 3 refine .whenU ?_)
  (iterate 2 refine .whenFT ?_)
  (iterate 9 refine .whenU ?_)
  refine .whenFT ?_
  refine .pickF ?_
  rotate_right 3
  rotate_left 4
  (refine hK0 _ (fun lgs1 hi1 ro1 hh1 => ?_); clear hK0 hK1; dsimp only)
  refine .pickT ?_
  refine .whenFT ?_
  (refine .lwhenFT fun _ _ _ _ _ => ?_; dsimp only)
  refine .whenFT ?_
  (refine .lwhenFT fun _ _ _ _ _ => ?_; dsimp only)
  (iterate 3 refine .whenFT ?_)
  (refine .lwhenFT fun _ _ _ _ _ => ?_; dsimp only)
  refine .pickF ?_
  refine .whenFT ?_
  (refine .lwhenFT fun _ _ _ _ _ => ?_; dsimp only)
  refine .whenFT ?_
  (refine .lwhenFT fun _ _ _ _ _ => ?_; dsimp only)
  refine .whenFT ?_
  (refine .lwhenFT fun _ _ _ _ _ => ?_; dsimp only)
  refine .pickF ?_
  refine .ok S ?_
  refine .nx fun _ _ _ _ => ?_
  (refine .ft fun _ _ _ _ _ _ _ => ?_; dsimp only)
  refine .eqlF om_ ?_
  refine .whenFT ?_
  (refine .lwhenFT fun _ _ _ _ _ => ?_; dsimp only)
  (iterate 3 refine .whenFT ?_)
  refine .whenU ?_
  (iterate 2 (refine .lwhenU fun _ _ _ _ _ => ?_; dsimp only))
  refine .whenU ?_
  (iterate 2 (refine .lwhenU fun _ _ _ _ _ => ?_; dsimp only))
  refine .whenFT ?_
  refine .pickF ?_
  refine .ok S ?_
  refine .condF ?_
  (iterate 3 refine .whenFT ?_)
  (iterate 3 refine .whenU ?_)
  (iterate 2 refine .whenFT ?_)
  (iterate 9 refine .whenU ?_)
  refine .whenFT ?_
  refine .pickF ?_
  rotate_right 4
  rotate_left 5
  refine .pickT ?_
  refine .nx fun _ _ _ _ => ?_
  refine .whenFT ?_
  (refine .lwhenFT fun _ _ _ _ _ => ?_; dsimp only)
  refine .whenFT ?_
  (iterate 2 (refine .lwhenFT fun _ _ _ _ _ => ?_; dsimp only))
  refine .pickF ?_
  refine .whenFT ?_
  (refine .lwhenFT fun _ _ _ _ _ => ?_; dsimp only)
  refine .whenFT ?_
  (refine .lwhenFT fun _ _ _ _ _ => ?_; dsimp only)
  (iterate 3 refine .whenFT ?_)
  (refine .lwhenFT fun _ _ _ _ _ => ?_; dsimp only)
  refine .pickF ?_
  refine .whenFT ?_
  (refine .lwhenFT fun _ _ _ _ _ => ?_; dsimp only)
  refine .whenFT ?_
  (refine .lwhenFT fun _ _ _ _ _ => ?_; dsimp only)
  refine .whenFT ?_
  (refine .lwhenFT fun _ _ _ _ _ => ?_; dsimp only)
  refine .pickF ?_
  refine .ok S ?_
  refine .nx fun _ _ _ _ => ?_
  (refine .ft fun _ _ _ _ _ _ _ => ?_; dsimp only)
  refine .eqlF om_ ?_
  refine .whenFT ?_
  (refine .lwhenFT fun _ _ _ _ _ => ?_; dsimp only)
  (iterate 3 refine .whenFT ?_)
  refine .whenU ?_
  (iterate 2 (refine .lwhenU fun _ _ _ _ _ => ?_; dsimp only))
  refine .whenU ?_
  (iterate 2 (refine .lwhenU fun _ _ _ _ _ => ?_; dsimp only))
  refine .whenFT ?_
  refine .pickF ?_
  refine .ok S ?_
  refine .condF ?_
  (iterate 3 refine .whenFT ?_)
  (iterate 3 refine .whenU ?_)
  (iterate 2 refine .whenFT ?_)
  (iterate 9 refine .whenU ?_)
  refine .whenFT ?_
  refine .pickF ?_
  rotate_right 5
  rotate_left 6
  refine .pickT ?_
  (iterate 2 refine .whenFT ?_)
  refine .wp3 ?_
  refine .nx fun _ _ _ _ => ?_
  refine .whenFT ?_
  (refine .lwhenFT fun _ _ _ _ _ => ?_; dsimp only)
  refine .whenFT ?_
  (iterate 2 (refine .lwhenFT fun _ _ _ _ _ => ?_; dsimp only))
  refine .pickF ?_
  refine .whenFT ?_
  (refine .lwhenFT fun _ _ _ _ _ => ?_; dsimp only)
  refine .whenFT ?_
  (refine .lwhenFT fun _ _ _ _ _ => ?_; dsimp only)
  (iterate 3 refine .whenFT ?_)
  (refine .lwhenFT fun _ _ _ _ _ => ?_; dsimp only)
  refine .pickF ?_
  refine .whenFT ?_
  (refine .lwhenFT fun _ _ _ _ _ => ?_; dsimp only)
  refine .whenFT ?_
  (refine .lwhenFT fun _ _ _ _ _ => ?_; dsimp only)
  refine .whenFT ?_
  (refine .lwhenFT fun _ _ _ _ _ => ?_; dsimp only)
  refine .pickF ?_
  refine .ok S ?_
  refine .nx fun _ _ _ _ => ?_
  (refine .ft fun _ _ _ _ _ _ _ => ?_; dsimp only)
  refine .eqlF om_ ?_
  refine .whenFT ?_
  (refine .lwhenFT fun _ _ _ _ _ => ?_; dsimp only)
  (iterate 3 refine .whenFT ?_)
  refine .whenU ?_
  (iterate 2 (refine .lwhenU fun _ _ _ _ _ => ?_; dsimp only))
  refine .whenU ?_
  (iterate 2 (refine .lwhenU fun _ _ _ _ _ => ?_; dsimp only))
  refine .whenFT ?_
  refine .pickF ?_
  refine .ok S ?_
  refine .condF ?_
  (iterate 3 refine .whenFT ?_)
  (iterate 3 refine .whenU ?_)
  (iterate 2 refine .whenFT ?_)
  (iterate 9 refine .whenU ?_)
  refine .whenFT ?_
  refine .pickF ?_
  rotate_right 6
  all_goals (repeat (first | exact qT (by first | omega | (refine ⟨?_, ?_, ?_, ?_, ?_, ?_, ?_, ?_, ?_, ?_⟩ <;> first | omega | assumption | (intro hx; exact absurd (hr5.2 ((hm5 _).2 hx)) Bool.false_ne_true) | fail) | (refine ⟨?_, ?_, ?_, ?_, ?_, ?_, ?_⟩ <;> first | omega | assumption | fail) | fail) | exact qF (by intro hx; first | omega | exact absurd (c.symm.trans hx.2.2.2.2.2.1) Bool.false_ne_true | exact absurd (c.symm.trans hx.2.2.2.2.2.2) Bool.false_ne_true | exact absurd (c.symm.trans hx.2.2.2.2.2.2.2.2.2) Bool.false_ne_true | exact hx.2.2.2.2.2.2.2.2.1 ((hm5 _).1 (hr5.1 rfl)) | fail) | refine W.drop ?_ | refine W.dropN _ ?_))
theorem instr7_c {K : V → H → Option R} {m : Nat} {vs : List V} {k m1 m2 r l n : Int} {e : List (Int × Int)} {ve : V} {locs left : Int} (hvs : vs = [.agg [.int .i64 k, .int .i64 m1, .int .i64 m2, .int .i64 r, .int .i64 l, ve, .int .i64 n], .int .i64 locs, .int .i64 left]) (hv : Tk L ve e) (hl : e.length ≤ 12) (h1 : 1 ≤ locs) (h4 : locs ≤ 4) (hk : k < 1 ∨ 6 < k) (q : W Q B A S L (K (.bool (insOK ⟨k, m1, m2, r, l, e, n⟩ locs left)))) : W Q B A S (L) fun h => J.call (F (m + 7)) (.fn (.func 21) [] []) vs R h K := by
  subst hvs
  refine W.callE (d := d21) (c := c21) (by kernel_rfl) rfl (by rfl) ?_
  unfold c21
  have hbx : ∀ k, allOne (V.agg [.int .i64 k, .int .i64 m1, .int .i64 m2, .int .i64 r, .int .i64 l, ve, .int .i64 n]).cells = true := fun k => ins_one hv.one ⟨k, m1, m2, r, l, e, n⟩
  have qF : W Q B A S L (K (.bool false)) := by
    have e : insOK ⟨k, m1, m2, r, l, e, n⟩ locs left = false := by
      unfold insOK
      simp only
      rw [if_neg om_, if_neg om_, if_neg om_, if_neg om_, if_neg om_, if_neg om_]
    rw [e] at q; exact q
  have hkt := kindT_no hk
  (iterate 3 refine .hd ?_)
  refine .en ?_
  refine .box bx_ fun b hb => ?_
  refine .fl ?_
  refine ofk_c rf_ (by assumption) ?_
  refine .newT fun b hb => ?_
  (refine .storeN om_ rf_ sd_ bx_ ?_)
  refine .loadNP mm_ nl_ ?_
  refine .build0 ?_
  refine .eqsNF rf_ ?_
  (iterate 2 refine .whenFT ?_)
  refine .wp3 ?_
  (iterate 2 refine .whenFT ?_)
  refine .wp3 ?_
  refine .nx fun _ _ _ _ => ?_
  refine .whenFT ?_
  (refine .lwhenFT fun _ _ _ _ _ => ?_; dsimp only)
  refine .whenFT ?_
  (iterate 2 (refine .lwhenFT fun _ _ _ _ _ => ?_; dsimp only))
  refine .pickF ?_
  refine .whenFT ?_
  (refine .lwhenFT fun _ _ _ _ _ => ?_; dsimp only)
  refine .whenFT ?_
  (refine .lwhenFT fun _ _ _ _ _ => ?_; dsimp only)
  (iterate 3 refine .whenFT ?_)
  (refine .lwhenFT fun _ _ _ _ _ => ?_; dsimp only)
  refine .pickF ?_
  refine .whenFT ?_
  (refine .lwhenFT fun _ _ _ _ _ => ?_; dsimp only)
  refine .whenFT ?_
  (refine .lwhenFT fun _ _ _ _ _ => ?_; dsimp only)
  refine .whenFT ?_
  (refine .lwhenFT fun _ _ _ _ _ => ?_; dsimp only)
  refine .pickF ?_
  refine .ok S ?_
  refine .nx fun _ _ _ _ => ?_
  (refine .ft fun _ _ _ _ _ _ _ => ?_; dsimp only)
  refine .eqlF om_ ?_
  refine .whenFT ?_
  (refine .lwhenFT fun _ _ _ _ _ => ?_; dsimp only)
  (iterate 3 refine .whenFT ?_)
  refine .whenU ?_
  (iterate 2 (refine .lwhenU fun _ _ _ _ _ => ?_; dsimp only))
  refine .whenU ?_
  (iterate 2 (refine .lwhenU fun _ _ _ _ _ => ?_; dsimp only))
  refine .whenFT ?_
  refine .pickF ?_
  refine .ok S ?_
  refine .condF ?_
  (iterate 3 refine .whenFT ?_)
  (iterate 3 refine .whenU ?_)
  (iterate 2 refine .whenFT ?_)
  (iterate 9 refine .whenU ?_)
  refine .whenFT ?_
  refine .pickF ?_
  all_goals (repeat (first | exact qF | refine W.drop ?_ | refine W.dropN _ ?_))
theorem instr_c {K : V → H → Option R} {m : Nat} {vs : List V} {k m1 m2 r l n : Int} {e : List (Int × Int)} {ve : V} {locs left : Int} (hvs : vs = [.agg [.int .i64 k, .int .i64 m1, .int .i64 m2, .int .i64 r, .int .i64 l, ve, .int .i64 n], .int .i64 locs, .int .i64 left]) (hv : Tk L ve e) (hl : e.length ≤ 12) (h1 : 1 ≤ locs) (h4 : locs ≤ 4) (q : W Q B A S L (K (.bool (insOK ⟨k, m1, m2, r, l, e, n⟩ locs left)))) : W Q B A S L fun h => J.call (F (m + 7)) (.fn (.func 21) [] []) vs R h K := by
  rcases kind_cases k with rfl | rfl | rfl | rfl | rfl | rfl | hk
  · exact instr1_c hvs hv hl h1 h4 q
  · exact instr2_c hvs hv hl h1 h4 q
  · exact instr3_c hvs hv hl h1 h4 q
  · exact instr4_c hvs hv hl h1 h4 q
  · exact instr5_c hvs hv hl h1 h4 q
  · exact instr6_c hvs hv hl h1 h4 q
  · exact instr7_c hvs hv hl h1 h4 hk q
end
end Go.Proofs.Ythkipncmnefomaa.XCodeL
