/- A text of the verified executor, of contracts, or of this law; joined and trimmed by a program of mine (wip/gen). -/
import Derived.Test.YthkipncmnefomaaLowN
set_option linter.unusedVariables false
set_option linter.unusedSimpArgs false
set_option linter.unusedSectionVars false
set_option maxRecDepth 100000
set_option maxHeartbeats 4000000
namespace Go.Proofs.Ythkipncmnefomaa.XCodeL
open Go Go.X
noncomputable section
variable [Nu] {R : Type} {Q : Option R → Prop} {B : Nat} {A : Nat → Prop} {S : Nat} {L : Kn}
def lowOneR (x : Ins) : List PIn := if x.k = 6 then [⟨9, 0, 0, x.e, x.n⟩] else lowOne x
theorem zero_c {K : V → H → Option R} {m : Nat} {vs : List V} {r : Int} (hvs : vs = [.int .i64 r])  (q : ∀ b b2, B ≤ b → B ≤ b2 → W Q B A S ((b, .cells [.int .i64 9, .int .i64 0, .int .i64 0, .slice b2 0 1 2 (some 1), .int .i64 0] true 0) :: (b2, .cells [.int .i64 2, .int .i64 r] true 0) :: L) (K (.slice b 0 1 5 (some 1)))) : W Q B A S (L) fun h => J.call (F (m + 1)) (.fn (.func 35) [] []) vs R h K := by
  subst hvs
  refine W.callE (d := d35) (c := c35) (by kernel_rfl) rfl (by rfl) ?_
  unfold c35
  (refine .hd ?_; refine .en ?_; refine .buildL rg_ ?_; (refine .slitL rg_ ao_ fun b hb => ?_); refine .buildL rg_ ?_; (refine .slitL rg_ ao_ fun b hb => ?_))
  exact q _ _ om_ om_
theorem oner1a_c {K : V → H → Option R} {m : Nat} {vs : List V} {m1 m2 r l n : Int} {e : List (Int × Int)} {ve : V} {M : Kn} (hvs : vs = [.agg [.int .i64 1, .int .i64 m1, .int .i64 m2, .int .i64 r, .int .i64 l, ve, .int .i64 n]]) (hv : Tk M ve e) (hM : ∀ q ∈ M, q ∈ L) (hl : e.length ≤ 12) (hm : m1 = 1) (q : ∀ b c y' N cells, B ≤ b → (c = none ∨ c = some 3) → (∀ p ∈ N, B ≤ p.1) → PC (N ++ M) [⟨1, r, l, [], 0⟩, ⟨9, 0, 0, [(2, r)], 0⟩, ⟨7, 0, 0, [], 0⟩] cells → W Q B A S ((b, .cells cells true y') :: (N ++ L)) (K (.slice b 0 3 5 c))) : W Q B A S (L) fun h => J.call (F (m + 2)) (.fn (.func 17) [] []) vs R h K := by
  subst hvs
  refine W.callE (d := d17) (c := c17) (by kernel_rfl) rfl (by rfl) ?_
  unfold c17
  have hvL := hv.sub hM
  have hone := hv.one
  have hce := one_cells hone
  have hbx : allOne (V.agg [.int .i64 1, .int .i64 m1, .int .i64 m2, .int .i64 r, .int .i64 l, ve, .int .i64 n]).cells = true := ins_one hv.one ⟨1, m1, m2, r, l, e, n⟩
  (refine .hd ?_; refine .en ?_; refine .box bx_ fun b hb => ?_; refine .fl ?_; refine .ejT ?_; refine .fl ?_; refine .fl ?_; refine .buildL rg_ ?_; (refine .slitL rg_ ao_ fun b hb => ?_); (refine .appendN rs_ (by decide) ao_ (by decide) fun b c y' hb hc => ?_); refine .fl ?_; refine .et ?_; refine .fl ?_; refine zero_c rf_ fun b b2 hb hb2 => ?_; (refine .front2 ?_; refine .appendG rs_ om_ (by first | assumption | exact .inr rfl | fail) (by first | (simp; done) | (rw [tokCells_len, List.length_cons]; omega) | (simp [tokCells_len]; omega) | fail) om_ ao_ om_ fun b c y' hb hc => ?_); refine .buildL rg_ ?_; (refine .slitL rg_ ao_ fun b hb => ?_); (refine .front1 ?_; refine .appendG rs_ om_ (by first | assumption | exact .inr rfl | fail) (by first | (simp; done) | (rw [tokCells_len, List.length_cons]; omega) | (simp [tokCells_len]; omega) | fail) om_ ao_ om_ fun b c y' hb hc => ?_))
  ((refine q _ _ _ [_, _, _, _, _] _ om_ (by first | assumption | exact .inl rfl | exact .inr rfl | fail) (by intro p hp; simp only [List.mem_cons, List.not_mem_nil, or_false] at hp; rcases hp with rfl | rfl | rfl | rfl | rfl <;> (first | omega | assumption | (dsimp only; omega) | fail)) ?_))
  simp only [List.cons_append, List.nil_append]
  exact ⟨_, _, rfl, tk_, ⟨_, _, rfl, tk_, ⟨_, _, rfl, tk_, rfl⟩⟩⟩
theorem oner1n_c {K : V → H → Option R} {m : Nat} {vs : List V} {m1 m2 r l n : Int} {e : List (Int × Int)} {ve : V} {M : Kn} (hvs : vs = [.agg [.int .i64 1, .int .i64 m1, .int .i64 m2, .int .i64 r, .int .i64 l, ve, .int .i64 n]]) (hv : Tk M ve e) (hM : ∀ q ∈ M, q ∈ L) (hl : e.length ≤ 12) (hm : m1 ≠ 1) (q : ∀ b c y' N cells, B ≤ b → (c = none ∨ c = some 1) → (∀ p ∈ N, B ≤ p.1) → PC (N ++ M) [⟨1, r, l, [], 0⟩] cells → W Q B A S ((b, .cells cells true y') :: (N ++ L)) (K (.slice b 0 1 5 c))) : W Q B A S (L) fun h => J.call (F (m + 2)) (.fn (.func 17) [] []) vs R h K := by
  subst hvs
  refine W.callE (d := d17) (c := c17) (by kernel_rfl) rfl (by rfl) ?_
  unfold c17
  have hvL := hv.sub hM
  have hone := hv.one
  have hce := one_cells hone
  have hbx : allOne (V.agg [.int .i64 1, .int .i64 m1, .int .i64 m2, .int .i64 r, .int .i64 l, ve, .int .i64 n]).cells = true := ins_one hv.one ⟨1, m1, m2, r, l, e, n⟩
  (refine .hd ?_; refine .en ?_; refine .box bx_ fun b hb => ?_; refine .fl ?_; refine .ejT ?_; refine .fl ?_; refine .fl ?_; refine .buildL rg_ ?_; (refine .slitL rg_ ao_ fun b hb => ?_); (refine .appendN rs_ (by decide) ao_ (by decide) fun b c y' hb hc => ?_); refine .fl ?_; refine .ef ?_)
  ((refine q _ _ _ [_, _] _ om_ (by first | assumption | exact .inl rfl | exact .inr rfl | fail) (by intro p hp; simp only [List.mem_cons, List.not_mem_nil, or_false] at hp; rcases hp with rfl | rfl <;> (first | omega | assumption | (dsimp only; omega) | fail)) ?_))
  simp only [List.cons_append, List.nil_append]
  exact ⟨_, _, rfl, tk_, rfl⟩
theorem oner2r_c {K : V → H → Option R} {m : Nat} {vs : List V} {m1 m2 r l n : Int} {e : List (Int × Int)} {ve : V} {M : Kn} (hvs : vs = [.agg [.int .i64 2, .int .i64 m1, .int .i64 m2, .int .i64 r, .int .i64 l, ve, .int .i64 n]]) (hv : Tk M ve e) (hM : ∀ q ∈ M, q ∈ L) (hl : e.length ≤ 12) (hm : m1 = 2) (q : ∀ b c y' N cells, B ≤ b → (c = none ∨ c = some 2) → (∀ p ∈ N, B ≤ p.1) → PC (N ++ M) [⟨5, 0, 0, [], 0⟩, ⟨2, 0, l, e, 0⟩] cells → W Q B A S ((b, .cells cells true y') :: (N ++ L)) (K (.slice b 0 2 5 c))) : W Q B A S (L) fun h => J.call (F (m + 2)) (.fn (.func 17) [] []) vs R h K := by
  subst hvs
  refine W.callE (d := d17) (c := c17) (by kernel_rfl) rfl (by rfl) ?_
  unfold c17
  have hvL := hv.sub hM
  have hone := hv.one
  have hce := one_cells hone
  have hbx : allOne (V.agg [.int .i64 2, .int .i64 m1, .int .i64 m2, .int .i64 r, .int .i64 l, ve, .int .i64 n]).cells = true := ins_one hv.one ⟨2, m1, m2, r, l, e, n⟩
  (refine .hd ?_; refine .en ?_; refine .box bx_ fun b hb => ?_; refine .fl ?_; refine .ejF ?_; refine .et ?_; refine .fl ?_; refine .ejT ?_; refine .buildL rg_ ?_; (refine .slitL rg_ ao_ fun b hb => ?_); (refine .appendN rs_ (by decide) ao_ (by decide) fun b c y' hb hc => ?_); refine .fl ?_; refine .fl ?_; (refine .buildL ft_ ?_); (refine .slitL rg_ ao_ fun b hb => ?_); (refine .front1 ?_; refine .appendG rs_ om_ (by first | assumption | exact .inr rfl | fail) (by first | (simp; done) | (rw [tokCells_len, List.length_cons]; omega) | (simp [tokCells_len]; omega) | fail) om_ ao_ om_ fun b c y' hb hc => ?_))
  ((refine q _ _ _ [_, _, _] _ om_ (by first | assumption | exact .inl rfl | exact .inr rfl | fail) (by intro p hp; simp only [List.mem_cons, List.not_mem_nil, or_false] at hp; rcases hp with rfl | rfl | rfl <;> (first | omega | assumption | (dsimp only; omega) | fail)) ?_))
  simp only [List.cons_append, List.nil_append]
  exact ⟨_, _, rfl, tk_, ⟨_, _, rfl, tk_, rfl⟩⟩
theorem oner2n_c {K : V → H → Option R} {m : Nat} {vs : List V} {m1 m2 r l n : Int} {e : List (Int × Int)} {ve : V} {M : Kn} (hvs : vs = [.agg [.int .i64 2, .int .i64 m1, .int .i64 m2, .int .i64 r, .int .i64 l, ve, .int .i64 n]]) (hv : Tk M ve e) (hM : ∀ q ∈ M, q ∈ L) (hl : e.length ≤ 12) (hm : m1 ≠ 2) (q : ∀ b c y' N cells, B ≤ b → (c = none ∨ c = some 1) → (∀ p ∈ N, B ≤ p.1) → PC (N ++ M) [⟨2, 0, l, e, 0⟩] cells → W Q B A S ((b, .cells cells true y') :: (N ++ L)) (K (.slice b 0 1 5 c))) : W Q B A S (L) fun h => J.call (F (m + 2)) (.fn (.func 17) [] []) vs R h K := by
  subst hvs
  refine W.callE (d := d17) (c := c17) (by kernel_rfl) rfl (by rfl) ?_
  unfold c17
  have hvL := hv.sub hM
  have hone := hv.one
  have hce := one_cells hone
  have hbx : allOne (V.agg [.int .i64 2, .int .i64 m1, .int .i64 m2, .int .i64 r, .int .i64 l, ve, .int .i64 n]).cells = true := ins_one hv.one ⟨2, m1, m2, r, l, e, n⟩
  (refine .hd ?_; refine .en ?_; refine .box bx_ fun b hb => ?_; refine .fl ?_; refine .ejF ?_; refine .et ?_; refine .fl ?_; refine .ejF ?_; refine .fl ?_; refine .fl ?_; (refine .buildL ft_ ?_); (refine .slitL rg_ ao_ fun b hb => ?_); (refine .appendN rs_ (by decide) ao_ (by decide) fun b c y' hb hc => ?_))
  ((refine q _ _ _ [_, _] _ om_ (by first | assumption | exact .inl rfl | exact .inr rfl | fail) (by intro p hp; simp only [List.mem_cons, List.not_mem_nil, or_false] at hp; rcases hp with rfl | rfl <;> (first | omega | assumption | (dsimp only; omega) | fail)) ?_))
  simp only [List.cons_append, List.nil_append]
  exact ⟨_, _, rfl, tk_, rfl⟩
theorem oner3s_c {K : V → H → Option R} {m : Nat} {vs : List V} {m1 m2 r l n : Int} {e : List (Int × Int)} {ve : V} {M : Kn} (hvs : vs = [.agg [.int .i64 3, .int .i64 m1, .int .i64 m2, .int .i64 r, .int .i64 l, ve, .int .i64 n]]) (hv : Tk M ve e) (hM : ∀ q ∈ M, q ∈ L) (hl : e.length ≤ 12) (hm : m1 = 4) (q : ∀ b c y' N cells, B ≤ b → (c = none ∨ c = some 1) → (∀ p ∈ N, B ≤ p.1) → PC (N ++ M) [⟨6, 0, 0, [], 0⟩] cells → W Q B A S ((b, .cells cells true y') :: (N ++ L)) (K (.slice b 0 1 5 c))) : W Q B A S (L) fun h => J.call (F (m + 2)) (.fn (.func 17) [] []) vs R h K := by
  subst hvs
  refine W.callE (d := d17) (c := c17) (by kernel_rfl) rfl (by rfl) ?_
  unfold c17
  have hvL := hv.sub hM
  have hone := hv.one
  have hce := one_cells hone
  have hbx : allOne (V.agg [.int .i64 3, .int .i64 m1, .int .i64 m2, .int .i64 r, .int .i64 l, ve, .int .i64 n]).cells = true := ins_one hv.one ⟨3, m1, m2, r, l, e, n⟩
  (refine .hd ?_; refine .en ?_; refine .box bx_ fun b hb => ?_; refine .fl ?_; refine .ejF ?_; refine .ef ?_; refine .et ?_; refine .fl ?_; refine .et ?_; refine .buildL rg_ ?_; (refine .slitL rg_ ao_ fun b hb => ?_))
  ((refine q _ _ _ [_] _ om_ (by first | assumption | exact .inl rfl | exact .inr rfl | fail) (by intro p hp; simp only [List.mem_cons, List.not_mem_nil, or_false] at hp; rcases hp with rfl <;> (first | omega | assumption | (dsimp only; omega) | fail)) ?_))
  simp only [List.cons_append, List.nil_append]
  exact ⟨_, _, rfl, tk_, rfl⟩
theorem oner3n_c {K : V → H → Option R} {m : Nat} {vs : List V} {m1 m2 r l n : Int} {e : List (Int × Int)} {ve : V} {M : Kn} (hvs : vs = [.agg [.int .i64 3, .int .i64 m1, .int .i64 m2, .int .i64 r, .int .i64 l, ve, .int .i64 n]]) (hv : Tk M ve e) (hM : ∀ q ∈ M, q ∈ L) (hl : e.length ≤ 12) (hm : m1 ≠ 4) (q : ∀ b c y' N cells, B ≤ b → (c = none ∨ c = some 1) → (∀ p ∈ N, B ≤ p.1) → PC (N ++ M) [⟨5, 0, 0, [], 0⟩] cells → W Q B A S ((b, .cells cells true y') :: (N ++ L)) (K (.slice b 0 1 5 c))) : W Q B A S (L) fun h => J.call (F (m + 2)) (.fn (.func 17) [] []) vs R h K := by
  subst hvs
  refine W.callE (d := d17) (c := c17) (by kernel_rfl) rfl (by rfl) ?_
  unfold c17
  have hvL := hv.sub hM
  have hone := hv.one
  have hce := one_cells hone
  have hbx : allOne (V.agg [.int .i64 3, .int .i64 m1, .int .i64 m2, .int .i64 r, .int .i64 l, ve, .int .i64 n]).cells = true := ins_one hv.one ⟨3, m1, m2, r, l, e, n⟩
  (refine .hd ?_; refine .en ?_; refine .box bx_ fun b hb => ?_; refine .fl ?_; refine .ejF ?_; refine .ef ?_; refine .et ?_; refine .fl ?_; refine .ef ?_; refine .buildL rg_ ?_; (refine .slitL rg_ ao_ fun b hb => ?_))
  ((refine q _ _ _ [_] _ om_ (by first | assumption | exact .inl rfl | exact .inr rfl | fail) (by intro p hp; simp only [List.mem_cons, List.not_mem_nil, or_false] at hp; rcases hp with rfl <;> (first | omega | assumption | (dsimp only; omega) | fail)) ?_))
  simp only [List.cons_append, List.nil_append]
  exact ⟨_, _, rfl, tk_, rfl⟩
theorem oner4ra_c {K : V → H → Option R} {m : Nat} {vs : List V} {m1 m2 r l n : Int} {e : List (Int × Int)} {ve : V} {M : Kn} (hvs : vs = [.agg [.int .i64 4, .int .i64 m1, .int .i64 m2, .int .i64 r, .int .i64 l, ve, .int .i64 n]]) (hv : Tk M ve e) (hM : ∀ q ∈ M, q ∈ L) (hl : e.length ≤ 12) (hm : m1 = 1) (hm2 : m2 = 2) (q : ∀ b c y' N cells, B ≤ b → (c = none ∨ c = some 5) → (∀ p ∈ N, B ≤ p.1) → PC (N ++ M) [⟨5, 0, 0, [], 0⟩, ⟨3, r, l, [], 0⟩, ⟨4, 0, l, (2, r) :: (e ++ [(3, 1)]), 0⟩, ⟨9, 0, 0, [(2, r)], 0⟩, ⟨7, 0, 0, [], 0⟩] cells → W Q B A S ((b, .cells cells true y') :: (N ++ L)) (K (.slice b 0 5 5 c))) : W Q B A S (L) fun h => J.call (F (m + 2)) (.fn (.func 17) [] []) vs R h K := by
  subst hvs
  refine W.callE (d := d17) (c := c17) (by kernel_rfl) rfl (by rfl) ?_
  unfold c17
  have hvL := hv.sub hM
  have hone := hv.one
  have hce := one_cells hone
  have hbx : allOne (V.agg [.int .i64 4, .int .i64 m1, .int .i64 m2, .int .i64 r, .int .i64 l, ve, .int .i64 n]).cells = true := ins_one hv.one ⟨4, m1, m2, r, l, e, n⟩
  (refine .hd ?_; refine .en ?_; refine .box bx_ fun b hb => ?_; refine .fl ?_; refine .ejF ?_; refine .ef ?_; refine .ef ?_; refine .et ?_; refine .fl ?_; refine .ejT ?_; refine .buildL rg_ ?_; (refine .slitL rg_ ao_ fun b hb => ?_); (refine .appendN rs_ (by decide) ao_ (by decide) fun b c y' hb hc => ?_); refine .fl ?_; refine .buildL rg_ ?_; (refine .slitL rg_ ao_ fun b hb => ?_); refine .fl ?_; (refine .appendG rs_ om_ (by first | assumption | exact .inr rfl | fail) (by first | (simp; done) | (rw [tokCells_len, List.length_cons]; omega) | (simp [tokCells_len]; omega) | fail) om_ ao_ om_ fun b c y' hb hc => ?_); refine .buildL rg_ ?_; (refine .slitL rg_ ao_ fun b hb => ?_); (refine .front1 ?_; refine .appendG rs_ om_ (by first | assumption | exact .inr rfl | fail) (by first | (simp; done) | (rw [tokCells_len, List.length_cons]; omega) | (simp [tokCells_len]; omega) | fail) om_ ao_ om_ fun b c y' hb hc => ?_); refine .fl ?_; refine .fl ?_; refine .buildL rg_ ?_; refine .fl ?_; refine .buildL rg_ ?_; (refine .slitL rg_ ao_ fun b hb => ?_); (refine .front3 ?_; refine .appendG rs_ om_ (by first | assumption | exact .inr rfl | fail) (by first | (simp; done) | (rw [tokCells_len, List.length_cons]; omega) | (simp [tokCells_len]; omega) | fail) om_ ao_ om_ fun b c y' hb hc => ?_); refine .fl ?_; refine zero_c rf_ fun b b2 hb hb2 => ?_; (refine .front2 ?_; refine .appendG rs_ om_ (by first | assumption | exact .inr rfl | fail) (by first | (simp; done) | (rw [tokCells_len, List.length_cons]; omega) | (simp [tokCells_len]; omega) | fail) om_ ao_ om_ fun b c y' hb hc => ?_); refine .fl ?_; refine .et ?_; refine .buildL rg_ ?_; (refine .slitL rg_ ao_ fun b hb => ?_); (refine .front1 ?_; refine .appendG rs_ om_ (by first | assumption | exact .inr rfl | fail) (by first | (simp; done) | (rw [tokCells_len, List.length_cons]; omega) | (simp [tokCells_len]; omega) | fail) om_ ao_ om_ fun b c y' hb hc => ?_))
  ((refine q _ _ _ [_, _, _, _, _, _, _, _] _ om_ (by first | assumption | exact .inl rfl | exact .inr rfl | fail) (by intro p hp; simp only [List.mem_cons, List.not_mem_nil, or_false] at hp; rcases hp with rfl | rfl | rfl | rfl | rfl | rfl | rfl | rfl <;> (first | omega | assumption | (dsimp only; omega) | fail)) ?_))
  simp only [List.cons_append, List.nil_append]
  exact ⟨_, _, rfl, tk_, ⟨_, _, rfl, tk_, ⟨_, _, rfl, tk_, ⟨_, _, rfl, tk_, ⟨_, _, rfl, tk_, rfl⟩⟩⟩⟩⟩
theorem oner4rn_c {K : V → H → Option R} {m : Nat} {vs : List V} {m1 m2 r l n : Int} {e : List (Int × Int)} {ve : V} {M : Kn} (hvs : vs = [.agg [.int .i64 4, .int .i64 m1, .int .i64 m2, .int .i64 r, .int .i64 l, ve, .int .i64 n]]) (hv : Tk M ve e) (hM : ∀ q ∈ M, q ∈ L) (hl : e.length ≤ 12) (hm : m1 ≠ 1) (hm2 : m2 = 2) (q : ∀ b c y' N cells, B ≤ b → (c = none ∨ c = some 4) → (∀ p ∈ N, B ≤ p.1) → PC (N ++ M) [⟨5, 0, 0, [], 0⟩, ⟨3, r, l, [], 0⟩, ⟨4, 0, l, (2, r) :: (e ++ [(3, 1)]), 0⟩, ⟨9, 0, 0, [(2, r)], 0⟩] cells → W Q B A S ((b, .cells cells true y') :: (N ++ L)) (K (.slice b 0 4 5 c))) : W Q B A S (L) fun h => J.call (F (m + 2)) (.fn (.func 17) [] []) vs R h K := by
  subst hvs
  refine W.callE (d := d17) (c := c17) (by kernel_rfl) rfl (by rfl) ?_
  unfold c17
  have hvL := hv.sub hM
  have hone := hv.one
  have hce := one_cells hone
  have hbx : allOne (V.agg [.int .i64 4, .int .i64 m1, .int .i64 m2, .int .i64 r, .int .i64 l, ve, .int .i64 n]).cells = true := ins_one hv.one ⟨4, m1, m2, r, l, e, n⟩
  (refine .hd ?_; refine .en ?_; refine .box bx_ fun b hb => ?_; refine .fl ?_; refine .ejF ?_; refine .ef ?_; refine .ef ?_; refine .et ?_; refine .fl ?_; refine .ejT ?_; refine .buildL rg_ ?_; (refine .slitL rg_ ao_ fun b hb => ?_); (refine .appendN rs_ (by decide) ao_ (by decide) fun b c y' hb hc => ?_); refine .fl ?_; refine .buildL rg_ ?_; (refine .slitL rg_ ao_ fun b hb => ?_); refine .fl ?_; (refine .appendG rs_ om_ (by first | assumption | exact .inr rfl | fail) (by first | (simp; done) | (rw [tokCells_len, List.length_cons]; omega) | (simp [tokCells_len]; omega) | fail) om_ ao_ om_ fun b c y' hb hc => ?_); refine .buildL rg_ ?_; (refine .slitL rg_ ao_ fun b hb => ?_); (refine .front1 ?_; refine .appendG rs_ om_ (by first | assumption | exact .inr rfl | fail) (by first | (simp; done) | (rw [tokCells_len, List.length_cons]; omega) | (simp [tokCells_len]; omega) | fail) om_ ao_ om_ fun b c y' hb hc => ?_); refine .fl ?_; refine .fl ?_; refine .buildL rg_ ?_; refine .fl ?_; refine .buildL rg_ ?_; (refine .slitL rg_ ao_ fun b hb => ?_); (refine .front3 ?_; refine .appendG rs_ om_ (by first | assumption | exact .inr rfl | fail) (by first | (simp; done) | (rw [tokCells_len, List.length_cons]; omega) | (simp [tokCells_len]; omega) | fail) om_ ao_ om_ fun b c y' hb hc => ?_); refine .fl ?_; refine zero_c rf_ fun b b2 hb hb2 => ?_; (refine .front2 ?_; refine .appendG rs_ om_ (by first | assumption | exact .inr rfl | fail) (by first | (simp; done) | (rw [tokCells_len, List.length_cons]; omega) | (simp [tokCells_len]; omega) | fail) om_ ao_ om_ fun b c y' hb hc => ?_); refine .fl ?_; refine .ef ?_)
  ((refine q _ _ _ [_, _, _, _, _, _, _] _ om_ (by first | assumption | exact .inl rfl | exact .inr rfl | fail) (by intro p hp; simp only [List.mem_cons, List.not_mem_nil, or_false] at hp; rcases hp with rfl | rfl | rfl | rfl | rfl | rfl | rfl <;> (first | omega | assumption | (dsimp only; omega) | fail)) ?_))
  simp only [List.cons_append, List.nil_append]
  exact ⟨_, _, rfl, tk_, ⟨_, _, rfl, tk_, ⟨_, _, rfl, tk_, ⟨_, _, rfl, tk_, rfl⟩⟩⟩⟩
theorem oner4na_c {K : V → H → Option R} {m : Nat} {vs : List V} {m1 m2 r l n : Int} {e : List (Int × Int)} {ve : V} {M : Kn} (hvs : vs = [.agg [.int .i64 4, .int .i64 m1, .int .i64 m2, .int .i64 r, .int .i64 l, ve, .int .i64 n]]) (hv : Tk M ve e) (hM : ∀ q ∈ M, q ∈ L) (hl : e.length ≤ 12) (hm : m1 = 1) (hm2 : m2 ≠ 2) (q : ∀ b c y' N cells, B ≤ b → (c = none ∨ c = some 4) → (∀ p ∈ N, B ≤ p.1) → PC (N ++ M) [⟨3, r, l, [], 0⟩, ⟨4, 0, l, (2, r) :: (e ++ [(3, 1)]), 0⟩, ⟨9, 0, 0, [(2, r)], 0⟩, ⟨7, 0, 0, [], 0⟩] cells → W Q B A S ((b, .cells cells true y') :: (N ++ L)) (K (.slice b 0 4 5 c))) : W Q B A S (L) fun h => J.call (F (m + 2)) (.fn (.func 17) [] []) vs R h K := by
  subst hvs
  refine W.callE (d := d17) (c := c17) (by kernel_rfl) rfl (by rfl) ?_
  unfold c17
  have hvL := hv.sub hM
  have hone := hv.one
  have hce := one_cells hone
  have hbx : allOne (V.agg [.int .i64 4, .int .i64 m1, .int .i64 m2, .int .i64 r, .int .i64 l, ve, .int .i64 n]).cells = true := ins_one hv.one ⟨4, m1, m2, r, l, e, n⟩
  (refine .hd ?_; refine .en ?_; refine .box bx_ fun b hb => ?_; refine .fl ?_; refine .ejF ?_; refine .ef ?_; refine .ef ?_; refine .et ?_; refine .fl ?_; refine .ejF ?_; refine .fl ?_; refine .buildL rg_ ?_; (refine .slitL rg_ ao_ fun b hb => ?_); refine .fl ?_; (refine .appendG rs_ om_ (by first | assumption | exact .inr rfl | fail) (by first | (simp; done) | (rw [tokCells_len, List.length_cons]; omega) | (simp [tokCells_len]; omega) | fail) om_ ao_ om_ fun b c y' hb hc => ?_); refine .buildL rg_ ?_; (refine .slitL rg_ ao_ fun b hb => ?_); (refine .front1 ?_; refine .appendG rs_ om_ (by first | assumption | exact .inr rfl | fail) (by first | (simp; done) | (rw [tokCells_len, List.length_cons]; omega) | (simp [tokCells_len]; omega) | fail) om_ ao_ om_ fun b c y' hb hc => ?_); refine .fl ?_; refine .fl ?_; refine .buildL rg_ ?_; refine .fl ?_; refine .buildL rg_ ?_; (refine .slitL rg_ ao_ fun b hb => ?_); (refine .appendN rs_ (by decide) ao_ (by decide) fun b c y' hb hc => ?_); refine .fl ?_; refine zero_c rf_ fun b b2 hb hb2 => ?_; (refine .front2 ?_; refine .appendG rs_ om_ (by first | assumption | exact .inr rfl | fail) (by first | (simp; done) | (rw [tokCells_len, List.length_cons]; omega) | (simp [tokCells_len]; omega) | fail) om_ ao_ om_ fun b c y' hb hc => ?_); refine .fl ?_; refine .et ?_; refine .buildL rg_ ?_; (refine .slitL rg_ ao_ fun b hb => ?_); (refine .front1 ?_; refine .appendG rs_ om_ (by first | assumption | exact .inr rfl | fail) (by first | (simp; done) | (rw [tokCells_len, List.length_cons]; omega) | (simp [tokCells_len]; omega) | fail) om_ ao_ om_ fun b c y' hb hc => ?_))
  ((refine q _ _ _ [_, _, _, _, _, _, _] _ om_ (by first | assumption | exact .inl rfl | exact .inr rfl | fail) (by intro p hp; simp only [List.mem_cons, List.not_mem_nil, or_false] at hp; rcases hp with rfl | rfl | rfl | rfl | rfl | rfl | rfl <;> (first | omega | assumption | (dsimp only; omega) | fail)) ?_))
  simp only [List.cons_append, List.nil_append]
  exact ⟨_, _, rfl, tk_, ⟨_, _, rfl, tk_, ⟨_, _, rfl, tk_, ⟨_, _, rfl, tk_, rfl⟩⟩⟩⟩
theorem oner4nn_c {K : V → H → Option R} {m : Nat} {vs : List V} {m1 m2 r l n : Int} {e : List (Int × Int)} {ve : V} {M : Kn} (hvs : vs = [.agg [.int .i64 4, .int .i64 m1, .int .i64 m2, .int .i64 r, .int .i64 l, ve, .int .i64 n]]) (hv : Tk M ve e) (hM : ∀ q ∈ M, q ∈ L) (hl : e.length ≤ 12) (hm : m1 ≠ 1) (hm2 : m2 ≠ 2) (q : ∀ b c y' N cells, B ≤ b → (c = none ∨ c = some 3) → (∀ p ∈ N, B ≤ p.1) → PC (N ++ M) [⟨3, r, l, [], 0⟩, ⟨4, 0, l, (2, r) :: (e ++ [(3, 1)]), 0⟩, ⟨9, 0, 0, [(2, r)], 0⟩] cells → W Q B A S ((b, .cells cells true y') :: (N ++ L)) (K (.slice b 0 3 5 c))) : W Q B A S (L) fun h => J.call (F (m + 2)) (.fn (.func 17) [] []) vs R h K := by
  subst hvs
  refine W.callE (d := d17) (c := c17) (by kernel_rfl) rfl (by rfl) ?_
  unfold c17
  have hvL := hv.sub hM
  have hone := hv.one
  have hce := one_cells hone
  have hbx : allOne (V.agg [.int .i64 4, .int .i64 m1, .int .i64 m2, .int .i64 r, .int .i64 l, ve, .int .i64 n]).cells = true := ins_one hv.one ⟨4, m1, m2, r, l, e, n⟩
  (refine .hd ?_; refine .en ?_; refine .box bx_ fun b hb => ?_; refine .fl ?_; refine .ejF ?_; refine .ef ?_; refine .ef ?_; refine .et ?_; refine .fl ?_; refine .ejF ?_; refine .fl ?_; refine .buildL rg_ ?_; (refine .slitL rg_ ao_ fun b hb => ?_); refine .fl ?_; (refine .appendG rs_ om_ (by first | assumption | exact .inr rfl | fail) (by first | (simp; done) | (rw [tokCells_len, List.length_cons]; omega) | (simp [tokCells_len]; omega) | fail) om_ ao_ om_ fun b c y' hb hc => ?_); refine .buildL rg_ ?_; (refine .slitL rg_ ao_ fun b hb => ?_); (refine .front1 ?_; refine .appendG rs_ om_ (by first | assumption | exact .inr rfl | fail) (by first | (simp; done) | (rw [tokCells_len, List.length_cons]; omega) | (simp [tokCells_len]; omega) | fail) om_ ao_ om_ fun b c y' hb hc => ?_); refine .fl ?_; refine .fl ?_; refine .buildL rg_ ?_; refine .fl ?_; refine .buildL rg_ ?_; (refine .slitL rg_ ao_ fun b hb => ?_); (refine .appendN rs_ (by decide) ao_ (by decide) fun b c y' hb hc => ?_); refine .fl ?_; refine zero_c rf_ fun b b2 hb hb2 => ?_; (refine .front2 ?_; refine .appendG rs_ om_ (by first | assumption | exact .inr rfl | fail) (by first | (simp; done) | (rw [tokCells_len, List.length_cons]; omega) | (simp [tokCells_len]; omega) | fail) om_ ao_ om_ fun b c y' hb hc => ?_); refine .fl ?_; refine .ef ?_)
  ((refine q _ _ _ [_, _, _, _, _, _] _ om_ (by first | assumption | exact .inl rfl | exact .inr rfl | fail) (by intro p hp; simp only [List.mem_cons, List.not_mem_nil, or_false] at hp; rcases hp with rfl | rfl | rfl | rfl | rfl | rfl <;> (first | omega | assumption | (dsimp only; omega) | fail)) ?_))
  simp only [List.cons_append, List.nil_append]
  exact ⟨_, _, rfl, tk_, ⟨_, _, rfl, tk_, ⟨_, _, rfl, tk_, rfl⟩⟩⟩
theorem oner5_c {K : V → H → Option R} {m : Nat} {vs : List V} {m1 m2 r l n : Int} {e : List (Int × Int)} {ve : V} {M : Kn} (hvs : vs = [.agg [.int .i64 5, .int .i64 m1, .int .i64 m2, .int .i64 r, .int .i64 l, ve, .int .i64 n]]) (hv : Tk M ve e) (hM : ∀ q ∈ M, q ∈ L) (hl : e.length ≤ 12) (q : ∀ b c y' N cells, B ≤ b → (c = none ∨ c = some 1) → (∀ p ∈ N, B ≤ p.1) → PC (N ++ M) [⟨8, r, 0, e, 0⟩] cells → W Q B A S ((b, .cells cells true y') :: (N ++ L)) (K (.slice b 0 1 5 c))) : W Q B A S (L) fun h => J.call (F (m + 2)) (.fn (.func 17) [] []) vs R h K := by
  subst hvs
  refine W.callE (d := d17) (c := c17) (by kernel_rfl) rfl (by rfl) ?_
  unfold c17
  have hvL := hv.sub hM
  have hone := hv.one
  have hce := one_cells hone
  have hbx : allOne (V.agg [.int .i64 5, .int .i64 m1, .int .i64 m2, .int .i64 r, .int .i64 l, ve, .int .i64 n]).cells = true := ins_one hv.one ⟨5, m1, m2, r, l, e, n⟩
  (refine .hd ?_; refine .en ?_; refine .box bx_ fun b hb => ?_; refine .fl ?_; refine .ejF ?_; (iterate 3 refine .ef ?_); refine .et ?_; refine .fl ?_; refine .fl ?_; (refine .buildL ft_ ?_); (refine .slitL rg_ ao_ fun b hb => ?_))
  ((refine q _ _ _ [_] _ om_ (by first | assumption | exact .inl rfl | exact .inr rfl | fail) (by intro p hp; simp only [List.mem_cons, List.not_mem_nil, or_false] at hp; rcases hp with rfl <;> (first | omega | assumption | (dsimp only; omega) | fail)) ?_))
  simp only [List.cons_append, List.nil_append]
  exact ⟨_, _, rfl, tk_, rfl⟩
theorem oner6_c {K : V → H → Option R} {m : Nat} {vs : List V} {m1 m2 r l n : Int} {e : List (Int × Int)} {ve : V} {M : Kn} (hvs : vs = [.agg [.int .i64 6, .int .i64 m1, .int .i64 m2, .int .i64 r, .int .i64 l, ve, .int .i64 n]]) (hv : Tk M ve e) (hM : ∀ q ∈ M, q ∈ L) (hl : e.length ≤ 12) (q : ∀ b c y' N cells, B ≤ b → (c = none ∨ c = some 1) → (∀ p ∈ N, B ≤ p.1) → PC (N ++ M) [⟨9, 0, 0, e, n⟩] cells → W Q B A S ((b, .cells cells true y') :: (N ++ L)) (K (.slice b 0 1 5 c))) : W Q B A S (L) fun h => J.call (F (m + 2)) (.fn (.func 17) [] []) vs R h K := by
  subst hvs
  refine W.callE (d := d17) (c := c17) (by kernel_rfl) rfl (by rfl) ?_
  unfold c17
  have hvL := hv.sub hM
  have hone := hv.one
  have hce := one_cells hone
  have hbx : allOne (V.agg [.int .i64 6, .int .i64 m1, .int .i64 m2, .int .i64 r, .int .i64 l, ve, .int .i64 n]).cells = true := ins_one hv.one ⟨6, m1, m2, r, l, e, n⟩
  (refine .hd ?_; refine .en ?_; refine .box bx_ fun b hb => ?_; refine .fl ?_; refine .ejF ?_; (iterate 4 refine .ef ?_); refine .et ?_; refine .fl ?_; refine .fl ?_; (refine .buildL ft_ ?_); (refine .slitL rg_ ao_ fun b hb => ?_))
  ((refine q _ _ _ [_] _ om_ (by first | assumption | exact .inl rfl | exact .inr rfl | fail) (by intro p hp; simp only [List.mem_cons, List.not_mem_nil, or_false] at hp; rcases hp with rfl <;> (first | omega | assumption | (dsimp only; omega) | fail)) ?_))
  simp only [List.cons_append, List.nil_append]
  exact ⟨_, _, rfl, tk_, rfl⟩
theorem oner_c {K : V → H → Option R} {m : Nat} {vs : List V} {x : Ins} {ve : V} {M : Kn} (hvs : vs = [.agg (insC x ve)]) (hv : Tk M ve x.e) (hM : ∀ q ∈ M, q ∈ L) (hl : x.e.length ≤ 12) (hk : 1 ≤ x.k ∧ x.k ≤ 6)
    (q : ∀ b c y' N cells, B ≤ b → (c = none ∨ c = some (lowOneR x).length) → (∀ p ∈ N, B ≤ p.1) → PC (N ++ M) (lowOneR x) cells → W Q B A S ((b, .cells cells true y') :: (N ++ L)) (K (.slice b 0 (lowOneR x).length 5 c))) : W Q B A S L fun h => J.call (F (m + 2)) (.fn (.func 17) [] []) vs R h K := by
  obtain ⟨k, m1, m2, r, l, e, n⟩ := x
  dsimp only at hv hl hk
  have hvs' : vs = [.agg [.int .i64 k, .int .i64 m1, .int .i64 m2, .int .i64 r, .int .i64 l, ve, .int .i64 n]] := hvs
  have h6 : k = 1 ∨ k = 2 ∨ k = 3 ∨ k = 4 ∨ k = 5 ∨ k = 6 := by omega
  rcases h6 with rfl | rfl | rfl | rfl | rfl | rfl
  · by_cases c1 : m1 = 1
    · have e1 : lowOneR ⟨1, m1, m2, r, l, e, n⟩ = [⟨1, r, l, [], 0⟩, ⟨9, 0, 0, [(2, r)], 0⟩, ⟨7, 0, 0, [], 0⟩] := by simp [lowOneR, lowOne, c1]
      rw [e1] at q; exact oner1a_c hvs' hv hM hl c1 q
    · have e1 : lowOneR ⟨1, m1, m2, r, l, e, n⟩ = [⟨1, r, l, [], 0⟩] := by simp [lowOneR, lowOne, c1]
      rw [e1] at q; exact oner1n_c hvs' hv hM hl c1 q
  · by_cases c1 : m1 = 2
    · have e1 : lowOneR ⟨2, m1, m2, r, l, e, n⟩ = [⟨5, 0, 0, [], 0⟩, ⟨2, 0, l, e, 0⟩] := by simp [lowOneR, lowOne, c1]
      rw [e1] at q; exact oner2r_c hvs' hv hM hl c1 q
    · have e1 : lowOneR ⟨2, m1, m2, r, l, e, n⟩ = [⟨2, 0, l, e, 0⟩] := by simp [lowOneR, lowOne, c1]
      rw [e1] at q; exact oner2n_c hvs' hv hM hl c1 q
  · by_cases c1 : m1 = 4
    · have e1 : lowOneR ⟨3, m1, m2, r, l, e, n⟩ = [⟨6, 0, 0, [], 0⟩] := by simp [lowOneR, lowOne, c1]
      rw [e1] at q; exact oner3s_c hvs' hv hM hl c1 q
    · have e1 : lowOneR ⟨3, m1, m2, r, l, e, n⟩ = [⟨5, 0, 0, [], 0⟩] := by simp [lowOneR, lowOne, c1]
      rw [e1] at q; exact oner3n_c hvs' hv hM hl c1 q
  · by_cases c1 : m1 = 1 <;> by_cases c2 : m2 = 2
    · have e1 : lowOneR ⟨4, m1, m2, r, l, e, n⟩ = [⟨5, 0, 0, [], 0⟩, ⟨3, r, l, [], 0⟩, ⟨4, 0, l, (2, r) :: (e ++ [(3, 1)]), 0⟩, ⟨9, 0, 0, [(2, r)], 0⟩, ⟨7, 0, 0, [], 0⟩] := by simp [lowOneR, lowOne, c1, c2]
      rw [e1] at q; exact oner4ra_c hvs' hv hM hl c1 c2 q
    · have e1 : lowOneR ⟨4, m1, m2, r, l, e, n⟩ = [⟨3, r, l, [], 0⟩, ⟨4, 0, l, (2, r) :: (e ++ [(3, 1)]), 0⟩, ⟨9, 0, 0, [(2, r)], 0⟩, ⟨7, 0, 0, [], 0⟩] := by simp [lowOneR, lowOne, c1, c2]
      rw [e1] at q; exact oner4na_c hvs' hv hM hl c1 c2 q
    · have e1 : lowOneR ⟨4, m1, m2, r, l, e, n⟩ = [⟨5, 0, 0, [], 0⟩, ⟨3, r, l, [], 0⟩, ⟨4, 0, l, (2, r) :: (e ++ [(3, 1)]), 0⟩, ⟨9, 0, 0, [(2, r)], 0⟩] := by simp [lowOneR, lowOne, c1, c2]
      rw [e1] at q; exact oner4rn_c hvs' hv hM hl c1 c2 q
    · have e1 : lowOneR ⟨4, m1, m2, r, l, e, n⟩ = [⟨3, r, l, [], 0⟩, ⟨4, 0, l, (2, r) :: (e ++ [(3, 1)]), 0⟩, ⟨9, 0, 0, [(2, r)], 0⟩] := by simp [lowOneR, lowOne, c1, c2]
      rw [e1] at q; exact oner4nn_c hvs' hv hM hl c1 c2 q
  · exact oner5_c hvs' hv hM hl q
  · exact oner6_c hvs' hv hM hl q
end
end Go.Proofs.Ythkipncmnefomaa.XCodeL
