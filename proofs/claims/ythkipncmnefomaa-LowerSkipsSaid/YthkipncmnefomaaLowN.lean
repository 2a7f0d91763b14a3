/- A text of the verified executor, of contracts, or of this law; joined and trimmed by a program of mine (wip/gen). -/
import Derived.Test.YthkipncmnefomaaLowAM
import Derived.Test.YthkipncmnefomaaXSep3M
set_option linter.unusedVariables false
set_option linter.unusedSimpArgs false
set_option linter.unusedSectionVars false
set_option maxRecDepth 100000
set_option maxHeartbeats 4000000
namespace Go.Proofs.Ythkipncmnefomaa.XCodeL
open Go Go.X
noncomputable section
variable [Nu] {R : Type} {Q : Option R → Prop} {B : Nat} {A : Nat → Prop} {S : Nat} {L : Kn}
structure PIn where
  k : Int
  r : Int
  l : Int
  e : List (Int × Int)
  n : Int
  deriving DecidableEq
abbrev pinC (p : PIn) (v : V) : List V := [.int .i64 p.k, .int .i64 p.r, .int .i64 p.l, v, .int .i64 p.n]
def PC (L : Kn) : List PIn → List V → Prop
  | [], l => l = []
  | p :: ps, l => ∃ v r, l = pinC p v ++ r ∧ Tk L v p.e ∧ PC L ps r
def PR (L : Kn) (v : V) (ps : List PIn) : Prop := ∃ l, Rd L 5 v ps.length l ∧ PC L ps l
theorem PC.sub {L L' : Kn} (hs : ∀ q ∈ L, q ∈ L') : ∀ {ps : List PIn} {l : List V}, PC L ps l → PC L' ps l
  | [], l, h => h
  | p :: ps, l, ⟨v, r, h1, h2, h3⟩ => ⟨v, r, h1, h2.sub hs, PC.sub hs h3⟩
theorem PC.len {L : Kn} : ∀ {ps : List PIn} {l : List V}, PC L ps l → l.length = ps.length * 5
  | [], l, h => by rw [h]; rfl
  | p :: ps, l, ⟨v, r, h1, h2, h3⟩ => by rw [h1, List.length_append, PC.len h3, List.length_cons]; simp; omega
theorem PC.one {L : Kn} : ∀ {ps : List PIn} {l : List V}, PC L ps l → allOne l = true
  | [], l, h => by rw [h]; rfl
  | p :: ps, l, ⟨v, r, h1, h2, h3⟩ => by
    rw [h1, allOne_app, PC.one h3, Bool.and_true]
    exact allOne_c rfl (allOne_c rfl (allOne_c rfl (allOne_c h2.one (allOne_c rfl rfl))))
theorem PC.app {L : Kn} : ∀ {ps ps' : List PIn} {l l' : List V}, PC L ps l → PC L ps' l' → PC L (ps ++ ps') (l ++ l')
  | [], ps', l, l', h, h' => by rw [h]; exact h'
  | p :: ps, ps', l, l', ⟨v, r, h1, h2, h3⟩, h' => ⟨v, r ++ l', by rw [h1, List.append_assoc], h2, PC.app h3 h'⟩
theorem PC.at' {L : Kn} : ∀ {ps : List PIn} {l : List V} (i : Nat) (x : PIn), PC L ps l → ps[i]? = some x → ∃ v r, l.drop (i * 5) = pinC x v ++ r ∧ Tk L v x.e
  | [], l, i, x, h, e => nomatch e
  | y :: is, l, 0, x, ⟨v, r, h1, h2, h3⟩, e => by
    simp only [List.getElem?_cons_zero, Option.some.injEq] at e
    subst e; exact ⟨v, r, by rw [Nat.zero_mul, List.drop_zero, h1], h2⟩
  | y :: is, l, i + 1, x, ⟨v, r, h1, h2, h3⟩, e => by
    obtain ⟨v', r', h4, h5⟩ := PC.at' i x h3 e
    refine ⟨v', r', ?_, h5⟩
    rw [h1, show (i + 1) * 5 = 5 + i * 5 by omega, ← List.drop_drop]
    exact h4
def lowOne (x : Ins) : List PIn :=
  if x.k = 1 then ⟨1, x.r, x.l, [], 0⟩ :: (if x.m = 1 then [⟨9, 0, 0, [(2, x.r)], 0⟩, ⟨7, 0, 0, [], 0⟩] else [])
  else if x.k = 2 then (if x.m = 2 then [⟨5, 0, 0, [], 0⟩, ⟨2, 0, x.l, x.e, 0⟩] else [⟨2, 0, x.l, x.e, 0⟩])
  else if x.k = 3 then (if x.m = 4 then [⟨6, 0, 0, [], 0⟩] else [⟨5, 0, 0, [], 0⟩])
  else if x.k = 4 then (if x.m2 = 2 then [⟨5, 0, 0, [], 0⟩] else []) ++ ([⟨3, x.r, x.l, [], 0⟩, ⟨4, 0, x.l, (2, x.r) :: (x.e ++ [(3, 1)]), 0⟩, ⟨9, 0, 0, [(2, x.r)], 0⟩] ++ (if x.m = 1 then [⟨7, 0, 0, [], 0⟩] else []))
  else if x.k = 5 then [⟨8, x.r, 0, x.e, 0⟩]
  else if x.k = 6 then [⟨9, 0, 0, x.e, 0⟩]
  else []
theorem tokCells_app : ∀ a b : List (Int × Int), tokCells (a ++ b) = tokCells a ++ tokCells b := fun a b => List.flatMap_append
theorem tokCells_one : ∀ ts : List (Int × Int), allOne (tokCells ts) = true
  | [] => rfl
  | t :: ts => by show allOne ([V.int .i64 t.1, V.int .i64 t.2] ++ tokCells ts) = true; rw [allOne_app, tokCells_one ts]; rfl
theorem reg0_c {K : V → H → Option R} {m : Nat} {vs : List V} {r : Int} (hvs : vs = [.int .i64 r, .nils])  (q : ∀ b c y', B ≤ b → (c = none ∨ c = some 1) → W Q B A S ((b, .cells [.int .i64 2, .int .i64 r] true y') :: L) (K (.slice b 0 1 2 c))) : W Q B A S (L) fun h => J.call (F (m + 1)) (.fn (.func 24) [] []) vs R h K := by
  subst hvs
  refine W.callE (d := d24) (c := c24) (by kernel_rfl) rfl (by rfl) ?_
  unfold c24
  (refine .hd ?_; refine .hd ?_; refine .en ?_; refine .buildL rg_ ?_)
  refine W.slit1 rfl rfl rfl fun b hb => ?_
  refine W.append (p := [(b, .cells [.int .i64 2, .int .i64 r] true 0)]) (n := 1) (m := 0) (.inr ⟨b, 1, some 1, 0, rfl, .inr rfl, rfl, Nat.le_refl _, rfl, hb⟩) (Rd.nils (by decide)) rfl rfl om_ fun x p ho => ?_
  obtain ⟨b, n, c, y', rfl, hc, hl, hn, rfl, hB⟩ := ho.ne (by simp)
  obtain rfl : n = 1 := by simp at hl; omega
  exact q b c y' hB hc
theorem reg1_c {K : V → H → Option R} {m : Nat} {vs : List V} {r : Int} {ve : V} {e : List (Int × Int)} (hvs : vs = [.int .i64 r, ve]) (hv : Tk L ve e) (hl : e.length ≤ 12) (q : ∀ b c y', B ≤ b → (c = none ∨ c = some (1 + e.length)) → W Q B A S ((b, .cells (tokCells ((2, r) :: e)) true y') :: L) (K (.slice b 0 (1 + e.length) 2 c))) : W Q B A S (L) fun h => J.call (F (m + 1)) (.fn (.func 24) [] []) vs R h K := by
  subst hvs
  refine W.callE (d := d24) (c := c24) (by kernel_rfl) rfl (by rfl) ?_
  unfold c24
  (refine .hd ?_; refine .hd ?_; refine .en ?_; refine .buildL rg_ ?_)
  refine W.slit1 rfl rfl rfl fun b hb => ?_
  refine W.append (p := [(b, .cells [.int .i64 2, .int .i64 r] true 0)]) (n := 1) (m := e.length) (.inr ⟨b, 1, some 1, 0, rfl, .inr rfl, rfl, Nat.le_refl _, rfl, hb⟩) hv rfl (by rw [allOne_app, tokCells_one]; rfl) om_ fun x p ho => ?_
  obtain ⟨b, n, c, y', rfl, hc, hl, hn, rfl, hB⟩ := ho.ne (by simp)
  obtain rfl : n = 1 + e.length := by rw [List.length_append, tokCells_len] at hl; simp at hl; omega
  exact q b c y' hB hc
theorem faccT {b : Nat} {r : Int} {e : List (Int × Int)} {c : Option Nat} {w : Bool} {y : Nat} (hm : (b, Blk.cells (tokCells ((2, r) :: e) ++ [V.int .i64 3, V.int .i64 1]) w y) ∈ L) (hc : c = none ∨ c = some (1 + e.length + 1)) : Tk L (.slice b 0 (1 + e.length + 1) 2 c) ((2, r) :: (e ++ [(3, 1)])) := by
  have h1 : tokCells ((2, r) :: e) ++ [V.int .i64 3, V.int .i64 1] = tokCells ((2, r) :: (e ++ [(3, 1)])) := by rw [← List.cons_append, tokCells_app]; rfl
  have h2 : ((2, r) :: (e ++ [((3 : Int), (1 : Int))])).length = 1 + e.length + 1 := by simp; omega
  rw [h1] at hm
  have := Rd.of (es := 2) (n := 1 + e.length + 1) (c := c) (by decide) hm (by rw [tokCells_len, h2]) (by rintro q hq; rcases hc with rfl | rfl <;> simp at hq; omega)
  unfold Tk; rw [h2]; exact this
theorem ao_ {P : Prop} (h : P := by first | with_unfolding_all rfl | (rw [allOne_app, tokCells_one]; with_unfolding_all rfl) | (rw [allOne_app, allOne_app, tokCells_one]; with_unfolding_all rfl) | with_unfolding_all ((repeat (first | rfl | assumption | assumption | refine allOne_c (by first | assumption | rfl) ?_)); done) | fail) : P := h
theorem tk_ {P : Prop} (h : P := by first | exact Rd.nils (by decide) | exact faccT mm_ (by assumption) | ((repeat (first | assumption | apply Rd.cons)); done) | exact Rd.of (by decide) mm_ (by first | rfl | (simp; done)) (by first | (rintro q hq; simp at hq; omega) | grind) | fail) : P := h
theorem one1a_c {K : V → H → Option R} {m : Nat} {vs : List V} {m1 m2 r l n : Int} {e : List (Int × Int)} {ve : V} {M : Kn} (hvs : vs = [.agg [.int .i64 1, .int .i64 m1, .int .i64 m2, .int .i64 r, .int .i64 l, ve, .int .i64 n]]) (hv : Tk M ve e) (hM : ∀ q ∈ M, q ∈ L) (hl : e.length ≤ 12) (hm : m1 = 1) (q : ∀ b c y' N cells, B ≤ b → (c = none ∨ c = some 3) → (∀ p ∈ N, B ≤ p.1) → PC (N ++ M) [⟨1, r, l, [], 0⟩, ⟨9, 0, 0, [(2, r)], 0⟩, ⟨7, 0, 0, [], 0⟩] cells → W Q B A S ((b, .cells cells true y') :: (N ++ L)) (K (.slice b 0 3 5 c))) : W Q B A S (L) fun h => J.call (F (m + 7)) (.fn (.func 14) [] []) vs R h K := by
  subst hvs
  refine W.callE (d := d14) (c := c14) (by kernel_rfl) rfl (by rfl) ?_
  unfold c14
  have hvL := hv.sub hM
  have hone := hv.one
  have hce := one_cells hone
  have hbx : allOne (V.agg [.int .i64 1, .int .i64 m1, .int .i64 m2, .int .i64 r, .int .i64 l, ve, .int .i64 n]).cells = true := ins_one hv.one ⟨1, m1, m2, r, l, e, n⟩
  (refine .hd ?_; refine .en ?_; refine .box bx_ fun b hb => ?_; (iterate 2 refine .buildL rg_ ?_); refine .newT fun b hb => ?_; refine .newT fun b hb => ?_; (iterate 2 (refine .front1 ?_; refine .storeN om_ rf_ sd_ bx_ ?_)); refine .fl ?_)
  with_reducible refine reg0_c rf_ fun b0 c0 y0 hb0 hc0 => ?_
  (refine .bn fun b hb => ?_; refine .newT fun b hb => ?_; refine .newT fun b hb => ?_; (refine .store1 om_ sn_ bx_ ?_); refine .mkmap fun b hb => ?_; (iterate 6 refine .insert om_ rf_ rf_ ?_); refine .fl ?_; (refine .look mm_ rf_ rf_ ?_; dsimp only); (iterate 2 refine .ext _ rf_ ?_); refine .join ?_; refine .condT ?_; (refine .callF (g := 26) (d := d26) (c := c26) (by kernel_rfl) rf_ rf_ rf_ ?_; unfold c26; simp only [List.nil_append, List.cons_append]); (iterate 4 refine .hd ?_); refine .en ?_; refine .load1P mm_ _ rf_ ?_; refine .fl ?_; refine .fl ?_; refine .buildL rg_ ?_; (refine .slitL rg_ ao_ fun b hb => ?_); (refine .callF (g := 25) (d := d25) (c := c25) (by kernel_rfl) rf_ rf_ rf_ ?_; unfold c25; simp only [List.nil_append, List.cons_append]); (iterate 3 refine .hd ?_); refine .en ?_; refine .join ?_; refine .condT ?_; refine .load1P mm_ _ rf_ ?_; (refine .appendN rs_ (by decide) ao_ (by decide) fun b c y' hb hc => ?_); (refine .front4 ?_; refine .store1 om_ sn_ bx_ ?_); refine .load1P mm_ _ rf_ ?_; refine .fl ?_; refine .eqlT om_ ?_; (iterate 2 refine .loadNP mm_ nl_ ?_); (refine .slitL rg_ ao_ fun b hb => ?_); (refine .callF (g := 25) (d := d25) (c := c25) (by kernel_rfl) rf_ rf_ rf_ ?_; unfold c25; simp only [List.nil_append, List.cons_append]); (iterate 3 refine .hd ?_); refine .en ?_; refine .join ?_; refine .condT ?_; refine .load1P mm_ _ rf_ ?_; (refine .front2 ?_; refine .appendG rs_ om_ (by first | assumption | exact .inr rfl | fail) (by first | (simp; done) | (rw [tokCells_len, List.length_cons]; omega) | (simp [tokCells_len]; omega) | fail) om_ ao_ om_ fun b c y' hb hc => ?_); (refine .front2 ?_; refine .store1 om_ sn_ bx_ ?_); refine .load1P mm_ _ rf_ ?_)
  (((refine .front1 ?_); refine q _ _ _ [_, _, _, _, _, _, _, _, _, _] _ om_ (by first | assumption | exact .inl rfl | exact .inr rfl | fail) (by intro p hp; simp only [List.mem_cons, List.not_mem_nil, or_false] at hp; rcases hp with rfl | rfl | rfl | rfl | rfl | rfl | rfl | rfl | rfl | rfl <;> (first | omega | assumption | (dsimp only; omega) | fail)) ?_))
  simp only [List.cons_append, List.nil_append]
  exact ⟨_, _, rfl, tk_, ⟨_, _, rfl, tk_, ⟨_, _, rfl, tk_, rfl⟩⟩⟩
theorem one1n_c {K : V → H → Option R} {m : Nat} {vs : List V} {m1 m2 r l n : Int} {e : List (Int × Int)} {ve : V} {M : Kn} (hvs : vs = [.agg [.int .i64 1, .int .i64 m1, .int .i64 m2, .int .i64 r, .int .i64 l, ve, .int .i64 n]]) (hv : Tk M ve e) (hM : ∀ q ∈ M, q ∈ L) (hl : e.length ≤ 12) (hm : m1 ≠ 1) (q : ∀ b c y' N cells, B ≤ b → (c = none ∨ c = some 1) → (∀ p ∈ N, B ≤ p.1) → PC (N ++ M) [⟨1, r, l, [], 0⟩] cells → W Q B A S ((b, .cells cells true y') :: (N ++ L)) (K (.slice b 0 1 5 c))) : W Q B A S (L) fun h => J.call (F (m + 7)) (.fn (.func 14) [] []) vs R h K := by
  subst hvs
  refine W.callE (d := d14) (c := c14) (by kernel_rfl) rfl (by rfl) ?_
  unfold c14
  have hvL := hv.sub hM
  have hone := hv.one
  have hce := one_cells hone
  have hbx : allOne (V.agg [.int .i64 1, .int .i64 m1, .int .i64 m2, .int .i64 r, .int .i64 l, ve, .int .i64 n]).cells = true := ins_one hv.one ⟨1, m1, m2, r, l, e, n⟩
  (refine .hd ?_; refine .en ?_; refine .box bx_ fun b hb => ?_; (iterate 2 refine .buildL rg_ ?_); refine .newT fun b hb => ?_; refine .newT fun b hb => ?_; (iterate 2 (refine .front1 ?_; refine .storeN om_ rf_ sd_ bx_ ?_)); refine .fl ?_)
  with_reducible refine reg0_c rf_ fun b0 c0 y0 hb0 hc0 => ?_
  (refine .bn fun b hb => ?_; refine .newT fun b hb => ?_; refine .newT fun b hb => ?_; (refine .store1 om_ sn_ bx_ ?_); refine .mkmap fun b hb => ?_; (iterate 6 refine .insert om_ rf_ rf_ ?_); refine .fl ?_; (refine .look mm_ rf_ rf_ ?_; dsimp only); (iterate 2 refine .ext _ rf_ ?_); refine .join ?_; refine .condT ?_; (refine .callF (g := 26) (d := d26) (c := c26) (by kernel_rfl) rf_ rf_ rf_ ?_; unfold c26; simp only [List.nil_append, List.cons_append]); (iterate 4 refine .hd ?_); refine .en ?_; refine .load1P mm_ _ rf_ ?_; refine .fl ?_; refine .fl ?_; refine .buildL rg_ ?_; (refine .slitL rg_ ao_ fun b hb => ?_); (refine .callF (g := 25) (d := d25) (c := c25) (by kernel_rfl) rf_ rf_ rf_ ?_; unfold c25; simp only [List.nil_append, List.cons_append]); (iterate 3 refine .hd ?_); refine .en ?_; refine .join ?_; refine .condT ?_; refine .load1P mm_ _ rf_ ?_; (refine .appendN rs_ (by decide) ao_ (by decide) fun b c y' hb hc => ?_); (refine .front4 ?_; refine .store1 om_ sn_ bx_ ?_); refine .load1P mm_ _ rf_ ?_; refine .fl ?_; refine .eqlF om_ ?_; (iterate 2 refine .loadNP mm_ nl_ ?_); (refine .slitL rg_ ao_ fun b hb => ?_); (refine .callF (g := 25) (d := d25) (c := c25) (by kernel_rfl) rf_ rf_ rf_ ?_; unfold c25; simp only [List.nil_append, List.cons_append]); (iterate 3 refine .hd ?_); refine .en ?_; refine .join ?_; refine .condF ?_; refine .load1P mm_ _ rf_ ?_)
  (((refine .front2 ?_); refine q _ _ _ [_, _, _, _, _, _, _, _, _, _] _ om_ (by first | assumption | exact .inl rfl | exact .inr rfl | fail) (by intro p hp; simp only [List.mem_cons, List.not_mem_nil, or_false] at hp; rcases hp with rfl | rfl | rfl | rfl | rfl | rfl | rfl | rfl | rfl | rfl <;> (first | omega | assumption | (dsimp only; omega) | fail)) ?_))
  simp only [List.cons_append, List.nil_append]
  exact ⟨_, _, rfl, tk_, rfl⟩
theorem one2r_c {K : V → H → Option R} {m : Nat} {vs : List V} {m1 m2 r l n : Int} {e : List (Int × Int)} {ve : V} {M : Kn} (hvs : vs = [.agg [.int .i64 2, .int .i64 m1, .int .i64 m2, .int .i64 r, .int .i64 l, ve, .int .i64 n]]) (hv : Tk M ve e) (hM : ∀ q ∈ M, q ∈ L) (hl : e.length ≤ 12) (hm : m1 = 2) (q : ∀ b c y' N cells, B ≤ b → (c = none ∨ c = some 2) → (∀ p ∈ N, B ≤ p.1) → PC (N ++ M) [⟨5, 0, 0, [], 0⟩, ⟨2, 0, l, e, 0⟩] cells → W Q B A S ((b, .cells cells true y') :: (N ++ L)) (K (.slice b 0 2 5 c))) : W Q B A S (L) fun h => J.call (F (m + 7)) (.fn (.func 14) [] []) vs R h K := by
  subst hvs
  refine W.callE (d := d14) (c := c14) (by kernel_rfl) rfl (by rfl) ?_
  unfold c14
  have hvL := hv.sub hM
  have hone := hv.one
  have hce := one_cells hone
  have hbx : allOne (V.agg [.int .i64 2, .int .i64 m1, .int .i64 m2, .int .i64 r, .int .i64 l, ve, .int .i64 n]).cells = true := ins_one hv.one ⟨2, m1, m2, r, l, e, n⟩
  (refine .hd ?_; refine .en ?_; refine .box bx_ fun b hb => ?_; (iterate 2 refine .buildL rg_ ?_); refine .newT fun b hb => ?_; refine .newT fun b hb => ?_; (iterate 2 (refine .front1 ?_; refine .storeN om_ rf_ sd_ bx_ ?_)); refine .fl ?_)
  with_reducible refine reg0_c rf_ fun b0 c0 y0 hb0 hc0 => ?_
  (refine .bn fun b hb => ?_; refine .newT fun b hb => ?_; refine .newT fun b hb => ?_; (refine .store1 om_ sn_ bx_ ?_); refine .mkmap fun b hb => ?_; (iterate 6 refine .insert om_ rf_ rf_ ?_); refine .fl ?_; (refine .look mm_ rf_ rf_ ?_; dsimp only); (iterate 2 refine .ext _ rf_ ?_); refine .join ?_; refine .condT ?_; (refine .callF (g := 27) (d := d27) (c := c27) (by kernel_rfl) rf_ rf_ rf_ ?_; unfold c27; simp only [List.nil_append, List.cons_append]); (iterate 3 refine .hd ?_); refine .en ?_; refine .load1P mm_ _ rf_ ?_; refine .fl ?_; refine .eqlT om_ ?_; refine .loadNP mm_ nl_ ?_; (refine .slitL rg_ ao_ fun b hb => ?_); (refine .callF (g := 25) (d := d25) (c := c25) (by kernel_rfl) rf_ rf_ rf_ ?_; unfold c25; simp only [List.nil_append, List.cons_append]); (iterate 3 refine .hd ?_); refine .en ?_; refine .join ?_; refine .condT ?_; refine .load1P mm_ _ rf_ ?_; (refine .appendN rs_ (by decide) ao_ (by decide) fun b c y' hb hc => ?_); (refine .front4 ?_; refine .store1 om_ sn_ bx_ ?_); refine .load1P mm_ _ rf_ ?_; refine .fl ?_; refine .fl ?_; (refine .buildL ft_ ?_); (refine .slitL rg_ ao_ fun b hb => ?_); (refine .callF (g := 25) (d := d25) (c := c25) (by kernel_rfl) rf_ rf_ rf_ ?_; unfold c25; simp only [List.nil_append, List.cons_append]); (iterate 3 refine .hd ?_); refine .en ?_; refine .join ?_; refine .condT ?_; refine .load1P mm_ _ rf_ ?_; (refine .front2 ?_; refine .appendG rs_ om_ (by first | assumption | exact .inr rfl | fail) (by first | (simp; done) | (rw [tokCells_len, List.length_cons]; omega) | (simp [tokCells_len]; omega) | fail) om_ ao_ om_ fun b c y' hb hc => ?_); (refine .front2 ?_; refine .store1 om_ sn_ bx_ ?_); refine .load1P mm_ _ rf_ ?_)
  (((refine .front1 ?_); refine q _ _ _ [_, _, _, _, _, _, _, _, _, _] _ om_ (by first | assumption | exact .inl rfl | exact .inr rfl | fail) (by intro p hp; simp only [List.mem_cons, List.not_mem_nil, or_false] at hp; rcases hp with rfl | rfl | rfl | rfl | rfl | rfl | rfl | rfl | rfl | rfl <;> (first | omega | assumption | (dsimp only; omega) | fail)) ?_))
  simp only [List.cons_append, List.nil_append]
  exact ⟨_, _, rfl, tk_, ⟨_, _, rfl, tk_, rfl⟩⟩
theorem one2n_c {K : V → H → Option R} {m : Nat} {vs : List V} {m1 m2 r l n : Int} {e : List (Int × Int)} {ve : V} {M : Kn} (hvs : vs = [.agg [.int .i64 2, .int .i64 m1, .int .i64 m2, .int .i64 r, .int .i64 l, ve, .int .i64 n]]) (hv : Tk M ve e) (hM : ∀ q ∈ M, q ∈ L) (hl : e.length ≤ 12) (hm : m1 ≠ 2) (q : ∀ b c y' N cells, B ≤ b → (c = none ∨ c = some 1) → (∀ p ∈ N, B ≤ p.1) → PC (N ++ M) [⟨2, 0, l, e, 0⟩] cells → W Q B A S ((b, .cells cells true y') :: (N ++ L)) (K (.slice b 0 1 5 c))) : W Q B A S (L) fun h => J.call (F (m + 7)) (.fn (.func 14) [] []) vs R h K := by
  subst hvs
  refine W.callE (d := d14) (c := c14) (by kernel_rfl) rfl (by rfl) ?_
  unfold c14
  have hvL := hv.sub hM
  have hone := hv.one
  have hce := one_cells hone
  have hbx : allOne (V.agg [.int .i64 2, .int .i64 m1, .int .i64 m2, .int .i64 r, .int .i64 l, ve, .int .i64 n]).cells = true := ins_one hv.one ⟨2, m1, m2, r, l, e, n⟩
  (refine .hd ?_; refine .en ?_; refine .box bx_ fun b hb => ?_; (iterate 2 refine .buildL rg_ ?_); refine .newT fun b hb => ?_; refine .newT fun b hb => ?_; (iterate 2 (refine .front1 ?_; refine .storeN om_ rf_ sd_ bx_ ?_)); refine .fl ?_)
  with_reducible refine reg0_c rf_ fun b0 c0 y0 hb0 hc0 => ?_
  (refine .bn fun b hb => ?_; refine .newT fun b hb => ?_; refine .newT fun b hb => ?_; (refine .store1 om_ sn_ bx_ ?_); refine .mkmap fun b hb => ?_; (iterate 6 refine .insert om_ rf_ rf_ ?_); refine .fl ?_; (refine .look mm_ rf_ rf_ ?_; dsimp only); (iterate 2 refine .ext _ rf_ ?_); refine .join ?_; refine .condT ?_; (refine .callF (g := 27) (d := d27) (c := c27) (by kernel_rfl) rf_ rf_ rf_ ?_; unfold c27; simp only [List.nil_append, List.cons_append]); (iterate 3 refine .hd ?_); refine .en ?_; refine .load1P mm_ _ rf_ ?_; refine .fl ?_; refine .eqlF om_ ?_; refine .loadNP mm_ nl_ ?_; (refine .slitL rg_ ao_ fun b hb => ?_); (refine .callF (g := 25) (d := d25) (c := c25) (by kernel_rfl) rf_ rf_ rf_ ?_; unfold c25; simp only [List.nil_append, List.cons_append]); (iterate 3 refine .hd ?_); refine .en ?_; refine .join ?_; refine .condF ?_; refine .load1P mm_ _ rf_ ?_; refine .fl ?_; refine .fl ?_; (refine .buildL ft_ ?_); (refine .slitL rg_ ao_ fun b hb => ?_); (refine .callF (g := 25) (d := d25) (c := c25) (by kernel_rfl) rf_ rf_ rf_ ?_; unfold c25; simp only [List.nil_append, List.cons_append]); (iterate 3 refine .hd ?_); refine .en ?_; refine .join ?_; refine .condT ?_; refine .load1P mm_ _ rf_ ?_; (refine .appendN rs_ (by decide) ao_ (by decide) fun b c y' hb hc => ?_); (refine .front5 ?_; refine .store1 om_ sn_ bx_ ?_); refine .load1P mm_ _ rf_ ?_)
  (((refine .front1 ?_); refine q _ _ _ [_, _, _, _, _, _, _, _, _, _] _ om_ (by first | assumption | exact .inl rfl | exact .inr rfl | fail) (by intro p hp; simp only [List.mem_cons, List.not_mem_nil, or_false] at hp; rcases hp with rfl | rfl | rfl | rfl | rfl | rfl | rfl | rfl | rfl | rfl <;> (first | omega | assumption | (dsimp only; omega) | fail)) ?_))
  simp only [List.cons_append, List.nil_append]
  exact ⟨_, _, rfl, tk_, rfl⟩
theorem one3s_c {K : V → H → Option R} {m : Nat} {vs : List V} {m1 m2 r l n : Int} {e : List (Int × Int)} {ve : V} {M : Kn} (hvs : vs = [.agg [.int .i64 3, .int .i64 m1, .int .i64 m2, .int .i64 r, .int .i64 l, ve, .int .i64 n]]) (hv : Tk M ve e) (hM : ∀ q ∈ M, q ∈ L) (hl : e.length ≤ 12) (hm : m1 = 4) (q : ∀ b c y' N cells, B ≤ b → (c = none ∨ c = some 1) → (∀ p ∈ N, B ≤ p.1) → PC (N ++ M) [⟨6, 0, 0, [], 0⟩] cells → W Q B A S ((b, .cells cells true y') :: (N ++ L)) (K (.slice b 0 1 5 c))) : W Q B A S (L) fun h => J.call (F (m + 7)) (.fn (.func 14) [] []) vs R h K := by
  subst hvs
  refine W.callE (d := d14) (c := c14) (by kernel_rfl) rfl (by rfl) ?_
  unfold c14
  have hvL := hv.sub hM
  have hone := hv.one
  have hce := one_cells hone
  have hbx : allOne (V.agg [.int .i64 3, .int .i64 m1, .int .i64 m2, .int .i64 r, .int .i64 l, ve, .int .i64 n]).cells = true := ins_one hv.one ⟨3, m1, m2, r, l, e, n⟩
  (refine .hd ?_; refine .en ?_; refine .box bx_ fun b hb => ?_; (iterate 2 refine .buildL rg_ ?_); refine .newT fun b hb => ?_; refine .newT fun b hb => ?_; (iterate 2 (refine .front1 ?_; refine .storeN om_ rf_ sd_ bx_ ?_)); refine .fl ?_)
  with_reducible refine reg0_c rf_ fun b0 c0 y0 hb0 hc0 => ?_
  (refine .bn fun b hb => ?_; refine .newT fun b hb => ?_; refine .newT fun b hb => ?_; (refine .store1 om_ sn_ bx_ ?_); refine .mkmap fun b hb => ?_; (iterate 6 refine .insert om_ rf_ rf_ ?_); refine .fl ?_; (refine .look mm_ rf_ rf_ ?_; dsimp only); (iterate 2 refine .ext _ rf_ ?_); refine .join ?_; refine .condT ?_; (refine .callF (g := 28) (d := d28) (c := c28) (by kernel_rfl) rf_ rf_ rf_ ?_; unfold c28; simp only [List.nil_append, List.cons_append]); (iterate 3 refine .hd ?_); refine .en ?_; refine .load1P mm_ _ rf_ ?_; refine .fl ?_; refine .eqlT om_ ?_; refine .buildL rg_ ?_; (refine .slitL rg_ ao_ fun b hb => ?_); (refine .callF (g := 25) (d := d25) (c := c25) (by kernel_rfl) rf_ rf_ rf_ ?_; unfold c25; simp only [List.nil_append, List.cons_append]); (iterate 3 refine .hd ?_); refine .en ?_; refine .join ?_; refine .condT ?_; refine .load1P mm_ _ rf_ ?_; (refine .appendN rs_ (by decide) ao_ (by decide) fun b c y' hb hc => ?_); (refine .front4 ?_; refine .store1 om_ sn_ bx_ ?_); refine .load1P mm_ _ rf_ ?_; refine .fl ?_; refine .neqF om_ ?_; refine .loadNP mm_ nl_ ?_; (refine .slitL rg_ ao_ fun b hb => ?_); (refine .callF (g := 25) (d := d25) (c := c25) (by kernel_rfl) rf_ rf_ rf_ ?_; unfold c25; simp only [List.nil_append, List.cons_append]); (iterate 3 refine .hd ?_); refine .en ?_; refine .join ?_; refine .condF ?_; refine .load1P mm_ _ rf_ ?_)
  (((refine .front2 ?_); refine q _ _ _ [_, _, _, _, _, _, _, _, _, _] _ om_ (by first | assumption | exact .inl rfl | exact .inr rfl | fail) (by intro p hp; simp only [List.mem_cons, List.not_mem_nil, or_false] at hp; rcases hp with rfl | rfl | rfl | rfl | rfl | rfl | rfl | rfl | rfl | rfl <;> (first | omega | assumption | (dsimp only; omega) | fail)) ?_))
  simp only [List.cons_append, List.nil_append]
  exact ⟨_, _, rfl, tk_, rfl⟩
theorem one3n_c {K : V → H → Option R} {m : Nat} {vs : List V} {m1 m2 r l n : Int} {e : List (Int × Int)} {ve : V} {M : Kn} (hvs : vs = [.agg [.int .i64 3, .int .i64 m1, .int .i64 m2, .int .i64 r, .int .i64 l, ve, .int .i64 n]]) (hv : Tk M ve e) (hM : ∀ q ∈ M, q ∈ L) (hl : e.length ≤ 12) (hm : m1 ≠ 4) (q : ∀ b c y' N cells, B ≤ b → (c = none ∨ c = some 1) → (∀ p ∈ N, B ≤ p.1) → PC (N ++ M) [⟨5, 0, 0, [], 0⟩] cells → W Q B A S ((b, .cells cells true y') :: (N ++ L)) (K (.slice b 0 1 5 c))) : W Q B A S (L) fun h => J.call (F (m + 7)) (.fn (.func 14) [] []) vs R h K := by
  subst hvs
  refine W.callE (d := d14) (c := c14) (by kernel_rfl) rfl (by rfl) ?_
  unfold c14
  have hvL := hv.sub hM
  have hone := hv.one
  have hce := one_cells hone
  have hbx : allOne (V.agg [.int .i64 3, .int .i64 m1, .int .i64 m2, .int .i64 r, .int .i64 l, ve, .int .i64 n]).cells = true := ins_one hv.one ⟨3, m1, m2, r, l, e, n⟩
  (refine .hd ?_; refine .en ?_; refine .box bx_ fun b hb => ?_; (iterate 2 refine .buildL rg_ ?_); refine .newT fun b hb => ?_; refine .newT fun b hb => ?_; (iterate 2 (refine .front1 ?_; refine .storeN om_ rf_ sd_ bx_ ?_)); refine .fl ?_)
  with_reducible refine reg0_c rf_ fun b0 c0 y0 hb0 hc0 => ?_
  (refine .bn fun b hb => ?_; refine .newT fun b hb => ?_; refine .newT fun b hb => ?_; (refine .store1 om_ sn_ bx_ ?_); refine .mkmap fun b hb => ?_; (iterate 6 refine .insert om_ rf_ rf_ ?_); refine .fl ?_; (refine .look mm_ rf_ rf_ ?_; dsimp only); (iterate 2 refine .ext _ rf_ ?_); refine .join ?_; refine .condT ?_; (refine .callF (g := 28) (d := d28) (c := c28) (by kernel_rfl) rf_ rf_ rf_ ?_; unfold c28; simp only [List.nil_append, List.cons_append]); (iterate 3 refine .hd ?_); refine .en ?_; refine .load1P mm_ _ rf_ ?_; refine .fl ?_; refine .eqlF om_ ?_; refine .buildL rg_ ?_; (refine .slitL rg_ ao_ fun b hb => ?_); (refine .callF (g := 25) (d := d25) (c := c25) (by kernel_rfl) rf_ rf_ rf_ ?_; unfold c25; simp only [List.nil_append, List.cons_append]); (iterate 3 refine .hd ?_); refine .en ?_; refine .join ?_; refine .condF ?_; refine .load1P mm_ _ rf_ ?_; refine .fl ?_; refine .neqT om_ ?_; refine .loadNP mm_ nl_ ?_; (refine .slitL rg_ ao_ fun b hb => ?_); (refine .callF (g := 25) (d := d25) (c := c25) (by kernel_rfl) rf_ rf_ rf_ ?_; unfold c25; simp only [List.nil_append, List.cons_append]); (iterate 3 refine .hd ?_); refine .en ?_; refine .join ?_; refine .condT ?_; refine .load1P mm_ _ rf_ ?_; (refine .appendN rs_ (by decide) ao_ (by decide) fun b c y' hb hc => ?_); (refine .front5 ?_; refine .store1 om_ sn_ bx_ ?_); refine .load1P mm_ _ rf_ ?_)
  (((refine .front1 ?_); refine q _ _ _ [_, _, _, _, _, _, _, _, _, _] _ om_ (by first | assumption | exact .inl rfl | exact .inr rfl | fail) (by intro p hp; simp only [List.mem_cons, List.not_mem_nil, or_false] at hp; rcases hp with rfl | rfl | rfl | rfl | rfl | rfl | rfl | rfl | rfl | rfl <;> (first | omega | assumption | (dsimp only; omega) | fail)) ?_))
  simp only [List.cons_append, List.nil_append]
  exact ⟨_, _, rfl, tk_, rfl⟩
theorem one4ra_c {K : V → H → Option R} {m : Nat} {vs : List V} {m1 m2 r l n : Int} {e : List (Int × Int)} {ve : V} {M : Kn} (hvs : vs = [.agg [.int .i64 4, .int .i64 m1, .int .i64 m2, .int .i64 r, .int .i64 l, ve, .int .i64 n]]) (hv : Tk M ve e) (hM : ∀ q ∈ M, q ∈ L) (hl : e.length ≤ 12) (hm : m1 = 1) (hm2 : m2 = 2) (q : ∀ b c y' N cells, B ≤ b → (c = none ∨ c = some 5) → (∀ p ∈ N, B ≤ p.1) → PC (N ++ M) [⟨5, 0, 0, [], 0⟩, ⟨3, r, l, [], 0⟩, ⟨4, 0, l, (2, r) :: (e ++ [(3, 1)]), 0⟩, ⟨9, 0, 0, [(2, r)], 0⟩, ⟨7, 0, 0, [], 0⟩] cells → W Q B A S ((b, .cells cells true y') :: (N ++ L)) (K (.slice b 0 5 5 c))) : W Q B A S (L) fun h => J.call (F (m + 7)) (.fn (.func 14) [] []) vs R h K := by
  subst hvs
  refine W.callE (d := d14) (c := c14) (by kernel_rfl) rfl (by rfl) ?_
  unfold c14
  have hvL := hv.sub hM
  have hone := hv.one
  have hce := one_cells hone
  have hbx : allOne (V.agg [.int .i64 4, .int .i64 m1, .int .i64 m2, .int .i64 r, .int .i64 l, ve, .int .i64 n]).cells = true := ins_one hv.one ⟨4, m1, m2, r, l, e, n⟩
  (refine .hd ?_; refine .en ?_; refine .box bx_ fun b hb => ?_; (iterate 2 refine .buildL rg_ ?_); refine .newT fun b hb => ?_; refine .newT fun b hb => ?_; (iterate 2 (refine .front1 ?_; refine .storeN om_ rf_ sd_ bx_ ?_)); refine .fl ?_)
  with_reducible refine reg0_c rf_ fun b0 c0 y0 hb0 hc0 => ?_
  (refine .bn fun b hb => ?_; refine .newT fun b hb => ?_; refine .newT fun b hb => ?_; (refine .store1 om_ sn_ bx_ ?_); refine .mkmap fun b hb => ?_; (iterate 6 refine .insert om_ rf_ rf_ ?_); refine .fl ?_; (refine .look mm_ rf_ rf_ ?_; dsimp only); (iterate 2 refine .ext _ rf_ ?_); refine .join ?_; refine .condT ?_; (refine .callF (g := 29) (d := d29) (c := c29) (by kernel_rfl) rf_ rf_ rf_ ?_; unfold c29; simp only [List.nil_append, List.cons_append]); (iterate 5 refine .hd ?_); refine .en ?_; refine .fl ?_; refine .fl ?_)
  with_reducible refine reg1_c rf_ (by repeat (first | assumption | apply Rd.cons)) hl fun b1 c1 y1 hb1 hc1 => ?_
  (refine .buildL rg_ ?_; (refine .slitL rg_ ao_ fun b hb => ?_); (refine .front1 ?_; refine .appendG rs_ om_ (by first | assumption | exact .inr rfl | fail) (by first | (simp; done) | (rw [tokCells_len, List.length_cons]; omega) | (simp [tokCells_len]; omega) | fail) om_ ao_ om_ fun b c y' hb hc => ?_); refine .load1P mm_ _ rf_ ?_; refine .fl ?_; refine .eqlT om_ ?_; refine .loadNP mm_ nl_ ?_; (refine .slitL rg_ ao_ fun b hb => ?_); (refine .callF (g := 25) (d := d25) (c := c25) (by kernel_rfl) rf_ rf_ rf_ ?_; unfold c25; simp only [List.nil_append, List.cons_append]); (iterate 3 refine .hd ?_); refine .en ?_; refine .join ?_; refine .condT ?_; refine .load1P mm_ _ rf_ ?_; (refine .appendN rs_ (by decide) ao_ (by decide) fun b c y' hb hc => ?_); (refine .front6 ?_; refine .store1 om_ sn_ bx_ ?_); refine .load1P mm_ _ rf_ ?_; refine .fl ?_; refine .fl ?_; refine .buildL rg_ ?_; refine .fl ?_; refine .buildL rg_ ?_; refine .loadNP mm_ nl_ ?_; (refine .slitL rg_ ao_ fun b hb => ?_); (refine .callF (g := 25) (d := d25) (c := c25) (by kernel_rfl) rf_ rf_ rf_ ?_; unfold c25; simp only [List.nil_append, List.cons_append]); (iterate 3 refine .hd ?_); refine .en ?_; refine .join ?_; refine .condT ?_; refine .load1P mm_ _ rf_ ?_; (refine .front2 ?_; refine .appendG rs_ om_ (by first | assumption | exact .inr rfl | fail) (by first | (simp; done) | (rw [tokCells_len, List.length_cons]; omega) | (simp [tokCells_len]; omega) | fail) om_ ao_ om_ fun b c y' hb hc => ?_); (refine .front2 ?_; refine .store1 om_ sn_ bx_ ?_); refine .load1P mm_ _ rf_ ?_; refine .fl ?_; refine .eqlT om_ ?_; refine .loadNP mm_ nl_ ?_; (refine .slitL rg_ ao_ fun b hb => ?_); (refine .callF (g := 25) (d := d25) (c := c25) (by kernel_rfl) rf_ rf_ rf_ ?_; unfold c25; simp only [List.nil_append, List.cons_append]); (iterate 3 refine .hd ?_); refine .en ?_; refine .join ?_; refine .condT ?_; refine .load1P mm_ _ rf_ ?_; (refine .front2 ?_; refine .appendG rs_ om_ (by first | assumption | exact .inr rfl | fail) (by first | (simp; done) | (rw [tokCells_len, List.length_cons]; omega) | (simp [tokCells_len]; omega) | fail) om_ ao_ om_ fun b c y' hb hc => ?_); (refine .front2 ?_; refine .store1 om_ sn_ bx_ ?_); refine .load1P mm_ _ rf_ ?_)
  (((refine .front1 ?_); refine q _ _ _ [_, _, _, _, _, _, _, _, _, _, _, _, _] _ om_ (by first | assumption | exact .inl rfl | exact .inr rfl | fail) (by intro p hp; simp only [List.mem_cons, List.not_mem_nil, or_false] at hp; rcases hp with rfl | rfl | rfl | rfl | rfl | rfl | rfl | rfl | rfl | rfl | rfl | rfl | rfl <;> (first | omega | assumption | (dsimp only; omega) | fail)) ?_))
  simp only [List.cons_append, List.nil_append]
  exact ⟨_, _, rfl, tk_, ⟨_, _, rfl, tk_, ⟨_, _, rfl, tk_, ⟨_, _, rfl, tk_, ⟨_, _, rfl, tk_, rfl⟩⟩⟩⟩⟩
theorem one4rn_c {K : V → H → Option R} {m : Nat} {vs : List V} {m1 m2 r l n : Int} {e : List (Int × Int)} {ve : V} {M : Kn} (hvs : vs = [.agg [.int .i64 4, .int .i64 m1, .int .i64 m2, .int .i64 r, .int .i64 l, ve, .int .i64 n]]) (hv : Tk M ve e) (hM : ∀ q ∈ M, q ∈ L) (hl : e.length ≤ 12) (hm : m1 ≠ 1) (hm2 : m2 = 2) (q : ∀ b c y' N cells, B ≤ b → (c = none ∨ c = some 4) → (∀ p ∈ N, B ≤ p.1) → PC (N ++ M) [⟨5, 0, 0, [], 0⟩, ⟨3, r, l, [], 0⟩, ⟨4, 0, l, (2, r) :: (e ++ [(3, 1)]), 0⟩, ⟨9, 0, 0, [(2, r)], 0⟩] cells → W Q B A S ((b, .cells cells true y') :: (N ++ L)) (K (.slice b 0 4 5 c))) : W Q B A S (L) fun h => J.call (F (m + 7)) (.fn (.func 14) [] []) vs R h K := by
  subst hvs
  refine W.callE (d := d14) (c := c14) (by kernel_rfl) rfl (by rfl) ?_
  unfold c14
  have hvL := hv.sub hM
  have hone := hv.one
  have hce := one_cells hone
  have hbx : allOne (V.agg [.int .i64 4, .int .i64 m1, .int .i64 m2, .int .i64 r, .int .i64 l, ve, .int .i64 n]).cells = true := ins_one hv.one ⟨4, m1, m2, r, l, e, n⟩
  (refine .hd ?_; refine .en ?_; refine .box bx_ fun b hb => ?_; (iterate 2 refine .buildL rg_ ?_); refine .newT fun b hb => ?_; refine .newT fun b hb => ?_; (iterate 2 (refine .front1 ?_; refine .storeN om_ rf_ sd_ bx_ ?_)); refine .fl ?_)
  with_reducible refine reg0_c rf_ fun b0 c0 y0 hb0 hc0 => ?_
  (refine .bn fun b hb => ?_; refine .newT fun b hb => ?_; refine .newT fun b hb => ?_; (refine .store1 om_ sn_ bx_ ?_); refine .mkmap fun b hb => ?_; (iterate 6 refine .insert om_ rf_ rf_ ?_); refine .fl ?_; (refine .look mm_ rf_ rf_ ?_; dsimp only); (iterate 2 refine .ext _ rf_ ?_); refine .join ?_; refine .condT ?_; (refine .callF (g := 29) (d := d29) (c := c29) (by kernel_rfl) rf_ rf_ rf_ ?_; unfold c29; simp only [List.nil_append, List.cons_append]); (iterate 5 refine .hd ?_); refine .en ?_; refine .fl ?_; refine .fl ?_)
  with_reducible refine reg1_c rf_ (by repeat (first | assumption | apply Rd.cons)) hl fun b1 c1 y1 hb1 hc1 => ?_
  (refine .buildL rg_ ?_; (refine .slitL rg_ ao_ fun b hb => ?_); (refine .front1 ?_; refine .appendG rs_ om_ (by first | assumption | exact .inr rfl | fail) (by first | (simp; done) | (rw [tokCells_len, List.length_cons]; omega) | (simp [tokCells_len]; omega) | fail) om_ ao_ om_ fun b c y' hb hc => ?_); refine .load1P mm_ _ rf_ ?_; refine .fl ?_; refine .eqlT om_ ?_; refine .loadNP mm_ nl_ ?_; (refine .slitL rg_ ao_ fun b hb => ?_); (refine .callF (g := 25) (d := d25) (c := c25) (by kernel_rfl) rf_ rf_ rf_ ?_; unfold c25; simp only [List.nil_append, List.cons_append]); (iterate 3 refine .hd ?_); refine .en ?_; refine .join ?_; refine .condT ?_; refine .load1P mm_ _ rf_ ?_; (refine .appendN rs_ (by decide) ao_ (by decide) fun b c y' hb hc => ?_); (refine .front6 ?_; refine .store1 om_ sn_ bx_ ?_); refine .load1P mm_ _ rf_ ?_; refine .fl ?_; refine .fl ?_; refine .buildL rg_ ?_; refine .fl ?_; refine .buildL rg_ ?_; refine .loadNP mm_ nl_ ?_; (refine .slitL rg_ ao_ fun b hb => ?_); (refine .callF (g := 25) (d := d25) (c := c25) (by kernel_rfl) rf_ rf_ rf_ ?_; unfold c25; simp only [List.nil_append, List.cons_append]); (iterate 3 refine .hd ?_); refine .en ?_; refine .join ?_; refine .condT ?_; refine .load1P mm_ _ rf_ ?_; (refine .front2 ?_; refine .appendG rs_ om_ (by first | assumption | exact .inr rfl | fail) (by first | (simp; done) | (rw [tokCells_len, List.length_cons]; omega) | (simp [tokCells_len]; omega) | fail) om_ ao_ om_ fun b c y' hb hc => ?_); (refine .front2 ?_; refine .store1 om_ sn_ bx_ ?_); refine .load1P mm_ _ rf_ ?_; refine .fl ?_; refine .eqlF om_ ?_; refine .loadNP mm_ nl_ ?_; (refine .slitL rg_ ao_ fun b hb => ?_); (refine .callF (g := 25) (d := d25) (c := c25) (by kernel_rfl) rf_ rf_ rf_ ?_; unfold c25; simp only [List.nil_append, List.cons_append]); (iterate 3 refine .hd ?_); refine .en ?_; refine .join ?_; refine .condF ?_; refine .load1P mm_ _ rf_ ?_)
  (((refine .front2 ?_); refine q _ _ _ [_, _, _, _, _, _, _, _, _, _, _, _, _] _ om_ (by first | assumption | exact .inl rfl | exact .inr rfl | fail) (by intro p hp; simp only [List.mem_cons, List.not_mem_nil, or_false] at hp; rcases hp with rfl | rfl | rfl | rfl | rfl | rfl | rfl | rfl | rfl | rfl | rfl | rfl | rfl <;> (first | omega | assumption | (dsimp only; omega) | fail)) ?_))
  simp only [List.cons_append, List.nil_append]
  exact ⟨_, _, rfl, tk_, ⟨_, _, rfl, tk_, ⟨_, _, rfl, tk_, ⟨_, _, rfl, tk_, rfl⟩⟩⟩⟩
theorem one4na_c {K : V → H → Option R} {m : Nat} {vs : List V} {m1 m2 r l n : Int} {e : List (Int × Int)} {ve : V} {M : Kn} (hvs : vs = [.agg [.int .i64 4, .int .i64 m1, .int .i64 m2, .int .i64 r, .int .i64 l, ve, .int .i64 n]]) (hv : Tk M ve e) (hM : ∀ q ∈ M, q ∈ L) (hl : e.length ≤ 12) (hm : m1 = 1) (hm2 : m2 ≠ 2) (q : ∀ b c y' N cells, B ≤ b → (c = none ∨ c = some 4) → (∀ p ∈ N, B ≤ p.1) → PC (N ++ M) [⟨3, r, l, [], 0⟩, ⟨4, 0, l, (2, r) :: (e ++ [(3, 1)]), 0⟩, ⟨9, 0, 0, [(2, r)], 0⟩, ⟨7, 0, 0, [], 0⟩] cells → W Q B A S ((b, .cells cells true y') :: (N ++ L)) (K (.slice b 0 4 5 c))) : W Q B A S (L) fun h => J.call (F (m + 7)) (.fn (.func 14) [] []) vs R h K := by
  subst hvs
  refine W.callE (d := d14) (c := c14) (by kernel_rfl) rfl (by rfl) ?_
  unfold c14
  have hvL := hv.sub hM
  have hone := hv.one
  have hce := one_cells hone
  have hbx : allOne (V.agg [.int .i64 4, .int .i64 m1, .int .i64 m2, .int .i64 r, .int .i64 l, ve, .int .i64 n]).cells = true := ins_one hv.one ⟨4, m1, m2, r, l, e, n⟩
  (refine .hd ?_; refine .en ?_; refine .box bx_ fun b hb => ?_; (iterate 2 refine .buildL rg_ ?_); refine .newT fun b hb => ?_; refine .newT fun b hb => ?_; (iterate 2 (refine .front1 ?_; refine .storeN om_ rf_ sd_ bx_ ?_)); refine .fl ?_)
  with_reducible refine reg0_c rf_ fun b0 c0 y0 hb0 hc0 => ?_
  (refine .bn fun b hb => ?_; refine .newT fun b hb => ?_; refine .newT fun b hb => ?_; (refine .store1 om_ sn_ bx_ ?_); refine .mkmap fun b hb => ?_; (iterate 6 refine .insert om_ rf_ rf_ ?_); refine .fl ?_; (refine .look mm_ rf_ rf_ ?_; dsimp only); (iterate 2 refine .ext _ rf_ ?_); refine .join ?_; refine .condT ?_; (refine .callF (g := 29) (d := d29) (c := c29) (by kernel_rfl) rf_ rf_ rf_ ?_; unfold c29; simp only [List.nil_append, List.cons_append]); (iterate 5 refine .hd ?_); refine .en ?_; refine .fl ?_; refine .fl ?_)
  with_reducible refine reg1_c rf_ (by repeat (first | assumption | apply Rd.cons)) hl fun b1 c1 y1 hb1 hc1 => ?_
  (refine .buildL rg_ ?_; (refine .slitL rg_ ao_ fun b hb => ?_); (refine .front1 ?_; refine .appendG rs_ om_ (by first | assumption | exact .inr rfl | fail) (by first | (simp; done) | (rw [tokCells_len, List.length_cons]; omega) | (simp [tokCells_len]; omega) | fail) om_ ao_ om_ fun b c y' hb hc => ?_); refine .load1P mm_ _ rf_ ?_; refine .fl ?_; refine .eqlF om_ ?_; refine .loadNP mm_ nl_ ?_; (refine .slitL rg_ ao_ fun b hb => ?_); (refine .callF (g := 25) (d := d25) (c := c25) (by kernel_rfl) rf_ rf_ rf_ ?_; unfold c25; simp only [List.nil_append, List.cons_append]); (iterate 3 refine .hd ?_); refine .en ?_; refine .join ?_; refine .condF ?_; refine .load1P mm_ _ rf_ ?_; refine .fl ?_; refine .fl ?_; refine .buildL rg_ ?_; refine .fl ?_; refine .buildL rg_ ?_; refine .loadNP mm_ nl_ ?_; (refine .slitL rg_ ao_ fun b hb => ?_); (refine .callF (g := 25) (d := d25) (c := c25) (by kernel_rfl) rf_ rf_ rf_ ?_; unfold c25; simp only [List.nil_append, List.cons_append]); (iterate 3 refine .hd ?_); refine .en ?_; refine .join ?_; refine .condT ?_; refine .load1P mm_ _ rf_ ?_; (refine .appendN rs_ (by decide) ao_ (by decide) fun b c y' hb hc => ?_); (refine .front7 ?_; refine .store1 om_ sn_ bx_ ?_); refine .load1P mm_ _ rf_ ?_; refine .fl ?_; refine .eqlT om_ ?_; refine .loadNP mm_ nl_ ?_; (refine .slitL rg_ ao_ fun b hb => ?_); (refine .callF (g := 25) (d := d25) (c := c25) (by kernel_rfl) rf_ rf_ rf_ ?_; unfold c25; simp only [List.nil_append, List.cons_append]); (iterate 3 refine .hd ?_); refine .en ?_; refine .join ?_; refine .condT ?_; refine .load1P mm_ _ rf_ ?_; (refine .front2 ?_; refine .appendG rs_ om_ (by first | assumption | exact .inr rfl | fail) (by first | (simp; done) | (rw [tokCells_len, List.length_cons]; omega) | (simp [tokCells_len]; omega) | fail) om_ ao_ om_ fun b c y' hb hc => ?_); (refine .front2 ?_; refine .store1 om_ sn_ bx_ ?_); refine .load1P mm_ _ rf_ ?_)
  (((refine .front1 ?_); refine q _ _ _ [_, _, _, _, _, _, _, _, _, _, _, _, _] _ om_ (by first | assumption | exact .inl rfl | exact .inr rfl | fail) (by intro p hp; simp only [List.mem_cons, List.not_mem_nil, or_false] at hp; rcases hp with rfl | rfl | rfl | rfl | rfl | rfl | rfl | rfl | rfl | rfl | rfl | rfl | rfl <;> (first | omega | assumption | (dsimp only; omega) | fail)) ?_))
  simp only [List.cons_append, List.nil_append]
  exact ⟨_, _, rfl, tk_, ⟨_, _, rfl, tk_, ⟨_, _, rfl, tk_, ⟨_, _, rfl, tk_, rfl⟩⟩⟩⟩
theorem one4nn_c {K : V → H → Option R} {m : Nat} {vs : List V} {m1 m2 r l n : Int} {e : List (Int × Int)} {ve : V} {M : Kn} (hvs : vs = [.agg [.int .i64 4, .int .i64 m1, .int .i64 m2, .int .i64 r, .int .i64 l, ve, .int .i64 n]]) (hv : Tk M ve e) (hM : ∀ q ∈ M, q ∈ L) (hl : e.length ≤ 12) (hm : m1 ≠ 1) (hm2 : m2 ≠ 2) (q : ∀ b c y' N cells, B ≤ b → (c = none ∨ c = some 3) → (∀ p ∈ N, B ≤ p.1) → PC (N ++ M) [⟨3, r, l, [], 0⟩, ⟨4, 0, l, (2, r) :: (e ++ [(3, 1)]), 0⟩, ⟨9, 0, 0, [(2, r)], 0⟩] cells → W Q B A S ((b, .cells cells true y') :: (N ++ L)) (K (.slice b 0 3 5 c))) : W Q B A S (L) fun h => J.call (F (m + 7)) (.fn (.func 14) [] []) vs R h K := by
  subst hvs
  refine W.callE (d := d14) (c := c14) (by kernel_rfl) rfl (by rfl) ?_
  unfold c14
  have hvL := hv.sub hM
  have hone := hv.one
  have hce := one_cells hone
  have hbx : allOne (V.agg [.int .i64 4, .int .i64 m1, .int .i64 m2, .int .i64 r, .int .i64 l, ve, .int .i64 n]).cells = true := ins_one hv.one ⟨4, m1, m2, r, l, e, n⟩
  (refine .hd ?_; refine .en ?_; refine .box bx_ fun b hb => ?_; (iterate 2 refine .buildL rg_ ?_); refine .newT fun b hb => ?_; refine .newT fun b hb => ?_; (iterate 2 (refine .front1 ?_; refine .storeN om_ rf_ sd_ bx_ ?_)); refine .fl ?_)
  with_reducible refine reg0_c rf_ fun b0 c0 y0 hb0 hc0 => ?_
  (refine .bn fun b hb => ?_; refine .newT fun b hb => ?_; refine .newT fun b hb => ?_; (refine .store1 om_ sn_ bx_ ?_); refine .mkmap fun b hb => ?_; (iterate 6 refine .insert om_ rf_ rf_ ?_); refine .fl ?_; (refine .look mm_ rf_ rf_ ?_; dsimp only); (iterate 2 refine .ext _ rf_ ?_); refine .join ?_; refine .condT ?_; (refine .callF (g := 29) (d := d29) (c := c29) (by kernel_rfl) rf_ rf_ rf_ ?_; unfold c29; simp only [List.nil_append, List.cons_append]); (iterate 5 refine .hd ?_); refine .en ?_; refine .fl ?_; refine .fl ?_)
  with_reducible refine reg1_c rf_ (by repeat (first | assumption | apply Rd.cons)) hl fun b1 c1 y1 hb1 hc1 => ?_
  (refine .buildL rg_ ?_; (refine .slitL rg_ ao_ fun b hb => ?_); (refine .front1 ?_; refine .appendG rs_ om_ (by first | assumption | exact .inr rfl | fail) (by first | (simp; done) | (rw [tokCells_len, List.length_cons]; omega) | (simp [tokCells_len]; omega) | fail) om_ ao_ om_ fun b c y' hb hc => ?_); refine .load1P mm_ _ rf_ ?_; refine .fl ?_; refine .eqlF om_ ?_; refine .loadNP mm_ nl_ ?_; (refine .slitL rg_ ao_ fun b hb => ?_); (refine .callF (g := 25) (d := d25) (c := c25) (by kernel_rfl) rf_ rf_ rf_ ?_; unfold c25; simp only [List.nil_append, List.cons_append]); (iterate 3 refine .hd ?_); refine .en ?_; refine .join ?_; refine .condF ?_; refine .load1P mm_ _ rf_ ?_; refine .fl ?_; refine .fl ?_; refine .buildL rg_ ?_; refine .fl ?_; refine .buildL rg_ ?_; refine .loadNP mm_ nl_ ?_; (refine .slitL rg_ ao_ fun b hb => ?_); (refine .callF (g := 25) (d := d25) (c := c25) (by kernel_rfl) rf_ rf_ rf_ ?_; unfold c25; simp only [List.nil_append, List.cons_append]); (iterate 3 refine .hd ?_); refine .en ?_; refine .join ?_; refine .condT ?_; refine .load1P mm_ _ rf_ ?_; (refine .appendN rs_ (by decide) ao_ (by decide) fun b c y' hb hc => ?_); (refine .front7 ?_; refine .store1 om_ sn_ bx_ ?_); refine .load1P mm_ _ rf_ ?_; refine .fl ?_; refine .eqlF om_ ?_; refine .loadNP mm_ nl_ ?_; (refine .slitL rg_ ao_ fun b hb => ?_); (refine .callF (g := 25) (d := d25) (c := c25) (by kernel_rfl) rf_ rf_ rf_ ?_; unfold c25; simp only [List.nil_append, List.cons_append]); (iterate 3 refine .hd ?_); refine .en ?_; refine .join ?_; refine .condF ?_; refine .load1P mm_ _ rf_ ?_)
  (((refine .front2 ?_); refine q _ _ _ [_, _, _, _, _, _, _, _, _, _, _, _, _] _ om_ (by first | assumption | exact .inl rfl | exact .inr rfl | fail) (by intro p hp; simp only [List.mem_cons, List.not_mem_nil, or_false] at hp; rcases hp with rfl | rfl | rfl | rfl | rfl | rfl | rfl | rfl | rfl | rfl | rfl | rfl | rfl <;> (first | omega | assumption | (dsimp only; omega) | fail)) ?_))
  simp only [List.cons_append, List.nil_append]
  exact ⟨_, _, rfl, tk_, ⟨_, _, rfl, tk_, ⟨_, _, rfl, tk_, rfl⟩⟩⟩
theorem one5_c {K : V → H → Option R} {m : Nat} {vs : List V} {m1 m2 r l n : Int} {e : List (Int × Int)} {ve : V} {M : Kn} (hvs : vs = [.agg [.int .i64 5, .int .i64 m1, .int .i64 m2, .int .i64 r, .int .i64 l, ve, .int .i64 n]]) (hv : Tk M ve e) (hM : ∀ q ∈ M, q ∈ L) (hl : e.length ≤ 12) (q : ∀ b c y' N cells, B ≤ b → (c = none ∨ c = some 1) → (∀ p ∈ N, B ≤ p.1) → PC (N ++ M) [⟨8, r, 0, e, 0⟩] cells → W Q B A S ((b, .cells cells true y') :: (N ++ L)) (K (.slice b 0 1 5 c))) : W Q B A S (L) fun h => J.call (F (m + 7)) (.fn (.func 14) [] []) vs R h K := by
  subst hvs
  refine W.callE (d := d14) (c := c14) (by kernel_rfl) rfl (by rfl) ?_
  unfold c14
  have hvL := hv.sub hM
  have hone := hv.one
  have hce := one_cells hone
  have hbx : allOne (V.agg [.int .i64 5, .int .i64 m1, .int .i64 m2, .int .i64 r, .int .i64 l, ve, .int .i64 n]).cells = true := ins_one hv.one ⟨5, m1, m2, r, l, e, n⟩
  (refine .hd ?_; refine .en ?_; refine .box bx_ fun b hb => ?_; (iterate 2 refine .buildL rg_ ?_); refine .newT fun b hb => ?_; refine .newT fun b hb => ?_; (iterate 2 (refine .front1 ?_; refine .storeN om_ rf_ sd_ bx_ ?_)); refine .fl ?_)
  with_reducible refine reg0_c rf_ fun b0 c0 y0 hb0 hc0 => ?_
  (refine .bn fun b hb => ?_; refine .newT fun b hb => ?_; refine .newT fun b hb => ?_; (refine .store1 om_ sn_ bx_ ?_); refine .mkmap fun b hb => ?_; (iterate 6 refine .insert om_ rf_ rf_ ?_); refine .fl ?_; (refine .look mm_ rf_ rf_ ?_; dsimp only); (iterate 2 refine .ext _ rf_ ?_); refine .join ?_; refine .condT ?_; (refine .callF (g := 30) (d := d30) (c := c30) (by kernel_rfl) rf_ rf_ rf_ ?_; unfold c30; simp only [List.nil_append, List.cons_append]); refine .hd ?_; refine .hd ?_; refine .en ?_; refine .load1P mm_ _ rf_ ?_; refine .fl ?_; refine .fl ?_; (refine .buildL ft_ ?_); (refine .slitL rg_ ao_ fun b hb => ?_); (refine .callF (g := 25) (d := d25) (c := c25) (by kernel_rfl) rf_ rf_ rf_ ?_; unfold c25; simp only [List.nil_append, List.cons_append]); (iterate 3 refine .hd ?_); refine .en ?_; refine .join ?_; refine .condT ?_; refine .load1P mm_ _ rf_ ?_; (refine .appendN rs_ (by decide) ao_ (by decide) fun b c y' hb hc => ?_); (refine .front4 ?_; refine .store1 om_ sn_ bx_ ?_); refine .load1P mm_ _ rf_ ?_)
  (((refine .front1 ?_); refine q _ _ _ [_, _, _, _, _, _, _, _, _] _ om_ (by first | assumption | exact .inl rfl | exact .inr rfl | fail) (by intro p hp; simp only [List.mem_cons, List.not_mem_nil, or_false] at hp; rcases hp with rfl | rfl | rfl | rfl | rfl | rfl | rfl | rfl | rfl <;> (first | omega | assumption | (dsimp only; omega) | fail)) ?_))
  simp only [List.cons_append, List.nil_append]
  exact ⟨_, _, rfl, tk_, rfl⟩
theorem one6_c {K : V → H → Option R} {m : Nat} {vs : List V} {m1 m2 r l n : Int} {e : List (Int × Int)} {ve : V} {M : Kn} (hvs : vs = [.agg [.int .i64 6, .int .i64 m1, .int .i64 m2, .int .i64 r, .int .i64 l, ve, .int .i64 n]]) (hv : Tk M ve e) (hM : ∀ q ∈ M, q ∈ L) (hl : e.length ≤ 12) (q : ∀ b c y' N cells, B ≤ b → (c = none ∨ c = some 1) → (∀ p ∈ N, B ≤ p.1) → PC (N ++ M) [⟨9, 0, 0, e, 0⟩] cells → W Q B A S ((b, .cells cells true y') :: (N ++ L)) (K (.slice b 0 1 5 c))) : W Q B A S (L) fun h => J.call (F (m + 7)) (.fn (.func 14) [] []) vs R h K := by
  subst hvs
  refine W.callE (d := d14) (c := c14) (by kernel_rfl) rfl (by rfl) ?_
  unfold c14
  have hvL := hv.sub hM
  have hone := hv.one
  have hce := one_cells hone
  have hbx : allOne (V.agg [.int .i64 6, .int .i64 m1, .int .i64 m2, .int .i64 r, .int .i64 l, ve, .int .i64 n]).cells = true := ins_one hv.one ⟨6, m1, m2, r, l, e, n⟩
  (refine .hd ?_; refine .en ?_; refine .box bx_ fun b hb => ?_; (iterate 2 refine .buildL rg_ ?_); refine .newT fun b hb => ?_; refine .newT fun b hb => ?_; (iterate 2 (refine .front1 ?_; refine .storeN om_ rf_ sd_ bx_ ?_)); refine .fl ?_)
  with_reducible refine reg0_c rf_ fun b0 c0 y0 hb0 hc0 => ?_
  (refine .bn fun b hb => ?_; refine .newT fun b hb => ?_; refine .newT fun b hb => ?_; (refine .store1 om_ sn_ bx_ ?_); refine .mkmap fun b hb => ?_; (iterate 6 refine .insert om_ rf_ rf_ ?_); refine .fl ?_; (refine .look mm_ rf_ rf_ ?_; dsimp only); (iterate 2 refine .ext _ rf_ ?_); refine .join ?_; refine .condT ?_; (refine .callF (g := 31) (d := d31) (c := c31) (by kernel_rfl) rf_ rf_ rf_ ?_; unfold c31; simp only [List.nil_append, List.cons_append]); refine .hd ?_; refine .hd ?_; refine .en ?_; refine .load1P mm_ _ rf_ ?_; refine .fl ?_; (refine .buildL ft_ ?_); (refine .slitL rg_ ao_ fun b hb => ?_); (refine .callF (g := 25) (d := d25) (c := c25) (by kernel_rfl) rf_ rf_ rf_ ?_; unfold c25; simp only [List.nil_append, List.cons_append]); (iterate 3 refine .hd ?_); refine .en ?_; refine .join ?_; refine .condT ?_; refine .load1P mm_ _ rf_ ?_; (refine .appendN rs_ (by decide) ao_ (by decide) fun b c y' hb hc => ?_); (refine .front4 ?_; refine .store1 om_ sn_ bx_ ?_); refine .load1P mm_ _ rf_ ?_)
  (((refine .front1 ?_); refine q _ _ _ [_, _, _, _, _, _, _, _, _] _ om_ (by first | assumption | exact .inl rfl | exact .inr rfl | fail) (by intro p hp; simp only [List.mem_cons, List.not_mem_nil, or_false] at hp; rcases hp with rfl | rfl | rfl | rfl | rfl | rfl | rfl | rfl | rfl <;> (first | omega | assumption | (dsimp only; omega) | fail)) ?_))
  simp only [List.cons_append, List.nil_append]
  exact ⟨_, _, rfl, tk_, rfl⟩
theorem one_c {K : V → H → Option R} {m : Nat} {vs : List V} {x : Ins} {ve : V} {M : Kn} (hvs : vs = [.agg (insC x ve)]) (hv : Tk M ve x.e) (hM : ∀ q ∈ M, q ∈ L) (hl : x.e.length ≤ 12) (hk : 1 ≤ x.k ∧ x.k ≤ 6)
    (q : ∀ b c y' N cells, B ≤ b → (c = none ∨ c = some (lowOne x).length) → (∀ p ∈ N, B ≤ p.1) → PC (N ++ M) (lowOne x) cells → W Q B A S ((b, .cells cells true y') :: (N ++ L)) (K (.slice b 0 (lowOne x).length 5 c))) : W Q B A S L fun h => J.call (F (m + 7)) (.fn (.func 14) [] []) vs R h K := by
  obtain ⟨k, m1, m2, r, l, e, n⟩ := x
  dsimp only at hv hl hk
  have hvs' : vs = [.agg [.int .i64 k, .int .i64 m1, .int .i64 m2, .int .i64 r, .int .i64 l, ve, .int .i64 n]] := hvs
  have h6 : k = 1 ∨ k = 2 ∨ k = 3 ∨ k = 4 ∨ k = 5 ∨ k = 6 := by omega
  rcases h6 with rfl | rfl | rfl | rfl | rfl | rfl
  · by_cases c1 : m1 = 1
    · have e1 : lowOne ⟨1, m1, m2, r, l, e, n⟩ = [⟨1, r, l, [], 0⟩, ⟨9, 0, 0, [(2, r)], 0⟩, ⟨7, 0, 0, [], 0⟩] := by simp [lowOne, c1]
      rw [e1] at q; exact one1a_c hvs' hv hM hl c1 q
    · have e1 : lowOne ⟨1, m1, m2, r, l, e, n⟩ = [⟨1, r, l, [], 0⟩] := by simp [lowOne, c1]
      rw [e1] at q; exact one1n_c hvs' hv hM hl c1 q
  · by_cases c1 : m1 = 2
    · have e1 : lowOne ⟨2, m1, m2, r, l, e, n⟩ = [⟨5, 0, 0, [], 0⟩, ⟨2, 0, l, e, 0⟩] := by simp [lowOne, c1]
      rw [e1] at q; exact one2r_c hvs' hv hM hl c1 q
    · have e1 : lowOne ⟨2, m1, m2, r, l, e, n⟩ = [⟨2, 0, l, e, 0⟩] := by simp [lowOne, c1]
      rw [e1] at q; exact one2n_c hvs' hv hM hl c1 q
  · by_cases c1 : m1 = 4
    · have e1 : lowOne ⟨3, m1, m2, r, l, e, n⟩ = [⟨6, 0, 0, [], 0⟩] := by simp [lowOne, c1]
      rw [e1] at q; exact one3s_c hvs' hv hM hl c1 q
    · have e1 : lowOne ⟨3, m1, m2, r, l, e, n⟩ = [⟨5, 0, 0, [], 0⟩] := by simp [lowOne, c1]
      rw [e1] at q; exact one3n_c hvs' hv hM hl c1 q
  · by_cases c1 : m1 = 1 <;> by_cases c2 : m2 = 2
    · have e1 : lowOne ⟨4, m1, m2, r, l, e, n⟩ = [⟨5, 0, 0, [], 0⟩, ⟨3, r, l, [], 0⟩, ⟨4, 0, l, (2, r) :: (e ++ [(3, 1)]), 0⟩, ⟨9, 0, 0, [(2, r)], 0⟩, ⟨7, 0, 0, [], 0⟩] := by simp [lowOne, c1, c2]
      rw [e1] at q; exact one4ra_c hvs' hv hM hl c1 c2 q
    · have e1 : lowOne ⟨4, m1, m2, r, l, e, n⟩ = [⟨3, r, l, [], 0⟩, ⟨4, 0, l, (2, r) :: (e ++ [(3, 1)]), 0⟩, ⟨9, 0, 0, [(2, r)], 0⟩, ⟨7, 0, 0, [], 0⟩] := by simp [lowOne, c1, c2]
      rw [e1] at q; exact one4na_c hvs' hv hM hl c1 c2 q
    · have e1 : lowOne ⟨4, m1, m2, r, l, e, n⟩ = [⟨5, 0, 0, [], 0⟩, ⟨3, r, l, [], 0⟩, ⟨4, 0, l, (2, r) :: (e ++ [(3, 1)]), 0⟩, ⟨9, 0, 0, [(2, r)], 0⟩] := by simp [lowOne, c1, c2]
      rw [e1] at q; exact one4rn_c hvs' hv hM hl c1 c2 q
    · have e1 : lowOne ⟨4, m1, m2, r, l, e, n⟩ = [⟨3, r, l, [], 0⟩, ⟨4, 0, l, (2, r) :: (e ++ [(3, 1)]), 0⟩, ⟨9, 0, 0, [(2, r)], 0⟩] := by simp [lowOne, c1, c2]
      rw [e1] at q; exact one4nn_c hvs' hv hM hl c1 c2 q
  · exact one5_c hvs' hv hM hl q
  · exact one6_c hvs' hv hM hl q
end
end Go.Proofs.Ythkipncmnefomaa.XCodeL
