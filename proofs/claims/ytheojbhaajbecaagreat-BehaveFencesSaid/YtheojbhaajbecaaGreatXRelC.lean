/- What the functions of relations come to; rows. -/
import Derived.Test.YtheojbhaajbecaaGreatXToldB
import Derived.Test.YtheojbhaajbecaaGreatXWp
set_option maxRecDepth 100000
set_option linter.unusedVariables false
set_option linter.unusedSectionVars false
set_option linter.unusedSimpArgs false
namespace Go.Proofs.YtheojbhaajbecaaGreat.XCodeB
open Go Go.X Go.RowKit

noncomputable section
variable [Nu]
/-- A relation, in old memory: how many places; of each those that it is with. -/
def relV (n : Nat) (rs : List Nat) : V := .view (.int .i64 n :: rs.map fun x : Nat => V.int .u64 (x : Int))
def hasR (n : Nat) (rs : List Nat) (a b : Int) : Bool := decide (0 ≤ a) && decide (a < n) && decide (0 ≤ b) && decide (b < n) && ((rs[a.toNat]?).getD 0).testBit b.toNat
theorem bin_of {R : Type} {F : CallF} {op : BinOp} {v u r : V} (e : binV op v u = some r) (h : H) (K : V → H → Option R) : J.bin F op v u R h K = K r h := by
  unfold J.bin binF; rw [e]
theorem shrU {R : Type} (F : CallF) (h : H) (K : V → H → Option R) (x b : Nat) (hb : b ≤ 64) : J.bin F .shr (.int .u64 (x : Int)) (.int .i64 (b : Int)) R h K = K (.int .u64 ((x / 2 ^ b : Nat) : Int)) h := by
  refine bin_of ?_ h K
  show (Bool.rec none (some (V.int .u64 (Int.ofNat (Nat.div x (Nat.pow 2 b))))) (Nat.ble b 64) : Option V) = _
  rw [ble_if, if_pos hb]; rfl
theorem andU {R : Type} (F : CallF) (h : H) (K : V → H → Option R) (x y : Nat) (hx : x < 18446744073709551616) (hy : y < 18446744073709551616) : J.bin F .and (.int .u64 (x : Int)) (.int .u64 (y : Int)) R h K = K (.int .u64 ((x &&& y : Nat) : Int)) h := by
  refine bin_of ?_ h K
  show (Bool.rec none (Bool.rec none (some (V.int .u64 (Int.ofNat (Nat.land x y)))) (Nat.ble y 18446744073709551615)) (Nat.ble x 18446744073709551615) : Option V) = _
  rw [ble_if, ble_if, if_pos (by omega), if_pos (by omega)]; rfl
theorem has_eq {R : Type} (F : CallF) (h : H) (K : V → H → Option R) (n : Nat) (rs : List Nat) (a b : Int) (hn : n ≤ 40) (hl : rs.length = 40) (hx : ∀ x ∈ rs, x < 18446744073709551616) :
    c96 F [relV n rs, .int .i64 a, .int .i64 b] R h K = K (.bool (hasR n rs a b)) h := by
  unfold c96 relV
  by_cases h1 : 0 ≤ a
  · by_cases h2 : a < n
    · by_cases h3 : 0 ≤ b
      · by_cases h4 : b < n
        · obtain ⟨a, rfl⟩ := Int.eq_ofNat_of_zero_le h1
          obtain ⟨b, rfl⟩ := Int.eq_ofNat_of_zero_le h3
          have h2' : a < n := by omega
          have h4' : b < n := by omega
          obtain ⟨x, hxa⟩ : ∃ x, rs[a]? = some x := ⟨rs[a]'(by omega), List.getElem?_eq_getElem (by omega)⟩
          have hx' := hx x (List.mem_of_getElem? hxa)
          have hd : ((rs.map fun x : Nat => V.int .u64 (x : Int)).drop a)[0]? = some (.int .u64 (x : Int)) := by simp [hxa]
          have hq : x / 2 ^ b < 18446744073709551616 := Nat.lt_of_le_of_lt (Nat.div_le_self _ _) hx'
          have hres : hasR n rs (a : Int) (b : Int) = x.testBit b := by
            unfold hasR
            simp [h2, h4, hxa]
          rw [hres]
          have hbit : decide ((x / 2 ^ b &&& 1 : Nat) ≠ 0) = x.testBit b := by
            rw [Nat.testBit_eq_decide_div_mod_eq, Nat.and_one_is_mod]
            congr 1
            simp only [ne_eq, eq_iff_iff]
            omega
          simp only [Ev.hd, Ev.en, Ev.geq, Ev.whenT, Ev.pure, h1, decide_true, cond_true, Ev.nilckV, Ev.fldV, List.drop_zero, Ev.load1V, List.getElem?_cons_zero, Option.bind_some, Ev.lss, h2, Ev.pick, h3, h4, List.drop_one, List.tail_cons]
          rw [Ev.idxAV (hes := by decide), if_pos (by omega), if_pos (by rw [List.length_map]; omega), Nat.mul_one, Ev.load1V, hd]
          simp only [Option.bind_some]
          rw [shrU F h _ x b (by omega)]
          have h1' : (V.int .u64 1) = .int .u64 ((1 : Nat) : Int) := rfl
          have h0' : (V.int .u64 0) = .int .u64 ((0 : Nat) : Int) := rfl
          rw [h1', andU F h _ _ 1 hq (by decide), h0', Ev.neqU, hbit]
        · have hres : hasR n rs a b = false := by unfold hasR; simp [h4]
          rw [hres]
          simp only [Ev.hd, Ev.en, Ev.geq, Ev.whenT, Ev.pure, h1, decide_true, cond_true, Ev.nilckV, Ev.fldV, List.drop_zero, Ev.load1V, List.getElem?_cons_zero, Option.bind_some, Ev.lss, h2, Ev.pick, h3, h4, decide_false, cond_false]
      · have hres : hasR n rs a b = false := by unfold hasR; simp [h3]
        rw [hres]
        simp only [Ev.hd, Ev.en, Ev.geq, Ev.whenT, Ev.pure, h1, decide_true, cond_true, Ev.nilckV, Ev.fldV, List.drop_zero, Ev.load1V, List.getElem?_cons_zero, Option.bind_some, Ev.lss, h2, Ev.pick, h3, decide_false, cond_false]
    · have hres : hasR n rs a b = false := by unfold hasR; simp [h2]
      rw [hres]
      simp only [Ev.hd, Ev.en, Ev.geq, Ev.whenT, Ev.pure, h1, decide_true, cond_true, Ev.nilckV, Ev.fldV, List.drop_zero, Ev.load1V, List.getElem?_cons_zero, Option.bind_some, Ev.lss, h2, Ev.pick, decide_false, cond_false]
  · have hres : hasR n rs a b = false := by unfold hasR; simp [h1]
    rw [hres]
    simp only [Ev.hd, Ev.en, Ev.geq, Ev.whenT, Ev.pure, h1, decide_false, cond_false, Ev.pick]
end

noncomputable section
variable [Nu]
/-- The cells of a relation. -/
def relC (n : Nat) (rs : List Nat) : List V := .int .i64 n :: rs.map fun x : Nat => V.int .u64 (x : Int)
theorem relV_eq (n : Nat) (rs : List Nat) : relV n rs = .view (relC n rs) := rfl
/-- One block is thus; the others are as they were. -/
def Is (hp : Th Blk) (b : Nat) (c : List V) (hp' : Th Blk) : Prop := ∀ i, hp'.get i = if i = b then some (.cells c true 0) else hp.get i
theorem Is.put {hp hp' : Th Blk} {b : Nat} {c c' : List V} (h : Is hp b c hp') : Is hp b c' (hp'.put (.cells c' true 0) b) := fun i => by
  rw [Ev.getPut]
  by_cases e : i = b
  · rw [if_pos e, if_pos e]
  · rw [if_neg e, if_neg e, h i, if_neg e]
theorem Is.get {hp hp' : Th Blk} {b : Nat} {c : List V} (h : Is hp b c hp') : hp'.get b = some (.cells c true 0) := by rw [h b, if_pos rfl]

def thenRow (rs ss : List Nat) (b i : Nat) : Nat := (List.range b).foldl (fun acc j => if ((rs[i]?).getD 0).testBit j then acc ||| (ss[j]?).getD 0 else acc) 0
theorem thenRow_succ (rs ss : List Nat) (b i : Nat) : thenRow rs ss (b + 1) i = if ((rs[i]?).getD 0).testBit b then thenRow rs ss b i ||| (ss[b]?).getD 0 else thenRow rs ss b i := by
  unfold thenRow; rw [List.range_succ, List.foldl_append]; rfl
theorem thenRow_lt {rs ss : List Nat} (hs : ∀ x ∈ ss, x < 18446744073709551616) (i : Nat) : ∀ b, thenRow rs ss b i < 18446744073709551616
  | 0 => (by decide : (0 : Nat) < 18446744073709551616)
  | b + 1 => by
    rw [thenRow_succ]
    split
    · have h1 := thenRow_lt (rs := rs) hs i b
      have h2 : (ss[b]?).getD 0 < 18446744073709551616 := by
        cases e : ss[b]? with
        | none => decide
        | some x => exact hs x (List.mem_of_getElem? e)
      exact Nat.or_lt_two_pow (n := 64) h1 h2
    · exact thenRow_lt (rs := rs) hs i b
def rowsAt (n : Nat) (rs ss : List Nat) (a b : Nat) : List Nat := (List.range 40).map fun i => if i < a then thenRow rs ss n i else if i = a then thenRow rs ss b i else 0
theorem rowsAt_len (n : Nat) (rs ss : List Nat) (a b : Nat) : (rowsAt n rs ss a b).length = 40 := by simp [rowsAt]
theorem rowsAt_zero (n : Nat) (rs ss : List Nat) : rowsAt n rs ss 0 0 = List.replicate 40 0 := by
  unfold rowsAt
  rw [List.eq_replicate_iff]
  refine ⟨by simp, fun x hx => ?_⟩
  obtain ⟨i, _, rfl⟩ := List.mem_map.1 hx
  simp only [Nat.not_lt_zero, if_false]
  split <;> rfl
theorem rowsAt_next (n : Nat) (rs ss : List Nat) (a : Nat) : rowsAt n rs ss a n = rowsAt n rs ss (a + 1) 0 := by
  unfold rowsAt
  refine List.map_congr_left fun i _ => ?_
  by_cases h1 : i < a
  · rw [if_pos h1, if_pos (by omega)]
  · by_cases h2 : i = a
    · rw [if_neg h1, if_pos h2, if_pos (by omega)]
    · rw [if_neg h1, if_neg h2, if_neg (by omega)]
      by_cases h3 : i = a + 1
      · rw [if_pos h3]; rfl
      · rw [if_neg h3]
theorem rowsAt_get (n : Nat) (rs ss : List Nat) (a b : Nat) (ha : a < 40) : (rowsAt n rs ss a b)[a]? = some (thenRow rs ss b a) := by
  unfold rowsAt
  rw [List.getElem?_map, List.getElem?_range ha]
  simp
theorem rowsAt_set (n : Nat) (rs ss : List Nat) (a b : Nat) (ha : a < 40) : (rowsAt n rs ss a b).set a (thenRow rs ss (b + 1) a) = rowsAt n rs ss a (b + 1) := by
  apply List.ext_getElem?
  intro i
  rw [List.getElem?_set]
  unfold rowsAt
  by_cases h : a = i
  · subst h; rw [if_pos rfl]; simp [ha]
  · rw [if_neg h, List.getElem?_map, List.getElem?_map]
    by_cases hi : i < 40
    · rw [List.getElem?_range hi]; simp only [Option.map_some]
      rw [if_neg (show ¬ i = a from fun e => h e.symm), if_neg (show ¬ i = a from fun e => h e.symm)]
    · rw [List.getElem?_eq_none (by simp; omega)]; rfl
theorem rowsAt_same (n : Nat) (rs ss : List Nat) (a b : Nat) (hb : ((rs[a]?).getD 0).testBit b = false) : rowsAt n rs ss a b = rowsAt n rs ss a (b + 1) := by
  unfold rowsAt
  refine List.map_congr_left fun i _ => ?_
  by_cases h2 : i = a
  · subst h2
    rw [if_neg (Nat.lt_irrefl _), if_neg (Nat.lt_irrefl _), if_pos rfl, if_pos rfl, thenRow_succ, hb]; rfl
  · rw [if_neg h2, if_neg h2]

theorem callHas {R : Type} {Θ : Orc} {T : Uh FnD} {m : Nat} (hT : T.get 96 = some d96) (ho : ∀ vs, Θ.call 96 vs = none) (h : H) (K : V → H → Option R) (n : Nat) (rs : List Nat) (a b : Int) (hn : n ≤ 40) (hl : rs.length = 40) (hx : ∀ x ∈ rs, x < 18446744073709551616) :
    J.call (callD Θ T (m + 1)) (.fn (.func 96) [] []) [relV n rs, .int .i64 a, .int .i64 b] R h K = K (.bool (hasR n rs a b)) h := by
  rw [Ev.callT hT (ho _)]
  exact has_eq _ h K n rs a b hn hl hx

theorem then_eq {R : Type} {Θ : Orc} {T : Uh FnD} {m : Nat} (hT : T.get 96 = some d96) (ho : ∀ vs, Θ.call 96 vs = none) (K : V → H → Option R) (n n' : Nat) (rs ss : List Nat) (hn : n ≤ 40) (hn' : n' ≤ 40) (hl : rs.length = 40) (hl' : ss.length = 40)
    (hx : ∀ x ∈ rs, x < 18446744073709551616) (hx' : ∀ x ∈ ss, x < 18446744073709551616) (hp : Th Blk) (nx : Nat) (log : List (Nat × Bool)) (hfree : hp.get nx = none) :
    ∃ hp', Is hp nx (relC (Nat.max n n') (rowsAt n rs ss n 0)) hp' ∧ c94 (callD Θ T (m + 1)) [relV n rs, relV n' ss] R ⟨hp, nx, false, log⟩ K = K (.ptr nx 0) ⟨hp', nx + 1, false, log⟩ := by
  generalize hQ : (fun r : Option R => ∃ hp', Is hp nx (relC (Nat.max n n') (rowsAt n rs ss n 0)) hp' ∧ r = K (.ptr nx 0) ⟨hp', nx + 1, false, log⟩) = Q
  suffices h : Q (c94 (callD Θ T (m + 1)) [relV n rs, relV n' ss] R ⟨hp, nx, false, log⟩ K) by rw [← hQ] at h; exact h
  unfold c94
  refine St.hd (St.hd (St.en (St.nextOf (St.nilckV (St.fldV (St.logged (St.load1V (.int .i64 n) rfl ?_)))))))
  refine St.nilckV (St.fldV (St.logged (St.load1V (.int .i64 n') rfl ?_)))
  refine St.max (St.build0 (St.logged (St.box rfl hfree (St.okP ?_ ?_))))
  · rfl
  refine St.nilckV (St.fldV (St.load1V (.int .i64 n) rfl ?_))
  have hcast : (if (n : Int) < (n' : Int) then (n' : Int) else (n : Int)) = ((Nat.max n n' : Nat) : Int) := by
    show _ = ((max n n' : Nat) : Int)
    split <;> omega
  have hstart : Is hp nx (relC (Nat.max n n') (rowsAt n rs ss 0 0)) (hp.put (.cells (relC (Nat.max n n') (rowsAt n rs ss 0 0)) true 0) nx) := fun i => Ev.getPut _ _ _ _
  refine Ev.loop5 (I := fun d x1 x2 x3 x4 x5 h => ∃ (a : Nat) (hp' : Th Blk), a + d = n ∧ x1 = relV n rs ∧ x2 = relV n' ss ∧ x3 = .ptr nx 0 ∧ x4 = .int .i64 n ∧ x5 = .int .i64 a ∧ h = ⟨hp', nx + 1, false, log⟩ ∧ Is hp nx (relC (Nat.max n n') (rowsAt n rs ss a 0)) hp') ?_ n (by omega)
    ⟨0, _, Nat.zero_add n, rfl, rfl, rfl, rfl, rfl, ?_, hstart⟩
  · rintro d k x1 x2 x3 x4 x5 h ⟨a, hp', e1, rfl, rfl, rfl, rfl, rfl, rfl, his⟩ hk
    refine St.lss (fun c => St.condT ?_) (fun c => St.condF ?_)
    · refine St.nilckV (St.fldV (St.load1V (.int .i64 n) rfl ?_))
      have ha : a < 40 := by omega
      refine Ev.loop8 (I := fun d' y1 y2 y3 y4 y5 y6 y7 y8 h => ∃ (b : Nat) (hp' : Th Blk), b + d' = n ∧ y1 = relV n rs ∧ y2 = relV n' ss ∧ y3 = .ptr nx 0 ∧ y4 = .int .i64 a ∧ y5 = .int .i64 n ∧ y6 = .int .i64 a ∧ y7 = .int .i64 n ∧ y8 = .int .i64 b ∧ h = ⟨hp', nx + 1, false, log⟩ ∧ Is hp nx (relC (Nat.max n n') (rowsAt n rs ss a b)) hp') ?_ n (by omega)
        ⟨0, hp', Nat.zero_add n, rfl, rfl, rfl, rfl, rfl, rfl, rfl, rfl, rfl, his⟩
      clear his hp'
      rintro d' k' y1 y2 y3 y4 y5 y6 y7 y8 h ⟨b, hp', e2, rfl, rfl, rfl, rfl, rfl, rfl, rfl, rfl, rfl, his⟩ hk'
      refine St.lss (fun c2 => St.condT ?_) (fun c2 => St.condF ?_)
      · rw [callHas hT ho _ _ n rs _ _ hn hl hx]
        have hb : b < n := by omega
        have hres : hasR n rs (a : Int) (b : Int) = ((rs[a]?).getD 0).testBit b := by unfold hasR; simp [c, c2]
        rw [hres]
        obtain ⟨y, hy⟩ : ∃ y, ss[b]? = some y := ⟨ss[b]'(by omega), List.getElem?_eq_getElem (by omega)⟩
        have hy64 := hx' y (List.mem_of_getElem? hy)
        have hnext : ∀ hp2, Is hp nx (relC (Nat.max n n') (rowsAt n rs ss a (b + 1))) hp2 → Q (k' (relV n rs) (relV n' ss) (.ptr nx 0) (.int .i64 a) (.int .i64 n) (.int .i64 a) (.int .i64 n) (.int .i64 ((b : Int) + 1)) ⟨hp2, nx + 1, false, log⟩) :=
          fun hp2 his2 => hk' (d' - 1) _ _ _ _ _ _ _ _ _ (by omega) ⟨b + 1, hp2, by omega, rfl, rfl, rfl, rfl, rfl, rfl, rfl, by simp, rfl, his2⟩
        refine St.join (St.condB (fun cb => ?_) (fun cb => ?_))
        · refine St.nextOf (St.nilckP (St.fldP (St.idxAP a rfl ha (St.logged (St.load1P (.int .u64 (thenRow rs ss b a : Nat)) his.get (Nat.lt_succ_self nx) ?_ ?_)))))
          · simp [relC, rowsAt_get n rs ss a b ha, Nat.add_comm]
          refine St.nilckV (St.fldV (St.idxAV b rfl (by decide) (by omega) ?_ (St.logged (St.load1V (.int .u64 (y : Nat)) ?_ ?_))))
          · simp [relC, hl']; omega
          · simp [relC, hy]
          refine St.orU (thenRow_lt hx' a b) hy64 (St.nilckP (St.fldP (St.idxAP a rfl ha (St.logged (St.store1 his.get (Nat.lt_succ_self nx) ?_ rfl (St.okP ?_ ?_))))))
          · simp [relC, rowsAt_len]; omega
          · rfl
          · refine St.add ((b : Int) + 1) rfl (by omega) (by omega) (hnext _ ?_)
            have hrow : thenRow rs ss b a ||| y = thenRow rs ss (b + 1) a := by rw [thenRow_succ, cb, if_pos rfl, hy]; rfl
            have hset : (relC (Nat.max n n') (rowsAt n rs ss a b)).set (0 + 1 + a * 1) (.int .u64 ((thenRow rs ss b a ||| y : Nat) : Int)) = relC (Nat.max n n') (rowsAt n rs ss a (b + 1)) := by
              rw [hrow, ← rowsAt_set n rs ss a b ha]
              unfold relC
              rw [show 0 + 1 + a * 1 = a + 1 by omega, List.set_cons_succ, List.map_set]
            rw [hset]
            exact his.put
        · refine St.add ((b : Int) + 1) rfl (by omega) (by omega) (hnext _ ?_)
          rw [← rowsAt_same n rs ss a b cb]; exact his
      · refine St.add (a + 1) rfl (by omega) (by omega) (hk (d - 1) _ _ _ _ _ _ (by omega) ⟨a + 1, hp', by omega, rfl, rfl, rfl, rfl, rfl, rfl, ?_⟩)
        have : b = n := by omega
        rw [← rowsAt_next]; rw [this] at his; exact his
    · have : a = n := by omega
      subst this
      rw [← hQ]
      exact ⟨hp', his, rfl⟩
  · have e : relC (Nat.max n n') (rowsAt n rs ss 0 0) = .int .i64 (if (n : Int) < (n' : Int) then (n' : Int) else (n : Int)) :: List.replicate 40 (.int .u64 0) := by
      rw [rowsAt_zero, hcast]; rfl
    rw [e]; rfl
end

noncomputable section
variable [Nu]
theorem build2 {R : Type} {Q : Option R → Prop} {h : H} {K : V → H → Option R} {z0 z1 : V} {k k' : IntKind} {a b : Int} (q : Q (K (.agg [.int k a, .int k' b]) h)) : Q (J.build [z0, z1] [(0, 1, .int k a), (1, 1, .int k' b)] R h K) := q
def bitAt (rs : List Nat) (a b : Nat) : Bool := ((rs[a]?).getD 0).testBit b
def rowPairs (rs : List Nat) (a b : Nat) : List V := (List.range b).flatMap fun j => if bitAt rs a j then [.int .i64 (a : Int), .int .i64 (j : Int)] else []
def allPairs (n : Nat) (rs : List Nat) (a b : Nat) : List V := ((List.range a).flatMap fun i => rowPairs rs i n) ++ rowPairs rs a b
theorem rowPairs_succ (rs : List Nat) (a b : Nat) : rowPairs rs a (b + 1) = rowPairs rs a b ++ (if bitAt rs a b then [.int .i64 (a : Int), .int .i64 (b : Int)] else []) := by
  unfold rowPairs; rw [List.range_succ, List.flatMap_append]; simp
theorem allPairs_next (n : Nat) (rs : List Nat) (a : Nat) : allPairs n rs a n = allPairs n rs (a + 1) 0 := by
  unfold allPairs
  rw [List.range_succ, List.flatMap_append]
  simp [rowPairs]
theorem allPairs_succ (n : Nat) (rs : List Nat) (a b : Nat) : allPairs n rs a (b + 1) = allPairs n rs a b ++ (if bitAt rs a b then [.int .i64 (a : Int), .int .i64 (b : Int)] else []) := by
  unfold allPairs; rw [rowPairs_succ, List.append_assoc]
theorem allPairs_one (n : Nat) (rs : List Nat) (a b : Nat) : allOne (allPairs n rs a b) = true := by
  have key : ∀ l : List V, (∀ v ∈ l, v.one = true) → allOne l = true := fun l => by
    induction l with
    | nil => intro _; rfl
    | cons x l ih => intro h; rw [allOne_cons, h x (by simp), ih fun v hv => h v (by simp [hv])]; rfl
  have hrow : ∀ a b, ∀ v ∈ rowPairs rs a b, v.one = true := fun a b v hv => by
    unfold rowPairs at hv
    rw [List.mem_flatMap] at hv
    obtain ⟨j, _, hj⟩ := hv
    split at hj
    · simp only [List.mem_cons, List.not_mem_nil, or_false] at hj
      rcases hj with rfl | rfl <;> rfl
    · simp at hj
  refine key _ fun v hv => ?_
  unfold allPairs at hv
  rcases List.mem_append.1 hv with h | h
  · rw [List.mem_flatMap] at h
    obtain ⟨i, _, hi⟩ := h
    exact hrow _ _ v hi
  · exact hrow _ _ v h
theorem pairs_eq {R : Type} {Θ : Orc} {T : Uh FnD} {m : Nat} (hT : T.get 96 = some d96) (ho : ∀ vs, Θ.call 96 vs = none) (K : V → H → Option R) (n : Nat) (rs : List Nat) (hn : n ≤ 40) (hl : rs.length = 40)
    (hx : ∀ x ∈ rs, x < 18446744073709551616) (hp : Th Blk) (nx : Nat) (log : List (Nat × Bool)) (hfree : ∀ i, nx ≤ i → hp.get i = none) :
    ∃ hp' nx' v, St.Sl hp' nx' 2 129 v (allPairs n rs n 0) ∧ (∀ i, i < nx → hp'.get i = hp.get i) ∧ (∀ i, nx' ≤ i → hp'.get i = none) ∧ nx ≤ nx' ∧ c102 (callD Θ T (m + 1)) [relV n rs] R ⟨hp, nx, false, log⟩ K = K v ⟨hp', nx', false, log⟩ := by
  generalize hQ : (fun r : Option R => ∃ hp' nx' v, St.Sl hp' nx' 2 129 v (allPairs n rs n 0) ∧ (∀ i, i < nx → hp'.get i = hp.get i) ∧ (∀ i, nx' ≤ i → hp'.get i = none) ∧ nx ≤ nx' ∧ r = K v ⟨hp', nx', false, log⟩) = Q
  suffices h : Q (c102 (callD Θ T (m + 1)) [relV n rs] R ⟨hp, nx, false, log⟩ K) by rw [← hQ] at h; exact h
  unfold c102
  refine St.hd (St.en (St.nilckV (St.fldV (St.load1V (.int .i64 n) rfl ?_))))
  -- what holds ahead of place (a, b)
  let J (a b : Nat) (v : V) (h : H) : Prop := ∃ hp' nx' k, h = ⟨hp', nx', false, log⟩ ∧ St.Sl hp' nx' 2 129 v (allPairs n rs a b) ∧ (allPairs n rs a b).length = k * 2 ∧ k ≤ a * n + b ∧ (∀ i, i < nx → hp'.get i = hp.get i) ∧ (∀ i, nx' ≤ i → hp'.get i = none) ∧ nx ≤ nx' ∧ ∀ i c, v = .slice i 0 c 2 none → nx ≤ i
  refine Ev.loop4 (I := fun d x1 x2 x3 x4 h => ∃ (a : Nat), a + d = n ∧ x1 = relV n rs ∧ x3 = .int .i64 n ∧ x4 = .int .i64 a ∧ J a 0 x2 h) ?_ n (by omega)
    ⟨0, Nat.zero_add n, rfl, rfl, rfl, hp, nx, 0, rfl, .inl ⟨rfl, by simp [allPairs, rowPairs]⟩, by simp [allPairs, rowPairs], by omega, fun i _ => rfl, hfree, Nat.le_refl _, fun i c h => nomatch h⟩
  rintro d k x1 x2 x3 x4 h ⟨a, e1, rfl, rfl, rfl, hJ⟩ hk
  refine St.lss (fun c => St.condT ?_) (fun c => St.condF ?_)
  · refine St.nilckV (St.fldV (St.load1V (.int .i64 n) rfl ?_))
    have ha : a < n := by omega
    refine Ev.loop7 (I := fun d' y1 y2 y3 y4 y5 y6 y7 h => ∃ (b : Nat), b + d' = n ∧ y1 = relV n rs ∧ y3 = .int .i64 a ∧ y4 = .int .i64 n ∧ y5 = .int .i64 a ∧ y6 = .int .i64 n ∧ y7 = .int .i64 b ∧ J a b y2 h) ?_ n (by omega)
      ⟨0, Nat.zero_add n, rfl, rfl, rfl, rfl, rfl, rfl, hJ⟩
    clear hJ
    rintro d' k' y1 y2 y3 y4 y5 y6 y7 h ⟨b, e2, rfl, rfl, rfl, rfl, rfl, rfl, hJ⟩ hk'
    obtain ⟨hp', nx', kk, rfl, hS, hlen, hkk, hlow, hhi, hle, hown⟩ := hJ
    refine St.lss (fun c2 => St.condT ?_) (fun c2 => St.condF ?_)
    · rw [callHas hT ho _ _ n rs _ _ hn hl hx]
      have hb : b < n := by omega
      have hres : hasR n rs (a : Int) (b : Int) = bitAt rs a b := by unfold hasR bitAt; simp [c, c2]
      have hmul : a * n + b < 1600 := by
        have : a * n ≤ 39 * 40 := Nat.mul_le_mul (by omega) hn
        omega
      rw [hres]
      refine St.join (St.condB (fun cb => ?_) (fun cb => ?_))
      · refine build2 (St.slit1 rfl rfl rfl (hhi nx' (Nat.le_refl _)) ?_)
        have hS2 : St.Sl (hp'.put (.cells [.int .i64 (a : Int), .int .i64 (b : Int)] true 0) nx') (nx' + 1) 2 129 y2 (allPairs n rs a b) := by
          rcases hS with h | ⟨b0, n0, h1, h2, h3, h4, h5⟩
          · exact .inl h
          · exact .inr ⟨b0, n0, h1, by rw [Ev.getPut, if_neg (by omega)]; exact h2, h3, by omega, h5⟩
        have hnew : allPairs n rs a (b + 1) = allPairs n rs a b ++ [.int .i64 (a : Int), .int .i64 (b : Int)] := by rw [allPairs_succ, if_pos cb]
        refine St.append1 (n := kk) (it := [.int .i64 (a : Int), .int .i64 (b : Int)]) (by decide) hS2 (by rw [Ev.getPut, if_pos rfl]; rfl) (Nat.lt_succ_self _) rfl hlen (fun b1 m h e => ?_) (by rw [← hnew]; exact allPairs_one n rs a (b + 1)) (by omega) (by rw [Ev.getPut, if_neg (by omega)]; exact hhi _ (by omega)) ?_
        · rcases hS with ⟨h0, _⟩ | ⟨b0, n0, h1, h2, h3, h4, h5⟩
          · rw [h0] at h; exact nomatch h
          · rw [h1] at h; simp only [V.slice.injEq] at h; omega
        · intro hp2 x' hS3 hlo2 hhi2 hx'
          refine St.add ((b : Int) + 1) rfl (by omega) (by omega) (hk' (d' - 1) _ _ _ _ _ _ _ _ (by omega) ⟨b + 1, by omega, rfl, rfl, rfl, rfl, rfl, by simp, hp2, nx' + 1 + 1, kk + 1, rfl, ?_, ?_, by omega, fun i hi => ?_, fun i hi => ?_, by omega, fun i c h => ?_⟩)
          · rw [hnew]; exact hS3
          · rw [hnew, List.length_append, hlen]; simp; omega
          · rw [hlo2 i (by omega) (fun m e => by have := hown i m e; omega), Ev.getPut, if_neg (by omega)]; exact hlow i hi
          · rw [hhi2 i (by omega), Ev.getPut, if_neg (by omega)]; exact hhi i (by omega)
          · rw [hx' _ _ h]; omega
      · refine St.add ((b : Int) + 1) rfl (by omega) (by omega) (hk' (d' - 1) _ _ _ _ _ _ _ _ (by omega) ⟨b + 1, by omega, rfl, rfl, rfl, rfl, rfl, by simp, hp', nx', kk, rfl, ?_, ?_, by omega, hlow, hhi, hle, hown⟩)
        · rw [allPairs_succ, cb]; simpa using hS
        · rw [allPairs_succ, cb]; simpa using hlen
    · refine St.add ((a : Int) + 1) rfl (by omega) (by omega) (hk (d - 1) _ _ _ _ _ (by omega) ⟨a + 1, by omega, rfl, rfl, by simp, hp', nx', kk, rfl, ?_, ?_, ?_, hlow, hhi, hle, hown⟩)
      · have : b = n := by omega
        rw [← allPairs_next]; rw [this] at hS; exact hS
      · have : b = n := by omega
        rw [← allPairs_next]; rw [this] at hlen; exact hlen
      · have : b = n := by omega
        rw [Nat.add_mul]; omega
  · obtain ⟨hp', nx', kk, rfl, hS, hlen, hkk, hlow, hhi, hle, hown⟩ := hJ
    have : a = n := by omega
    subst this
    rw [← hQ]
    exact ⟨hp', nx', x2, hS, hlow, hhi, hle, rfl⟩
end

noncomputable section
variable [Nu]
/-- How many places. -/
def sizeN (a : Int) : Nat := (min a 40).toNat
def okPair (N : Nat) (p : Int × Int) : Bool := decide (0 ≤ p.1) && decide (p.1 < N) && decide (0 ≤ p.2) && decide (p.2 < N)
def newStep (N : Nat) (rs : List Nat) (p : Int × Int) : List Nat := if okPair N p then rs.set p.1.toNat (((rs[p.1.toNat]?).getD 0) ||| 2 ^ p.2.toNat) else rs
def newRows (N : Nat) (ps : List (Int × Int)) : List Nat := ps.foldl (newStep N) (List.replicate 40 0)
def pairCells (ps : List (Int × Int)) : List V := ps.flatMap fun p => [V.int .i64 p.1, V.int .i64 p.2]
theorem pairCells_len : ∀ ps : List (Int × Int), (pairCells ps).length = ps.length * 2
  | [] => rfl
  | p :: ps => by show ([V.int .i64 p.1, V.int .i64 p.2] ++ pairCells ps).length = _; rw [List.length_append, pairCells_len ps]; simp; omega
theorem pairCells_drop : ∀ (ps : List (Int × Int)) (i : Nat), (pairCells ps).drop (i * 2) = pairCells (ps.drop i)
  | ps, 0 => by simp
  | [], i + 1 => by simp [pairCells]
  | p :: ps, i + 1 => by
    show ([V.int .i64 p.1, V.int .i64 p.2] ++ pairCells ps).drop ((i + 1) * 2) = pairCells (ps.drop i)
    rw [show (i + 1) * 2 = i * 2 + 1 + 1 by omega]
    exact pairCells_drop ps i
theorem newStep_len (N : Nat) (rs : List Nat) (p : Int × Int) : (newStep N rs p).length = rs.length := by unfold newStep; split <;> simp
theorem newStep_lt {N : Nat} (hN : N ≤ 40) {rs : List Nat} (h : ∀ x ∈ rs, x < 18446744073709551616) (p : Int × Int) : ∀ x ∈ newStep N rs p, x < 18446744073709551616 := by
  unfold newStep
  split
  · rename_i hp
    intro x hx
    rcases List.mem_or_eq_of_mem_set hx with hx | hx
    · exact h x hx
    · rw [hx]
      simp only [okPair, Bool.and_eq_true, decide_eq_true_eq] at hp
      refine Nat.or_lt_two_pow (n := 64) ?_ (Nat.pow_lt_pow_right (by decide) (by omega))
      cases e : rs[p.1.toNat]? with
      | none => decide
      | some y => exact h y (List.mem_of_getElem? e)
  · exact h
theorem newTo_ok {N : Nat} (hN : N ≤ 40) : ∀ (ps : List (Int × Int)), (newRows N ps).length = 40 ∧ ∀ x ∈ newRows N ps, x < 18446744073709551616 := by
  intro ps
  have key : ∀ (ps : List (Int × Int)) (rs : List Nat), rs.length = 40 → (∀ x ∈ rs, x < 18446744073709551616) → (ps.foldl (newStep N) rs).length = 40 ∧ ∀ x ∈ ps.foldl (newStep N) rs, x < 18446744073709551616 := by
    intro ps
    induction ps with
    | nil => intro rs h1 h2; exact ⟨h1, h2⟩
    | cons p ps ih => intro rs h1 h2; exact ih _ (by rw [newStep_len]; exact h1) (newStep_lt hN h2 p)
  exact key ps _ (by simp) (fun x hx => by rw [List.eq_of_mem_replicate hx]; decide)
theorem newRows_snoc (N : Nat) (ps : List (Int × Int)) (i : Nat) (p : Int × Int) (h : ps[i]? = some p) : newRows N (ps.take (i + 1)) = newStep N (newRows N (ps.take i)) p := by
  unfold newRows
  rw [List.take_add_one, h, List.foldl_append]; rfl
theorem new_gen {R : Type} {Q : Option R → Prop} {F : CallF} (K : V → H → Option R) (a : Int) (a2 : V) (ps : List (Int × Int)) (hps : ps.length < 100000) (hp : Th Blk) (nx : Nat) (log : List (Nat × Bool)) (hfree : ∀ i, nx ≤ i → hp.get i = none)
    (hlenL : ∀ (h : H) (K' : V → H → Option R), Q (K' (.int .i64 ps.length) h) → Q (J.lenL a2 R h K'))
    (hget : ∀ (i : Nat) (p : Int × Int) (hp' : Th Blk) (nx' : Nat) (K' : V → H → Option R), ps[i]? = some p → (∀ j, j < nx → hp'.get j = hp.get j) → nx ≤ nx' → Q (K' (.agg [.int .i64 p.1, .int .i64 p.2]) ⟨hp', nx', false, log⟩) → Q (J.idxL 2 a2 (.int .i64 (i : Int)) R ⟨hp', nx', false, log⟩ fun v h => J.loadN 2 v R h K'))
    (q : ∀ hp', hp'.get nx = some (.cells (relC (sizeN a) (newRows (sizeN a) ps)) true 0) → (∀ i, i < nx → hp'.get i = hp.get i) → (∀ i, nx + 1 + ps.length ≤ i → hp'.get i = none) → Q (K (.ptr nx 0) ⟨hp', nx + 1 + ps.length, false, log⟩)) : Q (c144 F [.int .i64 a, a2] R ⟨hp, nx, false, log⟩ K) := by
  have hN : sizeN a ≤ 40 := by unfold sizeN; omega
  generalize hNe : sizeN a = N at *
  unfold c144
  refine St.hd (St.hd (St.en (St.min (St.max (St.build0 (St.box rfl (hfree nx (Nat.le_refl _)) (hlenL _ _ ?_)))))))
  have e0 : (if (0 : Int) < (if (40 : Int) < a then 40 else a) then (if (40 : Int) < a then 40 else a) else 0) = (N : Int) := by
    rw [← hNe]; unfold sizeN; split <;> split <;> omega
  rw [e0]
  refine Ev.loop4 (I := fun d x1 x2 x3 x4 h => ∃ (i : Nat) (hp' : Th Blk), i + d = ps.length ∧ x1 = .ptr nx 0 ∧ a2 = x2 ∧ x3 = .int .i64 ps.length ∧ x4 = .int .i64 i ∧ h = ⟨hp', nx + 1 + i, false, log⟩ ∧
      hp'.get nx = some (.cells (relC N (newRows N (ps.take i))) true 0) ∧ (∀ j, j < nx → hp'.get j = hp.get j) ∧ ∀ j, nx + 1 + i ≤ j → hp'.get j = none) ?_ ps.length (by omega)
    ⟨0, _, Nat.zero_add _, rfl, rfl, rfl, rfl, rfl, ?_, fun j hj => by rw [Ev.getPut, if_neg (by omega)], fun j hj => by rw [Ev.getPut, if_neg (by omega)]; exact hfree j (by omega)⟩
  · rintro d k x1 x2 x3 x4 h ⟨i, hp', e1, rfl, rfl, rfl, rfl, rfl, hrel, hlow, hhi⟩ hk
    refine St.lss (fun c => St.condT ?_) (fun c => St.condF ?_)
    · have hi : i < ps.length := by omega
      obtain ⟨p, hp0⟩ : ∃ p, ps[i]? = some p := ⟨ps[i], List.getElem?_eq_getElem hi⟩
      obtain ⟨hlen, hlt⟩ := newTo_ok hN (ps.take i)
      refine hget i p _ _ _ hp0 hlow (by omega) ?_
      refine St.newT (hhi _ (by omega)) (St.storeN (by rw [Ev.getPut, if_pos rfl]) (Nat.lt_succ_self _) rfl (by simp) rfl ?_)
      generalize hhp2 : (hp'.put (Blk.cells [V.int IntKind.i64 0, V.int IntKind.i64 0] true 129) (nx + 1 + i)).put (Blk.cells (List.take 0 [V.int IntKind.i64 0, V.int IntKind.i64 0] ++ ((V.agg [V.int IntKind.i64 p.1, V.int IntKind.i64 p.2]).cells ++ List.drop (0 + 2) [V.int IntKind.i64 0, V.int IntKind.i64 0])) true 129) (nx + 1 + i) = hp2
      have hP : hp2.get (nx + 1 + i) = some (.cells [.int .i64 p.1, .int .i64 p.2] true 129) := by rw [← hhp2, Ev.getPut, if_pos rfl]; rfl
      have hR : hp2.get nx = some (.cells (relC N (newRows N (ps.take i))) true 0) := by rw [← hhp2, Ev.getPut, if_neg (by omega), Ev.getPut, if_neg (by omega)]; exact hrel
      have hlow2 : ∀ j, j < nx → hp2.get j = hp.get j := fun j hj => by rw [← hhp2, Ev.getPut, if_neg (by omega), Ev.getPut, if_neg (by omega)]; exact hlow j hj
      have hhi2 : ∀ j, nx + 1 + (i + 1) ≤ j → hp2.get j = none := fun j hj => by rw [← hhp2, Ev.getPut, if_neg (by omega), Ev.getPut, if_neg (by omega)]; exact hhi j (by omega)
      have hnext : ∀ hp3, hp3.get nx = some (.cells (relC N (newRows N (ps.take (i + 1)))) true 0) → (∀ j, j < nx → hp3.get j = hp.get j) → (∀ j, nx + 1 + (i + 1) ≤ j → hp3.get j = none) → Q (J.bin F .add (.int .i64 (i : Int)) (.int .i64 1) R ⟨hp3, nx + 1 + i + 1, false, log⟩ fun v50 h => k (.ptr nx 0) a2 (.int .i64 ps.length) v50 h) :=
        fun hp3 h1 h2 h3 => St.add ((i : Int) + 1) rfl (by omega) (by omega) (hk (d - 1) _ _ _ _ _ (by omega) ⟨i + 1, hp3, by omega, rfl, rfl, rfl, by simp, by rw [Nat.add_assoc], h1, h2, h3⟩)
      have hsame : okPair N p = false → hp2.get nx = some (.cells (relC N (newRows N (ps.take (i + 1)))) true 0) := fun h => by
        rw [newRows_snoc N ps i p hp0, newStep, h]; exact hR
      have hnx : nx < nx + 1 + i + 1 := by omega
      (repeat (first | with_reducible refine St.nextOf ?_ | with_reducible refine St.pure ?_ | with_reducible refine St.fldP ?_ | with_reducible refine St.nilckP ?_ | with_reducible refine St.lwhenTT ?_ | with_reducible refine St.lwhenFT ?_ | refine St.lload1P _ hP (Nat.lt_succ_self _) rfl ?_ | refine St.lload1P _ hR hnx rfl ?_ | with_reducible refine St.whenTT ?_ | with_reducible refine St.whenFT ?_ | with_reducible refine St.whenTF ?_ | with_reducible refine St.whenFF ?_ | with_reducible refine St.pickT ?_ | with_reducible refine St.pickF ?_ | refine St.load1P _ hP (Nat.lt_succ_self _) rfl ?_ | refine St.load1P _ hR hnx rfl ?_))
      refine St.geq (fun q1 => ?_) (fun q1 => ?_)
      · (repeat (first | with_reducible refine St.nextOf ?_ | with_reducible refine St.pure ?_ | with_reducible refine St.fldP ?_ | with_reducible refine St.nilckP ?_ | with_reducible refine St.lwhenTT ?_ | with_reducible refine St.lwhenFT ?_ | refine St.lload1P _ hP (Nat.lt_succ_self _) rfl ?_ | refine St.lload1P _ hR hnx rfl ?_ | with_reducible refine St.whenTT ?_ | with_reducible refine St.whenFT ?_ | with_reducible refine St.whenTF ?_ | with_reducible refine St.whenFF ?_ | with_reducible refine St.pickT ?_ | with_reducible refine St.pickF ?_ | refine St.load1P _ hP (Nat.lt_succ_self _) rfl ?_ | refine St.load1P _ hR hnx rfl ?_))
        refine St.lss (fun q2 => ?_) (fun q2 => ?_)
        · (repeat (first | with_reducible refine St.nextOf ?_ | with_reducible refine St.pure ?_ | with_reducible refine St.fldP ?_ | with_reducible refine St.nilckP ?_ | with_reducible refine St.lwhenTT ?_ | with_reducible refine St.lwhenFT ?_ | refine St.lload1P _ hP (Nat.lt_succ_self _) rfl ?_ | refine St.lload1P _ hR hnx rfl ?_ | with_reducible refine St.whenTT ?_ | with_reducible refine St.whenFT ?_ | with_reducible refine St.whenTF ?_ | with_reducible refine St.whenFF ?_ | with_reducible refine St.pickT ?_ | with_reducible refine St.pickF ?_ | refine St.load1P _ hP (Nat.lt_succ_self _) rfl ?_ | refine St.load1P _ hR hnx rfl ?_))
          refine St.geq (fun q3 => ?_) (fun q3 => ?_)
          · (repeat (first | with_reducible refine St.nextOf ?_ | with_reducible refine St.pure ?_ | with_reducible refine St.fldP ?_ | with_reducible refine St.nilckP ?_ | with_reducible refine St.lwhenTT ?_ | with_reducible refine St.lwhenFT ?_ | refine St.lload1P _ hP (Nat.lt_succ_self _) rfl ?_ | refine St.lload1P _ hR hnx rfl ?_ | with_reducible refine St.whenTT ?_ | with_reducible refine St.whenFT ?_ | with_reducible refine St.whenTF ?_ | with_reducible refine St.whenFF ?_ | with_reducible refine St.pickT ?_ | with_reducible refine St.pickF ?_ | refine St.load1P _ hP (Nat.lt_succ_self _) rfl ?_ | refine St.load1P _ hR hnx rfl ?_))
            refine St.lss (fun q4 => ?_) (fun q4 => ?_)
            · (repeat (first | with_reducible refine St.nextOf ?_ | with_reducible refine St.pure ?_ | with_reducible refine St.fldP ?_ | with_reducible refine St.nilckP ?_ | with_reducible refine St.lwhenTT ?_ | with_reducible refine St.lwhenFT ?_ | refine St.lload1P _ hP (Nat.lt_succ_self _) rfl ?_ | refine St.lload1P _ hR hnx rfl ?_ | with_reducible refine St.whenTT ?_ | with_reducible refine St.whenFT ?_ | with_reducible refine St.whenTF ?_ | with_reducible refine St.whenFF ?_ | with_reducible refine St.pickT ?_ | with_reducible refine St.pickF ?_ | refine St.load1P _ hP (Nat.lt_succ_self _) rfl ?_ | refine St.load1P _ hR hnx rfl ?_))
              refine St.okP (St.psC rfl rfl (St.clashR rfl rfl rfl) (St.psC rfl rfl (St.clashR rfl rfl rfl) St.ps0)) (St.join (St.condT ?_))
              (repeat (first | with_reducible refine St.nextOf ?_ | with_reducible refine St.pure ?_ | with_reducible refine St.fldP ?_ | with_reducible refine St.nilckP ?_ | with_reducible refine St.lwhenTT ?_ | with_reducible refine St.lwhenFT ?_ | refine St.lload1P _ hP (Nat.lt_succ_self _) rfl ?_ | refine St.lload1P _ hR hnx rfl ?_ | with_reducible refine St.whenTT ?_ | with_reducible refine St.whenFT ?_ | with_reducible refine St.whenTF ?_ | with_reducible refine St.whenFF ?_ | with_reducible refine St.pickT ?_ | with_reducible refine St.pickF ?_ | refine St.load1P _ hP (Nat.lt_succ_self _) rfl ?_ | refine St.load1P _ hR hnx rfl ?_))
              have hA : p.1.toNat < 40 := by omega
              obtain ⟨x, hxA⟩ : ∃ x, (newRows N (ps.take i))[p.1.toNat]? = some x := ⟨(newRows N (ps.take i))[p.1.toNat]'(by omega), List.getElem?_eq_getElem (by omega)⟩
              have hx64 := hlt x (List.mem_of_getElem? hxA)
              have hpow : 1 * 2 ^ p.2.toNat < 18446744073709551616 := by
                rw [Nat.one_mul]; exact Nat.pow_lt_pow_right (n := 64) (by decide) (by omega)
              refine St.idxAP p.1.toNat (by omega) hA (St.lload1P (.int .u64 (x : Nat)) hR hnx (by simp [relC, hxA, Nat.add_comm]) (St.fldP (St.lload1P _ hP (Nat.lt_succ_self _) rfl ?_)))
              refine St.shlU (x := 1) (m := p.2.toNat) (by omega) (by simp; omega) hpow (St.orU hx64 hpow (St.nilckP (St.fldP (St.idxAP p.1.toNat (by omega) hA (St.lstore1 hR hnx (by simp [relC, hlen]; omega) rfl ?_)))))
              refine St.okP (St.psC rfl rfl (St.clashR rfl rfl rfl) (St.psC rfl rfl (St.clashR rfl rfl rfl) St.ps0)) (hnext _ ?_ (fun j hj => ?_) (fun j hj => ?_))
              · rw [Ev.getPut, if_pos rfl]
                have hok : okPair N p = true := by simp [okPair]; omega
                have e : newRows N (ps.take (i + 1)) = (newRows N (ps.take i)).set p.1.toNat (x ||| 1 * 2 ^ p.2.toNat) := by
                  rw [newRows_snoc N ps i p hp0, newStep, hok, if_pos rfl, hxA, Nat.one_mul]; rfl
                rw [e]
                unfold relC
                rw [show 0 + 1 + p.1.toNat * 1 = p.1.toNat + 1 by omega, List.set_cons_succ, List.map_set]
              · rw [Ev.getPut, if_neg (by omega)]; exact hlow2 j hj
              · rw [Ev.getPut, if_neg (by omega)]; exact hhi2 j hj
            · (repeat (first | with_reducible refine St.nextOf ?_ | with_reducible refine St.pure ?_ | with_reducible refine St.fldP ?_ | with_reducible refine St.nilckP ?_ | with_reducible refine St.lwhenTT ?_ | with_reducible refine St.lwhenFT ?_ | refine St.lload1P _ hP (Nat.lt_succ_self _) rfl ?_ | refine St.lload1P _ hR hnx rfl ?_ | with_reducible refine St.whenTT ?_ | with_reducible refine St.whenFT ?_ | with_reducible refine St.whenTF ?_ | with_reducible refine St.whenFF ?_ | with_reducible refine St.pickT ?_ | with_reducible refine St.pickF ?_ | refine St.load1P _ hP (Nat.lt_succ_self _) rfl ?_ | refine St.load1P _ hR hnx rfl ?_))
              (refine St.okP (St.psC rfl rfl (St.clashR rfl rfl rfl) (St.psC rfl rfl (St.clashR rfl rfl rfl) St.ps0)) (St.join (St.condF ?_)))
              exact hnext _ (hsame (by simp [okPair]; omega)) hlow2 hhi2
          · (repeat (first | with_reducible refine St.nextOf ?_ | with_reducible refine St.pure ?_ | with_reducible refine St.fldP ?_ | with_reducible refine St.nilckP ?_ | with_reducible refine St.lwhenTT ?_ | with_reducible refine St.lwhenFT ?_ | refine St.lload1P _ hP (Nat.lt_succ_self _) rfl ?_ | refine St.lload1P _ hR hnx rfl ?_ | with_reducible refine St.whenTT ?_ | with_reducible refine St.whenFT ?_ | with_reducible refine St.whenTF ?_ | with_reducible refine St.whenFF ?_ | with_reducible refine St.pickT ?_ | with_reducible refine St.pickF ?_ | refine St.load1P _ hP (Nat.lt_succ_self _) rfl ?_ | refine St.load1P _ hR hnx rfl ?_))
            (refine St.okP (St.psC rfl rfl (St.clashR rfl rfl rfl) (St.psC rfl rfl (St.clashR rfl rfl rfl) St.ps0)) (St.join (St.condF ?_)))
            exact hnext _ (hsame (by simp [okPair]; omega)) hlow2 hhi2
        · (repeat (first | with_reducible refine St.nextOf ?_ | with_reducible refine St.pure ?_ | with_reducible refine St.fldP ?_ | with_reducible refine St.nilckP ?_ | with_reducible refine St.lwhenTT ?_ | with_reducible refine St.lwhenFT ?_ | refine St.lload1P _ hP (Nat.lt_succ_self _) rfl ?_ | refine St.lload1P _ hR hnx rfl ?_ | with_reducible refine St.whenTT ?_ | with_reducible refine St.whenFT ?_ | with_reducible refine St.whenTF ?_ | with_reducible refine St.whenFF ?_ | with_reducible refine St.pickT ?_ | with_reducible refine St.pickF ?_ | refine St.load1P _ hP (Nat.lt_succ_self _) rfl ?_ | refine St.load1P _ hR hnx rfl ?_))
          (refine St.okP (St.psC rfl rfl (St.clashR rfl rfl rfl) (St.psC rfl rfl (St.clashR rfl rfl rfl) St.ps0)) (St.join (St.condF ?_)))
          exact hnext _ (hsame (by simp [okPair]; omega)) hlow2 hhi2
      · (repeat (first | with_reducible refine St.nextOf ?_ | with_reducible refine St.pure ?_ | with_reducible refine St.fldP ?_ | with_reducible refine St.nilckP ?_ | with_reducible refine St.lwhenTT ?_ | with_reducible refine St.lwhenFT ?_ | refine St.lload1P _ hP (Nat.lt_succ_self _) rfl ?_ | refine St.lload1P _ hR hnx rfl ?_ | with_reducible refine St.whenTT ?_ | with_reducible refine St.whenFT ?_ | with_reducible refine St.whenTF ?_ | with_reducible refine St.whenFF ?_ | with_reducible refine St.pickT ?_ | with_reducible refine St.pickF ?_ | refine St.load1P _ hP (Nat.lt_succ_self _) rfl ?_ | refine St.load1P _ hR hnx rfl ?_))
        (refine St.okP (St.psC rfl rfl (St.clashR rfl rfl rfl) (St.psC rfl rfl (St.clashR rfl rfl rfl) St.ps0)) (St.join (St.condF ?_)))
        exact hnext _ (hsame (by simp [okPair]; omega)) hlow2 hhi2
    · have : i = ps.length := by omega
      subst this
      rw [List.take_length] at hrel
      exact q hp' hrel hlow hhi
  · rw [Ev.getPut, if_pos rfl]; rfl
theorem pairCells_at (ps : List (Int × Int)) (i : Nat) (p : Int × Int) (h : ps[i]? = some p) : (pairCells ps).drop (i * 2) = .int .i64 p.1 :: .int .i64 p.2 :: pairCells (ps.drop (i + 1)) := by
  have hi : i < ps.length := (List.getElem?_eq_some_iff.1 h).1
  rw [pairCells_drop, List.drop_eq_getElem_cons hi]
  rw [List.getElem?_eq_getElem hi] at h
  simp only [Option.some.injEq] at h
  rw [h]; rfl
/-- .. of pairs in old memory. -/
theorem new_old {R : Type} {Q : Option R → Prop} {F : CallF} (K : V → H → Option R) (a : Int) (ps : List (Int × Int)) (hps : ps.length < 100000) (hp : Th Blk) (nx : Nat) (log : List (Nat × Bool)) (hfree : ∀ i, nx ≤ i → hp.get i = none)
    (q : ∀ hp', hp'.get nx = some (.cells (relC (sizeN a) (newRows (sizeN a) ps)) true 0) → (∀ i, i < nx → hp'.get i = hp.get i) → (∀ i, nx + 1 + ps.length ≤ i → hp'.get i = none) → Q (K (.ptr nx 0) ⟨hp', nx + 1 + ps.length, false, log⟩)) : Q (c144 F [.int .i64 a, .bigs 2 (pairCells ps) (.int .i64 ps.length)] R ⟨hp, nx, false, log⟩ K) :=
  new_gen K a _ ps hps hp nx log hfree (fun h K' q => St.lenLB q) (fun i p hp' nx' K' h0 _ _ q => by
    have hi : i < ps.length := (List.getElem?_eq_some_iff.1 h0).1
    refine St.idxLB i rfl (by decide) (by rw [pairCells_len]; omega) ?_
    rw [pairCells_at ps i p h0]
    exact St.loadNV (by simp) q) q
/-- .. of pairs that append has made. -/
theorem new_own {R : Type} {Q : Option R → Prop} {F : CallF} (K : V → H → Option R) (a : Int) (ps : List (Int × Int)) (hps : ps.length < 100000) (hp : Th Blk) (nx y : Nat) (v : V) (log : List (Nat × Bool)) (hfree : ∀ i, nx ≤ i → hp.get i = none) (hS : St.Sl hp nx 2 y v (pairCells ps))
    (q : ∀ hp', hp'.get nx = some (.cells (relC (sizeN a) (newRows (sizeN a) ps)) true 0) → (∀ i, i < nx → hp'.get i = hp.get i) → (∀ i, nx + 1 + ps.length ≤ i → hp'.get i = none) → Q (K (.ptr nx 0) ⟨hp', nx + 1 + ps.length, false, log⟩)) : Q (c144 F [.int .i64 a, v] R ⟨hp, nx, false, log⟩ K) := by
  rcases hS with ⟨rfl, h0⟩ | ⟨b, n, rfl, hb, hn, hbn, _⟩
  · have hnil : ps = [] := by
      cases ps with
      | nil => rfl
      | cons p ps => exact nomatch h0
    subst hnil
    exact new_gen K a _ [] hps hp nx log hfree (fun h K' q => St.lenLN q) (fun i p hp' nx' K' h0 _ _ q => nomatch h0) q
  · have hk : n = ps.length := by rw [pairCells_len] at hn; omega
    subst hk
    refine new_gen K a _ ps hps hp nx log hfree (fun h K' q => St.lenLS q) (fun i p hp' nx' K' h0 hl hle q => ?_) q
    have hi : i < ps.length := (List.getElem?_eq_some_iff.1 h0).1
    refine St.idxLS i rfl hi (St.loadNP (by rw [hl b hbn]; exact hb) (by omega) ?_ ?_)
    · rw [Nat.zero_add, pairCells_at ps i p h0]; simp
    · rw [Nat.zero_add, pairCells_at ps i p h0]; exact q
end

noncomputable section
variable [Nu]
def byRows (op : Nat → Nat → Nat) (rs ss : List Nat) (a : Nat) : List Nat := (List.range 40).map fun i => if i < a then op ((rs[i]?).getD 0) ((ss[i]?).getD 0) else 0
theorem byRows_len (op : Nat → Nat → Nat) (rs ss : List Nat) (a : Nat) : (byRows op rs ss a).length = 40 := by simp [byRows]
theorem byRows_zero (op : Nat → Nat → Nat) (rs ss : List Nat) : byRows op rs ss 0 = List.replicate 40 0 := by
  unfold byRows
  rw [List.eq_replicate_iff]
  refine ⟨by simp, fun x hx => ?_⟩
  obtain ⟨i, _, rfl⟩ := List.mem_map.1 hx
  rw [if_neg (Nat.not_lt_zero _)]
theorem byRows_set (op : Nat → Nat → Nat) (rs ss : List Nat) (a : Nat) (ha : a < 40) : (byRows op rs ss a).set a (op ((rs[a]?).getD 0) ((ss[a]?).getD 0)) = byRows op rs ss (a + 1) := by
  apply List.ext_getElem?
  intro i
  rw [List.getElem?_set]
  unfold byRows
  by_cases h : a = i
  · subst h; rw [if_pos rfl]; simp [ha]
  · rw [if_neg h, List.getElem?_map, List.getElem?_map]
    by_cases hi : i < 40
    · rw [List.getElem?_range hi]; simp only [Option.map_some]
      by_cases h2 : i < a
      · rw [if_pos h2, if_pos (by omega)]
      · rw [if_neg h2, if_neg (by omega)]
    · rw [List.getElem?_eq_none (by simp; omega)]; rfl
theorem byRows_full (op : Nat → Nat → Nat) (rs ss : List Nat) (a : Nat) (ha : 40 ≤ a) : byRows op rs ss a = byRows op rs ss 40 := by
  unfold byRows
  refine List.map_congr_left fun i hi => ?_
  have := List.mem_range.1 hi
  rw [if_pos (by omega), if_pos this]
theorem by_eq {R : Type} {F : CallF} {f : V} {op : Nat → Nat → Nat} (hop : ∀ x y, x < 18446744073709551616 → y < 18446744073709551616 → op x y < 18446744073709551616)
    (hf : ∀ (x y : Nat) (h : H) (K : V → H → Option R), x < 18446744073709551616 → y < 18446744073709551616 → J.call F f [.int .u64 (x : Int), .int .u64 (y : Int)] R h K = K (.int .u64 (op x y : Nat)) h)
    (K : V → H → Option R) (n n' : Nat) (rs ss : List Nat) (hl : rs.length = 40) (hl' : ss.length = 40)
    (hx : ∀ x ∈ rs, x < 18446744073709551616) (hx' : ∀ x ∈ ss, x < 18446744073709551616) (hp : Th Blk) (nx : Nat) (log : List (Nat × Bool)) (hfree : hp.get nx = none) :
    ∃ hp', Is hp nx (relC (Nat.max n n') (byRows op rs ss 40)) hp' ∧ c138 F [relV n rs, relV n' ss, f] R ⟨hp, nx, false, log⟩ K = K (.ptr nx 0) ⟨hp', nx + 1, false, log⟩ := by
  generalize hQ : (fun r : Option R => ∃ hp', Is hp nx (relC (Nat.max n n') (byRows op rs ss 40)) hp' ∧ r = K (.ptr nx 0) ⟨hp', nx + 1, false, log⟩) = Q
  suffices h : Q (c138 F [relV n rs, relV n' ss, f] R ⟨hp, nx, false, log⟩ K) by rw [← hQ] at h; exact h
  unfold c138
  refine St.hd (St.hd (St.hd (St.en (St.nextOf (St.nilckV (St.fldV (St.lload1V (.int .i64 n) rfl ?_)))))))
  refine St.nilckV (St.fldV (St.lload1V (.int .i64 n') rfl ?_))
  refine St.max (St.build0 (St.lbox rfl hfree (St.okP rfl ?_)))
  have hcast : (if (n : Int) < (n' : Int) then (n' : Int) else (n : Int)) = ((Nat.max n n' : Nat) : Int) := by
    show _ = ((max n n' : Nat) : Int)
    split <;> omega
  have hstart : Is hp nx (relC (Nat.max n n') (byRows op rs ss 0)) (hp.put (.cells (relC (Nat.max n n') (byRows op rs ss 0)) true 0) nx) := fun i => Ev.getPut _ _ _ _
  refine Ev.loop5 (I := fun d x1 x2 x3 x4 x5 h => ∃ (a : Nat) (hp' : Th Blk), a + d = 40 ∧ x1 = relV n rs ∧ x2 = relV n' ss ∧ x3 = f ∧ x4 = .ptr nx 0 ∧ x5 = .int .i64 a ∧ h = ⟨hp', nx + 1, false, log⟩ ∧ Is hp nx (relC (Nat.max n n') (byRows op rs ss a)) hp') ?_ 40 (by decide)
    ⟨0, _, rfl, rfl, rfl, rfl, rfl, rfl, ?_, hstart⟩
  · rintro d k x1 x2 x3 x4 x5 h ⟨a, hp', e1, rfl, rfl, rfl, rfl, rfl, rfl, his⟩ hk
    refine St.lss (fun c => St.condT ?_) (fun c => St.condF ?_)
    · have ha : a < 40 := by omega
      obtain ⟨x, hxa⟩ : ∃ x, rs[a]? = some x := ⟨rs[a]'(by omega), List.getElem?_eq_getElem (by omega)⟩
      obtain ⟨y, hya⟩ : ∃ y, ss[a]? = some y := ⟨ss[a]'(by omega), List.getElem?_eq_getElem (by omega)⟩
      have hx1 := hx x (List.mem_of_getElem? hxa)
      have hy1 := hx' y (List.mem_of_getElem? hya)
      refine St.nextOf (St.nilckV (St.fldV (St.idxAV a rfl (by decide) ha ?_ (St.lload1V (.int .u64 (x : Nat)) ?_ ?_))))
      · simp [hl]; omega
      · simp [hxa]
      refine St.nilckV (St.fldV (St.idxAV a rfl (by decide) ha ?_ (St.lload1V (.int .u64 (y : Nat)) ?_ (St.logged ?_))))
      · simp [hl']; omega
      · simp [hya]
      rw [hf x y _ _ hx1 hy1]
      refine St.nilckP (St.fldP (St.idxAP a rfl ha (St.lstore1 his.get (Nat.lt_succ_self nx) ?_ rfl (St.okP (St.psC rfl rfl (St.clashR rfl rfl rfl) St.ps0) ?_))))
      · simp [relC, byRows_len]; omega
      · refine St.add ((a : Int) + 1) rfl (by omega) (by omega) (hk (d - 1) _ _ _ _ _ _ (by omega) ⟨a + 1, _, by omega, rfl, rfl, rfl, rfl, by simp, rfl, ?_⟩)
        have hset : (relC (Nat.max n n') (byRows op rs ss a)).set (0 + 1 + a * 1) (.int .u64 ((op x y : Nat) : Int)) = relC (Nat.max n n') (byRows op rs ss (a + 1)) := by
          rw [← byRows_set op rs ss a ha, hxa, hya]
          unfold relC
          rw [show 0 + 1 + a * 1 = a + 1 by omega, List.set_cons_succ, List.map_set]; rfl
        rw [← hset]
        exact his.put
    · have : a = 40 := by omega
      subst this
      rw [← hQ]
      exact ⟨hp', his, rfl⟩
  · have e : relC (Nat.max n n') (byRows op rs ss 0) = .int .i64 (if (n : Int) < (n' : Int) then (n' : Int) else (n : Int)) :: List.replicate 40 (.int .u64 0) := by
      rw [byRows_zero, hcast]; rfl
    rw [e]; rfl
end

noncomputable section
variable [Nu]
theorem bitTest (x b : Nat) : x.testBit b = decide ((x / 2 ^ b &&& 1 : Nat) ≠ 0) := by
  rw [Nat.testBit_eq_decide_div_mod_eq, Nat.and_one_is_mod]
  congr 1
  simp only [ne_eq, eq_iff_iff]
  omega
theorem has_ptr {R : Type} {Q : Option R → Prop} {F : CallF} {K : V → H → Option R} (n : Nat) (rs : List Nat) (a b : Int) (hn : n ≤ 40) (hl : rs.length = 40) (hx : ∀ x ∈ rs, x < 18446744073709551616) {hp : Th Blk} {nx t : Nat} {log : List (Nat × Bool)} {w : Bool} {y : Nat}
    (hR : hp.get t = some (.cells (relC n rs) w y)) (hnx : t < nx) (q : Q (K (.bool (hasR n rs a b)) ⟨hp, nx, false, log⟩)) : Q (c96 F [.ptr t 0, .int .i64 a, .int .i64 b] R ⟨hp, nx, false, log⟩ K) := by
  unfold c96
  refine St.hd (St.hd (St.hd (St.en ?_)))
  have hno : ∀ r : Bool, hasR n rs a b = r → Q (K (.bool r) ⟨hp, nx, false, log⟩) := fun r h => by rw [← h]; exact q
  (repeat (first | with_reducible refine St.nextOf ?_ | with_reducible refine St.pure ?_ | with_reducible refine St.fldP ?_ | with_reducible refine St.nilckP ?_ | with_reducible refine St.lwhenTT ?_ | with_reducible refine St.lwhenFT ?_ | with_reducible refine St.whenTT ?_ | with_reducible refine St.whenFT ?_ | with_reducible refine St.whenTF ?_ | with_reducible refine St.whenFF ?_ | with_reducible refine St.pickT ?_ | with_reducible refine St.pickF ?_ | refine St.load1P (.int .i64 n) hR hnx rfl ?_))
  refine St.geq (fun q1 => ?_) (fun q1 => ?_)
  · (repeat (first | with_reducible refine St.nextOf ?_ | with_reducible refine St.pure ?_ | with_reducible refine St.fldP ?_ | with_reducible refine St.nilckP ?_ | with_reducible refine St.lwhenTT ?_ | with_reducible refine St.lwhenFT ?_ | with_reducible refine St.whenTT ?_ | with_reducible refine St.whenFT ?_ | with_reducible refine St.whenTF ?_ | with_reducible refine St.whenFF ?_ | with_reducible refine St.pickT ?_ | with_reducible refine St.pickF ?_ | refine St.load1P (.int .i64 n) hR hnx rfl ?_))
    refine St.lss (fun q2 => ?_) (fun q2 => ?_)
    · (repeat (first | with_reducible refine St.nextOf ?_ | with_reducible refine St.pure ?_ | with_reducible refine St.fldP ?_ | with_reducible refine St.nilckP ?_ | with_reducible refine St.lwhenTT ?_ | with_reducible refine St.lwhenFT ?_ | with_reducible refine St.whenTT ?_ | with_reducible refine St.whenFT ?_ | with_reducible refine St.whenTF ?_ | with_reducible refine St.whenFF ?_ | with_reducible refine St.pickT ?_ | with_reducible refine St.pickF ?_ | refine St.load1P (.int .i64 n) hR hnx rfl ?_))
      refine St.geq (fun q3 => ?_) (fun q3 => ?_)
      · (repeat (first | with_reducible refine St.nextOf ?_ | with_reducible refine St.pure ?_ | with_reducible refine St.fldP ?_ | with_reducible refine St.nilckP ?_ | with_reducible refine St.lwhenTT ?_ | with_reducible refine St.lwhenFT ?_ | with_reducible refine St.whenTT ?_ | with_reducible refine St.whenFT ?_ | with_reducible refine St.whenTF ?_ | with_reducible refine St.whenFF ?_ | with_reducible refine St.pickT ?_ | with_reducible refine St.pickF ?_ | refine St.load1P (.int .i64 n) hR hnx rfl ?_))
        refine St.lss (fun q4 => ?_) (fun q4 => ?_)
        · (repeat (first | with_reducible refine St.nextOf ?_ | with_reducible refine St.pure ?_ | with_reducible refine St.fldP ?_ | with_reducible refine St.nilckP ?_ | with_reducible refine St.lwhenTT ?_ | with_reducible refine St.lwhenFT ?_ | with_reducible refine St.whenTT ?_ | with_reducible refine St.whenFT ?_ | with_reducible refine St.whenTF ?_ | with_reducible refine St.whenFF ?_ | with_reducible refine St.pickT ?_ | with_reducible refine St.pickF ?_ | refine St.load1P (.int .i64 n) hR hnx rfl ?_))
          obtain ⟨x, hxa⟩ : ∃ x, rs[a.toNat]? = some x := ⟨rs[a.toNat]'(by omega), List.getElem?_eq_getElem (by omega)⟩
          have hx' := hx x (List.mem_of_getElem? hxa)
          have hq : x / 2 ^ b.toNat < 18446744073709551616 := Nat.lt_of_le_of_lt (Nat.div_le_self _ _) hx'
          have hres : hasR n rs a b = x.testBit b.toNat := by unfold hasR; simp [q1, q2, q3, q4, hxa]
          refine St.idxAP a.toNat (by omega) (by omega) (St.whenTT (St.load1P (.int .u64 (x : Nat)) hR hnx (by simp [relC, hxa, Nat.add_comm]) (St.whenTT (St.pure (St.whenTT (St.shrU b.toNat (by omega) (by omega) (St.whenTT (St.andU (y := 1) hq (by decide) (St.whenTT (St.neqU (y := 0) (fun q5 => ?_) (fun q5 => ?_)))))))))))
          · (repeat (first | with_reducible refine St.nextOf ?_ | with_reducible refine St.pure ?_ | with_reducible refine St.fldP ?_ | with_reducible refine St.nilckP ?_ | with_reducible refine St.lwhenTT ?_ | with_reducible refine St.lwhenFT ?_ | with_reducible refine St.whenTT ?_ | with_reducible refine St.whenFT ?_ | with_reducible refine St.whenTF ?_ | with_reducible refine St.whenFF ?_ | with_reducible refine St.pickT ?_ | with_reducible refine St.pickF ?_ | refine St.load1P (.int .i64 n) hR hnx rfl ?_))
            exact hno true (by rw [hres, bitTest]; exact decide_eq_true q5)
          · (repeat (first | with_reducible refine St.nextOf ?_ | with_reducible refine St.pure ?_ | with_reducible refine St.fldP ?_ | with_reducible refine St.nilckP ?_ | with_reducible refine St.lwhenTT ?_ | with_reducible refine St.lwhenFT ?_ | with_reducible refine St.whenTT ?_ | with_reducible refine St.whenFT ?_ | with_reducible refine St.whenTF ?_ | with_reducible refine St.whenFF ?_ | with_reducible refine St.pickT ?_ | with_reducible refine St.pickF ?_ | refine St.load1P (.int .i64 n) hR hnx rfl ?_))
            exact hno false (by rw [hres, bitTest]; exact decide_eq_false (fun h => h q5))
        · (repeat (first | with_reducible refine St.nextOf ?_ | with_reducible refine St.pure ?_ | with_reducible refine St.fldP ?_ | with_reducible refine St.nilckP ?_ | with_reducible refine St.lwhenTT ?_ | with_reducible refine St.lwhenFT ?_ | with_reducible refine St.whenTT ?_ | with_reducible refine St.whenFT ?_ | with_reducible refine St.whenTF ?_ | with_reducible refine St.whenFF ?_ | with_reducible refine St.pickT ?_ | with_reducible refine St.pickF ?_ | refine St.load1P (.int .i64 n) hR hnx rfl ?_))
          exact hno false (by unfold hasR; simp; omega)
      · (repeat (first | with_reducible refine St.nextOf ?_ | with_reducible refine St.pure ?_ | with_reducible refine St.fldP ?_ | with_reducible refine St.nilckP ?_ | with_reducible refine St.lwhenTT ?_ | with_reducible refine St.lwhenFT ?_ | with_reducible refine St.whenTT ?_ | with_reducible refine St.whenFT ?_ | with_reducible refine St.whenTF ?_ | with_reducible refine St.whenFF ?_ | with_reducible refine St.pickT ?_ | with_reducible refine St.pickF ?_ | refine St.load1P (.int .i64 n) hR hnx rfl ?_))
        exact hno false (by unfold hasR; simp; omega)
    · (repeat (first | with_reducible refine St.nextOf ?_ | with_reducible refine St.pure ?_ | with_reducible refine St.fldP ?_ | with_reducible refine St.nilckP ?_ | with_reducible refine St.lwhenTT ?_ | with_reducible refine St.lwhenFT ?_ | with_reducible refine St.whenTT ?_ | with_reducible refine St.whenFT ?_ | with_reducible refine St.whenTF ?_ | with_reducible refine St.whenFF ?_ | with_reducible refine St.pickT ?_ | with_reducible refine St.pickF ?_ | refine St.load1P (.int .i64 n) hR hnx rfl ?_))
      exact hno false (by unfold hasR; simp; omega)
  · (repeat (first | with_reducible refine St.nextOf ?_ | with_reducible refine St.pure ?_ | with_reducible refine St.fldP ?_ | with_reducible refine St.nilckP ?_ | with_reducible refine St.lwhenTT ?_ | with_reducible refine St.lwhenFT ?_ | with_reducible refine St.whenTT ?_ | with_reducible refine St.whenFT ?_ | with_reducible refine St.whenTF ?_ | with_reducible refine St.whenFF ?_ | with_reducible refine St.pickT ?_ | with_reducible refine St.pickF ?_ | refine St.load1P (.int .i64 n) hR hnx rfl ?_))
    exact hno false (by unfold hasR; simp; omega)

def IsB (hp : Th Blk) (b : Nat) (k : Blk) (hp' : Th Blk) : Prop := ∀ i, hp'.get i = if i = b then some k else hp.get i
theorem IsB.put {hp hp' : Th Blk} {b : Nat} {c : Blk} (h : IsB hp b c hp') (c' : Blk) : IsB hp b c' (hp'.put c' b) := fun i => by
  rw [Ev.getPut]
  by_cases e : i = b
  · rw [if_pos e, if_pos e]
  · rw [if_neg e, if_neg e, h i, if_neg e]
theorem IsB.get {hp hp' : Th Blk} {b : Nat} {c : Blk} (h : IsB hp b c hp') : hp'.get b = some c := by rw [h b, if_pos rfl]
def plusStep (b : Nat) (ts : List Nat) (a : Nat) : List Nat := if ((ts[a]?).getD 0).testBit b then ts.set a (((ts[a]?).getD 0) ||| ((ts[b]?).getD 0)) else ts
def plusRow (n : Nat) (ts : List Nat) (b : Nat) : List Nat := (List.range n).foldl (plusStep b) ts
def plusRows (n : Nat) (ts : List Nat) : List Nat := (List.range n).foldl (plusRow n) ts
/-- A relation's rows. -/
def OkRows (ts : List Nat) : Prop := ts.length = 40 ∧ ∀ x ∈ ts, x < 18446744073709551616
theorem OkRows.getD {ts : List Nat} (h : OkRows ts) (i : Nat) : (ts[i]?).getD 0 < 18446744073709551616 := by
  cases e : ts[i]? with
  | none => decide
  | some x => exact h.2 x (List.mem_of_getElem? e)
theorem OkRows.set {ts : List Nat} (h : OkRows ts) (i x : Nat) (hx : x < 18446744073709551616) : OkRows (ts.set i x) := ⟨by simp [h.1], fun y hy => by
  rcases List.mem_or_eq_of_mem_set hy with hy | hy
  · exact h.2 y hy
  · rw [hy]; exact hx⟩
theorem OkRows.step {ts : List Nat} (h : OkRows ts) (b a : Nat) : OkRows (plusStep b ts a) := by
  unfold plusStep
  split
  · exact h.set _ _ (Nat.or_lt_two_pow (n := 64) (h.getD a) (h.getD b))
  · exact h
theorem OkRows.row {ts : List Nat} (h : OkRows ts) (n b : Nat) : OkRows (plusRow n ts b) := by
  unfold plusRow
  have key : ∀ (l : List Nat) (ts : List Nat), OkRows ts → OkRows (l.foldl (plusStep b) ts) := fun l => by
    induction l with
    | nil => intro ts h; exact h
    | cons a l ih => intro ts h; exact ih _ (h.step b a)
  exact key _ _ h
theorem OkRows.rows {ts : List Nat} (h : OkRows ts) (n m : Nat) : OkRows ((List.range m).foldl (plusRow n) ts) := by
  have key : ∀ (l : List Nat) (ts : List Nat), OkRows ts → OkRows (l.foldl (plusRow n) ts) := fun l => by
    induction l with
    | nil => intro ts h; exact h
    | cons a l ih => intro ts h; exact ih _ (h.row n a)
  exact key _ _ h
theorem fold_next {α : Type} (f : α → Nat → α) (x : α) (n : Nat) : (List.range (n + 1)).foldl f x = f ((List.range n).foldl f x) n := by rw [List.range_succ, List.foldl_append]; rfl

theorem callHasP {R : Type} {Q : Option R → Prop} {Θ : Orc} {T : Uh FnD} {m : Nat} (hT : T.get 96 = some d96) (ho : ∀ vs, Θ.call 96 vs = none) {K : V → H → Option R} (n : Nat) (rs : List Nat) (a b : Int) (hn : n ≤ 40) (hr : OkRows rs) {hp : Th Blk} {nx t : Nat} {log : List (Nat × Bool)} {w : Bool} {y : Nat}
    (hR : hp.get t = some (.cells (relC n rs) w y)) (hnx : t < nx) (q : Q (K (.bool (hasR n rs a b)) ⟨hp, nx, false, log⟩)) : Q (J.call (callD Θ T (m + 1)) (.fn (.func 96) [] []) [.ptr t 0, .int .i64 a, .int .i64 b] R ⟨hp, nx, false, log⟩ K) :=
  St.call hT (ho _) (has_ptr n rs a b hn hr.1 hr.2 hR hnx q)
theorem plus_eq {R : Type} {Θ : Orc} {T : Uh FnD} {m : Nat} (hT : T.get 96 = some d96) (ho : ∀ vs, Θ.call 96 vs = none) (K : V → H → Option R) (n : Nat) (rs : List Nat) (hn : n ≤ 40) (hr : OkRows rs) (hp : Th Blk) (nx : Nat) (log : List (Nat × Bool)) (hfree : hp.get nx = none) :
    ∃ hp', IsB hp nx (.cells (relC n (plusRows n rs)) true 181) hp' ∧ c137 (callD Θ T (m + 1)) [relV n rs] R ⟨hp, nx, false, log⟩ K = K (.ptr nx 0) ⟨hp', nx + 1, false, log⟩ := by
  generalize hQ : (fun r : Option R => ∃ hp', IsB hp nx (.cells (relC n (plusRows n rs)) true 181) hp' ∧ r = K (.ptr nx 0) ⟨hp', nx + 1, false, log⟩) = Q
  suffices h : Q (c137 (callD Θ T (m + 1)) [relV n rs] R ⟨hp, nx, false, log⟩ K) by rw [← hQ] at h; exact h
  have hlen : (relC n rs).length = 41 := by simp [relC, hr.1]
  have hcells : List.take 41 (V.int .i64 (n : Int) :: rs.map fun x : Nat => V.int .u64 (x : Int)) = relC n rs := List.take_of_length_le (by show (relC n rs).length ≤ 41; omega)
  have hone : allOne (relC n rs) = true := by
    have : ∀ l : List Nat, allOne (l.map fun x : Nat => V.int .u64 (x : Int)) = true := fun l => by
      induction l with
      | nil => rfl
      | cons x l ih => rw [List.map_cons, allOne_cons, ih]; rfl
    unfold relC
    rw [allOne_cons, this]; rfl
  unfold c137
  refine St.hd (St.en (St.nilckV (St.loadNV (by show 41 ≤ (relC n rs).length; omega) (St.newT hfree ?_))))
  rw [hcells]
  refine St.storeN (by rw [Ev.getPut, if_pos rfl]) (Nat.lt_succ_self nx) hlen (by simp) hone (St.nilckV (St.fldV (St.load1V (.int .i64 n) rfl ?_)))
  refine Ev.loop4 (I := fun d x1 x2 x3 x4 h => ∃ (b : Nat) (hp' : Th Blk), b + d = n ∧ x1 = relV n rs ∧ x2 = .ptr nx 0 ∧ x3 = .int .i64 n ∧ x4 = .int .i64 b ∧ h = ⟨hp', nx + 1, false, log⟩ ∧ IsB hp nx (.cells (relC n ((List.range b).foldl (plusRow n) rs)) true 181) hp') ?_ n (by omega)
    ⟨0, _, Nat.zero_add n, rfl, rfl, rfl, rfl, rfl, ?_⟩
  · rintro d k x1 x2 x3 x4 h ⟨b, hp', e1, rfl, rfl, rfl, rfl, rfl, his⟩ hk
    have hok1 := hr.rows n b
    refine St.lss (fun c => St.condT ?_) (fun c => St.condF ?_)
    · refine St.nilckV (St.fldV (St.load1V (.int .i64 n) rfl ?_))
      refine Ev.loop7 (I := fun d' y1 y2 y3 y4 y5 y6 y7 h => ∃ (a : Nat) (hp' : Th Blk), a + d' = n ∧ y1 = relV n rs ∧ y2 = .ptr nx 0 ∧ y3 = .int .i64 b ∧ y4 = .int .i64 n ∧ y5 = .int .i64 b ∧ y6 = .int .i64 n ∧ y7 = .int .i64 a ∧ h = ⟨hp', nx + 1, false, log⟩ ∧
          IsB hp nx (.cells (relC n ((List.range a).foldl (plusStep b) ((List.range b).foldl (plusRow n) rs))) true 181) hp') ?_ n (by omega)
        ⟨0, hp', Nat.zero_add n, rfl, rfl, rfl, rfl, rfl, rfl, rfl, rfl, his⟩
      clear his hp'
      rintro d' k' y1 y2 y3 y4 y5 y6 y7 h ⟨a, hp', e2, rfl, rfl, rfl, rfl, rfl, rfl, rfl, rfl, his⟩ hk'
      have hok2 : OkRows ((List.range a).foldl (plusStep b) ((List.range b).foldl (plusRow n) rs)) := by
        have key : ∀ (l : List Nat) (ts : List Nat), OkRows ts → OkRows (l.foldl (plusStep b) ts) := fun l => by
          induction l with
          | nil => intro ts h; exact h
          | cons a l ih => intro ts h; exact ih _ (h.step b a)
        exact key _ _ hok1
      refine St.lss (fun c2 => St.condT ?_) (fun c2 => St.condF ?_)
      · have ha : a < 40 := by omega
        have hb : b < 40 := by omega
        have hnx : nx < nx + 1 := Nat.lt_succ_self nx
        have hnext : ∀ hp2, IsB hp nx (.cells (relC n ((List.range (a + 1)).foldl (plusStep b) ((List.range b).foldl (plusRow n) rs))) true 181) hp2 → Q (k' (relV n rs) (.ptr nx 0) (.int .i64 b) (.int .i64 n) (.int .i64 b) (.int .i64 n) (.int .i64 ((a : Int) + 1)) ⟨hp2, nx + 1, false, log⟩) :=
          fun hp2 his2 => hk' (d' - 1) _ _ _ _ _ _ _ _ (by omega) ⟨a + 1, hp2, by omega, rfl, rfl, rfl, rfl, rfl, rfl, by simp, rfl, his2⟩
        rw [fold_next] at hnext
        generalize (List.range a).foldl (plusStep b) ((List.range b).foldl (plusRow n) rs) = ts at *
        obtain ⟨x, hxa⟩ : ∃ x, ts[a]? = some x := ⟨ts[a]'(by rw [hok2.1]; exact ha), List.getElem?_eq_getElem (by rw [hok2.1]; exact ha)⟩
        obtain ⟨y, hyb⟩ : ∃ y, ts[b]? = some y := ⟨ts[b]'(by rw [hok2.1]; exact hb), List.getElem?_eq_getElem (by rw [hok2.1]; exact hb)⟩
        have hx1 := hok2.2 x (List.mem_of_getElem? hxa)
        have hy1 := hok2.2 y (List.mem_of_getElem? hyb)
        refine callHasP hT ho n ts _ _ hn hok2 his.get hnx ?_
        have hres : hasR n ts (a : Int) (b : Int) = x.testBit b := by unfold hasR; simp [c, c2, hxa]
        rw [hres]
        refine St.join (St.condB (fun cb => ?_) (fun cb => ?_))
        · refine St.nextOf (St.fldP (St.idxAP a rfl ha (St.lload1P (.int .u64 (x : Nat)) his.get hnx (by simp [relC, hxa, Nat.add_comm]) (St.fldP (St.idxAP b rfl hb (St.lload1P (.int .u64 (y : Nat)) his.get hnx (by simp [relC, hyb, Nat.add_comm]) ?_))))))
          refine St.orU hx1 hy1 (St.fldP (St.idxAP a rfl ha (St.lstore1 his.get hnx (by simp [relC, hok2.1]; omega) rfl (St.okP (St.psC rfl rfl (St.clashR rfl rfl rfl) St.ps0) ?_))))
          refine St.add ((a : Int) + 1) rfl (by omega) (by omega) (hnext _ ?_)
          have hset : (relC n ts).set (0 + 1 + a * 1) (.int .u64 ((x ||| y : Nat) : Int)) = relC n (plusStep b ts a) := by
            unfold plusStep
            rw [hxa, hyb]
            simp only [Option.getD_some]
            rw [if_pos cb]
            unfold relC
            rw [show 0 + 1 + a * 1 = a + 1 by omega, List.set_cons_succ, List.map_set]
          rw [← hset]
          exact his.put _
        · refine St.add ((a : Int) + 1) rfl (by omega) (by omega) (hnext _ ?_)
          have : plusStep b ts a = ts := by unfold plusStep; rw [hxa]; simp only [Option.getD_some]; rw [cb]; rfl
          rw [this]; exact his
      · refine St.add ((b : Int) + 1) rfl (by omega) (by omega) (hk (d - 1) _ _ _ _ _ (by omega) ⟨b + 1, hp', by omega, rfl, rfl, rfl, by simp, rfl, ?_⟩)
        have : a = n := by omega
        rw [fold_next]; rw [this] at his; exact his
    · have : b = n := by omega
      subst this
      rw [← hQ]
      exact ⟨hp', his, rfl⟩
  · intro i
    rw [Ev.getPut, Ev.getPut]
    by_cases hi : i = nx
    · rw [if_pos hi, if_pos hi]
      show some (Blk.cells ([] ++ (relC n rs ++ [])) true 181) = _
      rw [List.nil_append, List.append_nil]; rfl
    · rw [if_neg hi, if_neg hi, if_neg hi]
end

noncomputable section
variable [Nu]
def maybeStep (ts : List Nat) (a : Nat) : List Nat := ts.set a (((ts[a]?).getD 0) ||| 2 ^ a)
def maybeRows (n : Nat) (ts : List Nat) : List Nat := (List.range n).foldl maybeStep ts
theorem OkRows.maybe {ts : List Nat} (h : OkRows ts) : ∀ n, n ≤ 40 → OkRows ((List.range n).foldl maybeStep ts)
  | 0, _ => h
  | n + 1, hn => by
    rw [fold_next]
    have ih := OkRows.maybe h n (by omega)
    exact ih.set _ _ (Nat.or_lt_two_pow (n := 64) (ih.getD n) (Nat.pow_lt_pow_right (by decide) (by omega)))
theorem relC_len {n : Nat} {rs : List Nat} (h : OkRows rs) : (relC n rs).length = 41 := by simp [relC, h.1]
theorem relC_one (n : Nat) (rs : List Nat) : allOne (relC n rs) = true := by
  have : ∀ l : List Nat, allOne (l.map fun x : Nat => V.int .u64 (x : Int)) = true := fun l => by
    induction l with
    | nil => rfl
    | cons x l ih => rw [List.map_cons, allOne_cons, ih]; rfl
  unfold relC
  rw [allOne_cons, this]; rfl
theorem relC_set (n : Nat) (ts : List Nat) (a x : Nat) : (relC n ts).set (0 + 1 + a * 1) (.int .u64 (x : Int)) = relC n (ts.set a x) := by
  unfold relC
  rw [show 0 + 1 + a * 1 = a + 1 by omega, List.set_cons_succ, List.map_set]
theorem maybe_eq {R : Type} {F : CallF} (K : V → H → Option R) (n : Nat) (rs : List Nat) (hn : n ≤ 40) (hr : OkRows rs) (hp : Th Blk) (nx : Nat) (log : List (Nat × Bool)) (hfree : hp.get nx = none) :
    ∃ hp', IsB hp nx (.cells (relC n (maybeRows n rs)) true 181) hp' ∧ c177 F [relV n rs] R ⟨hp, nx, false, log⟩ K = K (.ptr nx 0) ⟨hp', nx + 1, false, log⟩ := by
  generalize hQ : (fun r : Option R => ∃ hp', IsB hp nx (.cells (relC n (maybeRows n rs)) true 181) hp' ∧ r = K (.ptr nx 0) ⟨hp', nx + 1, false, log⟩) = Q
  suffices h : Q (c177 F [relV n rs] R ⟨hp, nx, false, log⟩ K) by rw [← hQ] at h; exact h
  have hlen := relC_len (n := n) hr
  have hcells : List.take 41 (V.int .i64 (n : Int) :: rs.map fun x : Nat => V.int .u64 (x : Int)) = relC n rs := List.take_of_length_le (by show (relC n rs).length ≤ 41; omega)
  unfold c177
  refine St.hd (St.en (St.nilckV (St.loadNV (by show 41 ≤ (relC n rs).length; omega) (St.newT hfree ?_))))
  rw [hcells]
  refine St.storeN (by rw [Ev.getPut, if_pos rfl]) (Nat.lt_succ_self nx) hlen (by simp) (relC_one n rs) (St.nilckV (St.fldV (St.load1V (.int .i64 n) rfl ?_)))
  have hnx : nx < nx + 1 := Nat.lt_succ_self nx
  refine Ev.loop3 (I := fun d x1 x2 x3 h => ∃ (a : Nat) (hp' : Th Blk), a + d = n ∧ x1 = .ptr nx 0 ∧ x2 = .int .i64 n ∧ x3 = .int .i64 a ∧ h = ⟨hp', nx + 1, false, log⟩ ∧ IsB hp nx (.cells (relC n ((List.range a).foldl maybeStep rs)) true 181) hp') ?_ n (by omega)
    ⟨0, _, Nat.zero_add n, rfl, rfl, rfl, rfl, ?_⟩
  · rintro d k x1 x2 x3 h ⟨a, hp', e1, rfl, rfl, rfl, rfl, his⟩ hk
    refine St.lss (fun c => St.condT ?_) (fun c => St.condF ?_)
    · have ha : a < 40 := by omega
      have hok := hr.maybe a (by omega)
      have hnext : ∀ hp2, IsB hp nx (.cells (relC n ((List.range (a + 1)).foldl maybeStep rs)) true 181) hp2 → Q (k (.ptr nx 0) (.int .i64 n) (.int .i64 ((a : Int) + 1)) ⟨hp2, nx + 1, false, log⟩) :=
        fun hp2 h2 => hk (d - 1) _ _ _ _ (by omega) ⟨a + 1, hp2, by omega, rfl, rfl, by simp, rfl, h2⟩
      rw [fold_next] at hnext
      generalize (List.range a).foldl maybeStep rs = ts at *
      obtain ⟨x, hxa⟩ : ∃ x, ts[a]? = some x := ⟨ts[a]'(by rw [hok.1]; exact ha), List.getElem?_eq_getElem (by rw [hok.1]; exact ha)⟩
      have hx1 := hok.2 x (List.mem_of_getElem? hxa)
      have hpow : 1 * 2 ^ a < 18446744073709551616 := by rw [Nat.one_mul]; exact Nat.pow_lt_pow_right (n := 64) (by decide) (by omega)
      refine St.nextOf (St.fldP (St.idxAP a rfl ha (St.lload1P (.int .u64 (x : Nat)) his.get hnx (by simp [relC, hxa, Nat.add_comm]) (St.shlU (x := 1) (m := a) (by omega) rfl hpow ?_))))
      refine St.orU hx1 hpow (St.fldP (St.idxAP a rfl ha (St.lstore1 his.get hnx (by rw [relC_len hok]; omega) rfl (St.okP rfl ?_))))
      refine St.add ((a : Int) + 1) rfl (by omega) (by omega) (hnext _ ?_)
      have : maybeStep ts a = ts.set a (x ||| 1 * 2 ^ a) := by unfold maybeStep; rw [hxa, Nat.one_mul]; rfl
      rw [this, ← relC_set]
      exact his.put _
    · have : a = n := by omega
      subst this
      rw [← hQ]
      exact ⟨hp', his, rfl⟩
  · intro i
    rw [Ev.getPut, Ev.getPut]
    by_cases hi : i = nx
    · rw [if_pos hi, if_pos hi]
      show some (Blk.cells ([] ++ (relC n rs ++ [])) true 181) = _
      rw [List.nil_append, List.append_nil]; rfl
    · rw [if_neg hi, if_neg hi, if_neg hi]
end

noncomputable section
variable [Nu]
/-- Events, as cells: the thread, and five cells more. -/
def evCells (es : List (Int × List V)) : List V := es.flatMap fun e => V.int .i64 e.1 :: e.2
def OkEv (es : List (Int × List V)) : Prop := ∀ e ∈ es, e.2.length = 5 ∧ allOne e.2 = true
theorem evCells_len : ∀ es : List (Int × List V), OkEv es → (evCells es).length = es.length * 6
  | [], _ => rfl
  | e :: es, h => by
    show ((V.int .i64 e.1 :: e.2) ++ evCells es).length = _
    rw [List.length_append, evCells_len es fun x hx => h x (List.mem_cons_of_mem _ hx), List.length_cons, (h e List.mem_cons_self).1, List.length_cons]
    omega
theorem evCells_drop : ∀ (es : List (Int × List V)) (i : Nat) (e : Int × List V), OkEv es → es[i]? = some e → ((evCells es).drop (i * 6)).take 6 = V.int .i64 e.1 :: e.2
  | [], i, e, h, h0 => nomatch h0
  | x :: es, 0, e, h, h0 => by
    simp only [List.getElem?_cons_zero, Option.some.injEq] at h0
    subst h0
    show (((V.int .i64 x.1 :: x.2) ++ evCells es).drop (0 * 6)).take 6 = _
    rw [Nat.zero_mul, List.drop_zero, List.take_append_of_le_length (by simp [(h x List.mem_cons_self).1])]
    exact List.take_of_length_le (by simp [(h x List.mem_cons_self).1])
  | x :: es, i + 1, e, h, h0 => by
    show (((V.int .i64 x.1 :: x.2) ++ evCells es).drop ((i + 1) * 6)).take 6 = _
    have hl : (V.int .i64 x.1 :: x.2).length = 6 := by simp [(h x List.mem_cons_self).1]
    rw [List.drop_append, List.drop_eq_nil_of_le (by omega), List.nil_append, hl, show (i + 1) * 6 - 6 = i * 6 by omega]
    exact evCells_drop es i e (fun y hy => h y (List.mem_cons_of_mem _ hy)) h0
def poHas (x y : Int) (a b : Nat) : Bool := (decide (x = 0) && decide (y ≠ 0)) || (decide (x = y) && decide (x ≠ 0) && decide (a < b))
def thOf (es : List (Int × List V)) (i : Nat) : Int := ((es[i]?).map (·.1)).getD 0
def poRow (es : List (Int × List V)) (a b : Nat) : List (Int × Int) := (List.range b).flatMap fun j => if poHas (thOf es a) (thOf es j) a j then [((a : Int), (j : Int))] else []
def poPairs (es : List (Int × List V)) (a b : Nat) : List (Int × Int) := ((List.range a).flatMap fun i => poRow es i es.length) ++ poRow es a b
theorem poRow_succ (es : List (Int × List V)) (a b : Nat) : poRow es a (b + 1) = poRow es a b ++ (if poHas (thOf es a) (thOf es b) a b then [((a : Int), (b : Int))] else []) := by
  unfold poRow; rw [List.range_succ, List.flatMap_append]; simp
theorem poPairs_next (es : List (Int × List V)) (a : Nat) : poPairs es a es.length = poPairs es (a + 1) 0 := by
  unfold poPairs
  rw [List.range_succ, List.flatMap_append]
  simp [poRow]
theorem poPairs_succ (es : List (Int × List V)) (a b : Nat) : poPairs es a (b + 1) = poPairs es a b ++ (if poHas (thOf es a) (thOf es b) a b then [((a : Int), (b : Int))] else []) := by
  unfold poPairs; rw [poRow_succ, List.append_assoc]
theorem pairCells_snoc (ps : List (Int × Int)) (p : Int × Int) : pairCells (ps ++ [p]) = pairCells ps ++ [.int .i64 p.1, .int .i64 p.2] := by
  unfold pairCells; rw [List.flatMap_append]; simp
theorem pairCells_one : ∀ ps : List (Int × Int), allOne (pairCells ps) = true
  | [] => rfl
  | p :: ps => by
    show allOne (V.int .i64 p.1 :: V.int .i64 p.2 :: pairCells ps) = true
    rw [allOne_cons, allOne_cons, pairCells_one ps]; rfl
/-- graph.Of: pairs that append has made. -/
theorem of_own {R : Type} {Q : Option R → Prop} {Θ : Orc} {T : Uh FnD} {m : Nat} (hT : T.get 144 = some d144) (ho : ∀ vs, Θ.call 144 vs = none) (K : V → H → Option R) (ev c0 : V) (cs : List V) (n : Nat) (hone : allOne (c0 :: ev :: cs) = true) (hlen : ∀ (h : H) (K' : V → H → Option R), Q (K' (.int .i64 (n : Int)) h) → Q (J.lenL ev R h K'))
    (ps : List (Int × Int)) (hps : ps.length < 100000) (hp : Th Blk) (nx y : Nat) (v : V) (log : List (Nat × Bool)) (hfree : ∀ i, nx ≤ i → hp.get i = none) (hS : St.Sl hp nx 2 y v (pairCells ps))
    (q : ∀ hp' nx', hp'.get (nx + 1) = some (.cells (relC (sizeN n) (newRows (sizeN n) ps)) true 0) → (∀ i, i < nx → hp'.get i = hp.get i) → (∀ i, nx' ≤ i → hp'.get i = none) → nx + 1 < nx' → Q (K (.ptr (nx + 1) 0) ⟨hp', nx', false, log⟩)) : Q (c100 (callD Θ T (m + 1)) [.agg (c0 :: ev :: cs), v] R ⟨hp, nx, false, log⟩ K) := by
  unfold c100
  refine St.hd (St.hd (St.en (St.box hone (hfree nx (Nat.le_refl _)) (St.fldP (St.load1P (c := c0 :: ev :: cs) (w := true) (y := 0) ev (by rw [Ev.getPut, if_pos rfl]; rfl) (Nat.lt_succ_self nx) rfl (hlen _ _ (St.call hT (ho _) ?_)))))))
  refine new_own _ (n : Int) ps hps _ (nx + 1) y v log (fun i hi => by rw [Ev.getPut, if_neg (by omega)]; exact hfree i (by omega)) ?_ (fun hp' h1 h2 h3 => ?_)
  · rcases hS with h | ⟨b, k, h1, h2, h3, h4, h5⟩
    · exact .inl h
    · exact .inr ⟨b, k, h1, by rw [Ev.getPut, if_neg (by omega)]; exact h2, h3, by omega, h5⟩
  · exact q hp' _ h1 (fun i hi => by rw [h2 i (by omega), Ev.getPut, if_neg (by omega)]) h3 (by omega)

theorem po_eq {R : Type} {Q : Option R → Prop} {Θ : Orc} {T : Uh FnD} {m : Nat} (hT : T.get 144 = some d144) (hT' : T.get 100 = some d100) (ho : ∀ vs, Θ.call 144 vs = none) (ho' : ∀ vs, Θ.call 100 vs = none) (K : V → H → Option R) (c0 : V) (cs : List V) (hcs : cs.length = 6) (es : List (Int × List V)) (hes : OkEv es) (hn : es.length ≤ 60) (hone : allOne (c0 :: .bigs 6 (evCells es) (.int .i64 es.length) :: cs) = true)
    (hp : Th Blk) (nx : Nat) (log : List (Nat × Bool)) (hfree : ∀ i, nx ≤ i → hp.get i = none)
    (q : ∀ hp' nx' r, hp'.get r = some (.cells (relC (sizeN es.length) (newRows (sizeN es.length) (poPairs es es.length 0))) true 0) → (∀ i, i < nx → hp'.get i = hp.get i) → (∀ i, nx' ≤ i → hp'.get i = none) → nx ≤ r → r < nx' → Q (K (.ptr r 0) ⟨hp', nx', false, log⟩)) :
    Q (c135 (callD Θ T (m + 2)) [.agg (c0 :: .bigs 6 (evCells es) (.int .i64 es.length) :: cs)] R ⟨hp, nx, false, log⟩ K) := by
  have hlenE := evCells_len es hes
  unfold c135
  refine St.hd (St.en (St.box hone (hfree nx (Nat.le_refl _)) (St.fldP (St.load1P (c := c0 :: .bigs 6 (evCells es) (.int .i64 es.length) :: cs) (w := true) (y := 0) (.bigs 6 (evCells es) (.int .i64 es.length)) (by rw [Ev.getPut, if_pos rfl]; rfl) (Nat.lt_succ_self nx) rfl (St.lenLB ?_)))))
  generalize hg : c0 :: V.bigs 6 (evCells es) (.int .i64 es.length) :: cs = gc at *
  -- ahead of place (a, b): what is there
  let Inv (a b : Nat) (v : V) (hp' : Th Blk) (nx' : Nat) : Prop := hp'.get nx = some (.cells gc true 0) ∧ St.Sl hp' nx' 2 129 v (pairCells (poPairs es a b)) ∧ (poPairs es a b).length ≤ a * es.length + b ∧ (∀ i, i < nx → hp'.get i = hp.get i) ∧ (∀ i, nx' ≤ i → hp'.get i = none) ∧ nx < nx' ∧ ∀ i c, v = .slice i 0 c 2 none → nx < i
  refine Ev.loop5 (I := fun d x1 x2 x3 x4 x5 h => ∃ (a : Nat) (hp' : Th Blk) (nx' : Nat), a + d = es.length ∧ x1 = .ptr nx 0 ∧ x3 = .bigs 6 (evCells es) (.int .i64 es.length) ∧ x4 = .int .i64 es.length ∧ x5 = .int .i64 a ∧ h = ⟨hp', nx', false, log⟩ ∧ Inv a 0 x2 hp' nx') ?_ es.length (by omega)
    ⟨0, _, _, Nat.zero_add _, rfl, rfl, rfl, rfl, rfl, by rw [Ev.getPut, if_pos rfl]; rfl, .inl ⟨rfl, by simp [poPairs, poRow, pairCells]⟩, by simp [poPairs, poRow], fun i hi => by rw [Ev.getPut, if_neg (by omega)], fun i hi => by rw [Ev.getPut, if_neg (by omega)]; exact hfree i (by omega), Nat.lt_succ_self nx, fun i c h => nomatch h⟩
  rintro d k x1 x2 x3 x4 x5 h ⟨a, hp', nx', e1, rfl, rfl, rfl, rfl, rfl, hG, hS, hlen, hlow, hhi, hlt, hown⟩ hk
  refine St.lss (fun c => St.condT ?_) (fun c => St.condF ?_)
  · have ha : a < es.length := by omega
    obtain ⟨ea, hea⟩ : ∃ e, es[a]? = some e := ⟨es[a], List.getElem?_eq_getElem ha⟩
    have hta : thOf es a = ea.1 := by unfold thOf; rw [hea]; rfl
    have hokA := hes ea (List.mem_of_getElem? hea)
    refine St.idxLB a rfl (by decide) (by rw [hlenE]; omega) (St.loadNV (by rw [List.length_drop, hlenE]; omega) ?_)
    rw [evCells_drop es a ea hes hea]
    refine St.newT (hhi _ (Nat.le_refl _)) (St.storeN (by rw [Ev.getPut, if_pos rfl]) (Nat.lt_succ_self _) (by simp [V.cells, hokA.1]) (by simp) (by show allOne (V.int .i64 ea.1 :: ea.2) = true; rw [allOne_cons, hokA.2]; rfl) ?_)
    refine St.fldP (St.load1P (.bigs 6 (evCells es) (.int .i64 es.length)) (by rw [Ev.getPut, if_neg (by omega), Ev.getPut, if_neg (by omega)]; exact hG) (by omega) (by rw [← hg]; rfl) (St.lenLB ?_))
    -- the event at hand lies in a block of its own
    have hrest : ∃ r, [V.int .i64 0, V.int .i64 0, V.int .i64 0, V.int .i64 0, V.int .i64 0, V.bool false].take 0 ++ ((V.agg (V.int .i64 ea.1 :: ea.2)).cells ++ [V.int .i64 0, V.int .i64 0, V.int .i64 0, V.int .i64 0, V.int .i64 0, V.bool false].drop (0 + 6)) = V.int .i64 ea.1 :: r := ⟨ea.2 ++ [], rfl⟩
    obtain ⟨restA, hrA⟩ := hrest
    rw [hrA]
    generalize hhp1 : (hp'.put (Blk.cells [V.int .i64 0, V.int .i64 0, V.int .i64 0, V.int .i64 0, V.int .i64 0, V.bool false] true 88) nx').put (Blk.cells (V.int .i64 ea.1 :: restA) true 88) nx' = hp1
    have hX1 : hp1.get nx' = some (.cells (V.int .i64 ea.1 :: restA) true 88) := by rw [← hhp1, Ev.getPut, if_pos rfl]
    have hold1 : ∀ i, i ≠ nx' → hp1.get i = hp'.get i := fun i hi => by rw [← hhp1, Ev.getPut, if_neg hi, Ev.getPut, if_neg hi]
    refine Ev.loop10 (I := fun d' y1 y2 y3 y4 y5 y6 y7 y8 y9 y10 h => ∃ (b : Nat) (hp2 : Th Blk) (nx2 : Nat), b + d' = es.length ∧ y1 = .ptr nx 0 ∧ y3 = .int .i64 a ∧ y4 = .ptr nx' 0 ∧ y5 = .bigs 6 (evCells es) (.int .i64 es.length) ∧ y6 = .int .i64 es.length ∧ y7 = .int .i64 a ∧ y8 = .bigs 6 (evCells es) (.int .i64 es.length) ∧ y9 = .int .i64 es.length ∧ y10 = .int .i64 b ∧ h = ⟨hp2, nx2, false, log⟩ ∧
        Inv a b y2 hp2 nx2 ∧ hp2.get nx' = some (.cells (V.int .i64 ea.1 :: restA) true 88) ∧ nx' < nx2 ∧ ∀ i c, y2 = .slice i 0 c 2 none → i ≠ nx') ?_ es.length (by omega)
      ⟨0, hp1, nx' + 1, Nat.zero_add _, rfl, rfl, rfl, rfl, rfl, rfl, rfl, rfl, rfl, rfl, ⟨by rw [hold1 _ (by omega)]; exact hG, ?_, hlen, fun i hi => by rw [hold1 _ (by omega)]; exact hlow i hi, fun i hi => by rw [hold1 _ (by omega)]; exact hhi i (by omega), by omega, hown⟩, hX1, Nat.lt_succ_self _, fun i c h => ?_⟩
    · rintro d' k' y1 y2 y3 y4 y5 y6 y7 y8 y9 y10 h ⟨b, hp2, nx2, e2, rfl, rfl, rfl, rfl, rfl, rfl, rfl, rfl, rfl, rfl, ⟨hG2, hS2, hlen2, hlow2, hhi2, hlt2, hown2⟩, hX2, hxlt, hne2⟩ hk'
      refine St.lss (fun c2 => St.condT ?_) (fun c2 => St.condF ?_)
      · have hb : b < es.length := by omega
        obtain ⟨eb, heb⟩ : ∃ e, es[b]? = some e := ⟨es[b], List.getElem?_eq_getElem hb⟩
        have htb : thOf es b = eb.1 := by unfold thOf; rw [heb]; rfl
        have hokB := hes eb (List.mem_of_getElem? heb)
        refine St.idxLB b rfl (by decide) (by rw [hlenE]; omega) (St.loadNV (by rw [List.length_drop, hlenE]; omega) ?_)
        rw [evCells_drop es b eb hes heb]
        refine St.newT (hhi2 _ (Nat.le_refl _)) (St.storeN (by rw [Ev.getPut, if_pos rfl]) (Nat.lt_succ_self _) (by simp [V.cells, hokB.1]) (by simp) (by show allOne (V.int .i64 eb.1 :: eb.2) = true; rw [allOne_cons, hokB.2]; rfl) ?_)
        have hrest : ∃ r, [V.int .i64 0, V.int .i64 0, V.int .i64 0, V.int .i64 0, V.int .i64 0, V.bool false].take 0 ++ ((V.agg (V.int .i64 eb.1 :: eb.2)).cells ++ [V.int .i64 0, V.int .i64 0, V.int .i64 0, V.int .i64 0, V.int .i64 0, V.bool false].drop (0 + 6)) = V.int .i64 eb.1 :: r := ⟨eb.2 ++ [], rfl⟩
        obtain ⟨restB, hrB⟩ := hrest
        rw [hrB]
        generalize hhp3 : (hp2.put (Blk.cells [V.int .i64 0, V.int .i64 0, V.int .i64 0, V.int .i64 0, V.int .i64 0, V.bool false] true 88) nx2).put (Blk.cells (V.int .i64 eb.1 :: restB) true 88) nx2 = hp3
        have hold3 : ∀ i, i ≠ nx2 → hp3.get i = hp2.get i := fun i hi => by rw [← hhp3, Ev.getPut, if_neg hi, Ev.getPut, if_neg hi]
        have hX : hp3.get nx' = some (.cells (V.int .i64 ea.1 :: restA) true 88) := by rw [hold3 _ (by omega)]; exact hX2
        have hY : hp3.get nx2 = some (.cells (V.int .i64 eb.1 :: restB) true 88) := by rw [← hhp3, Ev.getPut, if_pos rfl]
        have hxn : nx' < nx2 + 1 := by omega
        have hyn : nx2 < nx2 + 1 := by omega
        have hmul : a * es.length + b < 3600 := by
          have : a * es.length ≤ 59 * 60 := Nat.mul_le_mul (by omega) hn
          omega
        have hS3 : St.Sl hp3 (nx2 + 1) 2 129 y2 (pairCells (poPairs es a b)) := by
          rcases hS2 with h | ⟨b0, n0, h1, h2, h3, h4, h5⟩
          · exact .inl h
          · exact .inr ⟨b0, n0, h1, by rw [hold3 _ (by omega)]; exact h2, h3, by omega, h5⟩
        have hbump : ∀ v hp4 nx4, Inv a (b + 1) v hp4 nx4 → hp4.get nx' = some (.cells (V.int .i64 ea.1 :: restA) true 88) → nx' < nx4 → (∀ i c, v = .slice i 0 c 2 none → i ≠ nx') → Q (J.bin (callD Θ T (m + 2)) .add (.int .i64 (b : Int)) (.int .i64 1) R ⟨hp4, nx4, false, log⟩ fun v73 h => k' (.ptr nx 0) v (.int .i64 a) (.ptr nx' 0) (.bigs 6 (evCells es) (.int .i64 es.length)) (.int .i64 es.length) (.int .i64 a) (.bigs 6 (evCells es) (.int .i64 es.length)) (.int .i64 es.length) v73 h) :=
          fun v hp4 nx4 hJ h1 h2 h3 => St.add ((b : Int) + 1) rfl (by omega) (by omega) (hk' (d' - 1) _ _ _ _ _ _ _ _ _ _ _ (by omega) ⟨b + 1, hp4, nx4, by omega, rfl, rfl, rfl, rfl, rfl, rfl, rfl, rfl, by simp, rfl, hJ, h1, h2, h3⟩)
        have hnew : poHas ea.1 eb.1 a b = true → poPairs es a (b + 1) = poPairs es a b ++ [((a : Int), (b : Int))] := fun h => by rw [poPairs_succ, hta, htb, if_pos h]
        have hyes : ∀ (Kx : V → H → Option R), poHas ea.1 eb.1 a b = true → (∀ v hp4 nx4, Inv a (b + 1) v hp4 nx4 → hp4.get nx' = some (.cells (V.int .i64 ea.1 :: restA) true 88) → nx' < nx4 → (∀ i c, v = .slice i 0 c 2 none → i ≠ nx') → Q (Kx v ⟨hp4, nx4, false, log⟩)) →
            Q (J.build [.int .i64 0, .int .i64 0] [(0, 1, .int .i64 (a : Int)), (1, 1, .int .i64 (b : Int))] R ⟨hp3, nx2 + 1, false, log⟩ fun v74 h => J.slit [.int .i64 0, .int .i64 0] 2 1 [(0, 2, v74)] R h fun v75 h => J.appendQ 129 2 16 y2 v75 R h Kx) := fun Kx hpo hkx => by
          refine build2 (St.slit1 rfl rfl rfl (by rw [hold3 _ (by omega)]; exact hhi2 _ (by omega)) ?_)
          refine St.append1 (n := (poPairs es a b).length) (it := [.int .i64 (a : Int), .int .i64 (b : Int)]) (l := pairCells (poPairs es a b)) (by decide) ?_ (by rw [Ev.getPut, if_pos rfl]; rfl) (Nat.lt_succ_self _) rfl (by rw [pairCells_len]) (fun b1 m h e => ?_) (by have := pairCells_one (poPairs es a b ++ [((a : Int), (b : Int))]); rw [pairCells_snoc] at this; exact this) (by omega) (by rw [Ev.getPut, if_neg (by omega), hold3 _ (by omega)]; exact hhi2 _ (by omega)) ?_
          · rcases hS3 with h | ⟨b0, n0, h1, h2, h3, h4, h5⟩
            · exact .inl h
            · exact .inr ⟨b0, n0, h1, by rw [Ev.getPut, if_neg (by omega)]; exact h2, h3, by omega, h5⟩
          · rcases hS3 with ⟨h0, _⟩ | ⟨b0, n0, h1, h2, h3, h4, h5⟩
            · rw [h0] at h; exact nomatch h
            · rw [h1] at h; simp only [V.slice.injEq] at h; omega
          · intro hp4 x' hS4 hlo4 hhi4 hx4
            have hlow5 : ∀ i, i < nx2 + 1 → (∀ c, y2 ≠ .slice i 0 c 2 none) → hp4.get i = hp3.get i := fun i hi hne => by
              rw [hlo4 i (by omega) hne, Ev.getPut, if_neg (by omega)]
            refine hkx x' hp4 _ ⟨?_, ?_, ?_, fun i hi => ?_, fun i hi => ?_, by omega, fun i c h => ?_⟩ ?_ (by omega) (fun i c h => ?_)
            · rw [hlow5 nx (by omega) (fun c h => by have := hown2 _ _ h; omega), hold3 _ (by omega)]; exact hG2
            · rw [hnew hpo, pairCells_snoc]; exact hS4
            · rw [hnew hpo, List.length_append]; simp; omega
            · rw [hlow5 i (by omega) (fun c h => by have := hown2 _ _ h; omega), hold3 _ (by omega)]; exact hlow2 i hi
            · rw [hhi4 i (by omega), Ev.getPut, if_neg (by omega), hold3 _ (by omega)]; exact hhi2 i (by omega)
            · rw [hx4 _ _ h]; omega
            · rw [hlow5 nx' (by omega) (fun c h => hne2 _ _ h rfl)]; exact hX
            · rw [hx4 _ _ h]; omega
        have hno : poHas ea.1 eb.1 a b = false → Q (J.bin (callD Θ T (m + 2)) .add (.int .i64 (b : Int)) (.int .i64 1) R ⟨hp3, nx2 + 1, false, log⟩ fun v73 h => k' (.ptr nx 0) y2 (.int .i64 a) (.ptr nx' 0) (.bigs 6 (evCells es) (.int .i64 es.length)) (.int .i64 es.length) (.int .i64 a) (.bigs 6 (evCells es) (.int .i64 es.length)) (.int .i64 es.length) v73 h) := fun hpo => by
          have hsame : poPairs es a (b + 1) = poPairs es a b := by rw [poPairs_succ, hta, htb, hpo]; simp
          refine hbump y2 hp3 (nx2 + 1) ⟨?_, ?_, ?_, fun i hi => ?_, fun i hi => ?_, by omega, hown2⟩ hX hxn hne2
          · rw [hold3 _ (by omega)]; exact hG2
          · rw [hsame]; exact hS3
          · rw [hsame]; omega
          · rw [hold3 _ (by omega)]; exact hlow2 i hi
          · rw [hold3 _ (by omega)]; exact hhi2 i (by omega)
        clear hnew
        generalize ea.1 = ta at *
        generalize eb.1 = tb at *
        (repeat (first | with_reducible refine St.pure ?_ | with_reducible refine St.fldP ?_ | with_reducible refine St.whenTT ?_ | with_reducible refine St.whenFT ?_ | with_reducible refine St.whenTF ?_ | with_reducible refine St.whenFF ?_ | with_reducible refine St.whenU ?_ | with_reducible refine St.pickT ?_ | with_reducible refine St.pickF ?_ | refine St.load1P (.int .i64 ta) hX hxn rfl ?_ | refine St.load1P (.int .i64 tb) hY hyn rfl ?_))
        refine St.eql (fun q1 => ?_) (fun q1 => ?_)
        · (repeat (first | with_reducible refine St.pure ?_ | with_reducible refine St.fldP ?_ | with_reducible refine St.whenTT ?_ | with_reducible refine St.whenFT ?_ | with_reducible refine St.whenTF ?_ | with_reducible refine St.whenFF ?_ | with_reducible refine St.whenU ?_ | with_reducible refine St.pickT ?_ | with_reducible refine St.pickF ?_ | refine St.load1P (.int .i64 ta) hX hxn rfl ?_ | refine St.load1P (.int .i64 tb) hY hyn rfl ?_))
          refine St.neq (fun q2 => ?_) (fun q2 => ?_)
          · (repeat (first | with_reducible refine St.pure ?_ | with_reducible refine St.fldP ?_ | with_reducible refine St.whenTT ?_ | with_reducible refine St.whenFT ?_ | with_reducible refine St.whenTF ?_ | with_reducible refine St.whenFF ?_ | with_reducible refine St.whenU ?_ | with_reducible refine St.pickT ?_ | with_reducible refine St.pickF ?_ | refine St.load1P (.int .i64 ta) hX hxn rfl ?_ | refine St.load1P (.int .i64 tb) hY hyn rfl ?_))
            refine St.join (St.condT (hyes _ (by simp [poHas]; omega) hbump))
          · (repeat (first | with_reducible refine St.pure ?_ | with_reducible refine St.fldP ?_ | with_reducible refine St.whenTT ?_ | with_reducible refine St.whenFT ?_ | with_reducible refine St.whenTF ?_ | with_reducible refine St.whenFF ?_ | with_reducible refine St.whenU ?_ | with_reducible refine St.pickT ?_ | with_reducible refine St.pickF ?_ | refine St.load1P (.int .i64 ta) hX hxn rfl ?_ | refine St.load1P (.int .i64 tb) hY hyn rfl ?_))
            refine St.eql (fun q3 => ?_) (fun q3 => ?_)
            · (repeat (first | with_reducible refine St.pure ?_ | with_reducible refine St.fldP ?_ | with_reducible refine St.whenTT ?_ | with_reducible refine St.whenFT ?_ | with_reducible refine St.whenTF ?_ | with_reducible refine St.whenFF ?_ | with_reducible refine St.whenU ?_ | with_reducible refine St.pickT ?_ | with_reducible refine St.pickF ?_ | refine St.load1P (.int .i64 ta) hX hxn rfl ?_ | refine St.load1P (.int .i64 tb) hY hyn rfl ?_))
              refine St.neq (fun q4 => ?_) (fun q4 => ?_)
              · exact absurd q1 q4
              · (repeat (first | with_reducible refine St.pure ?_ | with_reducible refine St.fldP ?_ | with_reducible refine St.whenTT ?_ | with_reducible refine St.whenFT ?_ | with_reducible refine St.whenTF ?_ | with_reducible refine St.whenFF ?_ | with_reducible refine St.whenU ?_ | with_reducible refine St.pickT ?_ | with_reducible refine St.pickF ?_ | refine St.load1P (.int .i64 ta) hX hxn rfl ?_ | refine St.load1P (.int .i64 tb) hY hyn rfl ?_))
                refine St.join (St.condF (hno (by simp [poHas]; omega)))
            · exact absurd (q1.trans q2.symm) q3
        · (repeat (first | with_reducible refine St.pure ?_ | with_reducible refine St.fldP ?_ | with_reducible refine St.whenTT ?_ | with_reducible refine St.whenFT ?_ | with_reducible refine St.whenTF ?_ | with_reducible refine St.whenFF ?_ | with_reducible refine St.whenU ?_ | with_reducible refine St.pickT ?_ | with_reducible refine St.pickF ?_ | refine St.load1P (.int .i64 ta) hX hxn rfl ?_ | refine St.load1P (.int .i64 tb) hY hyn rfl ?_))
          refine St.eql (fun q3 => ?_) (fun q3 => ?_)
          · (repeat (first | with_reducible refine St.pure ?_ | with_reducible refine St.fldP ?_ | with_reducible refine St.whenTT ?_ | with_reducible refine St.whenFT ?_ | with_reducible refine St.whenTF ?_ | with_reducible refine St.whenFF ?_ | with_reducible refine St.whenU ?_ | with_reducible refine St.pickT ?_ | with_reducible refine St.pickF ?_ | refine St.load1P (.int .i64 ta) hX hxn rfl ?_ | refine St.load1P (.int .i64 tb) hY hyn rfl ?_))
            refine St.neq (fun q4 => ?_) (fun q4 => ?_)
            · (repeat (first | with_reducible refine St.pure ?_ | with_reducible refine St.fldP ?_ | with_reducible refine St.whenTT ?_ | with_reducible refine St.whenFT ?_ | with_reducible refine St.whenTF ?_ | with_reducible refine St.whenFF ?_ | with_reducible refine St.whenU ?_ | with_reducible refine St.pickT ?_ | with_reducible refine St.pickF ?_ | refine St.load1P (.int .i64 ta) hX hxn rfl ?_ | refine St.load1P (.int .i64 tb) hY hyn rfl ?_))
              refine St.lss (fun q5 => ?_) (fun q5 => ?_)
              · (repeat (first | with_reducible refine St.pure ?_ | with_reducible refine St.fldP ?_ | with_reducible refine St.whenTT ?_ | with_reducible refine St.whenFT ?_ | with_reducible refine St.whenTF ?_ | with_reducible refine St.whenFF ?_ | with_reducible refine St.whenU ?_ | with_reducible refine St.pickT ?_ | with_reducible refine St.pickF ?_ | refine St.load1P (.int .i64 ta) hX hxn rfl ?_ | refine St.load1P (.int .i64 tb) hY hyn rfl ?_))
                refine St.join (St.condT (hyes _ (by simp [poHas]; omega) hbump))
              · (repeat (first | with_reducible refine St.pure ?_ | with_reducible refine St.fldP ?_ | with_reducible refine St.whenTT ?_ | with_reducible refine St.whenFT ?_ | with_reducible refine St.whenTF ?_ | with_reducible refine St.whenFF ?_ | with_reducible refine St.whenU ?_ | with_reducible refine St.pickT ?_ | with_reducible refine St.pickF ?_ | refine St.load1P (.int .i64 ta) hX hxn rfl ?_ | refine St.load1P (.int .i64 tb) hY hyn rfl ?_))
                refine St.join (St.condF (hno (by simp [poHas]; omega)))
            · exact absurd q4 q1
          · (repeat (first | with_reducible refine St.pure ?_ | with_reducible refine St.fldP ?_ | with_reducible refine St.whenTT ?_ | with_reducible refine St.whenFT ?_ | with_reducible refine St.whenTF ?_ | with_reducible refine St.whenFF ?_ | with_reducible refine St.whenU ?_ | with_reducible refine St.pickT ?_ | with_reducible refine St.pickF ?_ | refine St.load1P (.int .i64 ta) hX hxn rfl ?_ | refine St.load1P (.int .i64 tb) hY hyn rfl ?_))
            refine St.join (St.condF (hno (by simp [poHas]; omega)))
      · refine St.add ((a : Int) + 1) rfl (by omega) (by omega) (hk (d - 1) _ _ _ _ _ _ (by omega) ⟨a + 1, hp2, nx2, by omega, rfl, rfl, rfl, by simp, rfl, hG2, ?_, ?_, hlow2, hhi2, hlt2, hown2⟩)
        · have : b = es.length := by omega
          rw [← poPairs_next]; rw [this] at hS2; exact hS2
        · have : b = es.length := by omega
          rw [← poPairs_next]; rw [this] at hlen2; rw [Nat.add_mul]; omega
    · rcases hS with h | ⟨b0, n0, h1, h2, h3, h4, h5⟩
      · exact .inl h
      · exact .inr ⟨b0, n0, h1, by rw [hold1 _ (by omega)]; exact h2, h3, by omega, h5⟩
    · rcases hS with ⟨h0, _⟩ | ⟨b0, n0, h1, h2, h3, h4, h5⟩
      · rw [h0] at h; exact nomatch h
      · rw [h1] at h; simp only [V.slice.injEq] at h; omega
  · have : a = es.length := by omega
    rw [this] at hS hlen
    clear hk
    have h8 : gc.length = 8 := by rw [← hg]; simp [hcs]
    refine St.loadNP hG (by omega) (by simp [h8]) (St.call hT' (ho' _) ?_)
    rw [List.drop_zero, List.take_of_length_le (by omega), ← hg]
    have hlt' : (poPairs es es.length 0).length < 100000 := by
      have : es.length * es.length ≤ 60 * 60 := Nat.mul_le_mul hn hn
      omega
    rw [← hg] at hone
    exact of_own hT ho _ _ c0 cs es.length hone (fun h K' q => St.lenLB q) _ hlt' hp' nx' 129 x2 log hhi hS (fun hp2 nx2 h1 h2 h3 h4 => q hp2 nx2 (nx' + 1) h1 (fun i hi => by rw [h2 i (by omega)]; exact hlow i hi) h3 (by omega) h4)
end

noncomputable section
/-! what lies in a snapshot -/
/-- A word of 64 bits. -/
def word : V → Option Nat := @V.rec (fun _ => Option Nat) (fun _ => Unit) (fun k n => @IntKind.rec (fun _ => Option Nat) none none none none none none none (Int.rec (fun m => Bool.rec none (some m) (Nat.ble m 18446744073709551615)) (fun _ => none) n) k) (fun _ => none) (fun _ => none) (fun _ _ => none) (none) (fun _ _ _ _ _ => none) (none) (none) (fun _ => none) (none) (fun _ _ _ _ _ => none) (none) (fun _ _ _ => none) (none) (fun _ _ => none) (fun _ _ => none) (fun _ _ _ _ _ => none) (fun _ _ => none) (fun _ _ => none) (fun _ => none) () (fun _ _ _ _ => ())
def words : List V → Option (List Nat) := List.rec (some []) fun v _ ih => Option.rec none (fun x => Option.rec none (fun l => some (x :: l)) ih) (word v)
def relOf (v : V) : Option (Nat × List Nat) := Option.rec none (fun l => List.rec none (fun x r _ => Option.rec none (fun n => Option.rec none (fun rs => Bool.rec none (Bool.rec none (some (n, rs)) (Nat.beq (len rs) 40)) (Nat.ble n 40)) (words r)) x.to64) l) v.toView
section
variable [Nu]
theorem word_some {v : V} {x : Nat} (h : word v = some x) : v = .int .u64 (x : Int) ∧ x < 18446744073709551616 := by
  cases v with
  | int k n =>
    cases k with
    | u64 => cases n with
      | ofNat m =>
        obtain ⟨h1, h2⟩ := (boolRec_some _ _ _).1 (show (Bool.rec none (some m) (Nat.ble m 18446744073709551615) : Option Nat) = some x from h)
        simp only [Option.some.injEq] at h2
        subst h2
        have := Nat.le_of_ble_eq_true h1
        exact ⟨rfl, by omega⟩
      | negSucc m => exact nomatch h
    | _ => exact nomatch h
  | _ => exact nomatch h
theorem words_some : ∀ {l : List V} {rs : List Nat}, words l = some rs → l = (rs.map fun x : Nat => V.int .u64 (x : Int)) ∧ ∀ x ∈ rs, x < 18446744073709551616
  | [], rs, h => by
    have h' : some ([] : List Nat) = some rs := h
    simp only [Option.some.injEq] at h'
    subst h'
    exact ⟨rfl, fun x hx => nomatch hx⟩
  | v :: l, rs, h => by
    obtain ⟨x, h1, h2⟩ := (optRec_some _ _ _).1 (show (Option.rec none (fun x => Option.rec none (fun l => some (x :: l)) (words l)) (word v) : Option (List Nat)) = some rs from h)
    obtain ⟨r, h3, h4⟩ := (optRec_some _ _ _).1 h2
    simp only [Option.some.injEq] at h4
    subst h4
    obtain ⟨rfl, hx⟩ := word_some h1
    obtain ⟨rfl, hr⟩ := words_some h3
    exact ⟨rfl, fun y hy => (List.mem_cons.1 hy).elim (fun e => e ▸ hx) (hr y)⟩
theorem toView_some {v : V} {l : List V} (h : v.toView = some l) : v = .view l := by
  cases v with
  | view l' => have h' : some l' = some l := h; simp only [Option.some.injEq] at h'; rw [h']
  | _ => exact nomatch h
theorem relOf_some {v : V} {n : Nat} {rs : List Nat} (h : relOf v = some (n, rs)) : v = relV n rs ∧ n ≤ 40 ∧ OkRows rs := by
  obtain ⟨l, h1, h2⟩ := (optRec_some _ _ _).1 (show (Option.rec none (fun l => List.rec none (fun x r _ => Option.rec none (fun n => Option.rec none (fun rs => Bool.rec none (Bool.rec none (some (n, rs)) (Nat.beq (len rs) 40)) (Nat.ble n 40)) (words r)) x.to64) l) v.toView : Option (Nat × List Nat)) = some (n, rs) from h)
  obtain rfl := toView_some h1
  cases l with
  | nil => exact nomatch h2
  | cons x r =>
    obtain ⟨n', h3, h4⟩ := (optRec_some _ _ _).1 h2
    obtain ⟨rs', h5, h6⟩ := (optRec_some _ _ _).1 h4
    obtain ⟨h7, h8⟩ := (boolRec_some _ _ _).1 h6
    obtain ⟨h9, h10⟩ := (boolRec_some _ _ _).1 h8
    simp only [Option.some.injEq, Prod.mk.injEq] at h10
    obtain ⟨rfl, rfl⟩ := h10
    obtain rfl := to64_some h3
    obtain ⟨rfl, hr⟩ := words_some h5
    rw [len_eq] at h9
    exact ⟨rfl, Nat.le_of_ble_eq_true h7, beq_true.1 h9, hr⟩
end
/-- A relation, new. -/
def resRel (y n : Nat) (rs : List Nat) : Res := ⟨.ptr 0 0, [.cells (relC n rs) true y]⟩
section
variable [Nu]
theorem okVs_words (m : Nat) : ∀ l : List Nat, okVs m (l.map fun x : Nat => V.int .u64 (x : Int)) = true
  | [] => by rw [List.map_nil, okVs]
  | x :: l => by rw [List.map_cons, okVs, okV, okVs_words m l]
theorem resRel_ok (y n : Nat) (rs : List Nat) : okRes (resRel y n rs) = true := by
  have h1 : okVs 1 (relC n rs) = true := by unfold relC; rw [okVs, okV, okVs_words]
  have h2 : okB 1 (.cells (relC n rs) true y) = true := h1
  show (Bool.rec false ([Blk.cells (relC n rs) true y].all (okB 1)) (okV 1 (.ptr 0 0)) : Bool) = true
  rw [okV]
  show ([Blk.cells (relC n rs) true y].all (okB 1)) = true
  rw [List.all_cons, h2]; rfl
theorem rens_words (f : Nat → Nat) : ∀ l : List Nat, rens f (l.map fun x : Nat => V.int .u64 (x : Int)) = (l.map fun x : Nat => V.int .u64 (x : Int))
  | [] => by rw [List.map_nil, rens]
  | x :: l => by rw [List.map_cons, rens, ren, rens_words f l]
theorem rens_relC (f : Nat → Nat) (n : Nat) (rs : List Nat) : rens f (relC n rs) = relC n rs := by unfold relC; rw [rens, ren, rens_words]
/-- A call that comes to a new relation, by itself. -/
theorem selfRel {P : Program} {l : List (Nat × FnD)} {g : Nat} {ts : List V} {y n : Nat} {rs : List Nat} (m : Nat) (hr : ∃ (hp : Th Blk) (nx r : Nat), hp.get r = some (.cells (relC n rs) true y) ∧ run ((callD noOrc (tabOf l) m).call g ts) h0 = some (.ptr r 0, ⟨hp, nx, false, []⟩)) : SelfOK P l g ts (resRel y n rs) := by
  obtain ⟨hp, nx, r, h1, h2⟩ := hr
  refine ⟨resRel_ok y n rs, noOrc, m, .ptr r 0, _, fun _ => r, noOrc_ok P, h2, ?_, fun i j hi hj _ => ?_, fun j k hj => ?_⟩
  · show V.ptr r 0 = ren _ (.ptr 0 0); rw [ren]
  · have h1 : (resRel y n rs).blks.length = 1 := rfl
    omega
  · cases j with
    | zero =>
      have hk : some (Blk.cells (relC n rs) true y) = some k := hj
      simp only [Option.some.injEq] at hk
      subst hk
      refine .inr ?_
      show hp.get r = some (renB _ (.cells (relC n rs) true y))
      rw [renB, rens_relC]; exact h1
    | succ j => exact nomatch hj
theorem callTop {T : Uh FnD} {n g : Nat} {d : FnD} (hg : T.get g = some d) (vs : List V) : run ((callD noOrc T (n + 1)).call g vs) h0 = d.call (callD noOrc T n) vs (V × H) h0 fun v h => some (v, h) := by
  show Uh.getK (fun f => f.call (callD noOrc T n) vs (V × H) h0 fun v h => some (v, h)) T g = _
  rw [Uh.getK_get, hg]
end
theorem dcall93 : d93.call = c93 := rfl
theorem dcall94 : d94.call = c94 := rfl
theorem dcall101 : d101.call = c101 := rfl
theorem dcall137 : d137.call = c137 := rfl
theorem dcall138 : d138.call = c138 := rfl
theorem dcall139 : d139.call = c139 := rfl
theorem dcall145 : d145.call = c145 := rfl
theorem dcall177 : d177.call = c177 := rfl
theorem get0 (i : Nat) : (Th.nil : Th Blk).get i = none := Th.get_nil i
/-- Then. -/
def thenRes (ts : List V) : Option Res := match ts with
  | [a, b] => Option.rec none (fun p => Option.rec none (fun q => some (resRel 0 (Nat.max p.1 q.1) (rowsAt p.1 p.2 q.2 p.1 0))) (relOf b)) (relOf a)
  | _ => none
theorem then_self [Nu] {P : Program} {l : List (Nat × FnD)} (h96 : (tabOf l).get 96 = some d96) (h94 : (tabOf l).get 94 = some d94) (ts : List V) (r : Res) (h : thenRes ts = some r) : SelfOK P l 94 ts r := by
  unfold thenRes at h
  split at h
  · obtain ⟨p, h1, h2⟩ := (optRec_some _ _ _).1 h
    obtain ⟨q, h3, h4⟩ := (optRec_some _ _ _).1 h2
    simp only [Option.some.injEq] at h4
    subst h4
    obtain ⟨rfl, hn, hr⟩ := relOf_some (n := p.1) (rs := p.2) h1
    obtain ⟨rfl, hn', hr'⟩ := relOf_some (n := q.1) (rs := q.2) h3
    refine selfRel 2 ?_
    rw [callTop h94, dcall94]
    obtain ⟨hp, h5, h6⟩ := then_eq (R := V × H) (Θ := noOrc) (T := tabOf l) (m := 0) h96 (fun _ => rfl) (fun v h => some (v, h)) p.1 q.1 p.2 q.2 hn hn' hr.1 hr'.1 hr.2 hr'.2 Th.nil 0 [] (get0 0)
    exact ⟨hp, 1, 0, h5.get, h6⟩
  · exact nomatch h
/-- Or, And. -/
def byRes (op : Nat → Nat → Nat) (ts : List V) : Option Res := match ts with
  | [a, b] => Option.rec none (fun p => Option.rec none (fun q => some (resRel 0 (Nat.max p.1 q.1) (byRows op p.2 q.2 40))) (relOf b)) (relOf a)
  | _ => none
theorem or_self [Nu] {P : Program} {l : List (Nat × FnD)} (h138 : (tabOf l).get 138 = some d138) (h139 : (tabOf l).get 139 = some d139) (h93 : (tabOf l).get 93 = some d93) (ts : List V) (r : Res) (h : byRes Nat.lor ts = some r) : SelfOK P l 93 ts r := by
  unfold byRes at h
  split at h
  · obtain ⟨p, h1, h2⟩ := (optRec_some _ _ _).1 h
    obtain ⟨q, h3, h4⟩ := (optRec_some _ _ _).1 h2
    simp only [Option.some.injEq] at h4
    subst h4
    obtain ⟨rfl, hn, hr⟩ := relOf_some (n := p.1) (rs := p.2) h1
    obtain ⟨rfl, hn', hr'⟩ := relOf_some (n := q.1) (rs := q.2) h3
    refine selfRel 3 ?_
    rw [callTop h93, dcall93]
    have hop : ∀ x y, x < 18446744073709551616 → y < 18446744073709551616 → Nat.lor x y < 18446744073709551616 := fun x y hx hy => Nat.or_lt_two_pow (n := 64) hx hy
    obtain ⟨hp, h5, h6⟩ := by_eq (R := V × H) (F := callD noOrc (tabOf l) 1) (f := .fn (.func 139) [] []) (op := Nat.lor) hop (fun x y h K hx hy => by
      rw [Ev.callT h139 rfl, dcall139]
      have key : ∀ Q : Option (V × H) → Prop, Q (K (.int .u64 ((x ||| y : Nat) : Int)) h) → Q (c139 (callD noOrc (tabOf l) 0) [.int .u64 (x : Int), .int .u64 (y : Int)] (V × H) h K) := fun Q q => by
        unfold c139
        exact St.hd (St.hd (St.en (St.orU hx hy q)))
      exact key (fun r => r = K (.int .u64 (Nat.lor x y : Nat)) h) rfl) (fun v h => some (v, h)) p.1 q.1 p.2 q.2 hr.1 hr'.1 hr.2 hr'.2 Th.nil 0 [] (get0 0)
    refine ⟨hp, 1, 0, h5.get, ?_⟩
    have key : ∀ Q : Option (V × H) → Prop, Q (c138 (callD noOrc (tabOf l) 1) [relV p.1 p.2, relV q.1 q.2, .fn (.func 139) [] []] (V × H) h0 fun v h => some (v, h)) → Q (c93 (callD noOrc (tabOf l) 2) [relV p.1 p.2, relV q.1 q.2] (V × H) h0 fun v h => some (v, h)) := fun Q q => by
      unfold c93
      refine St.hd (St.hd (St.en (St.call h138 rfl ?_)))
      rw [dcall138]; exact q
    exact key (fun r => r = some (V.ptr 0 0, (⟨hp, 1, false, []⟩ : H))) h6
  · exact nomatch h
theorem and_self [Nu] {P : Program} {l : List (Nat × FnD)} (h138 : (tabOf l).get 138 = some d138) (h145 : (tabOf l).get 145 = some d145) (h101 : (tabOf l).get 101 = some d101) (ts : List V) (r : Res) (h : byRes Nat.land ts = some r) : SelfOK P l 101 ts r := by
  unfold byRes at h
  split at h
  · obtain ⟨p, h1, h2⟩ := (optRec_some _ _ _).1 h
    obtain ⟨q, h3, h4⟩ := (optRec_some _ _ _).1 h2
    simp only [Option.some.injEq] at h4
    subst h4
    obtain ⟨rfl, hn, hr⟩ := relOf_some (n := p.1) (rs := p.2) h1
    obtain ⟨rfl, hn', hr'⟩ := relOf_some (n := q.1) (rs := q.2) h3
    refine selfRel 3 ?_
    rw [callTop h101, dcall101]
    have hop : ∀ x y, x < 18446744073709551616 → y < 18446744073709551616 → Nat.land x y < 18446744073709551616 := fun x y hx hy => Nat.lt_of_le_of_lt Nat.and_le_left hx
    obtain ⟨hp, h5, h6⟩ := by_eq (R := V × H) (F := callD noOrc (tabOf l) 1) (f := .fn (.func 145) [] []) (op := Nat.land) hop (fun x y h K hx hy => by
      rw [Ev.callT h145 rfl, dcall145]
      have key : ∀ Q : Option (V × H) → Prop, Q (K (.int .u64 ((x &&& y : Nat) : Int)) h) → Q (c145 (callD noOrc (tabOf l) 0) [.int .u64 (x : Int), .int .u64 (y : Int)] (V × H) h K) := fun Q q => by
        unfold c145
        exact St.hd (St.hd (St.en (St.andU hx hy q)))
      exact key (fun r => r = K (.int .u64 (Nat.land x y : Nat)) h) rfl) (fun v h => some (v, h)) p.1 q.1 p.2 q.2 hr.1 hr'.1 hr.2 hr'.2 Th.nil 0 [] (get0 0)
    refine ⟨hp, 1, 0, h5.get, ?_⟩
    have key : ∀ Q : Option (V × H) → Prop, Q (c138 (callD noOrc (tabOf l) 1) [relV p.1 p.2, relV q.1 q.2, .fn (.func 145) [] []] (V × H) h0 fun v h => some (v, h)) → Q (c101 (callD noOrc (tabOf l) 2) [relV p.1 p.2, relV q.1 q.2] (V × H) h0 fun v h => some (v, h)) := fun Q q => by
      unfold c101
      refine St.hd (St.hd (St.en (St.call h138 rfl ?_)))
      rw [dcall138]; exact q
    exact key (fun r => r = some (V.ptr 0 0, (⟨hp, 1, false, []⟩ : H))) h6
  · exact nomatch h
/-- Plus, Maybe. -/
def oneRes (f : Nat → List Nat → List Nat) (ts : List V) : Option Res := match ts with
  | [a] => Option.rec none (fun p => some (resRel 181 p.1 (f p.1 p.2))) (relOf a)
  | _ => none
theorem plus_self [Nu] {P : Program} {l : List (Nat × FnD)} (h96 : (tabOf l).get 96 = some d96) (h137 : (tabOf l).get 137 = some d137) (ts : List V) (r : Res) (h : oneRes plusRows ts = some r) : SelfOK P l 137 ts r := by
  unfold oneRes at h
  split at h
  · obtain ⟨p, h1, h2⟩ := (optRec_some _ _ _).1 h
    simp only [Option.some.injEq] at h2
    subst h2
    obtain ⟨rfl, hn, hr⟩ := relOf_some (n := p.1) (rs := p.2) h1
    refine selfRel 2 ?_
    rw [callTop h137, dcall137]
    obtain ⟨hp, h5, h6⟩ := plus_eq (R := V × H) (Θ := noOrc) (T := tabOf l) (m := 0) h96 (fun _ => rfl) (fun v h => some (v, h)) p.1 p.2 hn hr Th.nil 0 [] (get0 0)
    exact ⟨hp, 1, 0, h5.get, h6⟩
  · exact nomatch h
theorem maybe_self [Nu] {P : Program} {l : List (Nat × FnD)} (h177 : (tabOf l).get 177 = some d177) (ts : List V) (r : Res) (h : oneRes maybeRows ts = some r) : SelfOK P l 177 ts r := by
  unfold oneRes at h
  split at h
  · obtain ⟨p, h1, h2⟩ := (optRec_some _ _ _).1 h
    simp only [Option.some.injEq] at h2
    subst h2
    obtain ⟨rfl, hn, hr⟩ := relOf_some (n := p.1) (rs := p.2) h1
    refine selfRel 1 ?_
    rw [callTop h177, dcall177]
    obtain ⟨hp, h5, h6⟩ := maybe_eq (R := V × H) (F := callD noOrc (tabOf l) 0) (fun v h => some (v, h)) p.1 p.2 hn hr Th.nil 0 [] (get0 0)
    exact ⟨hp, 1, 0, h5.get, h6⟩
  · exact nomatch h
end

noncomputable section
theorem dcall96 : d96.call = c96 := rfl
theorem dcall100 : d100.call = c100 := rfl
theorem dcall102 : d102.call = c102 := rfl
theorem dcall135 : d135.call = c135 := rfl
theorem dcall144 : d144.call = c144 := rfl
/-- Pairs. -/
def pairsRes1 (l : List V) : Res := List.rec ⟨.nils, []⟩ (fun _ _ _ => ⟨.slice 0 0 (Nat.div (len l) 2) 2 none, [.cells l true 129]⟩) l
def pairsRes (ts : List V) : Option Res := match ts with
  | [a] => Option.rec none (fun p => some (pairsRes1 (allPairs p.1 p.2 p.1 0))) (relOf a)
  | _ => none
section
variable [Nu]
def intsOnly (l : List V) : Prop := ∀ v ∈ l, ∃ z, v = .int .i64 z
theorem okVs_ints (m : Nat) : ∀ l : List V, intsOnly l → okVs m l = true
  | [], _ => by rw [okVs]
  | v :: l, h => by
    obtain ⟨z, rfl⟩ := h v List.mem_cons_self
    rw [okVs, okV, okVs_ints m l fun w hw => h w (List.mem_cons_of_mem _ hw)]
theorem rens_ints (f : Nat → Nat) : ∀ l : List V, intsOnly l → rens f l = l
  | [], _ => by rw [rens]
  | v :: l, h => by
    obtain ⟨z, rfl⟩ := h v List.mem_cons_self
    rw [rens, ren, rens_ints f l fun w hw => h w (List.mem_cons_of_mem _ hw)]
theorem allPairs_ints (n : Nat) (rs : List Nat) (a b : Nat) : intsOnly (allPairs n rs a b) := by
  have hrow : ∀ a b, intsOnly (rowPairs rs a b) := fun a b v hv => by
    unfold rowPairs at hv
    rw [List.mem_flatMap] at hv
    obtain ⟨j, _, hj⟩ := hv
    split at hj
    · simp only [List.mem_cons, List.not_mem_nil, or_false] at hj
      rcases hj with rfl | rfl <;> exact ⟨_, rfl⟩
    · simp at hj
  intro v hv
  unfold allPairs at hv
  rcases List.mem_append.1 hv with h | h
  · rw [List.mem_flatMap] at h
    obtain ⟨i, _, hi⟩ := h
    exact hrow _ _ v hi
  · exact hrow _ _ v h
theorem pairs_self {P : Program} {l : List (Nat × FnD)} (h96 : (tabOf l).get 96 = some d96) (h102 : (tabOf l).get 102 = some d102) (ts : List V) (r : Res) (h : pairsRes ts = some r) : SelfOK P l 102 ts r := by
  unfold pairsRes at h
  split at h
  · obtain ⟨p, h1, h2⟩ := (optRec_some _ _ _).1 h
    simp only [Option.some.injEq] at h2
    subst h2
    obtain ⟨rfl, hn, hr⟩ := relOf_some (n := p.1) (rs := p.2) h1
    obtain ⟨hp, nx, v, hS, _, _, _, h6⟩ := pairs_eq (R := V × H) (Θ := noOrc) (T := tabOf l) (m := 0) h96 (fun _ => rfl) (fun v h => some (v, h)) p.1 p.2 hn hr.1 hr.2 Th.nil 0 [] (fun i _ => get0 i)
    have hrun : run ((callD noOrc (tabOf l) 2).call 102 [relV p.1 p.2]) h0 = some (v, ⟨hp, nx, false, []⟩) := by rw [callTop h102, dcall102]; exact h6
    have hint := allPairs_ints p.1 p.2 p.1 0
    generalize allPairs p.1 p.2 p.1 0 = cs at *
    rcases hS with ⟨rfl, rfl⟩ | ⟨b, k, rfl, hb, hk, _, hk1⟩
    · exact ⟨rfl, noOrc, 2, _, _, fun _ => 0, noOrc_ok P, hrun, by show V.nils = ren _ .nils; rw [ren], fun i j hi _ _ => absurd hi (Nat.not_lt_zero i), fun j k hj => absurd hj (by show ¬ ([] : List Blk)[j]? = some k; simp)⟩
    · cases cs with
      | nil => simp at hk; omega
      | cons x xs =>
        have hdiv : Nat.div (len (x :: xs)) 2 = k := by rw [len_eq, hk]; exact Nat.mul_div_cancel k (by decide)
        have hres : pairsRes1 (x :: xs) = ⟨.slice 0 0 k 2 none, [.cells (x :: xs) true 129]⟩ := by show Res.mk (.slice 0 0 (Nat.div (len (x :: xs)) 2) 2 none) _ = _; rw [hdiv]
        rw [hres]
        refine ⟨?_, noOrc, 2, _, _, fun _ => b, noOrc_ok P, hrun, ?_, fun i j hi hj _ => ?_, fun j k' hj => ?_⟩
        · show (Bool.rec false ([Blk.cells (x :: xs) true 129].all (okB 1)) (okV 1 (.slice 0 0 k 2 none)) : Bool) = true
          rw [okV]
          have h2 : okB 1 (.cells (x :: xs) true 129) = true := okVs_ints 1 _ hint
          show ([Blk.cells (x :: xs) true 129].all (okB 1)) = true
          rw [List.all_cons, h2]; rfl
        · show V.slice b 0 k 2 none = ren _ (.slice 0 0 k 2 none); rw [ren]
        · have h1 : [Blk.cells (x :: xs) true 129].length = 1 := rfl
          have hi' : i < 1 := hi
          have hj' : j < 1 := hj
          omega
        · cases j with
          | zero =>
            have hk' : some (Blk.cells (x :: xs) true 129) = some k' := hj
            simp only [Option.some.injEq] at hk'
            subst hk'
            refine .inr ?_
            show hp.get b = some (renB _ (.cells (x :: xs) true 129))
            rw [renB, rens_ints _ _ hint]; exact hb
          | succ j => exact nomatch hj
  · exact nomatch h
end
/-- A number. -/
def i64 (v : V) : Option Int := Option.rec none (fun p => Bool.rec none (some p.2) (kindEq p.1 .i64)) v.toInt
def pairsP : List V → Option V → Option (List (Int × Int)) := List.rec (fun st => Option.rec (some []) (fun _ => none) st)
  (fun v _ ih st => Option.rec (ih (some v)) (fun a => Option.rec none (fun p => Option.rec none (fun q => Option.rec none (fun l => some ((p, q) :: l)) (ih none)) (i64 v)) (i64 a)) st)
section
variable [Nu]
theorem i64_some {v : V} {z : Int} (h : i64 v = some z) : v = .int .i64 z := by
  obtain ⟨p, h1, h2⟩ := (optRec_some _ _ _).1 h
  obtain ⟨h3, h4⟩ := (boolRec_some _ _ _).1 h2
  simp only [Option.some.injEq] at h4
  subst h4
  cases v with
  | int k n =>
    have h' : some (k, n) = some p := h1
    simp only [Option.some.injEq] at h'
    subst h'
    rw [show k = .i64 from kindEq_eq h3]
  | _ => exact nomatch h1
theorem pairsP_some : ∀ (l : List V), (∀ ps, pairsP l none = some ps → l = pairCells ps) ∧ ∀ a ps, pairsP l (some a) = some ps → a :: l = pairCells ps
  | [] => ⟨fun ps h => by have h' : some ([] : List (Int × Int)) = some ps := h; simp only [Option.some.injEq] at h'; subst h'; rfl, fun a ps h => nomatch h⟩
  | v :: l => by
    obtain ⟨i1, i2⟩ := pairsP_some l
    refine ⟨fun ps h => i2 v ps h, fun a ps h => ?_⟩
    obtain ⟨p, h1, h2⟩ := (optRec_some _ _ _).1 (show (Option.rec none (fun p => Option.rec none (fun q => Option.rec none (fun l => some ((p, q) :: l)) (pairsP l none)) (i64 v)) (i64 a) : Option (List (Int × Int))) = some ps from h)
    obtain ⟨q, h3, h4⟩ := (optRec_some _ _ _).1 h2
    obtain ⟨r, h5, h6⟩ := (optRec_some _ _ _).1 h4
    simp only [Option.some.injEq] at h6
    subst h6
    rw [i64_some h1, i64_some h3, i1 r h5]; rfl
end
/-- One pair more. -/
def setOr (x : Nat) : List Nat → Nat → List Nat := List.rec (fun _ => []) (fun y r ih n => Nat.rec (Nat.lor y x :: r) (fun m _ => y :: ih m) n)
def newStepK (N : Nat) (rs : List Nat) (p : Int × Int) : List Nat := Int.rec (fun A => Int.rec (fun B => Bool.rec rs (Bool.rec rs (setOr (Nat.pow 2 B) rs A) (Nat.ble (Nat.succ B) N)) (Nat.ble (Nat.succ A) N)) (fun _ => rs) p.2) (fun _ => rs) p.1
def newRowsK (N : Nat) (ps : List (Int × Int)) : List Nat := List.foldl (newStepK N) (List.replicate 40 0) ps
theorem setOr_eq (x : Nat) : ∀ (l : List Nat) (n : Nat), n < l.length → setOr x l n = l.set n (((l[n]?).getD 0) ||| x)
  | [], n, h => by simp at h
  | y :: l, 0, h => rfl
  | y :: l, n + 1, h => by
    show y :: setOr x l n = _
    rw [setOr_eq x l n (by simpa using h)]
    simp
theorem newStepK_eq {N : Nat} (hN : N ≤ 40) (rs : List Nat) (hl : rs.length = 40) (p : Int × Int) : newStepK N rs p = newStep N rs p := by
  obtain ⟨a, b⟩ := p
  unfold newStep okPair
  cases a with
  | negSucc A =>
    show rs = _
    rw [if_neg (by simp)]
  | ofNat A =>
    cases b with
    | negSucc B => show rs = _; rw [if_neg (by simp)]
    | ofNat B =>
      show (Bool.rec rs (Bool.rec rs (setOr (2 ^ B) rs A) (Nat.ble (B + 1) N)) (Nat.ble (A + 1) N) : List Nat) = _
      rw [ble_if, ble_if]
      by_cases hA : A < N
      · by_cases hB : B < N
        · rw [if_pos (show A + 1 ≤ N from hA), if_pos (show B + 1 ≤ N from hB), setOr_eq _ _ _ (by omega), if_pos (by simp [hA, hB])]
          rfl
        · rw [if_pos (show A + 1 ≤ N from hA), if_neg (show ¬ B + 1 ≤ N from hB), if_neg (by simp; omega)]
      · rw [if_neg (show ¬ A + 1 ≤ N from hA), if_neg (by simp; omega)]
theorem newRowsK_eq [Nu] {N : Nat} (hN : N ≤ 40) (ps : List (Int × Int)) : newRowsK N ps = newRows N ps := by
  have key : ∀ (ps : List (Int × Int)) (rs : List Nat), rs.length = 40 → ps.foldl (newStepK N) rs = ps.foldl (newStep N) rs := by
    intro ps
    induction ps with
    | nil => intro rs _; rfl
    | cons p ps ih => intro rs h; rw [List.foldl_cons, List.foldl_cons, newStepK_eq hN rs h p, ih _ (by rw [newStep_len]; exact h)]
  exact key ps _ (by simp)
def sizeK (a : Int) : Nat := Int.rec (fun m => Bool.rec 40 m (Nat.ble m 40)) (fun _ => 0) a
theorem sizeK_eq (a : Int) : sizeK a = sizeN a := by
  cases a with
  | ofNat m =>
    show (Bool.rec 40 m (Nat.ble m 40) : Nat) = (min (Int.ofNat m) 40).toNat
    rw [ble_if]
    simp only [Int.ofNat_eq_natCast]
    split <;> omega
  | negSucc m => show 0 = (min (Int.negSucc m) 40).toNat; rw [Int.negSucc_eq]; omega
theorem sizeN_le (a : Int) : sizeN a ≤ 40 := by unfold sizeN; omega
/-- New. -/
def newRes (ts : List V) : Option Res := match ts with
  | [a, b] => Option.rec none (fun z => match b with
    | .bigs es l n => Bool.rec none (Option.rec none (fun ps => Option.rec none (fun k => Bool.rec none (Bool.rec none (some (resRel 0 (sizeK z) (newRowsK (sizeK z) ps))) (Nat.ble (len ps) 3000)) (Nat.beq (len ps) k)) n.to64) (pairsP l none)) (Nat.beq es 2)
    | .nils => some (resRel 0 (sizeK z) (newRowsK (sizeK z) []))
    | _ => none) (i64 a)
  | _ => none
section
variable [Nu]
theorem new_self {P : Program} {l : List (Nat × FnD)} (h144 : (tabOf l).get 144 = some d144) (ts : List V) (r : Res) (h : newRes ts = some r) : SelfOK P l 144 ts r := by
  unfold newRes at h
  split at h
  · rename_i a b
    obtain ⟨z, h1, h2⟩ := (optRec_some _ _ _).1 h
    obtain rfl := i64_some h1
    cases b with
    | bigs es cs n =>
      obtain ⟨h3, h4⟩ := (boolRec_some _ _ _).1 h2
      obtain ⟨ps, h5, h6⟩ := (optRec_some _ _ _).1 h4
      obtain ⟨k, h7, h8⟩ := (optRec_some _ _ _).1 h6
      obtain ⟨h9, h10⟩ := (boolRec_some _ _ _).1 h8
      obtain ⟨h11, h12⟩ := (boolRec_some _ _ _).1 h10
      simp only [Option.some.injEq] at h12
      subst h12
      have e1 : es = 2 := beq_true.1 h3
      subst e1
      obtain rfl := to64_some h7
      rw [len_eq] at h9 h11
      have e2 : ps.length = k := beq_true.1 h9
      subst e2
      have hle := Nat.le_of_ble_eq_true h11
      obtain rfl := (pairsP_some cs).1 ps h5
      rw [sizeK_eq, newRowsK_eq (sizeN_le z)]
      refine selfRel 1 ?_
      rw [callTop h144, dcall144]
      have key : ∀ Q : Option (V × H) → Prop, (∀ hp', hp'.get 0 = some (.cells (relC (sizeN z) (newRows (sizeN z) ps)) true 0) → Q (some (.ptr 0 0, ⟨hp', 0 + 1 + ps.length, false, []⟩))) → Q (c144 (callD noOrc (tabOf l) 0) [.int .i64 z, .bigs 2 (pairCells ps) (.int .i64 ps.length)] (V × H) h0 fun v h => some (v, h)) := fun Q q =>
        new_old (fun v h => some (v, h)) z ps (by omega) Th.nil 0 [] (fun i _ => get0 i) fun hp' q1 _ _ => q hp' q1
      exact key (fun r => ∃ hp nx q, hp.get q = some (.cells (relC (sizeN z) (newRows (sizeN z) ps)) true 0) ∧ r = some (.ptr q 0, ⟨hp, nx, false, []⟩)) fun hp' q1 => ⟨hp', _, 0, q1, rfl⟩
    | nils =>
      simp only [Option.some.injEq] at h2
      subst h2
      rw [sizeK_eq, newRowsK_eq (sizeN_le z)]
      refine selfRel 1 ?_
      rw [callTop h144, dcall144]
      have key : ∀ Q : Option (V × H) → Prop, (∀ hp', hp'.get 0 = some (.cells (relC (sizeN z) (newRows (sizeN z) [])) true 0) → Q (some (.ptr 0 0, ⟨hp', 0 + 1 + 0, false, []⟩))) → Q (c144 (callD noOrc (tabOf l) 0) [.int .i64 z, .nils] (V × H) h0 fun v h => some (v, h)) := fun Q q =>
        new_own (y := 129) (fun v h => some (v, h)) z [] (by decide) Th.nil 0 .nils [] (fun i _ => get0 i) (.inl ⟨rfl, rfl⟩) fun hp' q1 _ _ => q hp' q1
      exact key (fun r => ∃ hp nx q, hp.get q = some (.cells (relC (sizeN z) (newRows (sizeN z) [])) true 0) ∧ r = some (.ptr q 0, ⟨hp, nx, false, []⟩)) fun hp' q1 => ⟨hp', _, 0, q1, rfl⟩
    | _ => exact nomatch h2
  · exact nomatch h
end
end

noncomputable section
/-- Events out of cells. -/
def evsP (n : Nat) : List V → Option (List (Int × List V)) := Nat.rec (fun l => Bool.rec none (some []) (isNil l)) (fun _ ih l => List.rec none (fun x r _ => Option.rec none (fun t => Bool.rec none (Bool.rec none (Option.rec none (fun es => some ((t, takeL r 5) :: es)) (ih (dropL r 5))) (allOne (takeL r 5))) (Nat.beq (len (takeL r 5)) 5)) (i64 x)) l) n
section
variable [Nu]
theorem evsP_some : ∀ (n : Nat) (l : List V) (es : List (Int × List V)), evsP n l = some es → l = evCells es ∧ es.length = n ∧ OkEv es
  | 0, l, es, h => by
    obtain ⟨h1, h2⟩ := (boolRec_some _ _ _).1 (show (Bool.rec none (some []) (isNil l) : Option (List (Int × List V))) = some es from h)
    simp only [Option.some.injEq] at h2
    subst h2
    rw [isNil_iff] at h1
    exact ⟨h1, rfl, fun e he => nomatch he⟩
  | n + 1, [], es, h => nomatch h
  | n + 1, x :: r, es, h => by
    obtain ⟨t, h1, h2⟩ := (optRec_some _ _ _).1 (show (Option.rec none (fun t => Bool.rec none (Bool.rec none (Option.rec none (fun es => some ((t, takeL r 5) :: es)) (evsP n (dropL r 5))) (allOne (takeL r 5))) (Nat.beq (len (takeL r 5)) 5)) (i64 x) : Option (List (Int × List V))) = some es from h)
    obtain ⟨h3, h4⟩ := (boolRec_some _ _ _).1 h2
    obtain ⟨h5, h6⟩ := (boolRec_some _ _ _).1 h4
    obtain ⟨es', h7, h8⟩ := (optRec_some _ _ _).1 h6
    simp only [Option.some.injEq] at h8
    subst h8
    obtain ⟨q1, q2, q3⟩ := evsP_some n _ es' h7
    rw [len_eq] at h3
    have h3' : (takeL r 5).length = 5 := beq_true.1 h3
    refine ⟨?_, by simp [q2], fun e he => ?_⟩
    · rw [i64_some h1]
      show V.int .i64 t :: r = (V.int .i64 t :: takeL r 5) ++ evCells es'
      rw [← q1, takeL_eq, dropL_eq, List.cons_append, List.take_append_drop]
    · rcases List.mem_cons.1 he with rfl | he
      · exact ⟨h3', h5⟩
      · exact q3 e he
end
def poHasK (x y : Int) (a b : Nat) : Bool := Bool.rec (Bool.rec false (Bool.rec (Nat.ble (Nat.succ a) b) false (ieq x 0)) (ieq x y)) true (Bool.rec false (Bool.not (ieq y 0)) (ieq x 0))
def poRowK (x : Int) (a : Nat) : List Int → Nat → List (Int × Int) := List.rec (fun _ => []) (fun y _ ih b => Bool.rec (ih (Nat.succ b)) ((Int.ofNat a, Int.ofNat b) :: ih (Nat.succ b)) (poHasK x y a b))
def poAllK (full : List Int) : List Int → Nat → List (Int × Int) := List.rec (fun _ => []) (fun x _ ih a => poRowK x a full 0 ++ ih (Nat.succ a))
theorem poHasK_eq [Nu] (x y : Int) (a b : Nat) : poHasK x y a b = poHas x y a b := by
  unfold poHasK poHas
  have b1 : ∀ u v : Int, (u == v) = decide (u = v) := fun u v => by rw [Bool.eq_iff_iff]; simp
  rw [ieq_eq, ieq_eq, ieq_eq, ble_dec, b1, b1, b1]
  have e : decide (Nat.succ a ≤ b) = decide (a < b) := rfl
  rw [e]
  have key : ∀ p q r s : Bool, (Bool.rec (Bool.rec false (Bool.rec s false p) r) true (Bool.rec false (!q) p) : Bool) = (p && !q || r && !p && s) := by
    intro p q r s; cases p <;> cases q <;> cases r <;> cases s <;> rfl
  rw [key]
  simp only [ne_eq, decide_not]
theorem poRowK_eq [Nu] (x : Int) (a : Nat) : ∀ (l : List Int) (b : Nat), poRowK x a l b = (l.zipIdx b).flatMap fun p => if poHas x p.1 a p.2 then [((a : Int), (p.2 : Int))] else []
  | [], b => rfl
  | y :: l, b => by
    show (Bool.rec (poRowK x a l (b + 1)) ((Int.ofNat a, Int.ofNat b) :: poRowK x a l (b + 1)) (poHasK x y a b) : List (Int × Int)) = _
    rw [poRowK_eq x a l (b + 1), poHasK_eq, List.zipIdx_cons, List.flatMap_cons]
    cases poHas x y a b with
    | true => rfl
    | false => rfl
theorem poAllK_eq [Nu] (full : List Int) : ∀ (l : List Int) (a : Nat), poAllK full l a = (l.zipIdx a).flatMap fun q => (full.zipIdx 0).flatMap fun p => if poHas q.1 p.1 q.2 p.2 then [((q.2 : Int), (p.2 : Int))] else []
  | [], a => rfl
  | x :: l, a => by
    show poRowK x a full 0 ++ poAllK full l (a + 1) = _
    rw [poAllK_eq full l (a + 1), poRowK_eq, List.zipIdx_cons, List.flatMap_cons]
theorem zip_range {α : Type} (es : List (Int × List V)) (f : Int → Nat → List α) : ((es.map (·.1)).zipIdx 0).flatMap (fun p => f p.1 p.2) = (List.range es.length).flatMap fun j => f (thOf es j) j := by
  have e : (es.map (·.1)).zipIdx 0 = (List.range es.length).map fun j => (thOf es j, j) := by
    apply List.ext_getElem?
    intro i
    rw [List.getElem?_zipIdx, List.getElem?_map, List.getElem?_map]
    by_cases h : i < es.length
    · rw [List.getElem?_range h, List.getElem?_eq_getElem h]
      simp [thOf, h]
    · rw [List.getElem?_eq_none (by omega), List.getElem?_eq_none (by simp; omega)]; rfl
  rw [e, List.flatMap_map]
theorem po_list [Nu] (es : List (Int × List V)) : poAllK (es.map (·.1)) (es.map (·.1)) 0 = poPairs es es.length 0 := by
  rw [poAllK_eq, zip_range es fun x i => ((es.map (·.1)).zipIdx 0).flatMap fun p => if poHas x p.1 i p.2 then [((i : Int), (p.2 : Int))] else []]
  unfold poPairs poRow
  rw [List.range_zero, List.flatMap_nil, List.append_nil]
  congr 1
  funext i
  exact zip_range es fun y j => if poHas (thOf es i) y i j then [((i : Int), (j : Int))] else []
/-- Po. -/
def poRes1 (n : Nat) (cells : List V) (all : List V) (cs : List V) : Option Res := Option.rec none (fun es => Bool.rec none (Bool.rec none (Bool.rec none (some (resRel 0 n (newRowsK n (poAllK (es.map (·.1)) (es.map (·.1)) 0)))) (Nat.beq (len cs) 6)) (allOne all)) (Nat.ble n 40)) (evsP n cells)
def poRes (ts : List V) : Option Res := match ts with
  | [g] => (match g with
    | .agg l => (match l with
      | c0 :: ev :: cs => (match ev with
        | .bigs es cells n => Bool.rec none (Option.rec none (fun n => poRes1 n cells l cs) n.to64) (Nat.beq es 6)
        | _ => none)
      | _ => none)
    | _ => none)
  | _ => none
section
variable [Nu]
theorem po_self {P : Program} {l : List (Nat × FnD)} (h144 : (tabOf l).get 144 = some d144) (h100 : (tabOf l).get 100 = some d100) (h135 : (tabOf l).get 135 = some d135) (ts : List V) (r : Res) (h : poRes ts = some r) : SelfOK P l 135 ts r := by
  unfold poRes at h
  split at h
  · split at h
    · split at h
      · split at h
        · rename_i c0 cs ev es cells n
          obtain ⟨h1, h2⟩ := (boolRec_some _ _ _).1 h
          obtain ⟨k, h3, h4⟩ := (optRec_some _ _ _).1 h2
          obtain ⟨evs, h5, h6⟩ := (optRec_some _ _ _).1 h4
          obtain ⟨h7, h8⟩ := (boolRec_some _ _ _).1 h6
          obtain ⟨h9, h10⟩ := (boolRec_some _ _ _).1 h8
          obtain ⟨h11, h12⟩ := (boolRec_some _ _ _).1 h10
          simp only [Option.some.injEq] at h12
          subst h12
          have e1 : es = 6 := beq_true.1 h1
          subst e1
          obtain rfl := to64_some h3
          obtain ⟨rfl, hk, hev⟩ := evsP_some k cells evs h5
          subst hk
          rw [len_eq] at h11
          have hcs : cs.length = 6 := beq_true.1 h11
          have hle := Nat.le_of_ble_eq_true h7
          have hsz : sizeN (evs.length : Int) = evs.length := by unfold sizeN; omega
          rw [newRowsK_eq hle, po_list]
          refine selfRel 3 ?_
          rw [callTop h135, dcall135]
          have key : ∀ Q : Option (V × H) → Prop, (∀ hp' nx' r, hp'.get r = some (.cells (relC (sizeN evs.length) (newRows (sizeN evs.length) (poPairs evs evs.length 0))) true 0) → Q (some (.ptr r 0, ⟨hp', nx', false, []⟩))) → Q (c135 (callD noOrc (tabOf l) 2) [.agg (c0 :: .bigs 6 (evCells evs) (.int .i64 evs.length) :: cs)] (V × H) h0 fun v h => some (v, h)) := fun Q q =>
            po_eq (m := 0) h144 h100 (fun _ => rfl) (fun _ => rfl) (fun v h => some (v, h)) c0 cs hcs evs hev (by omega) h9 Th.nil 0 [] (fun i _ => get0 i) fun hp' nx' r q1 _ _ _ _ => q hp' nx' r q1
          rw [hsz] at key
          exact key (fun r => ∃ hp nx q, hp.get q = some (.cells (relC evs.length (newRows evs.length (poPairs evs evs.length 0))) true 0) ∧ r = some (.ptr q 0, ⟨hp, nx, false, []⟩)) fun hp' nx' r q1 => ⟨hp', nx', r, q1, rfl⟩
        · exact nomatch h
      · exact nomatch h
    · exact nomatch h
  · exact nomatch h
end
end
theorem rget93 : (tabOf codeL).get 93 = some d93 := by kernel_rfl
theorem rget94 : (tabOf codeL).get 94 = some d94 := by kernel_rfl
theorem rget96 : (tabOf codeL).get 96 = some d96 := by kernel_rfl
theorem rget100 : (tabOf codeL).get 100 = some d100 := by kernel_rfl
theorem rget101 : (tabOf codeL).get 101 = some d101 := by kernel_rfl
theorem rget102 : (tabOf codeL).get 102 = some d102 := by kernel_rfl
theorem rget135 : (tabOf codeL).get 135 = some d135 := by kernel_rfl
theorem rget137 : (tabOf codeL).get 137 = some d137 := by kernel_rfl
theorem rget138 : (tabOf codeL).get 138 = some d138 := by kernel_rfl
theorem rget139 : (tabOf codeL).get 139 = some d139 := by kernel_rfl
theorem rget144 : (tabOf codeL).get 144 = some d144 := by kernel_rfl
theorem rget145 : (tabOf codeL).get 145 = some d145 := by kernel_rfl
theorem rget177 : (tabOf codeL).get 177 = some d177 := by kernel_rfl
noncomputable def relRows : List KRow := [snapRow 94 6 thenRes, snapRow 93 6 (byRes Nat.lor), snapRow 101 6 (byRes Nat.land), snapRow 137 6 (oneRes plusRows), snapRow 177 6 (oneRes maybeRows), snapRow 102 6 pairsRes, snapRow 144 6 newRes, snapRow 135 6 poRes]
theorem relRows_ok [N : Nu] (hp : Tryz.prog = N.prog) : ∀ p ∈ relRows, p.OK Tryz.prog := (allC (snapRow_ok cx_mixed (fun M h => @cx_ok M h) (allD hp) hp Tryz.func94 (by kernel_rfl) (by kernel_rfl) fun ts r h M _ _ => @then_self M _ _ rget96 rget94 ts r h) (allC (snapRow_ok cx_mixed (fun M h => @cx_ok M h) (allD hp) hp Tryz.func93 (by kernel_rfl) (by kernel_rfl) fun ts r h M _ _ => @or_self M _ _ rget138 rget139 rget93 ts r h) (allC (snapRow_ok cx_mixed (fun M h => @cx_ok M h) (allD hp) hp Tryz.func101 (by kernel_rfl) (by kernel_rfl) fun ts r h M _ _ => @and_self M _ _ rget138 rget145 rget101 ts r h) (allC (snapRow_ok cx_mixed (fun M h => @cx_ok M h) (allD hp) hp Tryz.func137 (by kernel_rfl) (by kernel_rfl) fun ts r h M _ _ => @plus_self M _ _ rget96 rget137 ts r h) (allC (snapRow_ok cx_mixed (fun M h => @cx_ok M h) (allD hp) hp Tryz.func177 (by kernel_rfl) (by kernel_rfl) fun ts r h M _ _ => @maybe_self M _ _ rget177 ts r h) (allC (snapRow_ok cx_mixed (fun M h => @cx_ok M h) (allD hp) hp Tryz.func102 (by kernel_rfl) (by kernel_rfl) fun ts r h M _ _ => @pairs_self M _ _ rget96 rget102 ts r h) (allC (snapRow_ok cx_mixed (fun M h => @cx_ok M h) (allD hp) hp Tryz.func144 (by kernel_rfl) (by kernel_rfl) fun ts r h M _ _ => @new_self M _ _ rget144 ts r h) (allC (snapRow_ok cx_mixed (fun M h => @cx_ok M h) (allD hp) hp Tryz.func135 (by kernel_rfl) (by kernel_rfl) fun ts r h M _ _ => @po_self M _ _ rget144 rget100 rget135 ts r h) all0))))))))
end Go.Proofs.YtheojbhaajbecaaGreat.XCodeB
