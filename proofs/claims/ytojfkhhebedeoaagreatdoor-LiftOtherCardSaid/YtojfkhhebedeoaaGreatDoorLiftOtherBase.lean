/- LiftOther: what its cases lean on. -/
import Derived.Test.YtojfkhhebedeoaaGreatDoorXAwakeLS
set_option maxRecDepth 100000
namespace Go.Proofs.YtojfkhhebedeoaaGreatDoor.XCodeS
open Go Go.X Go.RowKit

noncomputable def orcA [Nu] (x : Nat) : Orc := rowsOrc [⟨4, [.s 0, .n 1000], .int .i64 (Int.ofNat x)⟩, ⟨4, [.s 1, .n 1000], .int .i64 (Int.ofNat x)⟩] (yesRow 6 :: lib) []
noncomputable def orcB [Nu] (x : Nat) : Orc := rowsOrc [⟨4, [.s 0, .n 1000], .int .i64 (Int.ofNat x)⟩, ⟨4, [.s 1, .n 1000], .sym .i64 (Nat.add 2000 x)⟩] (yesRow 6 :: lib) [⟨.eql, .n (Int.ofNat x), .s (Nat.add 2000 x), .bool false⟩]
def PA (x : Nat) : Prop := ∀ [Nu], isTrue (run ((callD (orcA x) code 90).call 3 [V.sym .i64 0, V.sym .i64 1]) h0) = true
def PB (x : Nat) : Prop := ∀ [Nu], isTrue (run ((callD (orcB x) code 90).call 3 [V.sym .i64 0, V.sym .i64 1]) h0) = true
theorem sp {P : Nat → Prop} {k hi : Nat} (h : P k) (r : ∀ x, k + 1 ≤ x → x < hi → P x) : ∀ x, k ≤ x → x < hi → P x := fun x h1 h2 => (Nat.eq_or_lt_of_le h1).elim (fun e => e ▸ h) (fun l => r x l h2)
theorem sp0 {P : Nat → Prop} {k : Nat} : ∀ x, k ≤ x → x < k → P x := fun _ h1 h2 => absurd (Nat.lt_of_le_of_lt h1 h2) (Nat.lt_irrefl _)
theorem spJ {P : Nat → Prop} {a m c : Nat} (h : ∀ x, a ≤ x → x < m → P x) (r : ∀ x, m ≤ x → x < c → P x) : ∀ x, a ≤ x → x < c → P x := fun x h1 h2 => (Nat.lt_or_ge x m).elim (fun l => h x h1 l) (fun l => r x l h2)
theorem ha01 (a0 a1 : Int) (w : World) (f : Nat → Int) (h0' : f 0 = a0) (h1' : f 1 = a1) : letI : Nu := ⟨f, w, Tryz.prog⟩; RVs ⟨fun _ => none, fun _ => 0, []⟩ [V.sym .i64 0, V.sym .i64 1] [.int .i64 a0, .int .i64 a1] := by
  letI : Nu := ⟨f, w, Tryz.prog⟩
  refine RVs_mk ?_ (RVs_mk ?_ RVs_none)
  · rw [RV, Nu.v_lt (by decide), ← h0']; rfl
  · rw [RV, Nu.v_lt (by decide), ← h1']; rfl
theorem caseA (a0 a1 : Int) (x : Nat) (w : World) (hL : LibVars w) (e0 : a0 % 1000 = x) (e1 : a1 % 1000 = x) (hr : PA x) : Calls Tryz.prog 3 #[.int .i64 a0, .int .i64 a1] w fun e w' => e = .returned (.bool true) ∧ Below w.heap.size w w' := by
  letI : Nu := ⟨fun i => match i with | 0 => a0 | _ => a1, w, Tryz.prog⟩
  have ho : OrcOK Tryz.prog (orcA x) := rowsOrc_ok (allC (place_row _ _ 0 1000 x (by omega) (by omega) e0) (allC (place_row _ _ 1 1000 x (by omega) (by omega) e1) all0)) (allC (awakel_row6 hL) (lib_ok hL)) all0
  exact calls_trueD (cx_ok rfl) cx_mixed (allD rfl) ho hr w (Below.refl _ _) (ha01 a0 a1 w _ rfl rfl)
theorem caseB (a0 a1 : Int) (x : Nat) (w : World) (hL : LibVars w) (e0 : a0 % 1000 = x) (e1 : a1 % 1000 ≠ x) (hr : PB x) : Calls Tryz.prog 3 #[.int .i64 a0, .int .i64 a1] w fun e w' => e = .returned (.bool true) ∧ Below w.heap.size w w' := by
  letI : Nu := ⟨fun i => match i with | 0 => a0 | 1 => a1 | _ => a1 % 1000, w, Tryz.prog⟩
  have hv : Nu.v (Nat.add 2000 x) = a1 % 1000 := by
    have h2 : Nu.val (Nat.add 2000 x) = a1 % 1000 := by
      show (match (Nat.add 2000 x) with | 0 => a0 | 1 => a1 | _ => a1 % 1000 : Int) = _
      rw [show Nat.add 2000 x = (x + 1998) + 2 by show 2000 + x = _; omega]
      rfl
    unfold Nu.v
    rw [h2]
    exact if_neg fun c => e1 (by have := c.2; have h3 : ((Nat.add 2000 x : Nat) : Int) = 2000 + x := by show ((2000 + x : Nat) : Int) = _; omega
                                 rw [h3] at this; omega)
  have hrow : CRow.OK Tryz.prog ⟨4, [.s 1, .n 1000], .sym .i64 (Nat.add 2000 x)⟩ :=
    ⟨⟨_, Tryz.func4, by kernel_rfl, by kernel_rfl⟩, fun E w => (placeIs a1 1000 (by omega) (by omega) w).mono fun e w' ⟨q1, q2⟩ => ⟨_, q1, q2, by rw [RV, hv]⟩⟩
  have hask : ARow.OK ⟨.eql, .n (Int.ofNat x), .s (Nat.add 2000 x), .bool false⟩ := ARow.yesno (ARow.ofB (by
    rw [arith_eql]
    refine congrArg (fun b => some (V.bool b)) (decide_eq_false fun c => ?_)
    have c : (x : Int) = Nu.v (Nat.add 2000 x) := c
    rw [hv] at c; exact e1 c.symm))
  have ho : OrcOK Tryz.prog (orcB x) := rowsOrc_ok (allC (place_row _ _ 0 1000 x (by omega) (by omega) e0) (allC hrow all0)) (allC (awakel_row6 hL) (lib_ok hL)) (allC hask all0)
  exact calls_trueD (cx_ok rfl) cx_mixed (allD rfl) ho hr w (Below.refl _ _) (ha01 a0 a1 w _ rfl rfl)
end Go.Proofs.YtojfkhhebedeoaaGreatDoor.XCodeS
