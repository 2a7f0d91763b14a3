/- What library functions come to, as rows; what they want of package variables. -/
import Derived.Test.YtccacodlhpoegaaDoorXShelf
import Derived.Test.YtccacodlhpoegaaDoorXLib
import Derived.Test.YtccacodlhpoegaaDoorXToldL
set_option maxRecDepth 100000
set_option linter.unusedVariables false
namespace Go.Proofs
def Tryd.gErr : Nat := 2
end Go.Proofs
namespace Go.Proofs.YtccacodlhpoegaaDoor.XCodeL
open Go Go.X Go.RowKit

/-- What the library's functions ask of package variables. -/
structure LibVars (w : World) : Prop where
  most : ∃ m, w.cell? ⟨0, 0, none⟩ = some (.int .i64 m)
  err : ∃ tp p, w.var? Tryd.prog "strconv.ErrSyntax" = some #[.iface tp p]
theorem LibVars.below {w0 w : World} (h : LibVars w0) (hb : Below w0.heap.size w0 w) : LibVars w := by
  obtain ⟨⟨m, hm⟩, tp, p, he⟩ := h
  refine ⟨⟨m, belowCell hb hm⟩, tp, p, ?_⟩
  have hg : Tryd.prog.globalNamed "strconv.ErrSyntax" = some Tryd.gErr := by kernel_rfl
  simp only [World.var?, hg, Option.bind_some] at he ⊢
  cases hx : w0.heap[Tryd.gErr]? with
  | none => rw [hx] at he; exact nomatch he
  | some o =>
    have : Tryd.gErr < w0.heap.size := by
      rcases Nat.lt_or_ge Tryd.gErr w0.heap.size with h' | h'
      · exact h'
      · rw [Array.getElem?_eq_none h'] at hx; exact nomatch hx
    rw [hb.block _ this]
    exact he
section
variable [Nu]
theorem row28 (hL : LibVars Nu.old) : (indexRow 28).OK Tryd.prog := by
  obtain ⟨⟨m, hm⟩, _⟩ := hL
  exact indexRow_ok (gm := 0) (m := m) ⟨Tryd.f28, Tryd.func28, by kernel_rfl, by kernel_rfl⟩ (fun w hb => belowCell hb hm) fun s sub m w hs hm => Any.stringslite_Index Tryd.lays219 s sub m w hs hm
theorem row34 (hL : LibVars Nu.old) : (indexRow 34).OK Tryd.prog := by
  obtain ⟨⟨m, hm⟩, _⟩ := hL
  exact indexRow_ok (gm := 0) (m := m) ⟨Tryd.f34, Tryd.func34, by kernel_rfl, by kernel_rfl⟩ (fun w hb => belowCell hb hm) fun s sub m w hs hm => Any.strings_Index Tryd.lays143 s sub m w hs hm
theorem row33 (hL : LibVars Nu.old) : (countRow 33).OK Tryd.prog :=
  countRow_ok ⟨Tryd.f33, Tryd.func33, by kernel_rfl, by kernel_rfl⟩ fun s c w => Any.strings_Count_one Tryd.lays138 s c w
theorem row27 (hL : LibVars Nu.old) : (atoiRow 27 82).OK Tryd.prog := by
  refine atoiRow_ok ⟨Tryd.f27, Tryd.func27, by kernel_rfl, by kernel_rfl⟩ (fun s v w hs h => (Any.strconv_Atoi_ok Tryd.lays172 s hs v h w).mono fun e w' ⟨h1, h2⟩ => ⟨h1, ?_⟩) fun s w hs h hb => ?_
  · rcases h2 with rfl | ⟨t, rfl⟩
    · exact Below.refl _ _
    · exact Lib.bytesWorld_below _ _ _
  · obtain ⟨tp, p, he⟩ := (hL.below hb).err
    exact (Any.strconv_Atoi_syntax_var Tryd.lays172 s hs h tp p w he).mono fun e w' ⟨N, h1, _, _, h2⟩ => ⟨⟨N, h1⟩, h2⟩
theorem row12 (hL : LibVars Nu.old) : (joinRow 12).OK Tryd.prog :=
  joinRow_ok ⟨Tryd.f12, Tryd.func12, by kernel_rfl, by kernel_rfl⟩ (fun a c sep w => Any.strings_Join_none Tryd.lays156 Tryd.extra156 a c sep w) fun bk o c xs sep w h1 h2 h3 h4 h5 => Any.strings_Join Tryd.lays156 Tryd.extra156 bk o c xs sep w h1 h2 h3 h4 h5
end
noncomputable def lib : List KRow := [indexRow 28, indexRow 34, countRow 33, atoiRow 27 82, joinRow 12]
theorem lib_ok [Nu] (hL : LibVars Nu.old) : ∀ p ∈ lib, p.OK Tryd.prog := (allC (row28 hL) (allC (row34 hL) (allC (row33 hL) (allC (row27 hL) (allC (row12 hL) all0)))))
end Go.Proofs.YtccacodlhpoegaaDoor.XCodeL
