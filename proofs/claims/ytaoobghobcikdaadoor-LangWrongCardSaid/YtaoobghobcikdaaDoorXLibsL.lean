/- What library functions come to, as rows; what they want of package variables. -/
import Derived.Test.YtaoobghobcikdaaDoorXShelf
import Derived.Test.YtaoobghobcikdaaDoorXLib
import Derived.Test.YtaoobghobcikdaaDoorXToldL
set_option maxRecDepth 100000
set_option linter.unusedVariables false
namespace Go.Proofs
def Tryd.gErr : Nat := 4
end Go.Proofs
namespace Go.Proofs.YtaoobghobcikdaaDoor.XCodeL
open Go Go.X Go.RowKit

/-- What the library's functions ask of package variables. -/
structure LibVars (w : World) : Prop where
  most : ∃ m, w.cell? ⟨0, 0, none⟩ = some (.int .i64 m)
  err : ∃ tp p, w.var? Tryd.prog "strconv.ErrSyntax" = some #[.iface tp p]
theorem LibVars.below {w0 w : World} (h : LibVars w0) (hb : Below w0.heap.size w0 w) : LibVars w := by
  obtain ⟨⟨m, hm⟩, tp, p, he⟩ := h
  refine ⟨⟨m, belowCell hb hm⟩, tp, p, ?_⟩
  have hg : Tryd.prog.globalNamed "strconv.ErrSyntax" = some Tryd.gErr := by kernel_rfl
  simp only [World.var?, hg, Option.bind_some] at he ⊢
  cases hx : w0.heap[Tryd.gErr]? with
  | none => rw [hx] at he; exact nomatch he
  | some o =>
    have : Tryd.gErr < w0.heap.size := by
      rcases Nat.lt_or_ge Tryd.gErr w0.heap.size with h' | h'
      · exact h'
      · rw [Array.getElem?_eq_none h'] at hx; exact nomatch hx
    rw [hb.block _ this]
    exact he
section
variable [Nu]
theorem row58 (hL : LibVars Nu.old) : (indexRow 58).OK Tryd.prog := by
  obtain ⟨⟨m, hm⟩, _⟩ := hL
  exact indexRow_ok (gm := 0) (m := m) ⟨Tryd.f58, Tryd.func58, by kernel_rfl, by kernel_rfl⟩ (fun w hb => belowCell hb hm) fun s sub m w hs hm => Any.strings_Index Tryd.lays143 s sub m w hs hm
theorem row72 (hL : LibVars Nu.old) : (indexRow 72).OK Tryd.prog := by
  obtain ⟨⟨m, hm⟩, _⟩ := hL
  exact indexRow_ok (gm := 0) (m := m) ⟨Tryd.f72, Tryd.func72, by kernel_rfl, by kernel_rfl⟩ (fun w hb => belowCell hb hm) fun s sub m w hs hm => Any.stringslite_Index Tryd.lays219 s sub m w hs hm
theorem row57 (hL : LibVars Nu.old) : (countRow 57).OK Tryd.prog :=
  countRow_ok ⟨Tryd.f57, Tryd.func57, by kernel_rfl, by kernel_rfl⟩ fun s c w => Any.strings_Count_one Tryd.lays138 s c w
theorem row76 (hL : LibVars Nu.old) : (runesRow 76).OK Tryd.prog :=
  runesRow_ok ⟨Tryd.f76, Tryd.func76, by kernel_rfl, by kernel_rfl⟩ fun s w hs => Any.utf8_RuneCountInString Tryd.lays195 s w hs
theorem row63 (hL : LibVars Nu.old) : (atoiRow 63 140).OK Tryd.prog := by
  refine atoiRow_ok ⟨Tryd.f63, Tryd.func63, by kernel_rfl, by kernel_rfl⟩ (fun s v w hs h => (Any.strconv_Atoi_ok Tryd.lays172 s hs v h w).mono fun e w' ⟨h1, h2⟩ => ⟨h1, ?_⟩) fun s w hs h hb => ?_
  · rcases h2 with rfl | ⟨t, rfl⟩
    · exact Below.refl _ _
    · exact Lib.bytesWorld_below _ _ _
  · obtain ⟨tp, p, he⟩ := (hL.below hb).err
    exact (Any.strconv_Atoi_syntax_var Tryd.lays172 s hs h tp p w he).mono fun e w' ⟨N, h1, _, _, h2⟩ => ⟨⟨N, h1⟩, h2⟩
theorem row27 (hL : LibVars Nu.old) : (joinRow 27).OK Tryd.prog :=
  joinRow_ok ⟨Tryd.f27, Tryd.func27, by kernel_rfl, by kernel_rfl⟩ (fun a c sep w => Any.strings_Join_none Tryd.lays156 Tryd.extra156 a c sep w) fun bk o c xs sep w h1 h2 h3 h4 h5 => Any.strings_Join Tryd.lays156 Tryd.extra156 bk o c xs sep w h1 h2 h3 h4 h5
end
noncomputable def lib : List KRow := [indexRow 58, indexRow 72, countRow 57, runesRow 76, atoiRow 63 140, joinRow 27]
theorem lib_ok [Nu] (hL : LibVars Nu.old) : ∀ p ∈ lib, p.OK Tryd.prog := (allC (row58 hL) (allC (row72 hL) (allC (row57 hL) (allC (row76 hL) (allC (row63 hL) (allC (row27 hL) all0))))))
end Go.Proofs.YtaoobghobcikdaaDoor.XCodeL
