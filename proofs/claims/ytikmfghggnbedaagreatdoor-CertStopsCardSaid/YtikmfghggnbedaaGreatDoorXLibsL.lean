/- What library functions come to, as rows; what they want of package variables. -/
import Derived.Test.YtikmfghggnbedaaGreatDoorXShelf
import Derived.Test.YtikmfghggnbedaaGreatDoorXLib
import Derived.Test.YtikmfghggnbedaaGreatDoorXToldL
set_option maxRecDepth 100000
set_option linter.unusedVariables false
namespace Go.Proofs
def Tryz.gErr : Nat := 2
end Go.Proofs
namespace Go.Proofs.YtikmfghggnbedaaGreatDoor.XCodeL
open Go Go.X Go.RowKit

/-- What the library's functions ask of package variables. -/
structure LibVars (w : World) : Prop where
  most : ∃ m, w.cell? ⟨0, 0, none⟩ = some (.int .i64 m)
  err : ∃ tp p, w.var? Tryz.prog "strconv.ErrSyntax" = some #[.iface tp p]
theorem LibVars.below {w0 w : World} (h : LibVars w0) (hb : Below w0.heap.size w0 w) : LibVars w := by
  obtain ⟨⟨m, hm⟩, tp, p, he⟩ := h
  refine ⟨⟨m, belowCell hb hm⟩, tp, p, ?_⟩
  have hg : Tryz.prog.globalNamed "strconv.ErrSyntax" = some Tryz.gErr := by kernel_rfl
  simp only [World.var?, hg, Option.bind_some] at he ⊢
  cases hx : w0.heap[Tryz.gErr]? with
  | none => rw [hx] at he; exact nomatch he
  | some o =>
    have : Tryz.gErr < w0.heap.size := by
      rcases Nat.lt_or_ge Tryz.gErr w0.heap.size with h' | h'
      · exact h'
      · rw [Array.getElem?_eq_none h'] at hx; exact nomatch hx
    rw [hb.block _ this]
    exact he
section
variable [Nu]
theorem row86 (hL : LibVars Nu.old) : (indexRow 86).OK Tryz.prog := by
  obtain ⟨⟨m, hm⟩, _⟩ := hL
  exact indexRow_ok (gm := 0) (m := m) ⟨Tryz.f86, Tryz.func86, by kernel_rfl, by kernel_rfl⟩ (fun w hb => belowCell hb hm) fun s sub m w hs hm => Any.strings_Index Tryz.lays143 s sub m w hs hm
theorem row75 (hL : LibVars Nu.old) : (indexRow 75).OK Tryz.prog := by
  obtain ⟨⟨m, hm⟩, _⟩ := hL
  exact indexRow_ok (gm := 0) (m := m) ⟨Tryz.f75, Tryz.func75, by kernel_rfl, by kernel_rfl⟩ (fun w hb => belowCell hb hm) fun s sub m w hs hm => Any.stringslite_Index Tryz.lays219 s sub m w hs hm
theorem row85 (hL : LibVars Nu.old) : (countRow 85).OK Tryz.prog :=
  countRow_ok ⟨Tryz.f85, Tryz.func85, by kernel_rfl, by kernel_rfl⟩ fun s c w => Any.strings_Count_one Tryz.lays138 s c w
theorem row116 (hL : LibVars Nu.old) : (runesRow 116).OK Tryz.prog :=
  runesRow_ok ⟨Tryz.f116, Tryz.func116, by kernel_rfl, by kernel_rfl⟩ fun s w hs => Any.utf8_RuneCountInString Tryz.lays195 s w hs
theorem row74 (hL : LibVars Nu.old) : (atoiRow 74 146).OK Tryz.prog := by
  refine atoiRow_ok ⟨Tryz.f74, Tryz.func74, by kernel_rfl, by kernel_rfl⟩ (fun s v w hs h => (Any.strconv_Atoi_ok Tryz.lays172 s hs v h w).mono fun e w' ⟨h1, h2⟩ => ⟨h1, ?_⟩) fun s w hs h hb => ?_
  · rcases h2 with rfl | ⟨t, rfl⟩
    · exact Below.refl _ _
    · exact Lib.bytesWorld_below _ _ _
  · obtain ⟨tp, p, he⟩ := (hL.below hb).err
    exact (Any.strconv_Atoi_syntax_var Tryz.lays172 s hs h tp p w he).mono fun e w' ⟨N, h1, _, _, h2⟩ => ⟨⟨N, h1⟩, h2⟩
theorem row20 (hL : LibVars Nu.old) : (joinRow 20).OK Tryz.prog :=
  joinRow_ok ⟨Tryz.f20, Tryz.func20, by kernel_rfl, by kernel_rfl⟩ (fun a c sep w => Any.strings_Join_none Tryz.lays156 Tryz.extra156 a c sep w) fun bk o c xs sep w h1 h2 h3 h4 h5 => Any.strings_Join Tryz.lays156 Tryz.extra156 bk o c xs sep w h1 h2 h3 h4 h5
end
noncomputable def lib : List KRow := [indexRow 86, indexRow 75, countRow 85, runesRow 116, atoiRow 74 146, joinRow 20]
theorem lib_ok [Nu] (hL : LibVars Nu.old) : ∀ p ∈ lib, p.OK Tryz.prog := (allC (row86 hL) (allC (row75 hL) (allC (row85 hL) (allC (row116 hL) (allC (row74 hL) (allC (row20 hL) all0))))))
end Go.Proofs.YtikmfghggnbedaaGreatDoor.XCodeL
