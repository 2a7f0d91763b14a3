/- What library functions come to, as rows; what they want of package variables. -/
import Derived.Test.YtheojbhaajbecaaGreatDoorXShelf
import Derived.Test.YtheojbhaajbecaaGreatDoorXLib
import Derived.Test.YtheojbhaajbecaaGreatDoorXToldP
set_option maxRecDepth 100000
set_option linter.unusedVariables false
namespace Go.Proofs
def Tryz.gErr : Nat := 5
end Go.Proofs
namespace Go.Proofs.YtheojbhaajbecaaGreatDoor.XCodeP
open Go Go.X Go.RowKit

/-- What the library's functions ask of package variables. -/
structure LibVars (w : World) : Prop where
  most : ∃ m, w.cell? ⟨1, 0, none⟩ = some (.int .i64 m)
  err : ∃ tp p, w.var? Tryz.prog "strconv.ErrSyntax" = some #[.iface tp p]
theorem LibVars.below {w0 w : World} (h : LibVars w0) (hb : Below w0.heap.size w0 w) : LibVars w := by
  obtain ⟨⟨m, hm⟩, tp, p, he⟩ := h
  refine ⟨⟨m, belowCell hb hm⟩, tp, p, ?_⟩
  have hg : Tryz.prog.globalNamed "strconv.ErrSyntax" = some Tryz.gErr := by kernel_rfl
  simp only [World.var?, hg, Option.bind_some] at he ⊢
  cases hx : w0.heap[Tryz.gErr]? with
  | none => rw [hx] at he; exact nomatch he
  | some o =>
    have : Tryz.gErr < w0.heap.size := by
      rcases Nat.lt_or_ge Tryz.gErr w0.heap.size with h' | h'
      · exact h'
      · rw [Array.getElem?_eq_none h'] at hx; exact nomatch hx
    rw [hb.block _ this]
    exact he
section
variable [Nu]
theorem row285 (hL : LibVars Nu.old) : (indexRow 285).OK Tryz.prog := by
  obtain ⟨⟨m, hm⟩, _⟩ := hL
  exact indexRow_ok (gm := 1) (m := m) ⟨Tryz.f285, Tryz.func285, by kernel_rfl, by kernel_rfl⟩ (fun w hb => belowCell hb hm) fun s sub m w hs hm => Any.strings_Index Tryz.lays143 s sub m w hs hm
theorem row299 (hL : LibVars Nu.old) : (indexRow 299).OK Tryz.prog := by
  obtain ⟨⟨m, hm⟩, _⟩ := hL
  exact indexRow_ok (gm := 1) (m := m) ⟨Tryz.f299, Tryz.func299, by kernel_rfl, by kernel_rfl⟩ (fun w hb => belowCell hb hm) fun s sub m w hs hm => Any.stringslite_Index Tryz.lays219 s sub m w hs hm
theorem row284 (hL : LibVars Nu.old) : (countRow 284).OK Tryz.prog :=
  countRow_ok ⟨Tryz.f284, Tryz.func284, by kernel_rfl, by kernel_rfl⟩ fun s c w => Any.strings_Count_one Tryz.lays138 s c w
theorem row324 (hL : LibVars Nu.old) : (runesRow 324).OK Tryz.prog :=
  runesRow_ok ⟨Tryz.f324, Tryz.func324, by kernel_rfl, by kernel_rfl⟩ fun s w hs => Any.utf8_RuneCountInString Tryz.lays195 s w hs
theorem row298 (hL : LibVars Nu.old) : (atoiRow 298 467).OK Tryz.prog := by
  refine atoiRow_ok ⟨Tryz.f298, Tryz.func298, by kernel_rfl, by kernel_rfl⟩ (fun s v w hs h => (Any.strconv_Atoi_ok Tryz.lays172 s hs v h w).mono fun e w' ⟨h1, h2⟩ => ⟨h1, ?_⟩) fun s w hs h hb => ?_
  · rcases h2 with rfl | ⟨t, rfl⟩
    · exact Below.refl _ _
    · exact Lib.bytesWorld_below _ _ _
  · obtain ⟨tp, p, he⟩ := (hL.below hb).err
    exact (Any.strconv_Atoi_syntax_var Tryz.lays172 s hs h tp p w he).mono fun e w' ⟨N, h1, _, _, h2⟩ => ⟨⟨N, h1⟩, h2⟩
theorem row297 (hL : LibVars Nu.old) : (joinRow 297).OK Tryz.prog :=
  joinRow_ok ⟨Tryz.f297, Tryz.func297, by kernel_rfl, by kernel_rfl⟩ (fun a c sep w => Any.strings_Join_none Tryz.lays156 Tryz.extra156 a c sep w) fun bk o c xs sep w h1 h2 h3 h4 h5 => Any.strings_Join Tryz.lays156 Tryz.extra156 bk o c xs sep w h1 h2 h3 h4 h5
end
noncomputable def lib : List KRow := [indexRow 285, indexRow 299, countRow 284, runesRow 324, atoiRow 298 467, joinRow 297]
theorem lib_ok [Nu] (hL : LibVars Nu.old) : ∀ p ∈ lib, p.OK Tryz.prog := (allC (row285 hL) (allC (row299 hL) (allC (row284 hL) (allC (row324 hL) (allC (row298 hL) (allC (row297 hL) all0))))))
end Go.Proofs.YtheojbhaajbecaaGreatDoor.XCodeP
