/- What library functions come to, as rows; what they want of package variables. -/
import Derived.Test.YtojfkhhebedeoaaGreatDoorXShelf
import Derived.Test.YtojfkhhebedeoaaGreatDoorXLib
import Derived.Lib.SmallJoins
import Derived.Lib.QuietBelow
import Derived.Test.YtojfkhhebedeoaaGreatDoorXToldS
set_option maxRecDepth 100000
set_option linter.unusedVariables false
namespace Go.Proofs
def Tryz.gErr : Nat := 2
end Go.Proofs
namespace Go.Proofs.YtojfkhhebedeoaaGreatDoor.XCodeS
open Go Go.X Go.RowKit

/-- What the library's functions ask of package variables. -/
structure LibVars (w : World) : Prop where
  most : ∃ m, w.cell? ⟨0, 0, none⟩ = some (.int .i64 m)
  err : ∃ tp p, w.var? Tryz.prog "strconv.ErrSyntax" = some #[.iface tp p]
  tab : Lib.TabIs Tryz.prog w "internal/strconv.uint64pow10" .u64 Lib.pow10Tab
theorem LibVars.below {w0 w : World} (h : LibVars w0) (hb : Below w0.heap.size w0 w) : LibVars w := by
  obtain ⟨⟨m, hm⟩, ⟨tp, p, he⟩, ht⟩ := h
  refine ⟨⟨m, belowCell hb hm⟩, ⟨tp, p, ?_⟩, Go.Joins.tab_stays (g := 1) (by kernel_rfl) ht hb (Nat.le_refl _)⟩
  have hg : Tryz.prog.globalNamed "strconv.ErrSyntax" = some Tryz.gErr := by kernel_rfl
  simp only [World.var?, hg, Option.bind_some] at he ⊢
  cases hx : w0.heap[Tryz.gErr]? with
  | none => rw [hx] at he; exact nomatch he
  | some o =>
    have : Tryz.gErr < w0.heap.size := by
      rcases Nat.lt_or_ge Tryz.gErr w0.heap.size with h' | h'
      · exact h'
      · rw [Array.getElem?_eq_none h'] at hx; exact nomatch hx
    rw [hb.block _ this]
    exact he
section
variable [Nu]
theorem row143 (hL : LibVars Nu.old) : (indexRow 143).OK Tryz.prog := by
  obtain ⟨⟨m, hm⟩, _⟩ := hL
  exact indexRow_ok (gm := 0) (m := m) ⟨Tryz.f143, Tryz.func143, by kernel_rfl, by kernel_rfl⟩ (fun w hb => belowCell hb hm) fun s sub m w hs hm => Any.strings_Index Tryz.lays143 s sub m w hs hm
theorem row161 (hL : LibVars Nu.old) : (indexRow 161).OK Tryz.prog := by
  obtain ⟨⟨m, hm⟩, _⟩ := hL
  exact indexRow_ok (gm := 0) (m := m) ⟨Tryz.f161, Tryz.func161, by kernel_rfl, by kernel_rfl⟩ (fun w hb => belowCell hb hm) fun s sub m w hs hm => Any.stringslite_Index Tryz.lays219 s sub m w hs hm
theorem row144 (hL : LibVars Nu.old) : (atoiRow 144 236).OK Tryz.prog := by
  refine atoiRow_ok ⟨Tryz.f144, Tryz.func144, by kernel_rfl, by kernel_rfl⟩ (fun s v w hs h => (Any.strconv_Atoi_ok Tryz.lays172 s hs v h w).mono fun e w' ⟨h1, h2⟩ => ⟨h1, ?_⟩) fun s w hs h hb => ?_
  · rcases h2 with rfl | ⟨t, rfl⟩
    · exact Below.refl _ _
    · exact Lib.bytesWorld_below _ _ _
  · obtain ⟨tp, p, he⟩ := (hL.below hb).err
    exact (Any.strconv_Atoi_syntax_var Tryz.lays172 s hs h tp p w he).mono fun e w' ⟨N, h1, _, _, h2⟩ => ⟨⟨N, h1⟩, h2⟩
theorem row139 (hL : LibVars Nu.old) : (joinRow 139).OK Tryz.prog :=
  joinRow_ok ⟨Tryz.f139, Tryz.func139, by kernel_rfl, by kernel_rfl⟩ (fun a c sep w => Any.strings_Join_none Tryz.lays156 Tryz.extra156 a c sep w) fun bk o c xs sep w h1 h2 h3 h4 h5 => Any.strings_Join Tryz.lays156 Tryz.extra156 bk o c xs sep w h1 h2 h3 h4 h5
theorem row109 (hL : LibVars Nu.old) : (itoaRow 109).OK Tryz.prog :=
  itoaRow_ok ⟨Tryz.f109, Tryz.func109, by kernel_rfl, by kernel_rfl⟩ fun n w hn hb => (Any.strconv_Itoa Tryz.lays171 n (by omega) (by omega) w (hL.below hb).tab).mono fun e w' ⟨h1, k, os, h2⟩ => ⟨h1, by rw [h2]; exact Go.below_regrown w _ os⟩
end
noncomputable def lib : List KRow := [indexRow 143, indexRow 161, atoiRow 144 236, joinRow 139, itoaRow 109]
theorem lib_ok [Nu] (hL : LibVars Nu.old) : ∀ p ∈ lib, p.OK Tryz.prog := (allC (row143 hL) (allC (row161 hL) (allC (row144 hL) (allC (row139 hL) (allC (row109 hL) all0)))))
end Go.Proofs.YtojfkhhebedeoaaGreatDoor.XCodeS
