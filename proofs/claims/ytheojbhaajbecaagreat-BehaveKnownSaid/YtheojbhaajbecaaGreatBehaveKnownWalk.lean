/- BehaveKnown returns true at every input: its way through the program. -/
import Derived.Test.YtheojbhaajbecaaGreatBehaveKnownC0
import Derived.Test.YtheojbhaajbecaaGreatBehaveKnownC1
import Derived.Test.YtheojbhaajbecaaGreatBehaveKnownC2
set_option maxRecDepth 100000
namespace Go.Proofs.YtheojbhaajbecaaGreat.XCodeB
open Go Go.X Go.RowKit
theorem walkBehaveKnown_0 (a0 : Int) (a1 : Bool) (w : World) (e0 : a0 % 3 = 0) : Calls Tryz.prog 6 #[.int .i64 a0, .bool a1] w fun e w' => e = .returned (.bool true) ∧ Below w.heap.size w w' := by
  cases a1
  · exact caseBehaveKnownK a0 false _ w relRows (fun M h => @relRows_ok M h) e0 cBehaveKnown0xf
  · exact caseBehaveKnownK a0 true _ w relRows (fun M h => @relRows_ok M h) e0 cBehaveKnown0xt
theorem walkBehaveKnown_1 (a0 : Int) (a1 : Bool) (w : World) (e0 : a0 % 3 = 1) : Calls Tryz.prog 6 #[.int .i64 a0, .bool a1] w fun e w' => e = .returned (.bool true) ∧ Below w.heap.size w w' := by
  cases a1
  · exact caseBehaveKnownK a0 false _ w relRows (fun M h => @relRows_ok M h) e0 cBehaveKnown1xf
  · exact caseBehaveKnownK a0 true _ w relRows (fun M h => @relRows_ok M h) e0 cBehaveKnown1xt
theorem walkBehaveKnown_2 (a0 : Int) (a1 : Bool) (w : World) (e0 : a0 % 3 = 2) : Calls Tryz.prog 6 #[.int .i64 a0, .bool a1] w fun e w' => e = .returned (.bool true) ∧ Below w.heap.size w w' := by
  cases a1
  · exact caseBehaveKnownK a0 false _ w relRows (fun M h => @relRows_ok M h) e0 cBehaveKnown2xf
  · exact caseBehaveKnownK a0 true _ w relRows (fun M h => @relRows_ok M h) e0 cBehaveKnown2xt
theorem walkBehaveKnown (a0 : Int) (a1 : Bool) (w : World)  : Calls Tryz.prog 6 #[.int .i64 a0, .bool a1] w fun e w' => e = .returned (.bool true) ∧ Below w.heap.size w w' := by
  have h : a0 % 3 = 0 ∨ a0 % 3 = 1 ∨ a0 % 3 = 2 := by omega
  rcases h with h | h | h
  · exact walkBehaveKnown_0 a0 a1 w  h
  · exact walkBehaveKnown_1 a0 a1 w  h
  · exact walkBehaveKnown_2 a0 a1 w  h
end Go.Proofs.YtheojbhaajbecaaGreat.XCodeB
