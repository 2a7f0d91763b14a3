/- EnumThreads: rows of calls that are cut off. -/
import Derived.Test.YtheojbhaajbecaaGreatEnumThreadsK0
import Derived.Test.YtheojbhaajbecaaGreatEnumThreadsK1
set_option maxRecDepth 100000
namespace Go.Proofs.YtheojbhaajbecaaGreat.XCodeN
open Go Go.X Go.RowKit
noncomputable def rowEnumThreads_0 : KRow := cutRow 9 20 [cutEnumThreads_0, cutEnumThreads_1]
theorem rowEnumThreads_0_ok (M : Nu) (hp : Tryz.prog = M.prog) : @KRow.OK M Tryz.prog rowEnumThreads_0 := @cutRow_ok M cx cx_mixed codeL (fun M h => @cx_ok M h) (@allD M hp) hp 9 _ Tryz.func9 (by kernel_rfl) (by kernel_rfl) 20 _ (allC (fun M hM hv => @cut_self M _ _ _ (@noOrc_ok M _) _ _ _ cutkEnumThreads_0) (allC (fun M hM hv => @cut_self M _ _ _ (@noOrc_ok M _) _ _ _ cutkEnumThreads_1) all0))
end Go.Proofs.YtheojbhaajbecaaGreat.XCodeN
