/- Each piece of compact code is what the executor makes of the loaded function. Printed by a program of mine (wip/tools/mkcode.py). -/
import Derived.Test.YtmlelffjcgealaaDoorXCodeE
import Derived.Test.YtmlelffjcgealaaDoorXTable
import Derived.Test.YtmlelffjcgealaaDoorRows
import Derived.WalkKit
import Derived.ProofKit
set_option maxRecDepth 100000
namespace Go.Proofs.YtmlelffjcgealaaDoor.XCodeE
open Go Go.X
noncomputable def cx : Cx := ⟨Tryd.prog, [], path, fun _ => []⟩
theorem told3 : cF cx 6 Tryd.f3 = some c3 := by kernel_rfl
theorem told4 : cF cx 7 Tryd.f4 = some c4 := by kernel_rfl
theorem told5 : cF cx 7 Tryd.f5 = some c5 := by kernel_rfl
theorem told6 : cF cx 4 Tryd.f6 = some c6 := by kernel_rfl
theorem told7 : cF cx 7 Tryd.f7 = some c7 := by kernel_rfl
theorem told8 : cF cx 3 Tryd.f8 = some c8 := by kernel_rfl
theorem told9 : cF cx 5 Tryd.f9 = some c9 := by kernel_rfl
theorem told10 : cF cx 4 Tryd.f10 = some c10 := by kernel_rfl
theorem told11 : cF cx 6 Tryd.f11 = some c11 := by kernel_rfl
theorem told12 : cF cx 5 Tryd.f12 = some c12 := by kernel_rfl
theorem told13 : cF cx 5 Tryd.f13 = some c13 := by kernel_rfl
theorem told14 : cF cx 5 Tryd.f14 = some c14 := by kernel_rfl
theorem told15 : cF cx 4 Tryd.f15 = some c15 := by kernel_rfl
theorem told16 : cF cx 6 Tryd.f16 = some c16 := by kernel_rfl
theorem told17 : cF cx 4 Tryd.f17 = some c17 := by kernel_rfl
theorem told18 : cF cx 6 Tryd.f18 = some c18 := by kernel_rfl
theorem told19 : cF cx 5 Tryd.f19 = some c19 := by kernel_rfl
theorem told21 : cF cx 4 Tryd.f21 = some c21 := by kernel_rfl
theorem told22 : cF cx 6 Tryd.f22 = some c22 := by kernel_rfl
theorem told23 : cF cx 4 Tryd.f23 = some c23 := by kernel_rfl
theorem told24 : cF cx 4 Tryd.f24 = some c24 := by kernel_rfl
theorem told25 : cF cx 4 Tryd.f25 = some c25 := by kernel_rfl
theorem told26 : cF cx 4 Tryd.f26 = some c26 := by kernel_rfl
theorem told27 : cF cx 4 Tryd.f27 = some c27 := by kernel_rfl
theorem told28 : cF cx 3 Tryd.f28 = some c28 := by kernel_rfl
theorem told29 : cF cx 4 Tryd.f29 = some c29 := by kernel_rfl
theorem told30 : cF cx 7 Tryd.f30 = some c30 := by kernel_rfl
theorem told32 : cF cx 4 Tryd.f32 = some c32 := by kernel_rfl
theorem told34 : cF cx 3 Tryd.f34 = some c34 := by kernel_rfl
theorem told38 : cF cx 8 Tryd.f38 = some c38 := by kernel_rfl
theorem told39 : cF cx 4 Tryd.f39 = some c39 := by kernel_rfl
theorem told40 : cF cx 6 Tryd.f40 = some c40 := by kernel_rfl
theorem told43 : cF cx 4 Tryd.f43 = some c43 := by kernel_rfl
theorem told44 : cF cx 7 Tryd.f44 = some c44 := by kernel_rfl
theorem told45 : cF cx 6 Tryd.f45 = some c45 := by kernel_rfl
theorem told46 : cF cx 3 Tryd.f46 = some c46 := by kernel_rfl
theorem told49 : cF cx 6 Tryd.f49 = some c49 := by kernel_rfl
theorem told50 : cF cx 6 Tryd.f50 = some c50 := by kernel_rfl
theorem told51 : cF cx 7 Tryd.f51 = some c51 := by kernel_rfl
theorem told52 : cF cx 6 Tryd.f52 = some c52 := by kernel_rfl
theorem told53 : cF cx 6 Tryd.f53 = some c53 := by kernel_rfl
theorem told54 : cF cx 8 Tryd.f54 = some c54 := by kernel_rfl
theorem told55 : cF cx 5 Tryd.f55 = some c55 := by kernel_rfl
theorem told56 : cF cx 7 Tryd.f56 = some c56 := by kernel_rfl
theorem told57 : cF cx 8 Tryd.f57 = some c57 := by kernel_rfl
theorem told58 : cF cx 5 Tryd.f58 = some c58 := by kernel_rfl
theorem told59 : cF cx 5 Tryd.f59 = some c59 := by kernel_rfl
theorem told61 : cF cx 5 Tryd.f61 = some c61 := by kernel_rfl
theorem told63 : cF cx 4 Tryd.f63 = some c63 := by kernel_rfl
theorem told65 : cF cx 3 Tryd.f65 = some c65 := by kernel_rfl
theorem told66 : cF cx 7 Tryd.f66 = some c66 := by kernel_rfl
theorem told67 : cF cx 5 Tryd.f67 = some c67 := by kernel_rfl
theorem told68 : cF cx 7 Tryd.f68 = some c68 := by kernel_rfl
theorem told69 : cF cx 4 Tryd.f69 = some c69 := by kernel_rfl
theorem told70 : cF cx 4 Tryd.f70 = some c70 := by kernel_rfl
theorem told71 : cF cx 5 Tryd.f71 = some c71 := by kernel_rfl
theorem told72 : cF cx 5 Tryd.f72 = some c72 := by kernel_rfl
theorem told73 : cF cx 6 Tryd.f73 = some c73 := by kernel_rfl
theorem told76 : cF cx 7 Tryd.f76 = some c76 := by kernel_rfl
theorem told77 : cF cx 3 Tryd.f77 = some c77 := by kernel_rfl
theorem told78 : cF cx 6 Tryd.f78 = some c78 := by kernel_rfl
theorem told79 : cF cx 4 Tryd.f79 = some c79 := by kernel_rfl
theorem told80 : cF cx 6 Tryd.f80 = some c80 := by kernel_rfl
theorem told81 : cF cx 3 Tryd.f81 = some c81 := by kernel_rfl
theorem told82 : cF cx 7 Tryd.f82 = some c82 := by kernel_rfl
theorem told84 : cF cx 6 Tryd.f84 = some c84 := by kernel_rfl
theorem told85 : cF cx 8 Tryd.f85 = some c85 := by kernel_rfl
theorem told86 : cF cx 5 Tryd.f86 = some c86 := by kernel_rfl
theorem told87 : cF cx 3 Tryd.f87 = some c87 := by kernel_rfl
theorem told88 : cF cx 4 Tryd.f88 = some c88 := by kernel_rfl
theorem told89 : cF cx 4 Tryd.f89 = some c89 := by kernel_rfl
theorem told90 : cF cx 8 Tryd.f90 = some c90 := by kernel_rfl
theorem told92 : cF cx 5 Tryd.f92 = some c92 := by kernel_rfl
theorem told93 : cF cx 3 Tryd.f93 = some c93 := by kernel_rfl
theorem told94 : cF cx 7 Tryd.f94 = some c94 := by kernel_rfl
theorem told95 : cF cx 3 Tryd.f95 = some c95 := by kernel_rfl
theorem told96 : cF cx 3 Tryd.f96 = some c96 := by kernel_rfl
theorem told97 : cF cx 4 Tryd.f97 = some c97 := by kernel_rfl
theorem told98 : cF cx 4 Tryd.f98 = some c98 := by kernel_rfl
theorem told99 : cF cx 4 Tryd.f99 = some c99 := by kernel_rfl
theorem told100 : cF cx 4 Tryd.f100 = some c100 := by kernel_rfl
theorem cx_ok [Nu] : cx.Ok := ⟨rfl, fun _ _ => ⟨[], RVs_none, rfl, fun _ _ _ _ h => (nomatch h)⟩, fun _ ht => (nomatch ht)⟩
theorem cx_mixed : cx.P.follows .mixedOrders = true := by kernel_rfl
theorem items : itemsOf code 1 0 = codeL := by kernel_rfl
theorem allTold : AllTold cx codeL := ⟨⟨Tryd.f32, 4, Tryd.func32, told32⟩, ⟨Tryd.f96, 3, Tryd.func96, told96⟩, ⟨Tryd.f16, 6, Tryd.func16, told16⟩, ⟨Tryd.f80, 6, Tryd.func80, told80⟩, ⟨Tryd.f8, 3, Tryd.func8, told8⟩, ⟨Tryd.f72, 5, Tryd.func72, told72⟩, ⟨Tryd.f40, 6, Tryd.func40, told40⟩, ⟨Tryd.f24, 4, Tryd.func24, told24⟩, ⟨Tryd.f88, 4, Tryd.func88, told88⟩, ⟨Tryd.f56, 7, Tryd.func56, told56⟩, ⟨Tryd.f4, 7, Tryd.func4, told4⟩, ⟨Tryd.f68, 7, Tryd.func68, told68⟩, ⟨Tryd.f100, 4, Tryd.func100, told100⟩, ⟨Tryd.f84, 6, Tryd.func84, told84⟩, ⟨Tryd.f52, 6, Tryd.func52, told52⟩, ⟨Tryd.f12, 5, Tryd.func12, told12⟩, ⟨Tryd.f76, 7, Tryd.func76, told76⟩, ⟨Tryd.f44, 7, Tryd.func44, told44⟩, ⟨Tryd.f28, 3, Tryd.func28, told28⟩, ⟨Tryd.f92, 5, Tryd.func92, told92⟩, ⟨Tryd.f66, 7, Tryd.func66, told66⟩, ⟨Tryd.f34, 3, Tryd.func34, told34⟩, ⟨Tryd.f98, 4, Tryd.func98, told98⟩, ⟨Tryd.f18, 6, Tryd.func18, told18⟩, ⟨Tryd.f82, 7, Tryd.func82, told82⟩, ⟨Tryd.f50, 6, Tryd.func50, told50⟩, ⟨Tryd.f10, 4, Tryd.func10, told10⟩, ⟨Tryd.f26, 4, Tryd.func26, told26⟩, ⟨Tryd.f90, 8, Tryd.func90, told90⟩, ⟨Tryd.f58, 5, Tryd.func58, told58⟩, ⟨Tryd.f6, 4, Tryd.func6, told6⟩, ⟨Tryd.f70, 4, Tryd.func70, told70⟩, ⟨Tryd.f38, 8, Tryd.func38, told38⟩, ⟨Tryd.f22, 6, Tryd.func22, told22⟩, ⟨Tryd.f86, 5, Tryd.func86, told86⟩, ⟨Tryd.f54, 8, Tryd.func54, told54⟩, ⟨Tryd.f14, 5, Tryd.func14, told14⟩, ⟨Tryd.f78, 6, Tryd.func78, told78⟩, ⟨Tryd.f46, 3, Tryd.func46, told46⟩, ⟨Tryd.f30, 7, Tryd.func30, told30⟩, ⟨Tryd.f94, 7, Tryd.func94, told94⟩, ⟨Tryd.f65, 3, Tryd.func65, told65⟩, ⟨Tryd.f97, 4, Tryd.func97, told97⟩, ⟨Tryd.f17, 4, Tryd.func17, told17⟩, ⟨Tryd.f81, 3, Tryd.func81, told81⟩, ⟨Tryd.f49, 6, Tryd.func49, told49⟩, ⟨Tryd.f9, 5, Tryd.func9, told9⟩, ⟨Tryd.f73, 6, Tryd.func73, told73⟩, ⟨Tryd.f25, 4, Tryd.func25, told25⟩, ⟨Tryd.f89, 4, Tryd.func89, told89⟩, ⟨Tryd.f57, 8, Tryd.func57, told57⟩, ⟨Tryd.f5, 7, Tryd.func5, told5⟩, ⟨Tryd.f69, 4, Tryd.func69, told69⟩, ⟨Tryd.f21, 4, Tryd.func21, told21⟩, ⟨Tryd.f85, 8, Tryd.func85, told85⟩, ⟨Tryd.f53, 6, Tryd.func53, told53⟩, ⟨Tryd.f13, 5, Tryd.func13, told13⟩, ⟨Tryd.f77, 3, Tryd.func77, told77⟩, ⟨Tryd.f45, 6, Tryd.func45, told45⟩, ⟨Tryd.f29, 4, Tryd.func29, told29⟩, ⟨Tryd.f93, 3, Tryd.func93, told93⟩, ⟨Tryd.f61, 5, Tryd.func61, told61⟩, ⟨Tryd.f3, 6, Tryd.func3, told3⟩, ⟨Tryd.f67, 5, Tryd.func67, told67⟩, ⟨Tryd.f99, 4, Tryd.func99, told99⟩, ⟨Tryd.f19, 5, Tryd.func19, told19⟩, ⟨Tryd.f51, 7, Tryd.func51, told51⟩, ⟨Tryd.f11, 6, Tryd.func11, told11⟩, ⟨Tryd.f43, 4, Tryd.func43, told43⟩, ⟨Tryd.f27, 4, Tryd.func27, told27⟩, ⟨Tryd.f59, 5, Tryd.func59, told59⟩, ⟨Tryd.f7, 7, Tryd.func7, told7⟩, ⟨Tryd.f71, 5, Tryd.func71, told71⟩, ⟨Tryd.f39, 4, Tryd.func39, told39⟩, ⟨Tryd.f23, 4, Tryd.func23, told23⟩, ⟨Tryd.f87, 3, Tryd.func87, told87⟩, ⟨Tryd.f55, 5, Tryd.func55, told55⟩, ⟨Tryd.f15, 4, Tryd.func15, told15⟩, ⟨Tryd.f79, 4, Tryd.func79, told79⟩, ⟨Tryd.f95, 3, Tryd.func95, told95⟩, ⟨Tryd.f63, 4, Tryd.func63, told63⟩, trivial⟩
theorem table : TableOK cx code := tableOK_of items allTold
end Go.Proofs.YtmlelffjcgealaaDoor.XCodeE
