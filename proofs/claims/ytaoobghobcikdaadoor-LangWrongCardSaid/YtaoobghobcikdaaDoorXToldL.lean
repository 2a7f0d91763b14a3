/- Each piece of compact code is what the executor makes of the loaded function. Printed by a program of mine (wip/tools/mkcode.py). -/
import Derived.Test.YtaoobghobcikdaaDoorXCodeL
import Derived.Test.YtaoobghobcikdaaDoorXTable
import Derived.Test.YtaoobghobcikdaaDoorRows
import Derived.WalkKit
import Derived.ProofKit
set_option maxRecDepth 100000
namespace Go.Proofs.YtaoobghobcikdaaDoor.XCodeL
open Go Go.X
noncomputable def cx : Cx := ⟨Tryd.prog, [37, 76], path, fun _ => []⟩
theorem told3 : cF cx 6 Tryd.f3 = some c3 := by kernel_rfl
theorem told4 : cF cx 7 Tryd.f4 = some c4 := by kernel_rfl
theorem told5 : cF cx 7 Tryd.f5 = some c5 := by kernel_rfl
theorem told6 : cF cx 7 Tryd.f6 = some c6 := by kernel_rfl
theorem told8 : cF cx 4 Tryd.f8 = some c8 := by kernel_rfl
theorem told9 : cF cx 6 Tryd.f9 = some c9 := by kernel_rfl
theorem told10 : cF cx 6 Tryd.f10 = some c10 := by kernel_rfl
theorem told11 : cF cx 6 Tryd.f11 = some c11 := by kernel_rfl
theorem told12 : cF cx 6 Tryd.f12 = some c12 := by kernel_rfl
theorem told17 : cF cx 4 Tryd.f17 = some c17 := by kernel_rfl
theorem told18 : cF cx 7 Tryd.f18 = some c18 := by kernel_rfl
theorem told19 : cF cx 7 Tryd.f19 = some c19 := by kernel_rfl
theorem told20 : cF cx 5 Tryd.f20 = some c20 := by kernel_rfl
theorem told21 : cF cx 7 Tryd.f21 = some c21 := by kernel_rfl
theorem told22 : cF cx 6 Tryd.f22 = some c22 := by kernel_rfl
theorem told23 : cF cx 5 Tryd.f23 = some c23 := by kernel_rfl
theorem told25 : cF cx 4 Tryd.f25 = some c25 := by kernel_rfl
theorem told30 : cF cx 3 Tryd.f30 = some c30 := by kernel_rfl
theorem told34 : cF cx 7 Tryd.f34 = some c34 := by kernel_rfl
theorem told35 : cF cx 4 Tryd.f35 = some c35 := by kernel_rfl
theorem told36 : cF cx 5 Tryd.f36 = some c36 := by kernel_rfl
theorem told37 : cF cx 3 Tryd.f37 = some c37 := by kernel_rfl
theorem told38 : cF cx 3 Tryd.f38 = some c38 := by kernel_rfl
theorem told39 : cF cx 5 Tryd.f39 = some c39 := by kernel_rfl
theorem told40 : cF cx 6 Tryd.f40 = some c40 := by kernel_rfl
theorem told41 : cF cx 4 Tryd.f41 = some c41 := by kernel_rfl
theorem told42 : cF cx 7 Tryd.f42 = some c42 := by kernel_rfl
theorem told43 : cF cx 7 Tryd.f43 = some c43 := by kernel_rfl
theorem told44 : cF cx 6 Tryd.f44 = some c44 := by kernel_rfl
theorem told45 : cF cx 5 Tryd.f45 = some c45 := by kernel_rfl
theorem told46 : cF cx 7 Tryd.f46 = some c46 := by kernel_rfl
theorem told47 : cF cx 7 Tryd.f47 = some c47 := by kernel_rfl
theorem told48 : cF cx 8 Tryd.f48 = some c48 := by kernel_rfl
theorem told49 : cF cx 6 Tryd.f49 = some c49 := by kernel_rfl
theorem told50 : cF cx 5 Tryd.f50 = some c50 := by kernel_rfl
theorem told52 : cF cx 5 Tryd.f52 = some c52 := by kernel_rfl
theorem told55 : cF cx 3 Tryd.f55 = some c55 := by kernel_rfl
theorem told56 : cF cx 6 Tryd.f56 = some c56 := by kernel_rfl
theorem told59 : cF cx 4 Tryd.f59 = some c59 := by kernel_rfl
theorem told60 : cF cx 5 Tryd.f60 = some c60 := by kernel_rfl
theorem told61 : cF cx 2 Tryd.f61 = some c61 := by kernel_rfl
theorem told62 : cF cx 5 Tryd.f62 = some c62 := by kernel_rfl
theorem told64 : cF cx 5 Tryd.f64 = some c64 := by kernel_rfl
theorem told65 : cF cx 5 Tryd.f65 = some c65 := by kernel_rfl
theorem told66 : cF cx 5 Tryd.f66 = some c66 := by kernel_rfl
theorem told67 : cF cx 5 Tryd.f67 = some c67 := by kernel_rfl
theorem told68 : cF cx 4 Tryd.f68 = some c68 := by kernel_rfl
theorem told69 : cF cx 5 Tryd.f69 = some c69 := by kernel_rfl
theorem told70 : cF cx 4 Tryd.f70 = some c70 := by kernel_rfl
theorem told71 : cF cx 5 Tryd.f71 = some c71 := by kernel_rfl
theorem told74 : cF cx 5 Tryd.f74 = some c74 := by kernel_rfl
theorem told75 : cF cx 6 Tryd.f75 = some c75 := by kernel_rfl
theorem told77 : cF cx 5 Tryd.f77 = some c77 := by kernel_rfl
theorem told79 : cF cx 4 Tryd.f79 = some c79 := by kernel_rfl
theorem told80 : cF cx 6 Tryd.f80 = some c80 := by kernel_rfl
theorem told81 : cF cx 6 Tryd.f81 = some c81 := by kernel_rfl
theorem told82 : cF cx 7 Tryd.f82 = some c82 := by kernel_rfl
theorem told83 : cF cx 6 Tryd.f83 = some c83 := by kernel_rfl
theorem told84 : cF cx 5 Tryd.f84 = some c84 := by kernel_rfl
theorem told85 : cF cx 4 Tryd.f85 = some c85 := by kernel_rfl
theorem told87 : cF cx 3 Tryd.f87 = some c87 := by kernel_rfl
theorem told88 : cF cx 7 Tryd.f88 = some c88 := by kernel_rfl
theorem told90 : cF cx 4 Tryd.f90 = some c90 := by kernel_rfl
theorem told91 : cF cx 4 Tryd.f91 = some c91 := by kernel_rfl
theorem told92 : cF cx 8 Tryd.f92 = some c92 := by kernel_rfl
theorem told94 : cF cx 7 Tryd.f94 = some c94 := by kernel_rfl
theorem told95 : cF cx 6 Tryd.f95 = some c95 := by kernel_rfl
theorem told96 : cF cx 7 Tryd.f96 = some c96 := by kernel_rfl
theorem told97 : cF cx 4 Tryd.f97 = some c97 := by kernel_rfl
theorem told98 : cF cx 4 Tryd.f98 = some c98 := by kernel_rfl
theorem told99 : cF cx 5 Tryd.f99 = some c99 := by kernel_rfl
theorem told100 : cF cx 5 Tryd.f100 = some c100 := by kernel_rfl
theorem told102 : cF cx 6 Tryd.f102 = some c102 := by kernel_rfl
theorem told103 : cF cx 3 Tryd.f103 = some c103 := by kernel_rfl
theorem told104 : cF cx 5 Tryd.f104 = some c104 := by kernel_rfl
theorem told105 : cF cx 3 Tryd.f105 = some c105 := by kernel_rfl
theorem told106 : cF cx 4 Tryd.f106 = some c106 := by kernel_rfl
theorem told107 : cF cx 4 Tryd.f107 = some c107 := by kernel_rfl
theorem told108 : cF cx 8 Tryd.f108 = some c108 := by kernel_rfl
theorem told109 : cF cx 5 Tryd.f109 = some c109 := by kernel_rfl
theorem told110 : cF cx 3 Tryd.f110 = some c110 := by kernel_rfl
theorem told111 : cF cx 4 Tryd.f111 = some c111 := by kernel_rfl
theorem told112 : cF cx 4 Tryd.f112 = some c112 := by kernel_rfl
theorem told113 : cF cx 3 Tryd.f113 = some c113 := by kernel_rfl
theorem told114 : cF cx 7 Tryd.f114 = some c114 := by kernel_rfl
theorem cx_ok [Nu] : cx.Ok := ⟨rfl, fun _ _ => ⟨[], RVs_none, rfl, fun _ _ _ _ h => (nomatch h)⟩, fun t ht => by
  rcases List.mem_cons.1 ht with rfl | ht
  · exact ⟨Tryd.stoodInHeld37, Tryd.eqGuardType37⟩
  rcases List.mem_cons.1 ht with rfl | ht
  · exact ⟨Tryd.stoodInHeld76, Tryd.eqGuardType76⟩
  · exact nomatch ht⟩
theorem cx_mixed : cx.P.follows .mixedOrders = true := by kernel_rfl
theorem items : itemsOf code 1 0 = codeL := by kernel_rfl
theorem allTold : AllTold cx codeL := ⟨⟨Tryd.f64, 5, Tryd.func64, told64⟩, ⟨Tryd.f96, 7, Tryd.func96, told96⟩, ⟨Tryd.f80, 6, Tryd.func80, told80⟩, ⟨Tryd.f48, 8, Tryd.func48, told48⟩, ⟨Tryd.f112, 4, Tryd.func112, told112⟩, ⟨Tryd.f8, 4, Tryd.func8, told8⟩, ⟨Tryd.f40, 6, Tryd.func40, told40⟩, ⟨Tryd.f104, 5, Tryd.func104, told104⟩, ⟨Tryd.f88, 7, Tryd.func88, told88⟩, ⟨Tryd.f56, 6, Tryd.func56, told56⟩, ⟨Tryd.f4, 7, Tryd.func4, told4⟩, ⟨Tryd.f68, 4, Tryd.func68, told68⟩, ⟨Tryd.f36, 5, Tryd.func36, told36⟩, ⟨Tryd.f100, 5, Tryd.func100, told100⟩, ⟨Tryd.f20, 5, Tryd.func20, told20⟩, ⟨Tryd.f84, 5, Tryd.func84, told84⟩, ⟨Tryd.f52, 5, Tryd.func52, told52⟩, ⟨Tryd.f12, 6, Tryd.func12, told12⟩, ⟨Tryd.f44, 6, Tryd.func44, told44⟩, ⟨Tryd.f108, 8, Tryd.func108, told108⟩, ⟨Tryd.f92, 8, Tryd.func92, told92⟩, ⟨Tryd.f60, 5, Tryd.func60, told60⟩, ⟨Tryd.f66, 5, Tryd.func66, told66⟩, ⟨Tryd.f34, 7, Tryd.func34, told34⟩, ⟨Tryd.f98, 4, Tryd.func98, told98⟩, ⟨Tryd.f18, 7, Tryd.func18, told18⟩, ⟨Tryd.f82, 7, Tryd.func82, told82⟩, ⟨Tryd.f50, 5, Tryd.func50, told50⟩, ⟨Tryd.f114, 7, Tryd.func114, told114⟩, ⟨Tryd.f10, 6, Tryd.func10, told10⟩, ⟨Tryd.f74, 5, Tryd.func74, told74⟩, ⟨Tryd.f42, 7, Tryd.func42, told42⟩, ⟨Tryd.f106, 4, Tryd.func106, told106⟩, ⟨Tryd.f90, 4, Tryd.func90, told90⟩, ⟨Tryd.f6, 7, Tryd.func6, told6⟩, ⟨Tryd.f70, 4, Tryd.func70, told70⟩, ⟨Tryd.f38, 3, Tryd.func38, told38⟩, ⟨Tryd.f102, 6, Tryd.func102, told102⟩, ⟨Tryd.f22, 6, Tryd.func22, told22⟩, ⟨Tryd.f46, 7, Tryd.func46, told46⟩, ⟨Tryd.f110, 3, Tryd.func110, told110⟩, ⟨Tryd.f30, 3, Tryd.func30, told30⟩, ⟨Tryd.f94, 7, Tryd.func94, told94⟩, ⟨Tryd.f62, 5, Tryd.func62, told62⟩, ⟨Tryd.f65, 5, Tryd.func65, told65⟩, ⟨Tryd.f97, 4, Tryd.func97, told97⟩, ⟨Tryd.f17, 4, Tryd.func17, told17⟩, ⟨Tryd.f81, 6, Tryd.func81, told81⟩, ⟨Tryd.f49, 6, Tryd.func49, told49⟩, ⟨Tryd.f113, 3, Tryd.func113, told113⟩, ⟨Tryd.f9, 6, Tryd.func9, told9⟩, ⟨Tryd.f41, 4, Tryd.func41, told41⟩, ⟨Tryd.f105, 3, Tryd.func105, told105⟩, ⟨Tryd.f25, 4, Tryd.func25, told25⟩, ⟨Tryd.f5, 7, Tryd.func5, told5⟩, ⟨Tryd.f69, 5, Tryd.func69, told69⟩, ⟨Tryd.f37, 3, Tryd.func37, told37⟩, ⟨Tryd.f21, 7, Tryd.func21, told21⟩, ⟨Tryd.f85, 4, Tryd.func85, told85⟩, ⟨Tryd.f77, 5, Tryd.func77, told77⟩, ⟨Tryd.f45, 5, Tryd.func45, told45⟩, ⟨Tryd.f109, 5, Tryd.func109, told109⟩, ⟨Tryd.f61, 2, Tryd.func61, told61⟩, ⟨Tryd.f3, 6, Tryd.func3, told3⟩, ⟨Tryd.f67, 5, Tryd.func67, told67⟩, ⟨Tryd.f35, 4, Tryd.func35, told35⟩, ⟨Tryd.f99, 5, Tryd.func99, told99⟩, ⟨Tryd.f19, 7, Tryd.func19, told19⟩, ⟨Tryd.f83, 6, Tryd.func83, told83⟩, ⟨Tryd.f11, 6, Tryd.func11, told11⟩, ⟨Tryd.f75, 6, Tryd.func75, told75⟩, ⟨Tryd.f43, 7, Tryd.func43, told43⟩, ⟨Tryd.f107, 4, Tryd.func107, told107⟩, ⟨Tryd.f91, 4, Tryd.func91, told91⟩, ⟨Tryd.f59, 4, Tryd.func59, told59⟩, ⟨Tryd.f71, 5, Tryd.func71, told71⟩, ⟨Tryd.f39, 5, Tryd.func39, told39⟩, ⟨Tryd.f103, 3, Tryd.func103, told103⟩, ⟨Tryd.f23, 5, Tryd.func23, told23⟩, ⟨Tryd.f87, 3, Tryd.func87, told87⟩, ⟨Tryd.f55, 3, Tryd.func55, told55⟩, ⟨Tryd.f79, 4, Tryd.func79, told79⟩, ⟨Tryd.f47, 7, Tryd.func47, told47⟩, ⟨Tryd.f111, 4, Tryd.func111, told111⟩, ⟨Tryd.f95, 6, Tryd.func95, told95⟩, trivial⟩
theorem table : TableOK cx code := tableOK_of items allTold
end Go.Proofs.YtaoobghobcikdaaDoor.XCodeL
