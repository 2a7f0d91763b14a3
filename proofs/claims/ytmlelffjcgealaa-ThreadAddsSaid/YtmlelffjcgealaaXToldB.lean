/- Each piece of compact code is what the executor makes of the loaded function. Printed by a program of mine (wip/tools/mkcode.py). -/
import Derived.Test.YtmlelffjcgealaaXCodeB
import Derived.Test.YtmlelffjcgealaaXTable
import Derived.Test.YtmlelffjcgealaaRows
import Derived.WalkKit
import Derived.ProofKit
set_option maxRecDepth 100000
namespace Go.Proofs.Ytmlelffjcgealaa.XCodeB
open Go Go.X
noncomputable def cx : Cx := ⟨Try.prog, [], path, fun _ => []⟩
theorem told3 : cF cx 7 Try.f3 = some c3 := by kernel_rfl
theorem told4 : cF cx 8 Try.f4 = some c4 := by kernel_rfl
theorem told5 : cF cx 8 Try.f5 = some c5 := by kernel_rfl
theorem told6 : cF cx 8 Try.f6 = some c6 := by kernel_rfl
theorem told7 : cF cx 4 Try.f7 = some c7 := by kernel_rfl
theorem told8 : cF cx 7 Try.f8 = some c8 := by kernel_rfl
theorem told9 : cF cx 6 Try.f9 = some c9 := by kernel_rfl
theorem told10 : cF cx 7 Try.f10 = some c10 := by kernel_rfl
theorem told11 : cF cx 6 Try.f11 = some c11 := by kernel_rfl
theorem told12 : cF cx 8 Try.f12 = some c12 := by kernel_rfl
theorem told13 : cF cx 4 Try.f13 = some c13 := by kernel_rfl
theorem told14 : cF cx 5 Try.f14 = some c14 := by kernel_rfl
theorem told15 : cF cx 5 Try.f15 = some c15 := by kernel_rfl
theorem told16 : cF cx 5 Try.f16 = some c16 := by kernel_rfl
theorem told17 : cF cx 4 Try.f17 = some c17 := by kernel_rfl
theorem told18 : cF cx 6 Try.f18 = some c18 := by kernel_rfl
theorem told19 : cF cx 5 Try.f19 = some c19 := by kernel_rfl
theorem told20 : cF cx 6 Try.f20 = some c20 := by kernel_rfl
theorem told21 : cF cx 5 Try.f21 = some c21 := by kernel_rfl
theorem told22 : cF cx 6 Try.f22 = some c22 := by kernel_rfl
theorem told23 : cF cx 6 Try.f23 = some c23 := by kernel_rfl
theorem told24 : cF cx 5 Try.f24 = some c24 := by kernel_rfl
theorem told25 : cF cx 5 Try.f25 = some c25 := by kernel_rfl
theorem told26 : cF cx 7 Try.f26 = some c26 := by kernel_rfl
theorem told27 : cF cx 5 Try.f27 = some c27 := by kernel_rfl
theorem told28 : cF cx 5 Try.f28 = some c28 := by kernel_rfl
theorem told29 : cF cx 8 Try.f29 = some c29 := by kernel_rfl
theorem told30 : cF cx 4 Try.f30 = some c30 := by kernel_rfl
theorem told31 : cF cx 5 Try.f31 = some c31 := by kernel_rfl
theorem told32 : cF cx 5 Try.f32 = some c32 := by kernel_rfl
theorem told33 : cF cx 6 Try.f33 = some c33 := by kernel_rfl
theorem told34 : cF cx 6 Try.f34 = some c34 := by kernel_rfl
theorem told35 : cF cx 5 Try.f35 = some c35 := by kernel_rfl
theorem told36 : cF cx 5 Try.f36 = some c36 := by kernel_rfl
theorem told37 : cF cx 4 Try.f37 = some c37 := by kernel_rfl
theorem told38 : cF cx 5 Try.f38 = some c38 := by kernel_rfl
theorem told39 : cF cx 5 Try.f39 = some c39 := by kernel_rfl
theorem told40 : cF cx 5 Try.f40 = some c40 := by kernel_rfl
theorem told41 : cF cx 6 Try.f41 = some c41 := by kernel_rfl
theorem told42 : cF cx 4 Try.f42 = some c42 := by kernel_rfl
theorem told43 : cF cx 5 Try.f43 = some c43 := by kernel_rfl
theorem told44 : cF cx 6 Try.f44 = some c44 := by kernel_rfl
theorem told45 : cF cx 6 Try.f45 = some c45 := by kernel_rfl
theorem told46 : cF cx 7 Try.f46 = some c46 := by kernel_rfl
theorem told47 : cF cx 6 Try.f47 = some c47 := by kernel_rfl
theorem told48 : cF cx 6 Try.f48 = some c48 := by kernel_rfl
theorem told49 : cF cx 8 Try.f49 = some c49 := by kernel_rfl
theorem told50 : cF cx 7 Try.f50 = some c50 := by kernel_rfl
theorem told51 : cF cx 8 Try.f51 = some c51 := by kernel_rfl
theorem told52 : cF cx 5 Try.f52 = some c52 := by kernel_rfl
theorem told53 : cF cx 5 Try.f53 = some c53 := by kernel_rfl
theorem told54 : cF cx 3 Try.f54 = some c54 := by kernel_rfl
theorem told55 : cF cx 5 Try.f55 = some c55 := by kernel_rfl
theorem told56 : cF cx 5 Try.f56 = some c56 := by kernel_rfl
theorem told57 : cF cx 6 Try.f57 = some c57 := by kernel_rfl
theorem told58 : cF cx 4 Try.f58 = some c58 := by kernel_rfl
theorem told59 : cF cx 4 Try.f59 = some c59 := by kernel_rfl
theorem told60 : cF cx 4 Try.f60 = some c60 := by kernel_rfl
theorem told61 : cF cx 4 Try.f61 = some c61 := by kernel_rfl
theorem told62 : cF cx 4 Try.f62 = some c62 := by kernel_rfl
theorem told63 : cF cx 3 Try.f63 = some c63 := by kernel_rfl
theorem told64 : cF cx 4 Try.f64 = some c64 := by kernel_rfl
theorem told65 : cF cx 4 Try.f65 = some c65 := by kernel_rfl
theorem told66 : cF cx 6 Try.f66 = some c66 := by kernel_rfl
theorem told67 : cF cx 7 Try.f67 = some c67 := by kernel_rfl
theorem told68 : cF cx 3 Try.f68 = some c68 := by kernel_rfl
theorem told69 : cF cx 6 Try.f69 = some c69 := by kernel_rfl
theorem told70 : cF cx 5 Try.f70 = some c70 := by kernel_rfl
theorem told71 : cF cx 6 Try.f71 = some c71 := by kernel_rfl
theorem told72 : cF cx 5 Try.f72 = some c72 := by kernel_rfl
theorem told73 : cF cx 8 Try.f73 = some c73 := by kernel_rfl
theorem told74 : cF cx 6 Try.f74 = some c74 := by kernel_rfl
theorem told75 : cF cx 6 Try.f75 = some c75 := by kernel_rfl
theorem told76 : cF cx 6 Try.f76 = some c76 := by kernel_rfl
theorem told77 : cF cx 7 Try.f77 = some c77 := by kernel_rfl
theorem told78 : cF cx 6 Try.f78 = some c78 := by kernel_rfl
theorem told79 : cF cx 6 Try.f79 = some c79 := by kernel_rfl
theorem told80 : cF cx 8 Try.f80 = some c80 := by kernel_rfl
theorem told81 : cF cx 5 Try.f81 = some c81 := by kernel_rfl
theorem told82 : cF cx 7 Try.f82 = some c82 := by kernel_rfl
theorem told83 : cF cx 8 Try.f83 = some c83 := by kernel_rfl
theorem told84 : cF cx 7 Try.f84 = some c84 := by kernel_rfl
theorem told85 : cF cx 4 Try.f85 = some c85 := by kernel_rfl
theorem told86 : cF cx 6 Try.f86 = some c86 := by kernel_rfl
theorem told87 : cF cx 5 Try.f87 = some c87 := by kernel_rfl
theorem cx_ok [Nu] : cx.Ok := ⟨rfl, fun _ _ => ⟨[], RVs_none, rfl, fun _ _ _ _ h => (nomatch h)⟩, fun _ ht => (nomatch ht)⟩
theorem cx_mixed : cx.P.follows .mixedOrders = true := by kernel_rfl
theorem items : itemsOf code 1 0 = codeL := by kernel_rfl
theorem allTold : AllTold cx codeL := ⟨⟨Try.f64, 4, Try.func64, told64⟩, ⟨Try.f32, 5, Try.func32, told32⟩, ⟨Try.f16, 5, Try.func16, told16⟩, ⟨Try.f80, 8, Try.func80, told80⟩, ⟨Try.f48, 6, Try.func48, told48⟩, ⟨Try.f8, 7, Try.func8, told8⟩, ⟨Try.f72, 5, Try.func72, told72⟩, ⟨Try.f40, 5, Try.func40, told40⟩, ⟨Try.f24, 5, Try.func24, told24⟩, ⟨Try.f56, 5, Try.func56, told56⟩, ⟨Try.f4, 8, Try.func4, told4⟩, ⟨Try.f68, 3, Try.func68, told68⟩, ⟨Try.f36, 5, Try.func36, told36⟩, ⟨Try.f20, 6, Try.func20, told20⟩, ⟨Try.f84, 7, Try.func84, told84⟩, ⟨Try.f52, 5, Try.func52, told52⟩, ⟨Try.f12, 8, Try.func12, told12⟩, ⟨Try.f76, 6, Try.func76, told76⟩, ⟨Try.f44, 6, Try.func44, told44⟩, ⟨Try.f28, 5, Try.func28, told28⟩, ⟨Try.f60, 4, Try.func60, told60⟩, ⟨Try.f66, 6, Try.func66, told66⟩, ⟨Try.f34, 6, Try.func34, told34⟩, ⟨Try.f18, 6, Try.func18, told18⟩, ⟨Try.f82, 7, Try.func82, told82⟩, ⟨Try.f50, 7, Try.func50, told50⟩, ⟨Try.f10, 7, Try.func10, told10⟩, ⟨Try.f74, 6, Try.func74, told74⟩, ⟨Try.f42, 4, Try.func42, told42⟩, ⟨Try.f26, 7, Try.func26, told26⟩, ⟨Try.f58, 4, Try.func58, told58⟩, ⟨Try.f6, 8, Try.func6, told6⟩, ⟨Try.f70, 5, Try.func70, told70⟩, ⟨Try.f38, 5, Try.func38, told38⟩, ⟨Try.f22, 6, Try.func22, told22⟩, ⟨Try.f86, 6, Try.func86, told86⟩, ⟨Try.f54, 3, Try.func54, told54⟩, ⟨Try.f14, 5, Try.func14, told14⟩, ⟨Try.f78, 6, Try.func78, told78⟩, ⟨Try.f46, 7, Try.func46, told46⟩, ⟨Try.f30, 4, Try.func30, told30⟩, ⟨Try.f62, 4, Try.func62, told62⟩, ⟨Try.f65, 4, Try.func65, told65⟩, ⟨Try.f33, 6, Try.func33, told33⟩, ⟨Try.f17, 4, Try.func17, told17⟩, ⟨Try.f81, 5, Try.func81, told81⟩, ⟨Try.f49, 8, Try.func49, told49⟩, ⟨Try.f9, 6, Try.func9, told9⟩, ⟨Try.f73, 8, Try.func73, told73⟩, ⟨Try.f41, 6, Try.func41, told41⟩, ⟨Try.f25, 5, Try.func25, told25⟩, ⟨Try.f57, 6, Try.func57, told57⟩, ⟨Try.f5, 8, Try.func5, told5⟩, ⟨Try.f69, 6, Try.func69, told69⟩, ⟨Try.f37, 4, Try.func37, told37⟩, ⟨Try.f21, 5, Try.func21, told21⟩, ⟨Try.f85, 4, Try.func85, told85⟩, ⟨Try.f53, 5, Try.func53, told53⟩, ⟨Try.f13, 4, Try.func13, told13⟩, ⟨Try.f77, 7, Try.func77, told77⟩, ⟨Try.f45, 6, Try.func45, told45⟩, ⟨Try.f29, 8, Try.func29, told29⟩, ⟨Try.f61, 4, Try.func61, told61⟩, ⟨Try.f3, 7, Try.func3, told3⟩, ⟨Try.f67, 7, Try.func67, told67⟩, ⟨Try.f35, 5, Try.func35, told35⟩, ⟨Try.f19, 5, Try.func19, told19⟩, ⟨Try.f83, 8, Try.func83, told83⟩, ⟨Try.f51, 8, Try.func51, told51⟩, ⟨Try.f11, 6, Try.func11, told11⟩, ⟨Try.f75, 6, Try.func75, told75⟩, ⟨Try.f43, 5, Try.func43, told43⟩, ⟨Try.f27, 5, Try.func27, told27⟩, ⟨Try.f59, 4, Try.func59, told59⟩, ⟨Try.f7, 4, Try.func7, told7⟩, ⟨Try.f71, 6, Try.func71, told71⟩, ⟨Try.f39, 5, Try.func39, told39⟩, ⟨Try.f23, 6, Try.func23, told23⟩, ⟨Try.f87, 5, Try.func87, told87⟩, ⟨Try.f55, 5, Try.func55, told55⟩, ⟨Try.f15, 5, Try.func15, told15⟩, ⟨Try.f79, 6, Try.func79, told79⟩, ⟨Try.f47, 6, Try.func47, told47⟩, ⟨Try.f31, 5, Try.func31, told31⟩, ⟨Try.f63, 3, Try.func63, told63⟩, trivial⟩
theorem table : TableOK cx code := tableOK_of items allTold
end Go.Proofs.Ytmlelffjcgealaa.XCodeB
