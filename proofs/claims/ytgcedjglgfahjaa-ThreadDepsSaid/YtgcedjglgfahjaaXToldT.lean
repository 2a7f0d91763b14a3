/- Each piece of compact code is what the executor makes of the loaded function. Printed by a program of mine (wip/tools/mkcode.py). -/
import Derived.Test.YtgcedjglgfahjaaXCodeT
import Derived.Test.YtgcedjglgfahjaaXTable
import Derived.Test.YtgcedjglgfahjaaRows
import Derived.WalkKit
import Derived.ProofKit
set_option maxRecDepth 100000
namespace Go.Proofs.Ytgcedjglgfahjaa.XCodeT
open Go Go.X
noncomputable def cx : Cx := ⟨Try.prog, [158], path⟩
theorem told7 : cF cx 7 Try.f7 = some c7 := by kernel_rfl
theorem told8 : cF cx 8 Try.f8 = some c8 := by kernel_rfl
theorem told9 : cF cx 8 Try.f9 = some c9 := by kernel_rfl
theorem told10 : cF cx 7 Try.f10 = some c10 := by kernel_rfl
theorem told19 : cF cx 7 Try.f19 = some c19 := by kernel_rfl
theorem told20 : cF cx 4 Try.f20 = some c20 := by kernel_rfl
theorem told22 : cF cx 6 Try.f22 = some c22 := by kernel_rfl
theorem told23 : cF cx 7 Try.f23 = some c23 := by kernel_rfl
theorem told24 : cF cx 7 Try.f24 = some c24 := by kernel_rfl
theorem told27 : cF cx 7 Try.f27 = some c27 := by kernel_rfl
theorem told28 : cF cx 5 Try.f28 = some c28 := by kernel_rfl
theorem told37 : cF cx 6 Try.f37 = some c37 := by kernel_rfl
theorem told38 : cF cx 3 Try.f38 = some c38 := by kernel_rfl
theorem told39 : cF cx 5 Try.f39 = some c39 := by kernel_rfl
theorem told40 : cF cx 5 Try.f40 = some c40 := by kernel_rfl
theorem told41 : cF cx 4 Try.f41 = some c41 := by kernel_rfl
theorem told42 : cF cx 6 Try.f42 = some c42 := by kernel_rfl
theorem told43 : cF cx 5 Try.f43 = some c43 := by kernel_rfl
theorem told44 : cF cx 6 Try.f44 = some c44 := by kernel_rfl
theorem told45 : cF cx 4 Try.f45 = some c45 := by kernel_rfl
theorem told46 : cF cx 5 Try.f46 = some c46 := by kernel_rfl
theorem told75 : cF cx 3 Try.f75 = some c75 := by kernel_rfl
theorem told76 : cF cx 3 Try.f76 = some c76 := by kernel_rfl
theorem told77 : cF cx 6 Try.f77 = some c77 := by kernel_rfl
theorem told78 : cF cx 6 Try.f78 = some c78 := by kernel_rfl
theorem told79 : cF cx 5 Try.f79 = some c79 := by kernel_rfl
theorem told80 : cF cx 5 Try.f80 = some c80 := by kernel_rfl
theorem told81 : cF cx 4 Try.f81 = some c81 := by kernel_rfl
theorem told82 : cF cx 5 Try.f82 = some c82 := by kernel_rfl
theorem told83 : cF cx 5 Try.f83 = some c83 := by kernel_rfl
theorem told84 : cF cx 8 Try.f84 = some c84 := by kernel_rfl
theorem told85 : cF cx 4 Try.f85 = some c85 := by kernel_rfl
theorem told95 : cF cx 7 Try.f95 = some c95 := by kernel_rfl
theorem told105 : cF cx 5 Try.f105 = some c105 := by kernel_rfl
theorem told106 : cF cx 6 Try.f106 = some c106 := by kernel_rfl
theorem told109 : cF cx 5 Try.f109 = some c109 := by kernel_rfl
theorem told110 : cF cx 6 Try.f110 = some c110 := by kernel_rfl
theorem told111 : cF cx 6 Try.f111 = some c111 := by kernel_rfl
theorem told112 : cF cx 7 Try.f112 = some c112 := by kernel_rfl
theorem told113 : cF cx 6 Try.f113 = some c113 := by kernel_rfl
theorem told114 : cF cx 6 Try.f114 = some c114 := by kernel_rfl
theorem told115 : cF cx 8 Try.f115 = some c115 := by kernel_rfl
theorem told116 : cF cx 7 Try.f116 = some c116 := by kernel_rfl
theorem told117 : cF cx 8 Try.f117 = some c117 := by kernel_rfl
theorem told118 : cF cx 5 Try.f118 = some c118 := by kernel_rfl
theorem told119 : cF cx 5 Try.f119 = some c119 := by kernel_rfl
theorem told123 : cF cx 4 Try.f123 = some c123 := by kernel_rfl
theorem told124 : cF cx 3 Try.f124 = some c124 := by kernel_rfl
theorem told127 : cF cx 4 Try.f127 = some c127 := by kernel_rfl
theorem told128 : cF cx 6 Try.f128 = some c128 := by kernel_rfl
theorem told129 : cF cx 6 Try.f129 = some c129 := by kernel_rfl
theorem told130 : cF cx 5 Try.f130 = some c130 := by kernel_rfl
theorem told131 : cF cx 7 Try.f131 = some c131 := by kernel_rfl
theorem told132 : cF cx 3 Try.f132 = some c132 := by kernel_rfl
theorem told133 : cF cx 6 Try.f133 = some c133 := by kernel_rfl
theorem told134 : cF cx 5 Try.f134 = some c134 := by kernel_rfl
theorem told135 : cF cx 6 Try.f135 = some c135 := by kernel_rfl
theorem told137 : cF cx 4 Try.f137 = some c137 := by kernel_rfl
theorem told138 : cF cx 4 Try.f138 = some c138 := by kernel_rfl
theorem told139 : cF cx 4 Try.f139 = some c139 := by kernel_rfl
theorem told140 : cF cx 4 Try.f140 = some c140 := by kernel_rfl
theorem told141 : cF cx 4 Try.f141 = some c141 := by kernel_rfl
theorem told142 : cF cx 3 Try.f142 = some c142 := by kernel_rfl
theorem told143 : cF cx 4 Try.f143 = some c143 := by kernel_rfl
theorem told144 : cF cx 8 Try.f144 = some c144 := by kernel_rfl
theorem told145 : cF cx 6 Try.f145 = some c145 := by kernel_rfl
theorem told146 : cF cx 6 Try.f146 = some c146 := by kernel_rfl
theorem told147 : cF cx 6 Try.f147 = some c147 := by kernel_rfl
theorem told148 : cF cx 7 Try.f148 = some c148 := by kernel_rfl
theorem told149 : cF cx 6 Try.f149 = some c149 := by kernel_rfl
theorem told150 : cF cx 6 Try.f150 = some c150 := by kernel_rfl
theorem told151 : cF cx 8 Try.f151 = some c151 := by kernel_rfl
theorem told152 : cF cx 5 Try.f152 = some c152 := by kernel_rfl
theorem told153 : cF cx 7 Try.f153 = some c153 := by kernel_rfl
theorem told154 : cF cx 8 Try.f154 = some c154 := by kernel_rfl
theorem told155 : cF cx 7 Try.f155 = some c155 := by kernel_rfl
theorem told156 : cF cx 4 Try.f156 = some c156 := by kernel_rfl
theorem told157 : cF cx 6 Try.f157 = some c157 := by kernel_rfl
theorem told158 : cF cx 5 Try.f158 = some c158 := by kernel_rfl
theorem cx_ok : cx.Ok := ⟨rfl, fun t ht => by
  rcases List.mem_cons.1 ht with rfl | ht
  · exact ⟨Try.stoodInHeld158, Try.eqGuardType158⟩
  · exact nomatch ht⟩
theorem cx_mixed : cx.P.follows .mixedOrders = true := by kernel_rfl
theorem items : itemsOf code 1 0 = codeL := by kernel_rfl
theorem allTold : AllTold cx codeL := ⟨⟨Try.f128, 6, Try.func128, told128⟩, ⟨Try.f144, 8, Try.func144, told144⟩, ⟨Try.f80, 5, Try.func80, told80⟩, ⟨Try.f112, 7, Try.func112, told112⟩, ⟨Try.f8, 8, Try.func8, told8⟩, ⟨Try.f40, 5, Try.func40, told40⟩, ⟨Try.f24, 7, Try.func24, told24⟩, ⟨Try.f152, 5, Try.func152, told152⟩, ⟨Try.f132, 3, Try.func132, told132⟩, ⟨Try.f20, 4, Try.func20, told20⟩, ⟨Try.f148, 7, Try.func148, told148⟩, ⟨Try.f84, 8, Try.func84, told84⟩, ⟨Try.f116, 7, Try.func116, told116⟩, ⟨Try.f140, 4, Try.func140, told140⟩, ⟨Try.f76, 3, Try.func76, told76⟩, ⟨Try.f44, 6, Try.func44, told44⟩, ⟨Try.f28, 5, Try.func28, told28⟩, ⟨Try.f156, 4, Try.func156, told156⟩, ⟨Try.f124, 3, Try.func124, told124⟩, ⟨Try.f130, 5, Try.func130, told130⟩, ⟨Try.f146, 6, Try.func146, told146⟩, ⟨Try.f82, 5, Try.func82, told82⟩, ⟨Try.f114, 6, Try.func114, told114⟩, ⟨Try.f10, 7, Try.func10, told10⟩, ⟨Try.f138, 4, Try.func138, told138⟩, ⟨Try.f42, 6, Try.func42, told42⟩, ⟨Try.f106, 6, Try.func106, told106⟩, ⟨Try.f154, 8, Try.func154, told154⟩, ⟨Try.f134, 5, Try.func134, told134⟩, ⟨Try.f38, 3, Try.func38, told38⟩, ⟨Try.f22, 6, Try.func22, told22⟩, ⟨Try.f150, 6, Try.func150, told150⟩, ⟨Try.f118, 5, Try.func118, told118⟩, ⟨Try.f142, 3, Try.func142, told142⟩, ⟨Try.f78, 6, Try.func78, told78⟩, ⟨Try.f46, 5, Try.func46, told46⟩, ⟨Try.f110, 6, Try.func110, told110⟩, ⟨Try.f158, 5, Try.func158, told158⟩, ⟨Try.f129, 6, Try.func129, told129⟩, ⟨Try.f145, 6, Try.func145, told145⟩, ⟨Try.f81, 4, Try.func81, told81⟩, ⟨Try.f113, 6, Try.func113, told113⟩, ⟨Try.f9, 8, Try.func9, told9⟩, ⟨Try.f137, 4, Try.func137, told137⟩, ⟨Try.f41, 4, Try.func41, told41⟩, ⟨Try.f105, 5, Try.func105, told105⟩, ⟨Try.f153, 7, Try.func153, told153⟩, ⟨Try.f133, 6, Try.func133, told133⟩, ⟨Try.f37, 6, Try.func37, told37⟩, ⟨Try.f149, 6, Try.func149, told149⟩, ⟨Try.f85, 4, Try.func85, told85⟩, ⟨Try.f117, 8, Try.func117, told117⟩, ⟨Try.f141, 4, Try.func141, told141⟩, ⟨Try.f77, 6, Try.func77, told77⟩, ⟨Try.f45, 4, Try.func45, told45⟩, ⟨Try.f109, 5, Try.func109, told109⟩, ⟨Try.f157, 6, Try.func157, told157⟩, ⟨Try.f131, 7, Try.func131, told131⟩, ⟨Try.f19, 7, Try.func19, told19⟩, ⟨Try.f147, 6, Try.func147, told147⟩, ⟨Try.f83, 5, Try.func83, told83⟩, ⟨Try.f115, 8, Try.func115, told115⟩, ⟨Try.f139, 4, Try.func139, told139⟩, ⟨Try.f75, 3, Try.func75, told75⟩, ⟨Try.f43, 5, Try.func43, told43⟩, ⟨Try.f27, 7, Try.func27, told27⟩, ⟨Try.f155, 7, Try.func155, told155⟩, ⟨Try.f123, 4, Try.func123, told123⟩, ⟨Try.f7, 7, Try.func7, told7⟩, ⟨Try.f135, 6, Try.func135, told135⟩, ⟨Try.f39, 5, Try.func39, told39⟩, ⟨Try.f23, 7, Try.func23, told23⟩, ⟨Try.f151, 8, Try.func151, told151⟩, ⟨Try.f119, 5, Try.func119, told119⟩, ⟨Try.f143, 4, Try.func143, told143⟩, ⟨Try.f79, 5, Try.func79, told79⟩, ⟨Try.f111, 6, Try.func111, told111⟩, ⟨Try.f95, 7, Try.func95, told95⟩, ⟨Try.f127, 4, Try.func127, told127⟩, trivial⟩
theorem table : TableOK cx code := tableOK_of items allTold
end Go.Proofs.Ytgcedjglgfahjaa.XCodeT
