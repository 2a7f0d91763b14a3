/- Each piece of compact code is what the executor makes of the loaded function. Printed by a program of mine (wip/tools/mkcode.py). -/
import Derived.Test.YtgcedjglgfahjaaXCode
import Derived.Test.YtgcedjglgfahjaaXTable
import Derived.Test.YtgcedjglgfahjaaRows
import Derived.WalkKit
import Derived.ProofKit
set_option maxRecDepth 100000
namespace Go.Proofs.Ytgcedjglgfahjaa.XCode
open Go Go.X
noncomputable def cx : Cx := ⟨Try.prog, [158], path⟩
theorem told5 : cF cx 8 Try.f5 = some c5 := by kernel_rfl
theorem told15 : cF cx 6 Try.f15 = some c15 := by kernel_rfl
theorem told16 : cF cx 7 Try.f16 = some c16 := by kernel_rfl
theorem told21 : cF cx 5 Try.f21 = some c21 := by kernel_rfl
theorem told31 : cF cx 7 Try.f31 = some c31 := by kernel_rfl
theorem told32 : cF cx 6 Try.f32 = some c32 := by kernel_rfl
theorem told59 : cF cx 7 Try.f59 = some c59 := by kernel_rfl
theorem told60 : cF cx 5 Try.f60 = some c60 := by kernel_rfl
theorem told61 : cF cx 5 Try.f61 = some c61 := by kernel_rfl
theorem told62 : cF cx 4 Try.f62 = some c62 := by kernel_rfl
theorem told63 : cF cx 4 Try.f63 = some c63 := by kernel_rfl
theorem told64 : cF cx 5 Try.f64 = some c64 := by kernel_rfl
theorem told65 : cF cx 5 Try.f65 = some c65 := by kernel_rfl
theorem told66 : cF cx 5 Try.f66 = some c66 := by kernel_rfl
theorem told67 : cF cx 6 Try.f67 = some c67 := by kernel_rfl
theorem told68 : cF cx 4 Try.f68 = some c68 := by kernel_rfl
theorem told69 : cF cx 4 Try.f69 = some c69 := by kernel_rfl
theorem told85 : cF cx 4 Try.f85 = some c85 := by kernel_rfl
theorem told100 : cF cx 5 Try.f100 = some c100 := by kernel_rfl
theorem told101 : cF cx 4 Try.f101 = some c101 := by kernel_rfl
theorem told102 : cF cx 5 Try.f102 = some c102 := by kernel_rfl
theorem told103 : cF cx 5 Try.f103 = some c103 := by kernel_rfl
theorem told104 : cF cx 4 Try.f104 = some c104 := by kernel_rfl
theorem told105 : cF cx 5 Try.f105 = some c105 := by kernel_rfl
theorem told106 : cF cx 6 Try.f106 = some c106 := by kernel_rfl
theorem told118 : cF cx 5 Try.f118 = some c118 := by kernel_rfl
theorem told119 : cF cx 5 Try.f119 = some c119 := by kernel_rfl
theorem told124 : cF cx 3 Try.f124 = some c124 := by kernel_rfl
theorem told125 : cF cx 4 Try.f125 = some c125 := by kernel_rfl
theorem told126 : cF cx 5 Try.f126 = some c126 := by kernel_rfl
theorem told127 : cF cx 4 Try.f127 = some c127 := by kernel_rfl
theorem told128 : cF cx 6 Try.f128 = some c128 := by kernel_rfl
theorem told129 : cF cx 6 Try.f129 = some c129 := by kernel_rfl
theorem told132 : cF cx 3 Try.f132 = some c132 := by kernel_rfl
theorem told133 : cF cx 6 Try.f133 = some c133 := by kernel_rfl
theorem told144 : cF cx 8 Try.f144 = some c144 := by kernel_rfl
theorem told146 : cF cx 6 Try.f146 = some c146 := by kernel_rfl
theorem told147 : cF cx 6 Try.f147 = some c147 := by kernel_rfl
theorem told148 : cF cx 7 Try.f148 = some c148 := by kernel_rfl
theorem told149 : cF cx 6 Try.f149 = some c149 := by kernel_rfl
theorem told150 : cF cx 6 Try.f150 = some c150 := by kernel_rfl
theorem told151 : cF cx 8 Try.f151 = some c151 := by kernel_rfl
theorem told152 : cF cx 5 Try.f152 = some c152 := by kernel_rfl
theorem told153 : cF cx 7 Try.f153 = some c153 := by kernel_rfl
theorem told154 : cF cx 8 Try.f154 = some c154 := by kernel_rfl
theorem told155 : cF cx 7 Try.f155 = some c155 := by kernel_rfl
theorem told156 : cF cx 4 Try.f156 = some c156 := by kernel_rfl
theorem told157 : cF cx 6 Try.f157 = some c157 := by kernel_rfl
theorem told158 : cF cx 5 Try.f158 = some c158 := by kernel_rfl
theorem cx_ok : cx.Ok := ⟨rfl, fun t ht => by
  rcases List.mem_cons.1 ht with rfl | ht
  · exact ⟨Try.stoodInHeld158, Try.eqGuardType158⟩
  · exact nomatch ht⟩
theorem cx_mixed : cx.P.follows .mixedOrders = true := by kernel_rfl
theorem items : itemsOf code 1 0 = codeL := by kernel_rfl
theorem allTold : AllTold cx codeL := ⟨⟨Try.f128, 6, Try.func128, told128⟩, ⟨Try.f64, 5, Try.func64, told64⟩, ⟨Try.f32, 6, Try.func32, told32⟩, ⟨Try.f16, 7, Try.func16, told16⟩, ⟨Try.f144, 8, Try.func144, told144⟩, ⟨Try.f104, 4, Try.func104, told104⟩, ⟨Try.f152, 5, Try.func152, told152⟩, ⟨Try.f132, 3, Try.func132, told132⟩, ⟨Try.f68, 4, Try.func68, told68⟩, ⟨Try.f100, 5, Try.func100, told100⟩, ⟨Try.f148, 7, Try.func148, told148⟩, ⟨Try.f156, 4, Try.func156, told156⟩, ⟨Try.f60, 5, Try.func60, told60⟩, ⟨Try.f124, 3, Try.func124, told124⟩, ⟨Try.f66, 5, Try.func66, told66⟩, ⟨Try.f146, 6, Try.func146, told146⟩, ⟨Try.f106, 6, Try.func106, told106⟩, ⟨Try.f154, 8, Try.func154, told154⟩, ⟨Try.f102, 5, Try.func102, told102⟩, ⟨Try.f150, 6, Try.func150, told150⟩, ⟨Try.f118, 5, Try.func118, told118⟩, ⟨Try.f158, 5, Try.func158, told158⟩, ⟨Try.f62, 4, Try.func62, told62⟩, ⟨Try.f126, 5, Try.func126, told126⟩, ⟨Try.f129, 6, Try.func129, told129⟩, ⟨Try.f65, 5, Try.func65, told65⟩, ⟨Try.f105, 5, Try.func105, told105⟩, ⟨Try.f153, 7, Try.func153, told153⟩, ⟨Try.f5, 8, Try.func5, told5⟩, ⟨Try.f133, 6, Try.func133, told133⟩, ⟨Try.f69, 4, Try.func69, told69⟩, ⟨Try.f101, 4, Try.func101, told101⟩, ⟨Try.f21, 5, Try.func21, told21⟩, ⟨Try.f149, 6, Try.func149, told149⟩, ⟨Try.f85, 4, Try.func85, told85⟩, ⟨Try.f157, 6, Try.func157, told157⟩, ⟨Try.f61, 5, Try.func61, told61⟩, ⟨Try.f125, 4, Try.func125, told125⟩, ⟨Try.f67, 6, Try.func67, told67⟩, ⟨Try.f147, 6, Try.func147, told147⟩, ⟨Try.f155, 7, Try.func155, told155⟩, ⟨Try.f59, 7, Try.func59, told59⟩, ⟨Try.f103, 5, Try.func103, told103⟩, ⟨Try.f151, 8, Try.func151, told151⟩, ⟨Try.f119, 5, Try.func119, told119⟩, ⟨Try.f15, 6, Try.func15, told15⟩, ⟨Try.f31, 7, Try.func31, told31⟩, ⟨Try.f63, 4, Try.func63, told63⟩, ⟨Try.f127, 4, Try.func127, told127⟩, trivial⟩
theorem table : TableOK cx code := tableOK_of items allTold
end Go.Proofs.Ytgcedjglgfahjaa.XCode
