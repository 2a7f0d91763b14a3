/- Each piece of compact code is what the executor makes of the loaded function. Printed by a program of mine (wip/tools/mkcode.py). -/
import Derived.Test.YtheojbhaajbecaaGreatDoorXToldP0
import Derived.Test.YtheojbhaajbecaaGreatDoorXCodeP
import Derived.Test.YtheojbhaajbecaaGreatDoorRows
import Derived.WalkKit
import Derived.ProofKit
set_option maxRecDepth 100000
namespace Go.Proofs.YtheojbhaajbecaaGreatDoor.XCodeP
open Go Go.X
theorem told167 : cF cx 8 167 Tryz.f167 = some c167 := by kernel_rfl
theorem told168 : cF cx 8 168 Tryz.f168 = some c168 := by kernel_rfl
theorem told169 : cF cx 8 169 Tryz.f169 = some c169 := by kernel_rfl
theorem told170 : cF cx 8 170 Tryz.f170 = some c170 := by kernel_rfl
theorem told171 : cF cx 8 171 Tryz.f171 = some c171 := by kernel_rfl
theorem told172 : cF cx 8 172 Tryz.f172 = some c172 := by kernel_rfl
theorem told173 : cF cx 8 173 Tryz.f173 = some c173 := by kernel_rfl
theorem told174 : cF cx 8 174 Tryz.f174 = some c174 := by kernel_rfl
theorem told175 : cF cx 8 175 Tryz.f175 = some c175 := by kernel_rfl
theorem told214 : cF cx 8 214 Tryz.f214 = some c214 := by kernel_rfl
theorem told215 : cF cx 8 215 Tryz.f215 = some c215 := by kernel_rfl
theorem told218 : cF cx 8 218 Tryz.f218 = some c218 := by kernel_rfl
theorem told219 : cF cx 8 219 Tryz.f219 = some c219 := by kernel_rfl
theorem told220 : cF cx 8 220 Tryz.f220 = some c220 := by kernel_rfl
theorem told222 : cF cx 8 222 Tryz.f222 = some c222 := by kernel_rfl
theorem told223 : cF cx 8 223 Tryz.f223 = some c223 := by kernel_rfl
theorem told227 : cF cx 8 227 Tryz.f227 = some c227 := by kernel_rfl
theorem told228 : cF cx 8 228 Tryz.f228 = some c228 := by kernel_rfl
theorem told229 : cF cx 8 229 Tryz.f229 = some c229 := by kernel_rfl
theorem told230 : cF cx 8 230 Tryz.f230 = some c230 := by kernel_rfl
theorem told231 : cF cx 8 231 Tryz.f231 = some c231 := by kernel_rfl
theorem told232 : cF cx 8 232 Tryz.f232 = some c232 := by kernel_rfl
theorem told233 : cF cx 8 233 Tryz.f233 = some c233 := by kernel_rfl
theorem told234 : cF cx 8 234 Tryz.f234 = some c234 := by kernel_rfl
theorem told235 : cF cx 8 235 Tryz.f235 = some c235 := by kernel_rfl
theorem told236 : cF cx 8 236 Tryz.f236 = some c236 := by kernel_rfl
theorem told237 : cF cx 8 237 Tryz.f237 = some c237 := by kernel_rfl
theorem told238 : cF cx 8 238 Tryz.f238 = some c238 := by kernel_rfl
theorem told239 : cF cx 8 239 Tryz.f239 = some c239 := by kernel_rfl
theorem told240 : cF cx 8 240 Tryz.f240 = some c240 := by kernel_rfl
theorem told241 : cF cx 8 241 Tryz.f241 = some c241 := by kernel_rfl
theorem told242 : cF cx 8 242 Tryz.f242 = some c242 := by kernel_rfl
theorem told243 : cF cx 8 243 Tryz.f243 = some c243 := by kernel_rfl
theorem told244 : cF cx 8 244 Tryz.f244 = some c244 := by kernel_rfl
theorem told245 : cF cx 8 245 Tryz.f245 = some c245 := by kernel_rfl
theorem told246 : cF cx 8 246 Tryz.f246 = some c246 := by kernel_rfl
theorem told247 : cF cx 8 247 Tryz.f247 = some c247 := by kernel_rfl
theorem told283 : cF cx 8 283 Tryz.f283 = some c283 := by kernel_rfl
theorem told286 : cF cx 8 286 Tryz.f286 = some c286 := by kernel_rfl
theorem told295 : cF cx 8 295 Tryz.f295 = some c295 := by kernel_rfl
theorem told296 : cF cx 8 296 Tryz.f296 = some c296 := by kernel_rfl
theorem told300 : cF cx 8 300 Tryz.f300 = some c300 := by kernel_rfl
theorem told301 : cF cx 8 301 Tryz.f301 = some c301 := by kernel_rfl
theorem told302 : cF cx 8 302 Tryz.f302 = some c302 := by kernel_rfl
theorem told303 : cF cx 8 303 Tryz.f303 = some c303 := by kernel_rfl
theorem told325 : cF cx 8 325 Tryz.f325 = some c325 := by kernel_rfl
theorem told327 : cF cx 8 327 Tryz.f327 = some c327 := by kernel_rfl
theorem told330 : cF cx 8 330 Tryz.f330 = some c330 := by kernel_rfl
theorem told331 : cF cx 8 331 Tryz.f331 = some c331 := by kernel_rfl
theorem told332 : cF cx 8 332 Tryz.f332 = some c332 := by kernel_rfl
theorem told333 : cF cx 8 333 Tryz.f333 = some c333 := by kernel_rfl
theorem told341 : cF cx 8 341 Tryz.f341 = some c341 := by kernel_rfl
theorem told342 : cF cx 8 342 Tryz.f342 = some c342 := by kernel_rfl
theorem told343 : cF cx 8 343 Tryz.f343 = some c343 := by kernel_rfl
theorem told344 : cF cx 8 344 Tryz.f344 = some c344 := by kernel_rfl
theorem told345 : cF cx 8 345 Tryz.f345 = some c345 := by kernel_rfl
theorem told346 : cF cx 8 346 Tryz.f346 = some c346 := by kernel_rfl
theorem told347 : cF cx 8 347 Tryz.f347 = some c347 := by kernel_rfl
theorem told348 : cF cx 8 348 Tryz.f348 = some c348 := by kernel_rfl
theorem told349 : cF cx 8 349 Tryz.f349 = some c349 := by kernel_rfl
theorem told365 : cF cx 8 365 Tryz.f365 = some c365 := by kernel_rfl
theorem told366 : cF cx 8 366 Tryz.f366 = some c366 := by kernel_rfl
theorem told367 : cF cx 8 367 Tryz.f367 = some c367 := by kernel_rfl
theorem told368 : cF cx 8 368 Tryz.f368 = some c368 := by kernel_rfl
theorem told369 : cF cx 8 369 Tryz.f369 = some c369 := by kernel_rfl
theorem told378 : cF cx 8 378 Tryz.f378 = some c378 := by kernel_rfl
theorem told379 : cF cx 8 379 Tryz.f379 = some c379 := by kernel_rfl
theorem told380 : cF cx 8 380 Tryz.f380 = some c380 := by kernel_rfl
theorem told390 : cF cx 8 390 Tryz.f390 = some c390 := by kernel_rfl
theorem told391 : cF cx 8 391 Tryz.f391 = some c391 := by kernel_rfl
theorem told396 : cF cx 8 396 Tryz.f396 = some c396 := by kernel_rfl
end Go.Proofs.YtheojbhaajbecaaGreatDoor.XCodeP
