/-
  No cell of these rows narrows 'for every input' (looked for: loops, veiled, ifaces, maps, wideKeys, modest, calm, conditions, laid).
  DERIVED. THE GIVEN ROWS OF THIS SEAT. 4 by the template 'for every input the law returns true; each argument reads behind the call as it read before'; 0 by the template 'total and deterministic' (their statements: YtmlelffjcgealaaTotals.lean).
  GIVEN WITH THE SEED: the statements are not yours to turn. If you find one false, say at which input.
  Laid BY PROGRAM, IN A SANDBOX (cutbox-rows.mjs): the forced cells as the released guide's own fill.sh prints them over the translation 8846e24f7c3914b5… (all of the seat's roots in one cut). By AI agents, Wed Nov 11 2026. No macro, syntax, notation, axiom, sorry.
-/
import Derived.Test.YtmlelffjcgealaaChecked
import GoSem.Claim
import GoSem.ClaimJoined
import GoSem.ClaimMapViews
import Derived.JoinedTies
import Derived.KernelRfl
namespace Go.Proofs.Ytmlelffjcgealaa
/- THE CELL 'sum', in the pinned program and in every row, IS THE sha256 OF THE DUMP (.gsa) THAT YtmlelffjcgealaaProg.lean LOADS. Nothing in Lean hashes anything: it is a label: what it is worth is what the hold of that sum in a sandbox is worth. -/
noncomputable def Try.pinned : Pinned := { name := "ytmlelffjcgealaa", sum := "8846e24f7c3914b52d5516bf6bbcfe825b9ab0a79c7a89dfbe1cc858f0a74090", checked := Try.checked }
namespace Rows
def none {H : Type} : Left H := { results := [], args := [] }

/-- 'exegesislaw17.PthreadDeps': WHATEVER THE INPUT: true; the input reads as it did. -/
def pthreadDepsSpec : ChangeSpec := { name := "pthreadDeps", fn := fun _ => fun
  | [d1, d2, d3] => { results := [.lit (.bool true)], args := [d1, d2, d3] }
  | _ => none }
def pthreadDepsRow : OpenClaim := { program := "ytmlelffjcgealaa", sum := "8846e24f7c3914b52d5516bf6bbcfe825b9ab0a79c7a89dfbe1cc858f0a74090", func := "exegesis/exegesislaw17.PthreadDeps", spec := "pthreadDeps", unfollowed := true, recurses := true, apart := false }
def PthreadDepsSaid : Prop := pthreadDepsRow.holds Try.pinned (OpenSpec.ofChange pthreadDepsSpec)

/-- ITS FALSE NEIGHBOUR: 'it returns false'. Refute it at one input. -/
def pthreadDepsWrong : ChangeSpec := { name := "pthreadDeps", fn := fun _ => fun
  | [d1, d2, d3] => { results := [.lit (.bool false)], args := [d1, d2, d3] }
  | _ => none }
def PthreadDepsWrongFalsely : Prop := pthreadDepsRow.holds Try.pinned (OpenSpec.ofChange pthreadDepsWrong)

/-- 'exegesislaw05.ThreadAdds': WHATEVER THE INPUT: true; the input reads as it did. -/
def threadAddsSpec : ChangeSpec := { name := "threadAdds", fn := fun _ => fun
  | [d1, d2, d3] => { results := [.lit (.bool true)], args := [d1, d2, d3] }
  | _ => none }
def threadAddsRow : OpenClaim := { program := "ytmlelffjcgealaa", sum := "8846e24f7c3914b52d5516bf6bbcfe825b9ab0a79c7a89dfbe1cc858f0a74090", func := "exegesis/exegesislaw05.ThreadAdds", spec := "threadAdds", unfollowed := true, recurses := true, apart := false }
def ThreadAddsSaid : Prop := threadAddsRow.holds Try.pinned (OpenSpec.ofChange threadAddsSpec)

/-- ITS FALSE NEIGHBOUR: 'it returns false'. Refute it at one input. -/
def threadAddsWrong : ChangeSpec := { name := "threadAdds", fn := fun _ => fun
  | [d1, d2, d3] => { results := [.lit (.bool false)], args := [d1, d2, d3] }
  | _ => none }
def ThreadAddsWrongFalsely : Prop := threadAddsRow.holds Try.pinned (OpenSpec.ofChange threadAddsWrong)

/-- 'exegesislaw17.PthreadPairs': WHATEVER THE INPUT: true; the input reads as it did. -/
def pthreadPairsSpec : ChangeSpec := { name := "pthreadPairs", fn := fun _ => fun
  | [d1, d2, d3] => { results := [.lit (.bool true)], args := [d1, d2, d3] }
  | _ => none }
def pthreadPairsRow : OpenClaim := { program := "ytmlelffjcgealaa", sum := "8846e24f7c3914b52d5516bf6bbcfe825b9ab0a79c7a89dfbe1cc858f0a74090", func := "exegesis/exegesislaw17.PthreadPairs", spec := "pthreadPairs", unfollowed := true, recurses := true, apart := false }
def PthreadPairsSaid : Prop := pthreadPairsRow.holds Try.pinned (OpenSpec.ofChange pthreadPairsSpec)

/-- ITS FALSE NEIGHBOUR: 'it returns false'. Refute it at one input. -/
def pthreadPairsWrong : ChangeSpec := { name := "pthreadPairs", fn := fun _ => fun
  | [d1, d2, d3] => { results := [.lit (.bool false)], args := [d1, d2, d3] }
  | _ => none }
def PthreadPairsWrongFalsely : Prop := pthreadPairsRow.holds Try.pinned (OpenSpec.ofChange pthreadPairsWrong)

/-- 'exegesislaw17.PthreadSettles': WHATEVER THE INPUT: true; the input reads as it did. -/
def pthreadSettlesSpec : ChangeSpec := { name := "pthreadSettles", fn := fun _ => fun
  | [d1, d2] => { results := [.lit (.bool true)], args := [d1, d2] }
  | _ => none }
def pthreadSettlesRow : OpenClaim := { program := "ytmlelffjcgealaa", sum := "8846e24f7c3914b52d5516bf6bbcfe825b9ab0a79c7a89dfbe1cc858f0a74090", func := "exegesis/exegesislaw17.PthreadSettles", spec := "pthreadSettles", unfollowed := true, recurses := true, apart := false }
def PthreadSettlesSaid : Prop := pthreadSettlesRow.holds Try.pinned (OpenSpec.ofChange pthreadSettlesSpec)

/-- ITS FALSE NEIGHBOUR: 'it returns false'. Refute it at one input. -/
def pthreadSettlesWrong : ChangeSpec := { name := "pthreadSettles", fn := fun _ => fun
  | [d1, d2] => { results := [.lit (.bool false)], args := [d1, d2] }
  | _ => none }
def PthreadSettlesWrongFalsely : Prop := pthreadSettlesRow.holds Try.pinned (OpenSpec.ofChange pthreadSettlesWrong)

/- THE SECOND FORM. 'bulk': how many values and letters a reading holds, each counted each time it is reached (what is shared counts as often as it is met; a slice's spare places count too). A statement '..UptoSaid' is the law's where the arguments, and the package variables that the reading takes, are together of bulk at most 1048576: NARROWER than '..Said'. Prove '..Said' where nothing that the law and all that it calls make is longer than what came in: it says more and counts as full. Else prove '..UptoSaid'. A law counts once. -/
mutual
def uptoBulk {H : Type} : DataW H → Nat
  | .lit (.string bytes) => bytes.length + 1
  | .lit _ => 1
  | .nil => 1
  | .ptr d => uptoBulk d + 1
  | .slice elems spare => uptoBulkAll elems + uptoBulkAll spare + 1
  | .agg parts => uptoBulkAll parts + 1
  | .iface _ d => uptoBulk d + 1
  | .map entries => uptoBulkEntries entries + 1
  | .held _ => 1
def uptoBulkAll {H : Type} : List (DataW H) → Nat
  | [] => 0
  | d :: r => uptoBulk d + uptoBulkAll r
def uptoBulkEntries {H : Type} : List (Lit × DataW H) → Nat
  | [] => 0
  | x :: r => uptoBulkEntry x + uptoBulkEntries r
def uptoBulkEntry {H : Type} : Lit × DataW H → Nat
  | (.string bytes, d) => bytes.length + uptoBulk d + 1
  | (_, d) => uptoBulk d + 1
 end
def uptoSmall : (H : Type) → List (DataW H) → Bool := fun _ ds => decide (uptoBulkAll ds ≤ 1048576)
def OpenSpec.upto (s : _root_.Go.ChangeSpec) : _root_.Go.OpenSpec := { _root_.Go.OpenSpec.ofChange s with cond := some uptoSmall }

/-- 'exegesislaw17.PthreadDeps', WHERE WHAT IT READS IS OF BULK AT MOST 1048576: true; the input reads as it did. -/
def pthreadDepsUptoRow : OpenClaim := { program := "ytmlelffjcgealaa", sum := "8846e24f7c3914b52d5516bf6bbcfe825b9ab0a79c7a89dfbe1cc858f0a74090", func := "exegesis/exegesislaw17.PthreadDeps", spec := "pthreadDeps", unfollowed := true, recurses := true, apart := false, narrowed := true }
def PthreadDepsUptoSaid : Prop := pthreadDepsUptoRow.holds Try.pinned (OpenSpec.upto pthreadDepsSpec)

/-- 'exegesislaw05.ThreadAdds', WHERE WHAT IT READS IS OF BULK AT MOST 1048576: true; the input reads as it did. -/
def threadAddsUptoRow : OpenClaim := { program := "ytmlelffjcgealaa", sum := "8846e24f7c3914b52d5516bf6bbcfe825b9ab0a79c7a89dfbe1cc858f0a74090", func := "exegesis/exegesislaw05.ThreadAdds", spec := "threadAdds", unfollowed := true, recurses := true, apart := false, narrowed := true }
def ThreadAddsUptoSaid : Prop := threadAddsUptoRow.holds Try.pinned (OpenSpec.upto threadAddsSpec)

/-- 'exegesislaw17.PthreadPairs', WHERE WHAT IT READS IS OF BULK AT MOST 1048576: true; the input reads as it did. -/
def pthreadPairsUptoRow : OpenClaim := { program := "ytmlelffjcgealaa", sum := "8846e24f7c3914b52d5516bf6bbcfe825b9ab0a79c7a89dfbe1cc858f0a74090", func := "exegesis/exegesislaw17.PthreadPairs", spec := "pthreadPairs", unfollowed := true, recurses := true, apart := false, narrowed := true }
def PthreadPairsUptoSaid : Prop := pthreadPairsUptoRow.holds Try.pinned (OpenSpec.upto pthreadPairsSpec)

/-- 'exegesislaw17.PthreadSettles', WHERE WHAT IT READS IS OF BULK AT MOST 1048576: true; the input reads as it did. -/
def pthreadSettlesUptoRow : OpenClaim := { program := "ytmlelffjcgealaa", sum := "8846e24f7c3914b52d5516bf6bbcfe825b9ab0a79c7a89dfbe1cc858f0a74090", func := "exegesis/exegesislaw17.PthreadSettles", spec := "pthreadSettles", unfollowed := true, recurses := true, apart := false, narrowed := true }
def PthreadSettlesUptoSaid : Prop := pthreadSettlesUptoRow.holds Try.pinned (OpenSpec.upto pthreadSettlesSpec)

end Rows
end Go.Proofs.Ytmlelffjcgealaa
