/-
  No cell of these rows narrows 'for every input' (looked for: loops, veiled, ifaces, maps, wideKeys, modest, calm, conditions, laid).
  DERIVED. THE GIVEN ROWS OF THIS SEAT. 11 by the template 'for every input the law returns true; each argument reads behind the call as it read before'; 0 by the template 'total and deterministic' (their statements: YtgcedjglgfahjaaTotals.lean).
  GIVEN WITH THE SEED: the statements are not yours to turn. If you find one false, say at which input.
  Laid BY PROGRAM, IN A SANDBOX (cutbox-rows.mjs): the forced cells as the released guide's own fill.sh prints them over the translation 5eb8b0fbe1c11027… (all of the seat's roots in one cut). By AI agents, Wed Nov 11 2026. No macro, syntax, notation, axiom, sorry.
-/
import Derived.Test.YtgcedjglgfahjaaChecked
import GoSem.Claim
import GoSem.ClaimJoined
import GoSem.ClaimMapViews
import Derived.JoinedTies
import Derived.KernelRfl
namespace Go.Proofs.Ytgcedjglgfahjaa
/- THE CELL 'sum', in the pinned program and in every row, IS THE sha256 OF THE DUMP (.gsa) THAT YtgcedjglgfahjaaProg.lean LOADS. Nothing in Lean hashes anything: it is a label: what it is worth is what the hold of that sum in a sandbox is worth. -/
noncomputable def Try.pinned : Pinned := { name := "ytgcedjglgfahjaa", sum := "5eb8b0fbe1c11027bcd4bc504d30f6690eb3e7dd79982ea5ea4183ba418ba690", checked := Try.checked }
namespace Rows
def none {H : Type} : Left H := { results := [], args := [] }

/-- 'exegesislaw16.LowerAll': WHATEVER THE INPUT: true; the input reads as it did. -/
def lowerAllSpec : ChangeSpec := { name := "lowerAll", fn := fun _ => fun
  | [d] => { results := [.lit (.bool true)], args := [d] }
  | _ => none }
def lowerAllRow : OpenClaim := { program := "ytgcedjglgfahjaa", sum := "5eb8b0fbe1c11027bcd4bc504d30f6690eb3e7dd79982ea5ea4183ba418ba690", func := "exegesis/exegesislaw16.LowerAll", spec := "lowerAll", unfollowed := true, recurses := true, apart := false }
def LowerAllSaid : Prop := lowerAllRow.holds Try.pinned (OpenSpec.ofChange lowerAllSpec)

/-- ITS FALSE NEIGHBOUR: 'it returns false'. Refute it at one input. -/
def lowerAllWrong : ChangeSpec := { name := "lowerAll", fn := fun _ => fun
  | [d] => { results := [.lit (.bool false)], args := [d] }
  | _ => none }
def LowerAllWrongFalsely : Prop := lowerAllRow.holds Try.pinned (OpenSpec.ofChange lowerAllWrong)

/-- 'exegesislaw16.LowerSkips': WHATEVER THE INPUT: true; the input reads as it did. -/
def lowerSkipsSpec : ChangeSpec := { name := "lowerSkips", fn := fun _ => fun
  | [d1, d2] => { results := [.lit (.bool true)], args := [d1, d2] }
  | _ => none }
def lowerSkipsRow : OpenClaim := { program := "ytgcedjglgfahjaa", sum := "5eb8b0fbe1c11027bcd4bc504d30f6690eb3e7dd79982ea5ea4183ba418ba690", func := "exegesis/exegesislaw16.LowerSkips", spec := "lowerSkips", unfollowed := true, recurses := true, apart := false }
def LowerSkipsSaid : Prop := lowerSkipsRow.holds Try.pinned (OpenSpec.ofChange lowerSkipsSpec)

/-- ITS FALSE NEIGHBOUR: 'it returns false'. Refute it at one input. -/
def lowerSkipsWrong : ChangeSpec := { name := "lowerSkips", fn := fun _ => fun
  | [d1, d2] => { results := [.lit (.bool false)], args := [d1, d2] }
  | _ => none }
def LowerSkipsWrongFalsely : Prop := lowerSkipsRow.holds Try.pinned (OpenSpec.ofChange lowerSkipsWrong)

/-- 'exegesislaw16.LowerTable': WHATEVER THE INPUT: true; the input reads as it did. -/
def lowerTableSpec : ChangeSpec := { name := "lowerTable", fn := fun _ => fun
  | [d1, d2, d3, d4] => { results := [.lit (.bool true)], args := [d1, d2, d3, d4] }
  | _ => none }
def lowerTableRow : OpenClaim := { program := "ytgcedjglgfahjaa", sum := "5eb8b0fbe1c11027bcd4bc504d30f6690eb3e7dd79982ea5ea4183ba418ba690", func := "exegesis/exegesislaw16.LowerTable", spec := "lowerTable", unfollowed := true, recurses := true, apart := false }
def LowerTableSaid : Prop := lowerTableRow.holds Try.pinned (OpenSpec.ofChange lowerTableSpec)

/-- ITS FALSE NEIGHBOUR: 'it returns false'. Refute it at one input. -/
def lowerTableWrong : ChangeSpec := { name := "lowerTable", fn := fun _ => fun
  | [d1, d2, d3, d4] => { results := [.lit (.bool false)], args := [d1, d2, d3, d4] }
  | _ => none }
def LowerTableWrongFalsely : Prop := lowerTableRow.holds Try.pinned (OpenSpec.ofChange lowerTableWrong)

/-- 'exegesislaw05.ThreadRuns': WHATEVER THE INPUT: true; the input reads as it did. -/
def threadRunsSpec : ChangeSpec := { name := "threadRuns", fn := fun _ => fun
  | [d1, d2] => { results := [.lit (.bool true)], args := [d1, d2] }
  | _ => none }
def threadRunsRow : OpenClaim := { program := "ytgcedjglgfahjaa", sum := "5eb8b0fbe1c11027bcd4bc504d30f6690eb3e7dd79982ea5ea4183ba418ba690", func := "exegesis/exegesislaw05.ThreadRuns", spec := "threadRuns", unfollowed := true, recurses := true, apart := false }
def ThreadRunsSaid : Prop := threadRunsRow.holds Try.pinned (OpenSpec.ofChange threadRunsSpec)

/-- ITS FALSE NEIGHBOUR: 'it returns false'. Refute it at one input. -/
def threadRunsWrong : ChangeSpec := { name := "threadRuns", fn := fun _ => fun
  | [d1, d2] => { results := [.lit (.bool false)], args := [d1, d2] }
  | _ => none }
def ThreadRunsWrongFalsely : Prop := threadRunsRow.holds Try.pinned (OpenSpec.ofChange threadRunsWrong)

/-- 'exegesislaw05.ThreadMore': WHATEVER THE INPUT: true; the input reads as it did. -/
def threadMoreSpec : ChangeSpec := { name := "threadMore", fn := fun _ => fun
  | [d1, d2, d3] => { results := [.lit (.bool true)], args := [d1, d2, d3] }
  | _ => none }
def threadMoreRow : OpenClaim := { program := "ytgcedjglgfahjaa", sum := "5eb8b0fbe1c11027bcd4bc504d30f6690eb3e7dd79982ea5ea4183ba418ba690", func := "exegesis/exegesislaw05.ThreadMore", spec := "threadMore", unfollowed := true, recurses := true, apart := false }
def ThreadMoreSaid : Prop := threadMoreRow.holds Try.pinned (OpenSpec.ofChange threadMoreSpec)

/-- ITS FALSE NEIGHBOUR: 'it returns false'. Refute it at one input. -/
def threadMoreWrong : ChangeSpec := { name := "threadMore", fn := fun _ => fun
  | [d1, d2, d3] => { results := [.lit (.bool false)], args := [d1, d2, d3] }
  | _ => none }
def ThreadMoreWrongFalsely : Prop := threadMoreRow.holds Try.pinned (OpenSpec.ofChange threadMoreWrong)

/-- 'exegesislaw05.ThreadDeps': WHATEVER THE INPUT: true; the input reads as it did. -/
def threadDepsSpec : ChangeSpec := { name := "threadDeps", fn := fun _ => fun
  | [d1, d2, d3] => { results := [.lit (.bool true)], args := [d1, d2, d3] }
  | _ => none }
def threadDepsRow : OpenClaim := { program := "ytgcedjglgfahjaa", sum := "5eb8b0fbe1c11027bcd4bc504d30f6690eb3e7dd79982ea5ea4183ba418ba690", func := "exegesis/exegesislaw05.ThreadDeps", spec := "threadDeps", unfollowed := true, recurses := true, apart := false }
def ThreadDepsSaid : Prop := threadDepsRow.holds Try.pinned (OpenSpec.ofChange threadDepsSpec)

/-- ITS FALSE NEIGHBOUR: 'it returns false'. Refute it at one input. -/
def threadDepsWrong : ChangeSpec := { name := "threadDeps", fn := fun _ => fun
  | [d1, d2, d3] => { results := [.lit (.bool false)], args := [d1, d2, d3] }
  | _ => none }
def ThreadDepsWrongFalsely : Prop := threadDepsRow.holds Try.pinned (OpenSpec.ofChange threadDepsWrong)

/-- 'exegesislaw05.ThreadAdds': WHATEVER THE INPUT: true; the input reads as it did. -/
def threadAddsSpec : ChangeSpec := { name := "threadAdds", fn := fun _ => fun
  | [d1, d2, d3] => { results := [.lit (.bool true)], args := [d1, d2, d3] }
  | _ => none }
def threadAddsRow : OpenClaim := { program := "ytgcedjglgfahjaa", sum := "5eb8b0fbe1c11027bcd4bc504d30f6690eb3e7dd79982ea5ea4183ba418ba690", func := "exegesis/exegesislaw05.ThreadAdds", spec := "threadAdds", unfollowed := true, recurses := true, apart := false }
def ThreadAddsSaid : Prop := threadAddsRow.holds Try.pinned (OpenSpec.ofChange threadAddsSpec)

/-- ITS FALSE NEIGHBOUR: 'it returns false'. Refute it at one input. -/
def threadAddsWrong : ChangeSpec := { name := "threadAdds", fn := fun _ => fun
  | [d1, d2, d3] => { results := [.lit (.bool false)], args := [d1, d2, d3] }
  | _ => none }
def ThreadAddsWrongFalsely : Prop := threadAddsRow.holds Try.pinned (OpenSpec.ofChange threadAddsWrong)

/-- 'exegesislaw05.ThreadSkips': WHATEVER THE INPUT: true; the input reads as it did. -/
def threadSkipsSpec : ChangeSpec := { name := "threadSkips", fn := fun _ => fun
  | [d1, d2, d3] => { results := [.lit (.bool true)], args := [d1, d2, d3] }
  | _ => none }
def threadSkipsRow : OpenClaim := { program := "ytgcedjglgfahjaa", sum := "5eb8b0fbe1c11027bcd4bc504d30f6690eb3e7dd79982ea5ea4183ba418ba690", func := "exegesis/exegesislaw05.ThreadSkips", spec := "threadSkips", unfollowed := true, recurses := true, apart := false }
def ThreadSkipsSaid : Prop := threadSkipsRow.holds Try.pinned (OpenSpec.ofChange threadSkipsSpec)

/-- ITS FALSE NEIGHBOUR: 'it returns false'. Refute it at one input. -/
def threadSkipsWrong : ChangeSpec := { name := "threadSkips", fn := fun _ => fun
  | [d1, d2, d3] => { results := [.lit (.bool false)], args := [d1, d2, d3] }
  | _ => none }
def ThreadSkipsWrongFalsely : Prop := threadSkipsRow.holds Try.pinned (OpenSpec.ofChange threadSkipsWrong)

/-- 'exegesislaw17.PthreadSettles': WHATEVER THE INPUT: true; the input reads as it did. -/
def pthreadSettlesSpec : ChangeSpec := { name := "pthreadSettles", fn := fun _ => fun
  | [d1, d2] => { results := [.lit (.bool true)], args := [d1, d2] }
  | _ => none }
def pthreadSettlesRow : OpenClaim := { program := "ytgcedjglgfahjaa", sum := "5eb8b0fbe1c11027bcd4bc504d30f6690eb3e7dd79982ea5ea4183ba418ba690", func := "exegesis/exegesislaw17.PthreadSettles", spec := "pthreadSettles", unfollowed := true, recurses := true, apart := false }
def PthreadSettlesSaid : Prop := pthreadSettlesRow.holds Try.pinned (OpenSpec.ofChange pthreadSettlesSpec)

/-- ITS FALSE NEIGHBOUR: 'it returns false'. Refute it at one input. -/
def pthreadSettlesWrong : ChangeSpec := { name := "pthreadSettles", fn := fun _ => fun
  | [d1, d2] => { results := [.lit (.bool false)], args := [d1, d2] }
  | _ => none }
def PthreadSettlesWrongFalsely : Prop := pthreadSettlesRow.holds Try.pinned (OpenSpec.ofChange pthreadSettlesWrong)

/-- 'exegesislaw17.PthreadPairs': WHATEVER THE INPUT: true; the input reads as it did. -/
def pthreadPairsSpec : ChangeSpec := { name := "pthreadPairs", fn := fun _ => fun
  | [d1, d2, d3] => { results := [.lit (.bool true)], args := [d1, d2, d3] }
  | _ => none }
def pthreadPairsRow : OpenClaim := { program := "ytgcedjglgfahjaa", sum := "5eb8b0fbe1c11027bcd4bc504d30f6690eb3e7dd79982ea5ea4183ba418ba690", func := "exegesis/exegesislaw17.PthreadPairs", spec := "pthreadPairs", unfollowed := true, recurses := true, apart := false }
def PthreadPairsSaid : Prop := pthreadPairsRow.holds Try.pinned (OpenSpec.ofChange pthreadPairsSpec)

/-- ITS FALSE NEIGHBOUR: 'it returns false'. Refute it at one input. -/
def pthreadPairsWrong : ChangeSpec := { name := "pthreadPairs", fn := fun _ => fun
  | [d1, d2, d3] => { results := [.lit (.bool false)], args := [d1, d2, d3] }
  | _ => none }
def PthreadPairsWrongFalsely : Prop := pthreadPairsRow.holds Try.pinned (OpenSpec.ofChange pthreadPairsWrong)

/-- 'exegesislaw17.PthreadDeps': WHATEVER THE INPUT: true; the input reads as it did. -/
def pthreadDepsSpec : ChangeSpec := { name := "pthreadDeps", fn := fun _ => fun
  | [d1, d2, d3] => { results := [.lit (.bool true)], args := [d1, d2, d3] }
  | _ => none }
def pthreadDepsRow : OpenClaim := { program := "ytgcedjglgfahjaa", sum := "5eb8b0fbe1c11027bcd4bc504d30f6690eb3e7dd79982ea5ea4183ba418ba690", func := "exegesis/exegesislaw17.PthreadDeps", spec := "pthreadDeps", unfollowed := true, recurses := true, apart := false }
def PthreadDepsSaid : Prop := pthreadDepsRow.holds Try.pinned (OpenSpec.ofChange pthreadDepsSpec)

/-- ITS FALSE NEIGHBOUR: 'it returns false'. Refute it at one input. -/
def pthreadDepsWrong : ChangeSpec := { name := "pthreadDeps", fn := fun _ => fun
  | [d1, d2, d3] => { results := [.lit (.bool false)], args := [d1, d2, d3] }
  | _ => none }
def PthreadDepsWrongFalsely : Prop := pthreadDepsRow.holds Try.pinned (OpenSpec.ofChange pthreadDepsWrong)

/- THE SECOND FORM. 'bulk': how many values and letters a reading holds, each counted each time it is reached (what is shared counts as often as it is met; a slice's spare places count too). A statement '..UptoSaid' is the law's where the arguments, and the package variables that the reading takes, are together of bulk at most 1048576: NARROWER than '..Said'. Prove '..Said' where nothing that the law and all that it calls make is longer than what came in: it says more and counts as full. Else prove '..UptoSaid'. A law counts once. -/
mutual
def uptoBulk {H : Type} : DataW H → Nat
  | .lit (.string bytes) => bytes.length + 1
  | .lit _ => 1
  | .nil => 1
  | .ptr d => uptoBulk d + 1
  | .slice elems spare => uptoBulkAll elems + uptoBulkAll spare + 1
  | .agg parts => uptoBulkAll parts + 1
  | .iface _ d => uptoBulk d + 1
  | .map entries => uptoBulkEntries entries + 1
  | .held _ => 1
def uptoBulkAll {H : Type} : List (DataW H) → Nat
  | [] => 0
  | d :: r => uptoBulk d + uptoBulkAll r
def uptoBulkEntries {H : Type} : List (Lit × DataW H) → Nat
  | [] => 0
  | x :: r => uptoBulkEntry x + uptoBulkEntries r
def uptoBulkEntry {H : Type} : Lit × DataW H → Nat
  | (.string bytes, d) => bytes.length + uptoBulk d + 1
  | (_, d) => uptoBulk d + 1
 end
def uptoSmall : (H : Type) → List (DataW H) → Bool := fun _ ds => decide (uptoBulkAll ds ≤ 1048576)
def OpenSpec.upto (s : _root_.Go.ChangeSpec) : _root_.Go.OpenSpec := { _root_.Go.OpenSpec.ofChange s with cond := some uptoSmall }

/-- 'exegesislaw16.LowerAll', WHERE WHAT IT READS IS OF BULK AT MOST 1048576: true; the input reads as it did. -/
def lowerAllUptoRow : OpenClaim := { program := "ytgcedjglgfahjaa", sum := "5eb8b0fbe1c11027bcd4bc504d30f6690eb3e7dd79982ea5ea4183ba418ba690", func := "exegesis/exegesislaw16.LowerAll", spec := "lowerAll", unfollowed := true, recurses := true, apart := false, narrowed := true }
def LowerAllUptoSaid : Prop := lowerAllUptoRow.holds Try.pinned (OpenSpec.upto lowerAllSpec)

/-- 'exegesislaw16.LowerSkips', WHERE WHAT IT READS IS OF BULK AT MOST 1048576: true; the input reads as it did. -/
def lowerSkipsUptoRow : OpenClaim := { program := "ytgcedjglgfahjaa", sum := "5eb8b0fbe1c11027bcd4bc504d30f6690eb3e7dd79982ea5ea4183ba418ba690", func := "exegesis/exegesislaw16.LowerSkips", spec := "lowerSkips", unfollowed := true, recurses := true, apart := false, narrowed := true }
def LowerSkipsUptoSaid : Prop := lowerSkipsUptoRow.holds Try.pinned (OpenSpec.upto lowerSkipsSpec)

/-- 'exegesislaw16.LowerTable', WHERE WHAT IT READS IS OF BULK AT MOST 1048576: true; the input reads as it did. -/
def lowerTableUptoRow : OpenClaim := { program := "ytgcedjglgfahjaa", sum := "5eb8b0fbe1c11027bcd4bc504d30f6690eb3e7dd79982ea5ea4183ba418ba690", func := "exegesis/exegesislaw16.LowerTable", spec := "lowerTable", unfollowed := true, recurses := true, apart := false, narrowed := true }
def LowerTableUptoSaid : Prop := lowerTableUptoRow.holds Try.pinned (OpenSpec.upto lowerTableSpec)

/-- 'exegesislaw05.ThreadRuns', WHERE WHAT IT READS IS OF BULK AT MOST 1048576: true; the input reads as it did. -/
def threadRunsUptoRow : OpenClaim := { program := "ytgcedjglgfahjaa", sum := "5eb8b0fbe1c11027bcd4bc504d30f6690eb3e7dd79982ea5ea4183ba418ba690", func := "exegesis/exegesislaw05.ThreadRuns", spec := "threadRuns", unfollowed := true, recurses := true, apart := false, narrowed := true }
def ThreadRunsUptoSaid : Prop := threadRunsUptoRow.holds Try.pinned (OpenSpec.upto threadRunsSpec)

/-- 'exegesislaw05.ThreadMore', WHERE WHAT IT READS IS OF BULK AT MOST 1048576: true; the input reads as it did. -/
def threadMoreUptoRow : OpenClaim := { program := "ytgcedjglgfahjaa", sum := "5eb8b0fbe1c11027bcd4bc504d30f6690eb3e7dd79982ea5ea4183ba418ba690", func := "exegesis/exegesislaw05.ThreadMore", spec := "threadMore", unfollowed := true, recurses := true, apart := false, narrowed := true }
def ThreadMoreUptoSaid : Prop := threadMoreUptoRow.holds Try.pinned (OpenSpec.upto threadMoreSpec)

/-- 'exegesislaw05.ThreadDeps', WHERE WHAT IT READS IS OF BULK AT MOST 1048576: true; the input reads as it did. -/
def threadDepsUptoRow : OpenClaim := { program := "ytgcedjglgfahjaa", sum := "5eb8b0fbe1c11027bcd4bc504d30f6690eb3e7dd79982ea5ea4183ba418ba690", func := "exegesis/exegesislaw05.ThreadDeps", spec := "threadDeps", unfollowed := true, recurses := true, apart := false, narrowed := true }
def ThreadDepsUptoSaid : Prop := threadDepsUptoRow.holds Try.pinned (OpenSpec.upto threadDepsSpec)

/-- 'exegesislaw05.ThreadAdds', WHERE WHAT IT READS IS OF BULK AT MOST 1048576: true; the input reads as it did. -/
def threadAddsUptoRow : OpenClaim := { program := "ytgcedjglgfahjaa", sum := "5eb8b0fbe1c11027bcd4bc504d30f6690eb3e7dd79982ea5ea4183ba418ba690", func := "exegesis/exegesislaw05.ThreadAdds", spec := "threadAdds", unfollowed := true, recurses := true, apart := false, narrowed := true }
def ThreadAddsUptoSaid : Prop := threadAddsUptoRow.holds Try.pinned (OpenSpec.upto threadAddsSpec)

/-- 'exegesislaw05.ThreadSkips', WHERE WHAT IT READS IS OF BULK AT MOST 1048576: true; the input reads as it did. -/
def threadSkipsUptoRow : OpenClaim := { program := "ytgcedjglgfahjaa", sum := "5eb8b0fbe1c11027bcd4bc504d30f6690eb3e7dd79982ea5ea4183ba418ba690", func := "exegesis/exegesislaw05.ThreadSkips", spec := "threadSkips", unfollowed := true, recurses := true, apart := false, narrowed := true }
def ThreadSkipsUptoSaid : Prop := threadSkipsUptoRow.holds Try.pinned (OpenSpec.upto threadSkipsSpec)

/-- 'exegesislaw17.PthreadSettles', WHERE WHAT IT READS IS OF BULK AT MOST 1048576: true; the input reads as it did. -/
def pthreadSettlesUptoRow : OpenClaim := { program := "ytgcedjglgfahjaa", sum := "5eb8b0fbe1c11027bcd4bc504d30f6690eb3e7dd79982ea5ea4183ba418ba690", func := "exegesis/exegesislaw17.PthreadSettles", spec := "pthreadSettles", unfollowed := true, recurses := true, apart := false, narrowed := true }
def PthreadSettlesUptoSaid : Prop := pthreadSettlesUptoRow.holds Try.pinned (OpenSpec.upto pthreadSettlesSpec)

/-- 'exegesislaw17.PthreadPairs', WHERE WHAT IT READS IS OF BULK AT MOST 1048576: true; the input reads as it did. -/
def pthreadPairsUptoRow : OpenClaim := { program := "ytgcedjglgfahjaa", sum := "5eb8b0fbe1c11027bcd4bc504d30f6690eb3e7dd79982ea5ea4183ba418ba690", func := "exegesis/exegesislaw17.PthreadPairs", spec := "pthreadPairs", unfollowed := true, recurses := true, apart := false, narrowed := true }
def PthreadPairsUptoSaid : Prop := pthreadPairsUptoRow.holds Try.pinned (OpenSpec.upto pthreadPairsSpec)

/-- 'exegesislaw17.PthreadDeps', WHERE WHAT IT READS IS OF BULK AT MOST 1048576: true; the input reads as it did. -/
def pthreadDepsUptoRow : OpenClaim := { program := "ytgcedjglgfahjaa", sum := "5eb8b0fbe1c11027bcd4bc504d30f6690eb3e7dd79982ea5ea4183ba418ba690", func := "exegesis/exegesislaw17.PthreadDeps", spec := "pthreadDeps", unfollowed := true, recurses := true, apart := false, narrowed := true }
def PthreadDepsUptoSaid : Prop := pthreadDepsUptoRow.holds Try.pinned (OpenSpec.upto pthreadDepsSpec)

end Rows
end Go.Proofs.Ytgcedjglgfahjaa
