/-
  No cell of these rows narrows 'for every input' (looked for: loops, veiled, ifaces, maps, wideKeys, modest, calm, conditions, laid).
  DERIVED. THE GIVEN ROWS OF THIS SEAT. 5 by the template 'for every input the law returns true; each argument reads behind the call as it read before'; 0 by the template 'total and deterministic' (their statements: YtheojbhaajbecaaGreatTotals.lean).
  GIVEN WITH THE SEED: the statements are not yours to turn. If you find one false, say at which input.
  Laid BY PROGRAM, IN A SANDBOX (cutbox-rows.mjs): the forced cells as the released guide's own fill.sh prints them over the translation 658f0dfb7b3e2047… (all of the seat's roots in one cut). By AI agents, Wed Nov 11 2026. No macro, syntax, notation, axiom, sorry.
-/
import Derived.Test.YtheojbhaajbecaaGreatChecked
import GoSem.Claim
import GoSem.ClaimJoined
import GoSem.ClaimMapViews
import Derived.JoinedTies
import Derived.KernelRfl
namespace Go.Proofs.YtheojbhaajbecaaGreat
/- THE CELL 'sum', in the pinned program and in every row, IS THE sha256 OF THE DUMP (.gsa) THAT YtheojbhaajbecaaGreatProg.lean LOADS. Nothing in Lean hashes anything: it is a label: what it is worth is what the hold of that sum in a sandbox is worth. -/
noncomputable def Tryz.pinned : Pinned := { name := "ytheojbhaajbecaagreat", sum := "658f0dfb7b3e2047b0932bda1fa8a5500761182f4443db4773e16d2a9b3c994c", checked := Tryz.checked }
namespace Rows
def none {H : Type} : Left H := { results := [], args := [] }

/-- 'exegesislaw13.EnumCounts': WHATEVER THE INPUT: true; the input reads as it did. -/
def enumCountsSpec : ChangeSpec := { name := "enumCounts", fn := fun _ => fun
  | [d1, d2] => { results := [.lit (.bool true)], args := [d1, d2] }
  | _ => none }
def enumCountsRow : OpenClaim := { program := "ytheojbhaajbecaagreat", sum := "658f0dfb7b3e2047b0932bda1fa8a5500761182f4443db4773e16d2a9b3c994c", func := "exegesis/exegesislaw13.EnumCounts", spec := "enumCounts", unfollowed := true, recurses := true, apart := false }
def EnumCountsSaid : Prop := enumCountsRow.holds Tryz.pinned (OpenSpec.ofChange enumCountsSpec)

/-- ITS FALSE NEIGHBOUR: 'it returns false'. Refute it at one input. -/
def enumCountsWrong : ChangeSpec := { name := "enumCounts", fn := fun _ => fun
  | [d1, d2] => { results := [.lit (.bool false)], args := [d1, d2] }
  | _ => none }
def EnumCountsWrongFalsely : Prop := enumCountsRow.holds Tryz.pinned (OpenSpec.ofChange enumCountsWrong)

/-- 'exegesislaw13.EnumValues': WHATEVER THE INPUT: true; the input reads as it did. -/
def enumValuesSpec : ChangeSpec := { name := "enumValues", fn := fun _ => fun
  | [d1, d2] => { results := [.lit (.bool true)], args := [d1, d2] }
  | _ => none }
def enumValuesRow : OpenClaim := { program := "ytheojbhaajbecaagreat", sum := "658f0dfb7b3e2047b0932bda1fa8a5500761182f4443db4773e16d2a9b3c994c", func := "exegesis/exegesislaw13.EnumValues", spec := "enumValues", unfollowed := true, recurses := true, apart := false }
def EnumValuesSaid : Prop := enumValuesRow.holds Tryz.pinned (OpenSpec.ofChange enumValuesSpec)

/-- ITS FALSE NEIGHBOUR: 'it returns false'. Refute it at one input. -/
def enumValuesWrong : ChangeSpec := { name := "enumValues", fn := fun _ => fun
  | [d1, d2] => { results := [.lit (.bool false)], args := [d1, d2] }
  | _ => none }
def EnumValuesWrongFalsely : Prop := enumValuesRow.holds Tryz.pinned (OpenSpec.ofChange enumValuesWrong)

/-- 'exegesislaw13.EnumThreads': WHATEVER THE INPUT: true; the input reads as it did. -/
def enumThreadsSpec : ChangeSpec := { name := "enumThreads", fn := fun _ => fun
  | [d1, d2, d3] => { results := [.lit (.bool true)], args := [d1, d2, d3] }
  | _ => none }
def enumThreadsRow : OpenClaim := { program := "ytheojbhaajbecaagreat", sum := "658f0dfb7b3e2047b0932bda1fa8a5500761182f4443db4773e16d2a9b3c994c", func := "exegesis/exegesislaw13.EnumThreads", spec := "enumThreads", unfollowed := true, recurses := true, apart := false }
def EnumThreadsSaid : Prop := enumThreadsRow.holds Tryz.pinned (OpenSpec.ofChange enumThreadsSpec)

/-- ITS FALSE NEIGHBOUR: 'it returns false'. Refute it at one input. -/
def enumThreadsWrong : ChangeSpec := { name := "enumThreads", fn := fun _ => fun
  | [d1, d2, d3] => { results := [.lit (.bool false)], args := [d1, d2, d3] }
  | _ => none }
def EnumThreadsWrongFalsely : Prop := enumThreadsRow.holds Tryz.pinned (OpenSpec.ofChange enumThreadsWrong)

/-- 'exegesislaw14.BehaveKnown': WHATEVER THE INPUT: true; the input reads as it did. -/
def behaveKnownSpec : ChangeSpec := { name := "behaveKnown", fn := fun _ => fun
  | [d1, d2] => { results := [.lit (.bool true)], args := [d1, d2] }
  | _ => none }
def behaveKnownRow : OpenClaim := { program := "ytheojbhaajbecaagreat", sum := "658f0dfb7b3e2047b0932bda1fa8a5500761182f4443db4773e16d2a9b3c994c", func := "exegesis/exegesislaw14.BehaveKnown", spec := "behaveKnown", unfollowed := true, recurses := true, apart := false }
def BehaveKnownSaid : Prop := behaveKnownRow.holds Tryz.pinned (OpenSpec.ofChange behaveKnownSpec)

/-- ITS FALSE NEIGHBOUR: 'it returns false'. Refute it at one input. -/
def behaveKnownWrong : ChangeSpec := { name := "behaveKnown", fn := fun _ => fun
  | [d1, d2] => { results := [.lit (.bool false)], args := [d1, d2] }
  | _ => none }
def BehaveKnownWrongFalsely : Prop := behaveKnownRow.holds Tryz.pinned (OpenSpec.ofChange behaveKnownWrong)

/-- 'exegesislaw14.BehaveFences': WHATEVER THE INPUT: true; the input reads as it did. -/
def behaveFencesSpec : ChangeSpec := { name := "behaveFences", fn := fun _ => fun
  | [d1, d2] => { results := [.lit (.bool true)], args := [d1, d2] }
  | _ => none }
def behaveFencesRow : OpenClaim := { program := "ytheojbhaajbecaagreat", sum := "658f0dfb7b3e2047b0932bda1fa8a5500761182f4443db4773e16d2a9b3c994c", func := "exegesis/exegesislaw14.BehaveFences", spec := "behaveFences", unfollowed := true, recurses := true, apart := false }
def BehaveFencesSaid : Prop := behaveFencesRow.holds Tryz.pinned (OpenSpec.ofChange behaveFencesSpec)

/-- ITS FALSE NEIGHBOUR: 'it returns false'. Refute it at one input. -/
def behaveFencesWrong : ChangeSpec := { name := "behaveFences", fn := fun _ => fun
  | [d1, d2] => { results := [.lit (.bool false)], args := [d1, d2] }
  | _ => none }
def BehaveFencesWrongFalsely : Prop := behaveFencesRow.holds Tryz.pinned (OpenSpec.ofChange behaveFencesWrong)

/- THE SECOND FORM. 'bulk': how many values and letters a reading holds, each counted each time it is reached (what is shared counts as often as it is met; a slice's spare places count too). A statement '..UptoSaid' is the law's where the arguments, and the package variables that the reading takes, are together of bulk at most 1048576: NARROWER than '..Said'. Prove '..Said' where nothing that the law and all that it calls make is longer than what came in: it says more and counts as full. Else prove '..UptoSaid'. A law counts once. -/
mutual
def uptoBulk {H : Type} : DataW H → Nat
  | .lit (.string bytes) => bytes.length + 1
  | .lit _ => 1
  | .nil => 1
  | .ptr d => uptoBulk d + 1
  | .slice elems spare => uptoBulkAll elems + uptoBulkAll spare + 1
  | .agg parts => uptoBulkAll parts + 1
  | .iface _ d => uptoBulk d + 1
  | .map entries => uptoBulkEntries entries + 1
  | .held _ => 1
def uptoBulkAll {H : Type} : List (DataW H) → Nat
  | [] => 0
  | d :: r => uptoBulk d + uptoBulkAll r
def uptoBulkEntries {H : Type} : List (Lit × DataW H) → Nat
  | [] => 0
  | x :: r => uptoBulkEntry x + uptoBulkEntries r
def uptoBulkEntry {H : Type} : Lit × DataW H → Nat
  | (.string bytes, d) => bytes.length + uptoBulk d + 1
  | (_, d) => uptoBulk d + 1
 end
def uptoSmall : (H : Type) → List (DataW H) → Bool := fun _ ds => decide (uptoBulkAll ds ≤ 1048576)
def OpenSpec.upto (s : _root_.Go.ChangeSpec) : _root_.Go.OpenSpec := { _root_.Go.OpenSpec.ofChange s with cond := some uptoSmall }

/-- 'exegesislaw13.EnumCounts', WHERE WHAT IT READS IS OF BULK AT MOST 1048576: true; the input reads as it did. -/
def enumCountsUptoRow : OpenClaim := { program := "ytheojbhaajbecaagreat", sum := "658f0dfb7b3e2047b0932bda1fa8a5500761182f4443db4773e16d2a9b3c994c", func := "exegesis/exegesislaw13.EnumCounts", spec := "enumCounts", unfollowed := true, recurses := true, apart := false, narrowed := true }
def EnumCountsUptoSaid : Prop := enumCountsUptoRow.holds Tryz.pinned (OpenSpec.upto enumCountsSpec)

/-- 'exegesislaw13.EnumValues', WHERE WHAT IT READS IS OF BULK AT MOST 1048576: true; the input reads as it did. -/
def enumValuesUptoRow : OpenClaim := { program := "ytheojbhaajbecaagreat", sum := "658f0dfb7b3e2047b0932bda1fa8a5500761182f4443db4773e16d2a9b3c994c", func := "exegesis/exegesislaw13.EnumValues", spec := "enumValues", unfollowed := true, recurses := true, apart := false, narrowed := true }
def EnumValuesUptoSaid : Prop := enumValuesUptoRow.holds Tryz.pinned (OpenSpec.upto enumValuesSpec)

/-- 'exegesislaw13.EnumThreads', WHERE WHAT IT READS IS OF BULK AT MOST 1048576: true; the input reads as it did. -/
def enumThreadsUptoRow : OpenClaim := { program := "ytheojbhaajbecaagreat", sum := "658f0dfb7b3e2047b0932bda1fa8a5500761182f4443db4773e16d2a9b3c994c", func := "exegesis/exegesislaw13.EnumThreads", spec := "enumThreads", unfollowed := true, recurses := true, apart := false, narrowed := true }
def EnumThreadsUptoSaid : Prop := enumThreadsUptoRow.holds Tryz.pinned (OpenSpec.upto enumThreadsSpec)

/-- 'exegesislaw14.BehaveKnown', WHERE WHAT IT READS IS OF BULK AT MOST 1048576: true; the input reads as it did. -/
def behaveKnownUptoRow : OpenClaim := { program := "ytheojbhaajbecaagreat", sum := "658f0dfb7b3e2047b0932bda1fa8a5500761182f4443db4773e16d2a9b3c994c", func := "exegesis/exegesislaw14.BehaveKnown", spec := "behaveKnown", unfollowed := true, recurses := true, apart := false, narrowed := true }
def BehaveKnownUptoSaid : Prop := behaveKnownUptoRow.holds Tryz.pinned (OpenSpec.upto behaveKnownSpec)

/-- 'exegesislaw14.BehaveFences', WHERE WHAT IT READS IS OF BULK AT MOST 1048576: true; the input reads as it did. -/
def behaveFencesUptoRow : OpenClaim := { program := "ytheojbhaajbecaagreat", sum := "658f0dfb7b3e2047b0932bda1fa8a5500761182f4443db4773e16d2a9b3c994c", func := "exegesis/exegesislaw14.BehaveFences", spec := "behaveFences", unfollowed := true, recurses := true, apart := false, narrowed := true }
def BehaveFencesUptoSaid : Prop := behaveFencesUptoRow.holds Tryz.pinned (OpenSpec.upto behaveFencesSpec)

end Rows
end Go.Proofs.YtheojbhaajbecaaGreat
