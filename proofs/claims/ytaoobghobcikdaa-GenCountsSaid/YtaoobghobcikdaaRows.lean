/-
  No cell of these rows narrows 'for every input' (looked for: loops, veiled, ifaces, maps, wideKeys, modest, calm, conditions, laid).
  DERIVED. THE GIVEN ROWS OF THIS SEAT. 2 by the template 'for every input the law returns true; each argument reads behind the call as it read before'; 0 by the template 'total and deterministic' (their statements: YtaoobghobcikdaaTotals.lean).
  GIVEN WITH THE SEED: the statements are not yours to turn. If you find one false, say at which input.
  Laid BY PROGRAM, IN A SANDBOX (cutbox-rows.mjs): the forced cells as the released guide's own fill.sh prints them over the translation d0d03f9e699aa1b8… (all of the seat's roots in one cut). By AI agents, Wed Nov 11 2026. No macro, syntax, notation, axiom, sorry.
-/
import Derived.Test.YtaoobghobcikdaaChecked
import GoSem.Claim
import GoSem.ClaimJoined
import GoSem.ClaimMapViews
import Derived.JoinedTies
import Derived.KernelRfl
namespace Go.Proofs.Ytaoobghobcikdaa
/- THE CELL 'sum', in the pinned program and in every row, IS THE sha256 OF THE DUMP (.gsa) THAT YtaoobghobcikdaaProg.lean LOADS. Nothing in Lean hashes anything: it is a label: what it is worth is what the hold of that sum in a sandbox is worth. -/
noncomputable def Try.pinned : Pinned := { name := "ytaoobghobcikdaa", sum := "d0d03f9e699aa1b85003934a352fdd0ae4042be3dde7e875a20ac6ade443da95", checked := Try.checked }
namespace Rows
def none {H : Type} : Left H := { results := [], args := [] }

/-- 'exegesislaw07.GenBranches': WHATEVER THE INPUT: true; the input reads as it did. -/
def genBranchesSpec : ChangeSpec := { name := "genBranches", fn := fun _ => fun
  | [d1, d2] => { results := [.lit (.bool true)], args := [d1, d2] }
  | _ => none }
def genBranchesRow : OpenClaim := { program := "ytaoobghobcikdaa", sum := "d0d03f9e699aa1b85003934a352fdd0ae4042be3dde7e875a20ac6ade443da95", func := "exegesis/exegesislaw07.GenBranches", spec := "genBranches", unfollowed := true, recurses := true, apart := false }
def GenBranchesSaid : Prop := genBranchesRow.holds Try.pinned (OpenSpec.ofChange genBranchesSpec)

/-- ITS FALSE NEIGHBOUR: 'it returns false'. Refute it at one input. -/
def genBranchesWrong : ChangeSpec := { name := "genBranches", fn := fun _ => fun
  | [d1, d2] => { results := [.lit (.bool false)], args := [d1, d2] }
  | _ => none }
def GenBranchesWrongFalsely : Prop := genBranchesRow.holds Try.pinned (OpenSpec.ofChange genBranchesWrong)

/-- 'exegesislaw07.GenCounts': WHATEVER THE INPUT: true; the input reads as it did. -/
def genCountsSpec : ChangeSpec := { name := "genCounts", fn := fun _ => fun
  | [d1, d2, d3] => { results := [.lit (.bool true)], args := [d1, d2, d3] }
  | _ => none }
def genCountsRow : OpenClaim := { program := "ytaoobghobcikdaa", sum := "d0d03f9e699aa1b85003934a352fdd0ae4042be3dde7e875a20ac6ade443da95", func := "exegesis/exegesislaw07.GenCounts", spec := "genCounts", unfollowed := true, recurses := true, apart := false }
def GenCountsSaid : Prop := genCountsRow.holds Try.pinned (OpenSpec.ofChange genCountsSpec)

/-- ITS FALSE NEIGHBOUR: 'it returns false'. Refute it at one input. -/
def genCountsWrong : ChangeSpec := { name := "genCounts", fn := fun _ => fun
  | [d1, d2, d3] => { results := [.lit (.bool false)], args := [d1, d2, d3] }
  | _ => none }
def GenCountsWrongFalsely : Prop := genCountsRow.holds Try.pinned (OpenSpec.ofChange genCountsWrong)

/- THE SECOND FORM. 'bulk': how many values and letters a reading holds, each counted each time it is reached (what is shared counts as often as it is met; a slice's spare places count too). A statement '..UptoSaid' is the law's where the arguments, and the package variables that the reading takes, are together of bulk at most 1048576: NARROWER than '..Said'. Prove '..Said' where nothing that the law and all that it calls make is longer than what came in: it says more and counts as full. Else prove '..UptoSaid'. A law counts once. -/
mutual
def uptoBulk {H : Type} : DataW H → Nat
  | .lit (.string bytes) => bytes.length + 1
  | .lit _ => 1
  | .nil => 1
  | .ptr d => uptoBulk d + 1
  | .slice elems spare => uptoBulkAll elems + uptoBulkAll spare + 1
  | .agg parts => uptoBulkAll parts + 1
  | .iface _ d => uptoBulk d + 1
  | .map entries => uptoBulkEntries entries + 1
  | .held _ => 1
def uptoBulkAll {H : Type} : List (DataW H) → Nat
  | [] => 0
  | d :: r => uptoBulk d + uptoBulkAll r
def uptoBulkEntries {H : Type} : List (Lit × DataW H) → Nat
  | [] => 0
  | x :: r => uptoBulkEntry x + uptoBulkEntries r
def uptoBulkEntry {H : Type} : Lit × DataW H → Nat
  | (.string bytes, d) => bytes.length + uptoBulk d + 1
  | (_, d) => uptoBulk d + 1
 end
def uptoSmall : (H : Type) → List (DataW H) → Bool := fun _ ds => decide (uptoBulkAll ds ≤ 1048576)
def OpenSpec.upto (s : _root_.Go.ChangeSpec) : _root_.Go.OpenSpec := { _root_.Go.OpenSpec.ofChange s with cond := some uptoSmall }

/-- 'exegesislaw07.GenBranches', WHERE WHAT IT READS IS OF BULK AT MOST 1048576: true; the input reads as it did. -/
def genBranchesUptoRow : OpenClaim := { program := "ytaoobghobcikdaa", sum := "d0d03f9e699aa1b85003934a352fdd0ae4042be3dde7e875a20ac6ade443da95", func := "exegesis/exegesislaw07.GenBranches", spec := "genBranches", unfollowed := true, recurses := true, apart := false, narrowed := true }
def GenBranchesUptoSaid : Prop := genBranchesUptoRow.holds Try.pinned (OpenSpec.upto genBranchesSpec)

/-- 'exegesislaw07.GenCounts', WHERE WHAT IT READS IS OF BULK AT MOST 1048576: true; the input reads as it did. -/
def genCountsUptoRow : OpenClaim := { program := "ytaoobghobcikdaa", sum := "d0d03f9e699aa1b85003934a352fdd0ae4042be3dde7e875a20ac6ade443da95", func := "exegesis/exegesislaw07.GenCounts", spec := "genCounts", unfollowed := true, recurses := true, apart := false, narrowed := true }
def GenCountsUptoSaid : Prop := genCountsUptoRow.holds Try.pinned (OpenSpec.upto genCountsSpec)

end Rows
end Go.Proofs.Ytaoobghobcikdaa
