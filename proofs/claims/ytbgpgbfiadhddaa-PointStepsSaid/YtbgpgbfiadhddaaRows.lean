/-
  No cell of these rows narrows 'for every input' (looked for: loops, veiled, ifaces, maps, wideKeys, modest, calm, conditions, laid).
  DERIVED. THE GIVEN ROWS OF THIS SEAT. 6 by the template 'for every input the law returns true; each argument reads behind the call as it read before'; 0 by the template 'total and deterministic' (their statements: YtbgpgbfiadhddaaTotals.lean).
  GIVEN WITH THE SEED: the statements are not yours to turn. If you find one false, say at which input.
  Laid BY PROGRAM, IN A SANDBOX (cutbox-rows.mjs): the forced cells as the released guide's own fill.sh prints them over the translation 2d2d2e0ffb055c82… (all of the seat's roots in one cut). By AI agents, Wed Nov 11 2026. No macro, syntax, notation, axiom, sorry.
-/
import Derived.Test.YtbgpgbfiadhddaaChecked
import GoSem.Claim
import GoSem.ClaimJoined
import GoSem.ClaimMapViews
import Derived.JoinedTies
import Derived.KernelRfl
namespace Go.Proofs.Ytbgpgbfiadhddaa
/- THE CELL 'sum', in the pinned program and in every row, IS THE sha256 OF THE DUMP (.gsa) THAT YtbgpgbfiadhddaaProg.lean LOADS. Nothing in Lean hashes anything: it is a label: what it is worth is what the hold of that sum in a sandbox is worth. -/
noncomputable def Try.pinned : Pinned := { name := "ytbgpgbfiadhddaa", sum := "2d2d2e0ffb055c828a5473f3f43dde2a0a388f82a35721eb6a14e51a5cc666de", checked := Try.checked }
namespace Rows
def none {H : Type} : Left H := { results := [], args := [] }

/-- 'syngraphlaw06.PointBytes': WHATEVER THE INPUT: true; the input reads as it did. -/
def pointBytesSpec : ChangeSpec := { name := "pointBytes", fn := fun _ => fun
  | [d] => { results := [.lit (.bool true)], args := [d] }
  | _ => none }
def pointBytesRow : OpenClaim := { program := "ytbgpgbfiadhddaa", sum := "2d2d2e0ffb055c828a5473f3f43dde2a0a388f82a35721eb6a14e51a5cc666de", func := "syngraph/syngraphlaw06.PointBytes", spec := "pointBytes", inPlace := ["internal/abi.NoEscape", "internal/bytealg.MakeNoZero"], unfollowed := true, recurses := true, apart := false }
def PointBytesSaid : Prop := pointBytesRow.holds Try.pinned (OpenSpec.ofChange pointBytesSpec)

/-- ITS FALSE NEIGHBOUR: 'it returns false'. Refute it at one input. -/
def pointBytesWrong : ChangeSpec := { name := "pointBytes", fn := fun _ => fun
  | [d] => { results := [.lit (.bool false)], args := [d] }
  | _ => none }
def PointBytesWrongFalsely : Prop := pointBytesRow.holds Try.pinned (OpenSpec.ofChange pointBytesWrong)

/-- 'syngraphlaw06.PointAdds': WHATEVER THE INPUT: true; the input reads as it did. -/
def pointAddsSpec : ChangeSpec := { name := "pointAdds", fn := fun _ => fun
  | [d1, d2] => { results := [.lit (.bool true)], args := [d1, d2] }
  | _ => none }
def pointAddsRow : OpenClaim := { program := "ytbgpgbfiadhddaa", sum := "2d2d2e0ffb055c828a5473f3f43dde2a0a388f82a35721eb6a14e51a5cc666de", func := "syngraph/syngraphlaw06.PointAdds", spec := "pointAdds", inPlace := ["internal/abi.NoEscape", "internal/bytealg.MakeNoZero"], unfollowed := true, recurses := true, apart := false }
def PointAddsSaid : Prop := pointAddsRow.holds Try.pinned (OpenSpec.ofChange pointAddsSpec)

/-- ITS FALSE NEIGHBOUR: 'it returns false'. Refute it at one input. -/
def pointAddsWrong : ChangeSpec := { name := "pointAdds", fn := fun _ => fun
  | [d1, d2] => { results := [.lit (.bool false)], args := [d1, d2] }
  | _ => none }
def PointAddsWrongFalsely : Prop := pointAddsRow.holds Try.pinned (OpenSpec.ofChange pointAddsWrong)

/-- 'syngraphlaw06.PointMuls': WHATEVER THE INPUT: true; the input reads as it did. -/
def pointMulsSpec : ChangeSpec := { name := "pointMuls", fn := fun _ => fun
  | [d1, d2] => { results := [.lit (.bool true)], args := [d1, d2] }
  | _ => none }
def pointMulsRow : OpenClaim := { program := "ytbgpgbfiadhddaa", sum := "2d2d2e0ffb055c828a5473f3f43dde2a0a388f82a35721eb6a14e51a5cc666de", func := "syngraph/syngraphlaw06.PointMuls", spec := "pointMuls", inPlace := ["internal/abi.NoEscape", "internal/bytealg.MakeNoZero"], unfollowed := true, recurses := true, apart := false }
def PointMulsSaid : Prop := pointMulsRow.holds Try.pinned (OpenSpec.ofChange pointMulsSpec)

/-- ITS FALSE NEIGHBOUR: 'it returns false'. Refute it at one input. -/
def pointMulsWrong : ChangeSpec := { name := "pointMuls", fn := fun _ => fun
  | [d1, d2] => { results := [.lit (.bool false)], args := [d1, d2] }
  | _ => none }
def PointMulsWrongFalsely : Prop := pointMulsRow.holds Try.pinned (OpenSpec.ofChange pointMulsWrong)

/-- 'syngraphlaw06.PointGroup': WHATEVER THE INPUT: true; the input reads as it did. -/
def pointGroupSpec : ChangeSpec := { name := "pointGroup", fn := fun _ => fun
  | [d1, d2, d3] => { results := [.lit (.bool true)], args := [d1, d2, d3] }
  | _ => none }
def pointGroupRow : OpenClaim := { program := "ytbgpgbfiadhddaa", sum := "2d2d2e0ffb055c828a5473f3f43dde2a0a388f82a35721eb6a14e51a5cc666de", func := "syngraph/syngraphlaw06.PointGroup", spec := "pointGroup", inPlace := ["internal/abi.NoEscape", "internal/bytealg.MakeNoZero"], unfollowed := true, recurses := true, apart := false }
def PointGroupSaid : Prop := pointGroupRow.holds Try.pinned (OpenSpec.ofChange pointGroupSpec)

/-- ITS FALSE NEIGHBOUR: 'it returns false'. Refute it at one input. -/
def pointGroupWrong : ChangeSpec := { name := "pointGroup", fn := fun _ => fun
  | [d1, d2, d3] => { results := [.lit (.bool false)], args := [d1, d2, d3] }
  | _ => none }
def PointGroupWrongFalsely : Prop := pointGroupRow.holds Try.pinned (OpenSpec.ofChange pointGroupWrong)

/-- 'syngraphlaw06.PointOdd': WHATEVER THE INPUT: true; the input reads as it did. -/
def pointOddSpec : ChangeSpec := { name := "pointOdd", fn := fun _ => fun
  | [d] => { results := [.lit (.bool true)], args := [d] }
  | _ => none }
def pointOddRow : OpenClaim := { program := "ytbgpgbfiadhddaa", sum := "2d2d2e0ffb055c828a5473f3f43dde2a0a388f82a35721eb6a14e51a5cc666de", func := "syngraph/syngraphlaw06.PointOdd", spec := "pointOdd", inPlace := ["internal/abi.NoEscape", "internal/bytealg.MakeNoZero"], unfollowed := true, recurses := true, apart := false }
def PointOddSaid : Prop := pointOddRow.holds Try.pinned (OpenSpec.ofChange pointOddSpec)

/-- ITS FALSE NEIGHBOUR: 'it returns false'. Refute it at one input. -/
def pointOddWrong : ChangeSpec := { name := "pointOdd", fn := fun _ => fun
  | [d] => { results := [.lit (.bool false)], args := [d] }
  | _ => none }
def PointOddWrongFalsely : Prop := pointOddRow.holds Try.pinned (OpenSpec.ofChange pointOddWrong)

/-- 'syngraphlaw06.PointSteps': WHATEVER THE INPUT: true; the input reads as it did. -/
def pointStepsSpec : ChangeSpec := { name := "pointSteps", fn := fun _ => fun
  | [d1, d2] => { results := [.lit (.bool true)], args := [d1, d2] }
  | _ => none }
def pointStepsRow : OpenClaim := { program := "ytbgpgbfiadhddaa", sum := "2d2d2e0ffb055c828a5473f3f43dde2a0a388f82a35721eb6a14e51a5cc666de", func := "syngraph/syngraphlaw06.PointSteps", spec := "pointSteps", inPlace := ["internal/abi.NoEscape", "internal/bytealg.MakeNoZero"], unfollowed := true, recurses := true, apart := false }
def PointStepsSaid : Prop := pointStepsRow.holds Try.pinned (OpenSpec.ofChange pointStepsSpec)

/-- ITS FALSE NEIGHBOUR: 'it returns false'. Refute it at one input. -/
def pointStepsWrong : ChangeSpec := { name := "pointSteps", fn := fun _ => fun
  | [d1, d2] => { results := [.lit (.bool false)], args := [d1, d2] }
  | _ => none }
def PointStepsWrongFalsely : Prop := pointStepsRow.holds Try.pinned (OpenSpec.ofChange pointStepsWrong)

/- THE SECOND FORM. 'bulk': how many values and letters a reading holds, each counted each time it is reached (what is shared counts as often as it is met; a slice's spare places count too). A statement '..UptoSaid' is the law's where the arguments, and the package variables that the reading takes, are together of bulk at most 1048576: NARROWER than '..Said'. Prove '..Said' where nothing that the law and all that it calls make is longer than what came in: it says more and counts as full. Else prove '..UptoSaid'. A law counts once. -/
mutual
def uptoBulk {H : Type} : DataW H → Nat
  | .lit (.string bytes) => bytes.length + 1
  | .lit _ => 1
  | .nil => 1
  | .ptr d => uptoBulk d + 1
  | .slice elems spare => uptoBulkAll elems + uptoBulkAll spare + 1
  | .agg parts => uptoBulkAll parts + 1
  | .iface _ d => uptoBulk d + 1
  | .map entries => uptoBulkEntries entries + 1
  | .held _ => 1
def uptoBulkAll {H : Type} : List (DataW H) → Nat
  | [] => 0
  | d :: r => uptoBulk d + uptoBulkAll r
def uptoBulkEntries {H : Type} : List (Lit × DataW H) → Nat
  | [] => 0
  | x :: r => uptoBulkEntry x + uptoBulkEntries r
def uptoBulkEntry {H : Type} : Lit × DataW H → Nat
  | (.string bytes, d) => bytes.length + uptoBulk d + 1
  | (_, d) => uptoBulk d + 1
 end
def uptoSmall : (H : Type) → List (DataW H) → Bool := fun _ ds => decide (uptoBulkAll ds ≤ 1048576)
def OpenSpec.upto (s : _root_.Go.ChangeSpec) : _root_.Go.OpenSpec := { _root_.Go.OpenSpec.ofChange s with cond := some uptoSmall }

/-- 'syngraphlaw06.PointBytes', WHERE WHAT IT READS IS OF BULK AT MOST 1048576: true; the input reads as it did. -/
def pointBytesUptoRow : OpenClaim := { program := "ytbgpgbfiadhddaa", sum := "2d2d2e0ffb055c828a5473f3f43dde2a0a388f82a35721eb6a14e51a5cc666de", func := "syngraph/syngraphlaw06.PointBytes", spec := "pointBytes", inPlace := ["internal/abi.NoEscape", "internal/bytealg.MakeNoZero"], unfollowed := true, recurses := true, apart := false, narrowed := true }
def PointBytesUptoSaid : Prop := pointBytesUptoRow.holds Try.pinned (OpenSpec.upto pointBytesSpec)

/-- 'syngraphlaw06.PointAdds', WHERE WHAT IT READS IS OF BULK AT MOST 1048576: true; the input reads as it did. -/
def pointAddsUptoRow : OpenClaim := { program := "ytbgpgbfiadhddaa", sum := "2d2d2e0ffb055c828a5473f3f43dde2a0a388f82a35721eb6a14e51a5cc666de", func := "syngraph/syngraphlaw06.PointAdds", spec := "pointAdds", inPlace := ["internal/abi.NoEscape", "internal/bytealg.MakeNoZero"], unfollowed := true, recurses := true, apart := false, narrowed := true }
def PointAddsUptoSaid : Prop := pointAddsUptoRow.holds Try.pinned (OpenSpec.upto pointAddsSpec)

/-- 'syngraphlaw06.PointMuls', WHERE WHAT IT READS IS OF BULK AT MOST 1048576: true; the input reads as it did. -/
def pointMulsUptoRow : OpenClaim := { program := "ytbgpgbfiadhddaa", sum := "2d2d2e0ffb055c828a5473f3f43dde2a0a388f82a35721eb6a14e51a5cc666de", func := "syngraph/syngraphlaw06.PointMuls", spec := "pointMuls", inPlace := ["internal/abi.NoEscape", "internal/bytealg.MakeNoZero"], unfollowed := true, recurses := true, apart := false, narrowed := true }
def PointMulsUptoSaid : Prop := pointMulsUptoRow.holds Try.pinned (OpenSpec.upto pointMulsSpec)

/-- 'syngraphlaw06.PointGroup', WHERE WHAT IT READS IS OF BULK AT MOST 1048576: true; the input reads as it did. -/
def pointGroupUptoRow : OpenClaim := { program := "ytbgpgbfiadhddaa", sum := "2d2d2e0ffb055c828a5473f3f43dde2a0a388f82a35721eb6a14e51a5cc666de", func := "syngraph/syngraphlaw06.PointGroup", spec := "pointGroup", inPlace := ["internal/abi.NoEscape", "internal/bytealg.MakeNoZero"], unfollowed := true, recurses := true, apart := false, narrowed := true }
def PointGroupUptoSaid : Prop := pointGroupUptoRow.holds Try.pinned (OpenSpec.upto pointGroupSpec)

/-- 'syngraphlaw06.PointOdd', WHERE WHAT IT READS IS OF BULK AT MOST 1048576: true; the input reads as it did. -/
def pointOddUptoRow : OpenClaim := { program := "ytbgpgbfiadhddaa", sum := "2d2d2e0ffb055c828a5473f3f43dde2a0a388f82a35721eb6a14e51a5cc666de", func := "syngraph/syngraphlaw06.PointOdd", spec := "pointOdd", inPlace := ["internal/abi.NoEscape", "internal/bytealg.MakeNoZero"], unfollowed := true, recurses := true, apart := false, narrowed := true }
def PointOddUptoSaid : Prop := pointOddUptoRow.holds Try.pinned (OpenSpec.upto pointOddSpec)

/-- 'syngraphlaw06.PointSteps', WHERE WHAT IT READS IS OF BULK AT MOST 1048576: true; the input reads as it did. -/
def pointStepsUptoRow : OpenClaim := { program := "ytbgpgbfiadhddaa", sum := "2d2d2e0ffb055c828a5473f3f43dde2a0a388f82a35721eb6a14e51a5cc666de", func := "syngraph/syngraphlaw06.PointSteps", spec := "pointSteps", inPlace := ["internal/abi.NoEscape", "internal/bytealg.MakeNoZero"], unfollowed := true, recurses := true, apart := false, narrowed := true }
def PointStepsUptoSaid : Prop := pointStepsUptoRow.holds Try.pinned (OpenSpec.upto pointStepsSpec)

end Rows
end Go.Proofs.Ytbgpgbfiadhddaa
