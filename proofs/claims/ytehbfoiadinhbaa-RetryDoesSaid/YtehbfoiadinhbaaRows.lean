/-
  No cell of these rows narrows 'for every input' (looked for: loops, veiled, ifaces, maps, wideKeys, modest, calm, conditions, laid).
  DERIVED. THE GIVEN ROWS OF THIS SEAT. 5 by the template 'for every input the law returns true; each argument reads behind the call as it read before'; 0 by the template 'total and deterministic' (their statements: YtehbfoiadinhbaaTotals.lean).
  GIVEN WITH THE SEED: the statements are not yours to turn. If you find one false, say at which input.
  Laid BY PROGRAM, IN A SANDBOX (cutbox-rows.mjs): the forced cells as the released guide's own fill.sh prints them over the translation f79522ed2c2eb1bb… (all of the seat's roots in one cut). By AI agents, Wed Nov 11 2026. No macro, syntax, notation, axiom, sorry.
-/
import Derived.Test.YtehbfoiadinhbaaChecked
import GoSem.Claim
import GoSem.ClaimJoined
import GoSem.ClaimMapViews
import Derived.JoinedTies
import Derived.KernelRfl
namespace Go.Proofs.Ytehbfoiadinhbaa
/- THE CELL 'sum', in the pinned program and in every row, IS THE sha256 OF THE DUMP (.gsa) THAT YtehbfoiadinhbaaProg.lean LOADS. Nothing in Lean hashes anything: it is a label: what it is worth is what the hold of that sum in a sandbox is worth. -/
noncomputable def Try.pinned : Pinned := { name := "ytehbfoiadinhbaa", sum := "f79522ed2c2eb1bb696a4624ec999ab7c12585f34913cb9703f42aa7065168fa", checked := Try.checked }
namespace Rows
def none {H : Type} : Left H := { results := [], args := [] }

/-- 'syngraphlaw17.RetrySpaces': WHATEVER THE INPUT: true; the input reads as it did. -/
def retrySpacesSpec : ChangeSpec := { name := "retrySpaces", fn := fun _ => fun
  | [d1, d2, d3] => { results := [.lit (.bool true)], args := [d1, d2, d3] }
  | _ => none }
def retrySpacesRow : OpenClaim := { program := "ytehbfoiadinhbaa", sum := "f79522ed2c2eb1bb696a4624ec999ab7c12585f34913cb9703f42aa7065168fa", func := "syngraph/syngraphlaw17.RetrySpaces", spec := "retrySpaces", inPlace := ["math/bits.Add64"], unfollowed := true, recurses := true, apart := false }
def RetrySpacesSaid : Prop := retrySpacesRow.holds Try.pinned (OpenSpec.ofChange retrySpacesSpec)

/-- ITS FALSE NEIGHBOUR: 'it returns false'. Refute it at one input. -/
def retrySpacesWrong : ChangeSpec := { name := "retrySpaces", fn := fun _ => fun
  | [d1, d2, d3] => { results := [.lit (.bool false)], args := [d1, d2, d3] }
  | _ => none }
def RetrySpacesWrongFalsely : Prop := retrySpacesRow.holds Try.pinned (OpenSpec.ofChange retrySpacesWrong)

/-- 'syngraphlaw17.RetryFast': WHATEVER THE INPUT: true; the input reads as it did. -/
def retryFastSpec : ChangeSpec := { name := "retryFast", fn := fun _ => fun
  | [d1, d2] => { results := [.lit (.bool true)], args := [d1, d2] }
  | _ => none }
def retryFastRow : OpenClaim := { program := "ytehbfoiadinhbaa", sum := "f79522ed2c2eb1bb696a4624ec999ab7c12585f34913cb9703f42aa7065168fa", func := "syngraph/syngraphlaw17.RetryFast", spec := "retryFast", inPlace := ["math/bits.Add64"], unfollowed := true, recurses := true, apart := false }
def RetryFastSaid : Prop := retryFastRow.holds Try.pinned (OpenSpec.ofChange retryFastSpec)

/-- ITS FALSE NEIGHBOUR: 'it returns false'. Refute it at one input. -/
def retryFastWrong : ChangeSpec := { name := "retryFast", fn := fun _ => fun
  | [d1, d2] => { results := [.lit (.bool false)], args := [d1, d2] }
  | _ => none }
def RetryFastWrongFalsely : Prop := retryFastRow.holds Try.pinned (OpenSpec.ofChange retryFastWrong)

/-- 'syngraphlaw17.RetryDone': WHATEVER THE INPUT: true; the input reads as it did. -/
def retryDoneSpec : ChangeSpec := { name := "retryDone", fn := fun _ => fun
  | [d1, d2, d3] => { results := [.lit (.bool true)], args := [d1, d2, d3] }
  | _ => none }
def retryDoneRow : OpenClaim := { program := "ytehbfoiadinhbaa", sum := "f79522ed2c2eb1bb696a4624ec999ab7c12585f34913cb9703f42aa7065168fa", func := "syngraph/syngraphlaw17.RetryDone", spec := "retryDone", inPlace := ["math/bits.Add64"], unfollowed := true, recurses := true, apart := false }
def RetryDoneSaid : Prop := retryDoneRow.holds Try.pinned (OpenSpec.ofChange retryDoneSpec)

/-- ITS FALSE NEIGHBOUR: 'it returns false'. Refute it at one input. -/
def retryDoneWrong : ChangeSpec := { name := "retryDone", fn := fun _ => fun
  | [d1, d2, d3] => { results := [.lit (.bool false)], args := [d1, d2, d3] }
  | _ => none }
def RetryDoneWrongFalsely : Prop := retryDoneRow.holds Try.pinned (OpenSpec.ofChange retryDoneWrong)

/-- 'syngraphlaw17.RetryWaits': WHATEVER THE INPUT: true; the input reads as it did. -/
def retryWaitsSpec : ChangeSpec := { name := "retryWaits", fn := fun _ => fun
  | [d1, d2, d3] => { results := [.lit (.bool true)], args := [d1, d2, d3] }
  | _ => none }
def retryWaitsRow : OpenClaim := { program := "ytehbfoiadinhbaa", sum := "f79522ed2c2eb1bb696a4624ec999ab7c12585f34913cb9703f42aa7065168fa", func := "syngraph/syngraphlaw17.RetryWaits", spec := "retryWaits", inPlace := ["math/bits.Add64"], unfollowed := true, recurses := true, apart := false }
def RetryWaitsSaid : Prop := retryWaitsRow.holds Try.pinned (OpenSpec.ofChange retryWaitsSpec)

/-- ITS FALSE NEIGHBOUR: 'it returns false'. Refute it at one input. -/
def retryWaitsWrong : ChangeSpec := { name := "retryWaits", fn := fun _ => fun
  | [d1, d2, d3] => { results := [.lit (.bool false)], args := [d1, d2, d3] }
  | _ => none }
def RetryWaitsWrongFalsely : Prop := retryWaitsRow.holds Try.pinned (OpenSpec.ofChange retryWaitsWrong)

/-- 'syngraphlaw17.RetryDoes': WHATEVER THE INPUT: true; the input reads as it did. -/
def retryDoesSpec : ChangeSpec := { name := "retryDoes", fn := fun _ => fun
  | [d1, d2] => { results := [.lit (.bool true)], args := [d1, d2] }
  | _ => none }
def retryDoesRow : OpenClaim := { program := "ytehbfoiadinhbaa", sum := "f79522ed2c2eb1bb696a4624ec999ab7c12585f34913cb9703f42aa7065168fa", func := "syngraph/syngraphlaw17.RetryDoes", spec := "retryDoes", inPlace := ["math/bits.Add64", "maps.clone"], unfollowed := true, recurses := true, apart := false }
def RetryDoesSaid : Prop := retryDoesRow.holds Try.pinned (OpenSpec.ofChange retryDoesSpec)

/-- ITS FALSE NEIGHBOUR: 'it returns false'. Refute it at one input. -/
def retryDoesWrong : ChangeSpec := { name := "retryDoes", fn := fun _ => fun
  | [d1, d2] => { results := [.lit (.bool false)], args := [d1, d2] }
  | _ => none }
def RetryDoesWrongFalsely : Prop := retryDoesRow.holds Try.pinned (OpenSpec.ofChange retryDoesWrong)

/- THE SECOND FORM. 'bulk': how many values and letters a reading holds, each counted each time it is reached (what is shared counts as often as it is met; a slice's spare places count too). A statement '..UptoSaid' is the law's where the arguments, and the package variables that the reading takes, are together of bulk at most 1048576: NARROWER than '..Said'. Prove '..Said' where nothing that the law and all that it calls make is longer than what came in: it says more and counts as full. Else prove '..UptoSaid'. A law counts once. -/
mutual
def uptoBulk {H : Type} : DataW H → Nat
  | .lit (.string bytes) => bytes.length + 1
  | .lit _ => 1
  | .nil => 1
  | .ptr d => uptoBulk d + 1
  | .slice elems spare => uptoBulkAll elems + uptoBulkAll spare + 1
  | .agg parts => uptoBulkAll parts + 1
  | .iface _ d => uptoBulk d + 1
  | .map entries => uptoBulkEntries entries + 1
  | .held _ => 1
def uptoBulkAll {H : Type} : List (DataW H) → Nat
  | [] => 0
  | d :: r => uptoBulk d + uptoBulkAll r
def uptoBulkEntries {H : Type} : List (Lit × DataW H) → Nat
  | [] => 0
  | x :: r => uptoBulkEntry x + uptoBulkEntries r
def uptoBulkEntry {H : Type} : Lit × DataW H → Nat
  | (.string bytes, d) => bytes.length + uptoBulk d + 1
  | (_, d) => uptoBulk d + 1
 end
def uptoSmall : (H : Type) → List (DataW H) → Bool := fun _ ds => decide (uptoBulkAll ds ≤ 1048576)
def OpenSpec.upto (s : _root_.Go.ChangeSpec) : _root_.Go.OpenSpec := { _root_.Go.OpenSpec.ofChange s with cond := some uptoSmall }

/-- 'syngraphlaw17.RetrySpaces', WHERE WHAT IT READS IS OF BULK AT MOST 1048576: true; the input reads as it did. -/
def retrySpacesUptoRow : OpenClaim := { program := "ytehbfoiadinhbaa", sum := "f79522ed2c2eb1bb696a4624ec999ab7c12585f34913cb9703f42aa7065168fa", func := "syngraph/syngraphlaw17.RetrySpaces", spec := "retrySpaces", inPlace := ["math/bits.Add64"], unfollowed := true, recurses := true, apart := false, narrowed := true }
def RetrySpacesUptoSaid : Prop := retrySpacesUptoRow.holds Try.pinned (OpenSpec.upto retrySpacesSpec)

/-- 'syngraphlaw17.RetryFast', WHERE WHAT IT READS IS OF BULK AT MOST 1048576: true; the input reads as it did. -/
def retryFastUptoRow : OpenClaim := { program := "ytehbfoiadinhbaa", sum := "f79522ed2c2eb1bb696a4624ec999ab7c12585f34913cb9703f42aa7065168fa", func := "syngraph/syngraphlaw17.RetryFast", spec := "retryFast", inPlace := ["math/bits.Add64"], unfollowed := true, recurses := true, apart := false, narrowed := true }
def RetryFastUptoSaid : Prop := retryFastUptoRow.holds Try.pinned (OpenSpec.upto retryFastSpec)

/-- 'syngraphlaw17.RetryDone', WHERE WHAT IT READS IS OF BULK AT MOST 1048576: true; the input reads as it did. -/
def retryDoneUptoRow : OpenClaim := { program := "ytehbfoiadinhbaa", sum := "f79522ed2c2eb1bb696a4624ec999ab7c12585f34913cb9703f42aa7065168fa", func := "syngraph/syngraphlaw17.RetryDone", spec := "retryDone", inPlace := ["math/bits.Add64"], unfollowed := true, recurses := true, apart := false, narrowed := true }
def RetryDoneUptoSaid : Prop := retryDoneUptoRow.holds Try.pinned (OpenSpec.upto retryDoneSpec)

/-- 'syngraphlaw17.RetryWaits', WHERE WHAT IT READS IS OF BULK AT MOST 1048576: true; the input reads as it did. -/
def retryWaitsUptoRow : OpenClaim := { program := "ytehbfoiadinhbaa", sum := "f79522ed2c2eb1bb696a4624ec999ab7c12585f34913cb9703f42aa7065168fa", func := "syngraph/syngraphlaw17.RetryWaits", spec := "retryWaits", inPlace := ["math/bits.Add64"], unfollowed := true, recurses := true, apart := false, narrowed := true }
def RetryWaitsUptoSaid : Prop := retryWaitsUptoRow.holds Try.pinned (OpenSpec.upto retryWaitsSpec)

/-- 'syngraphlaw17.RetryDoes', WHERE WHAT IT READS IS OF BULK AT MOST 1048576: true; the input reads as it did. -/
def retryDoesUptoRow : OpenClaim := { program := "ytehbfoiadinhbaa", sum := "f79522ed2c2eb1bb696a4624ec999ab7c12585f34913cb9703f42aa7065168fa", func := "syngraph/syngraphlaw17.RetryDoes", spec := "retryDoes", inPlace := ["math/bits.Add64", "maps.clone"], unfollowed := true, recurses := true, apart := false, narrowed := true }
def RetryDoesUptoSaid : Prop := retryDoesUptoRow.holds Try.pinned (OpenSpec.upto retryDoesSpec)

end Rows
end Go.Proofs.Ytehbfoiadinhbaa
