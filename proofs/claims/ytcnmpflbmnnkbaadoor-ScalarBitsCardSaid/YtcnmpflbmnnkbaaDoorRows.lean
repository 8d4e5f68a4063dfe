/-
  NARROWER THAN 'FOR EVERY INPUT', by the rows' own cells (each row's printed sentence says how): ScalarTells: laid · ScalarBits: laid · ScalarRing: laid · ScalarParts: laid · ScalarDigits: laid · ScalarDoubles: laid.
  DERIVED. THE GIVEN ROWS OF THIS SEAT. 6 by the template 'for every input the law returns true; each argument reads behind the call as it read before'; 0 by the template 'total and deterministic' (their statements: YtcnmpflbmnnkbaaDoorTotals.lean).
  GIVEN WITH THE SEED: the statements are not yours to turn. If you find one false, say at which input.
  Laid BY PROGRAM, IN A SANDBOX (cutbox-rows.mjs): the forced cells as the released guide's own fill.sh prints them over the translation eab1a91cd6c107bd… (all of the seat's roots in one cut). By AI agents, Wed Nov 11 2026. No macro, syntax, notation, axiom, sorry.
-/
import Derived.Test.YtcnmpflbmnnkbaaDoorChecked
import GoSem.Claim
import GoSem.ClaimJoined
import GoSem.ClaimMapViews
import Derived.JoinedTies
import Derived.KernelRfl
namespace Go.Proofs.YtcnmpflbmnnkbaaDoor
/- THE CELL 'sum', in the pinned program and in every row, IS THE sha256 OF THE DUMP (.gsa) THAT YtcnmpflbmnnkbaaDoorProg.lean LOADS. Nothing in Lean hashes anything: it is a label: what it is worth is what the hold of that sum in a sandbox is worth. -/
noncomputable def Tryd.pinned : Pinned := { name := "ytcnmpflbmnnkbaadoor", sum := "eab1a91cd6c107bde64d86c2396bfa294f7cc32a5d53b607c55757a528704f2b", checked := Tryd.checked }
namespace Rows
def none {H : Type} : Left H := { results := [], args := [] }

/- WHAT THE LISTED PACKAGE-LEVEL VARIABLES READ AS WHEN THE CALL BEGINS. Each datum BY PROGRAM (the guide's laid-datum.mjs) off the statement by which the dump's own 'gosem.cut.vars' lays the variable. In a bare row this is a premise. The card (YtcnmpflbmnnkbaaDoorCards.lean) ties it to the program's text. -/
def laid_syngraph_scalar_order {H : Type} : DataW H := .agg [.lit (.int .u64 6346243789798364141), .lit (.int .u64 1503914060200516822), .lit (.int .u64 0), .lit (.int .u64 1152921504606846976)]

/-- 'syngraphlaw05.ScalarTells': WHATEVER THE INPUT: true; the input reads as it did. -/
def scalarTellsSpec : ChangeSpec := { name := "scalarTells", fn := fun _ => fun
  | [d1, d2, d3] => { results := [.lit (.bool true)], args := [d1, d2, d3] }
  | _ => none }
def scalarTellsRow : OpenClaim := { program := "ytcnmpflbmnnkbaadoor", sum := "eab1a91cd6c107bde64d86c2396bfa294f7cc32a5d53b607c55757a528704f2b", func := "syngraph/syngraphlaw05.ScalarTells", spec := "scalarTells", inPlace := ["math/bits.Sub64", "math/bits.Add64"], named := ["syngraph/scalar.order"], apart := false, laid := [("syngraph/scalar.order", laid_syngraph_scalar_order)] }
def ScalarTellsSaid : Prop := scalarTellsRow.holds Tryd.pinned (OpenSpec.ofChange scalarTellsSpec)

/-- ITS FALSE NEIGHBOUR: 'it returns false'. Refute it at one input. -/
def scalarTellsWrong : ChangeSpec := { name := "scalarTells", fn := fun _ => fun
  | [d1, d2, d3] => { results := [.lit (.bool false)], args := [d1, d2, d3] }
  | _ => none }
def ScalarTellsWrongFalsely : Prop := scalarTellsRow.holds Tryd.pinned (OpenSpec.ofChange scalarTellsWrong)

/-- 'syngraphlaw05.ScalarBits': WHATEVER THE INPUT: true; the input reads as it did. -/
def scalarBitsSpec : ChangeSpec := { name := "scalarBits", fn := fun _ => fun
  | [d1, d2] => { results := [.lit (.bool true)], args := [d1, d2] }
  | _ => none }
def scalarBitsRow : OpenClaim := { program := "ytcnmpflbmnnkbaadoor", sum := "eab1a91cd6c107bde64d86c2396bfa294f7cc32a5d53b607c55757a528704f2b", func := "syngraph/syngraphlaw05.ScalarBits", spec := "scalarBits", inPlace := ["math/bits.Add64", "math/bits.Sub64"], named := ["syngraph/scalar.order"], apart := false, laid := [("syngraph/scalar.order", laid_syngraph_scalar_order)] }
def ScalarBitsSaid : Prop := scalarBitsRow.holds Tryd.pinned (OpenSpec.ofChange scalarBitsSpec)

/-- ITS FALSE NEIGHBOUR: 'it returns false'. Refute it at one input. -/
def scalarBitsWrong : ChangeSpec := { name := "scalarBits", fn := fun _ => fun
  | [d1, d2] => { results := [.lit (.bool false)], args := [d1, d2] }
  | _ => none }
def ScalarBitsWrongFalsely : Prop := scalarBitsRow.holds Tryd.pinned (OpenSpec.ofChange scalarBitsWrong)

/-- 'syngraphlaw05.ScalarRing': WHATEVER THE INPUT: true; the input reads as it did. -/
def scalarRingSpec : ChangeSpec := { name := "scalarRing", fn := fun _ => fun
  | [d1, d2, d3] => { results := [.lit (.bool true)], args := [d1, d2, d3] }
  | _ => none }
def scalarRingRow : OpenClaim := { program := "ytcnmpflbmnnkbaadoor", sum := "eab1a91cd6c107bde64d86c2396bfa294f7cc32a5d53b607c55757a528704f2b", func := "syngraph/syngraphlaw05.ScalarRing", spec := "scalarRing", inPlace := ["math/bits.Sub64", "math/bits.Add64"], named := ["syngraph/scalar.order"], apart := false, laid := [("syngraph/scalar.order", laid_syngraph_scalar_order)] }
def ScalarRingSaid : Prop := scalarRingRow.holds Tryd.pinned (OpenSpec.ofChange scalarRingSpec)

/-- ITS FALSE NEIGHBOUR: 'it returns false'. Refute it at one input. -/
def scalarRingWrong : ChangeSpec := { name := "scalarRing", fn := fun _ => fun
  | [d1, d2, d3] => { results := [.lit (.bool false)], args := [d1, d2, d3] }
  | _ => none }
def ScalarRingWrongFalsely : Prop := scalarRingRow.holds Tryd.pinned (OpenSpec.ofChange scalarRingWrong)

/-- 'syngraphlaw05.ScalarParts': WHATEVER THE INPUT: true; the input reads as it did. -/
def scalarPartsSpec : ChangeSpec := { name := "scalarParts", fn := fun _ => fun
  | [d] => { results := [.lit (.bool true)], args := [d] }
  | _ => none }
def scalarPartsRow : OpenClaim := { program := "ytcnmpflbmnnkbaadoor", sum := "eab1a91cd6c107bde64d86c2396bfa294f7cc32a5d53b607c55757a528704f2b", func := "syngraph/syngraphlaw05.ScalarParts", spec := "scalarParts", inPlace := ["math/bits.Sub64", "math/bits.Add64"], named := ["syngraph/scalar.order"], apart := false, laid := [("syngraph/scalar.order", laid_syngraph_scalar_order)] }
def ScalarPartsSaid : Prop := scalarPartsRow.holds Tryd.pinned (OpenSpec.ofChange scalarPartsSpec)

/-- ITS FALSE NEIGHBOUR: 'it returns false'. Refute it at one input. -/
def scalarPartsWrong : ChangeSpec := { name := "scalarParts", fn := fun _ => fun
  | [d] => { results := [.lit (.bool false)], args := [d] }
  | _ => none }
def ScalarPartsWrongFalsely : Prop := scalarPartsRow.holds Tryd.pinned (OpenSpec.ofChange scalarPartsWrong)

/-- 'syngraphlaw05.ScalarDigits': WHATEVER THE INPUT: true; the input reads as it did. -/
def scalarDigitsSpec : ChangeSpec := { name := "scalarDigits", fn := fun _ => fun
  | [d] => { results := [.lit (.bool true)], args := [d] }
  | _ => none }
def scalarDigitsRow : OpenClaim := { program := "ytcnmpflbmnnkbaadoor", sum := "eab1a91cd6c107bde64d86c2396bfa294f7cc32a5d53b607c55757a528704f2b", func := "syngraph/syngraphlaw05.ScalarDigits", spec := "scalarDigits", inPlace := ["math/bits.Add64", "math/bits.Sub64"], named := ["syngraph/scalar.order"], apart := false, laid := [("syngraph/scalar.order", laid_syngraph_scalar_order)] }
def ScalarDigitsSaid : Prop := scalarDigitsRow.holds Tryd.pinned (OpenSpec.ofChange scalarDigitsSpec)

/-- ITS FALSE NEIGHBOUR: 'it returns false'. Refute it at one input. -/
def scalarDigitsWrong : ChangeSpec := { name := "scalarDigits", fn := fun _ => fun
  | [d] => { results := [.lit (.bool false)], args := [d] }
  | _ => none }
def ScalarDigitsWrongFalsely : Prop := scalarDigitsRow.holds Tryd.pinned (OpenSpec.ofChange scalarDigitsWrong)

/-- 'syngraphlaw05.ScalarDoubles': WHATEVER THE INPUT: true; the input reads as it did. -/
def scalarDoublesSpec : ChangeSpec := { name := "scalarDoubles", fn := fun _ => fun
  | [d1, d2] => { results := [.lit (.bool true)], args := [d1, d2] }
  | _ => none }
def scalarDoublesRow : OpenClaim := { program := "ytcnmpflbmnnkbaadoor", sum := "eab1a91cd6c107bde64d86c2396bfa294f7cc32a5d53b607c55757a528704f2b", func := "syngraph/syngraphlaw05.ScalarDoubles", spec := "scalarDoubles", inPlace := ["math/bits.Sub64", "math/bits.Add64"], named := ["syngraph/scalar.order"], apart := false, laid := [("syngraph/scalar.order", laid_syngraph_scalar_order)] }
def ScalarDoublesSaid : Prop := scalarDoublesRow.holds Tryd.pinned (OpenSpec.ofChange scalarDoublesSpec)

/-- ITS FALSE NEIGHBOUR: 'it returns false'. Refute it at one input. -/
def scalarDoublesWrong : ChangeSpec := { name := "scalarDoubles", fn := fun _ => fun
  | [d1, d2] => { results := [.lit (.bool false)], args := [d1, d2] }
  | _ => none }
def ScalarDoublesWrongFalsely : Prop := scalarDoublesRow.holds Tryd.pinned (OpenSpec.ofChange scalarDoublesWrong)

/- THE SECOND FORM. 'bulk': how many values and letters a reading holds, each counted each time it is reached (what is shared counts as often as it is met; a slice's spare places count too). A statement '..UptoSaid' is the law's where the arguments, and the package variables that the reading takes, are together of bulk at most 1048576: NARROWER than '..Said'. Prove '..Said' where nothing that the law and all that it calls make is longer than what came in: it says more and counts as full. Else prove '..UptoSaid'. A law counts once. -/
mutual
def uptoBulk {H : Type} : DataW H → Nat
  | .lit (.string bytes) => bytes.length + 1
  | .lit _ => 1
  | .nil => 1
  | .ptr d => uptoBulk d + 1
  | .slice elems spare => uptoBulkAll elems + uptoBulkAll spare + 1
  | .agg parts => uptoBulkAll parts + 1
  | .iface _ d => uptoBulk d + 1
  | .map entries => uptoBulkEntries entries + 1
  | .held _ => 1
def uptoBulkAll {H : Type} : List (DataW H) → Nat
  | [] => 0
  | d :: r => uptoBulk d + uptoBulkAll r
def uptoBulkEntries {H : Type} : List (Lit × DataW H) → Nat
  | [] => 0
  | x :: r => uptoBulkEntry x + uptoBulkEntries r
def uptoBulkEntry {H : Type} : Lit × DataW H → Nat
  | (.string bytes, d) => bytes.length + uptoBulk d + 1
  | (_, d) => uptoBulk d + 1
 end
def uptoSmall : (H : Type) → List (DataW H) → Bool := fun _ ds => decide (uptoBulkAll ds ≤ 1048576)
def OpenSpec.upto (s : _root_.Go.ChangeSpec) : _root_.Go.OpenSpec := { _root_.Go.OpenSpec.ofChange s with cond := some uptoSmall }

/-- 'syngraphlaw05.ScalarTells', WHERE WHAT IT READS IS OF BULK AT MOST 1048576: true; the input reads as it did. -/
def scalarTellsUptoRow : OpenClaim := { program := "ytcnmpflbmnnkbaadoor", sum := "eab1a91cd6c107bde64d86c2396bfa294f7cc32a5d53b607c55757a528704f2b", func := "syngraph/syngraphlaw05.ScalarTells", spec := "scalarTells", inPlace := ["math/bits.Sub64", "math/bits.Add64"], named := ["syngraph/scalar.order"], apart := false, laid := [("syngraph/scalar.order", laid_syngraph_scalar_order)], narrowed := true }
def ScalarTellsUptoSaid : Prop := scalarTellsUptoRow.holds Tryd.pinned (OpenSpec.upto scalarTellsSpec)

/-- 'syngraphlaw05.ScalarBits', WHERE WHAT IT READS IS OF BULK AT MOST 1048576: true; the input reads as it did. -/
def scalarBitsUptoRow : OpenClaim := { program := "ytcnmpflbmnnkbaadoor", sum := "eab1a91cd6c107bde64d86c2396bfa294f7cc32a5d53b607c55757a528704f2b", func := "syngraph/syngraphlaw05.ScalarBits", spec := "scalarBits", inPlace := ["math/bits.Add64", "math/bits.Sub64"], named := ["syngraph/scalar.order"], apart := false, laid := [("syngraph/scalar.order", laid_syngraph_scalar_order)], narrowed := true }
def ScalarBitsUptoSaid : Prop := scalarBitsUptoRow.holds Tryd.pinned (OpenSpec.upto scalarBitsSpec)

/-- 'syngraphlaw05.ScalarRing', WHERE WHAT IT READS IS OF BULK AT MOST 1048576: true; the input reads as it did. -/
def scalarRingUptoRow : OpenClaim := { program := "ytcnmpflbmnnkbaadoor", sum := "eab1a91cd6c107bde64d86c2396bfa294f7cc32a5d53b607c55757a528704f2b", func := "syngraph/syngraphlaw05.ScalarRing", spec := "scalarRing", inPlace := ["math/bits.Sub64", "math/bits.Add64"], named := ["syngraph/scalar.order"], apart := false, laid := [("syngraph/scalar.order", laid_syngraph_scalar_order)], narrowed := true }
def ScalarRingUptoSaid : Prop := scalarRingUptoRow.holds Tryd.pinned (OpenSpec.upto scalarRingSpec)

/-- 'syngraphlaw05.ScalarParts', WHERE WHAT IT READS IS OF BULK AT MOST 1048576: true; the input reads as it did. -/
def scalarPartsUptoRow : OpenClaim := { program := "ytcnmpflbmnnkbaadoor", sum := "eab1a91cd6c107bde64d86c2396bfa294f7cc32a5d53b607c55757a528704f2b", func := "syngraph/syngraphlaw05.ScalarParts", spec := "scalarParts", inPlace := ["math/bits.Sub64", "math/bits.Add64"], named := ["syngraph/scalar.order"], apart := false, laid := [("syngraph/scalar.order", laid_syngraph_scalar_order)], narrowed := true }
def ScalarPartsUptoSaid : Prop := scalarPartsUptoRow.holds Tryd.pinned (OpenSpec.upto scalarPartsSpec)

/-- 'syngraphlaw05.ScalarDigits', WHERE WHAT IT READS IS OF BULK AT MOST 1048576: true; the input reads as it did. -/
def scalarDigitsUptoRow : OpenClaim := { program := "ytcnmpflbmnnkbaadoor", sum := "eab1a91cd6c107bde64d86c2396bfa294f7cc32a5d53b607c55757a528704f2b", func := "syngraph/syngraphlaw05.ScalarDigits", spec := "scalarDigits", inPlace := ["math/bits.Add64", "math/bits.Sub64"], named := ["syngraph/scalar.order"], apart := false, laid := [("syngraph/scalar.order", laid_syngraph_scalar_order)], narrowed := true }
def ScalarDigitsUptoSaid : Prop := scalarDigitsUptoRow.holds Tryd.pinned (OpenSpec.upto scalarDigitsSpec)

/-- 'syngraphlaw05.ScalarDoubles', WHERE WHAT IT READS IS OF BULK AT MOST 1048576: true; the input reads as it did. -/
def scalarDoublesUptoRow : OpenClaim := { program := "ytcnmpflbmnnkbaadoor", sum := "eab1a91cd6c107bde64d86c2396bfa294f7cc32a5d53b607c55757a528704f2b", func := "syngraph/syngraphlaw05.ScalarDoubles", spec := "scalarDoubles", inPlace := ["math/bits.Sub64", "math/bits.Add64"], named := ["syngraph/scalar.order"], apart := false, laid := [("syngraph/scalar.order", laid_syngraph_scalar_order)], narrowed := true }
def ScalarDoublesUptoSaid : Prop := scalarDoublesUptoRow.holds Tryd.pinned (OpenSpec.upto scalarDoublesSpec)

end Rows
end Go.Proofs.YtcnmpflbmnnkbaaDoor
