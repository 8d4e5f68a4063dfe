/-
  No cell of these rows narrows 'for every input' (looked for: loops, veiled, ifaces, maps, wideKeys, modest, calm, conditions, laid).
  DERIVED. THE GIVEN ROWS OF THIS SEAT. 7 by the template 'for every input the law returns true; each argument reads behind the call as it read before'; 0 by the template 'total and deterministic' (their statements: YtfpnciackndbiaaTotals.lean).
  GIVEN WITH THE SEED: the statements are not yours to turn. If you find one false, say at which input.
  Laid BY PROGRAM, IN A SANDBOX (cutbox-rows.mjs): the forced cells as the released guide's own fill.sh prints them over the translation 0a9832e9f219a1f6… (all of the seat's roots in one cut). By AI agents, Wed Nov 11 2026. No macro, syntax, notation, axiom, sorry.
-/
import Derived.Test.YtfpnciackndbiaaChecked
import GoSem.Claim
import GoSem.ClaimJoined
import GoSem.ClaimMapViews
import Derived.JoinedTies
import Derived.KernelRfl
namespace Go.Proofs.Ytfpnciackndbiaa
/- THE CELL 'sum', in the pinned program and in every row, IS THE sha256 OF THE DUMP (.gsa) THAT YtfpnciackndbiaaProg.lean LOADS. Nothing in Lean hashes anything: it is a label: what it is worth is what the hold of that sum in a sandbox is worth. -/
noncomputable def Try.pinned : Pinned := { name := "ytfpnciackndbiaa", sum := "0a9832e9f219a1f63af17f17058b75217b0188adaf2f1763964a3554e33a70f9", checked := Try.checked }
namespace Rows
def none {H : Type} : Left H := { results := [], args := [] }

/-- 'syngraphlaw01.SatTells': WHATEVER THE INPUT: true; the input reads as it did. -/
def satTellsSpec : ChangeSpec := { name := "satTells", fn := fun _ => fun
  | [d1, d2, d3] => { results := [.lit (.bool true)], args := [d1, d2, d3] }
  | _ => none }
def satTellsRow : OpenClaim := { program := "ytfpnciackndbiaa", sum := "0a9832e9f219a1f63af17f17058b75217b0188adaf2f1763964a3554e33a70f9", func := "syngraph/syngraphlaw01.SatTells", spec := "satTells", inPlace := ["math/bits.Add64"], apart := false }
def SatTellsSaid : Prop := satTellsRow.holds Try.pinned (OpenSpec.ofChange satTellsSpec)

/-- ITS FALSE NEIGHBOUR: 'it returns false'. Refute it at one input. -/
def satTellsWrong : ChangeSpec := { name := "satTells", fn := fun _ => fun
  | [d1, d2, d3] => { results := [.lit (.bool false)], args := [d1, d2, d3] }
  | _ => none }
def SatTellsWrongFalsely : Prop := satTellsRow.holds Try.pinned (OpenSpec.ofChange satTellsWrong)

/-- 'syngraphlaw01.SatBytes': WHATEVER THE INPUT: true; the input reads as it did. -/
def satBytesSpec : ChangeSpec := { name := "satBytes", fn := fun _ => fun
  | [d1, d2] => { results := [.lit (.bool true)], args := [d1, d2] }
  | _ => none }
def satBytesRow : OpenClaim := { program := "ytfpnciackndbiaa", sum := "0a9832e9f219a1f63af17f17058b75217b0188adaf2f1763964a3554e33a70f9", func := "syngraph/syngraphlaw01.SatBytes", spec := "satBytes", inPlace := ["math/bits.Add64"], apart := false }
def SatBytesSaid : Prop := satBytesRow.holds Try.pinned (OpenSpec.ofChange satBytesSpec)

/-- ITS FALSE NEIGHBOUR: 'it returns false'. Refute it at one input. -/
def satBytesWrong : ChangeSpec := { name := "satBytes", fn := fun _ => fun
  | [d1, d2] => { results := [.lit (.bool false)], args := [d1, d2] }
  | _ => none }
def SatBytesWrongFalsely : Prop := satBytesRow.holds Try.pinned (OpenSpec.ofChange satBytesWrong)

/-- 'syngraphlaw01.SatCuts': WHATEVER THE INPUT: true; the input reads as it did. -/
def satCutsSpec : ChangeSpec := { name := "satCuts", fn := fun _ => fun
  | [d1, d2, d3] => { results := [.lit (.bool true)], args := [d1, d2, d3] }
  | _ => none }
def satCutsRow : OpenClaim := { program := "ytfpnciackndbiaa", sum := "0a9832e9f219a1f63af17f17058b75217b0188adaf2f1763964a3554e33a70f9", func := "syngraph/syngraphlaw01.SatCuts", spec := "satCuts", inPlace := ["math/bits.Add64"], apart := false }
def SatCutsSaid : Prop := satCutsRow.holds Try.pinned (OpenSpec.ofChange satCutsSpec)

/-- ITS FALSE NEIGHBOUR: 'it returns false'. Refute it at one input. -/
def satCutsWrong : ChangeSpec := { name := "satCuts", fn := fun _ => fun
  | [d1, d2, d3] => { results := [.lit (.bool false)], args := [d1, d2, d3] }
  | _ => none }
def SatCutsWrongFalsely : Prop := satCutsRow.holds Try.pinned (OpenSpec.ofChange satCutsWrong)

/-- 'syngraphlaw01.SatBacks': WHATEVER THE INPUT: true; the input reads as it did. -/
def satBacksSpec : ChangeSpec := { name := "satBacks", fn := fun _ => fun
  | [d1, d2, d3] => { results := [.lit (.bool true)], args := [d1, d2, d3] }
  | _ => none }
def satBacksRow : OpenClaim := { program := "ytfpnciackndbiaa", sum := "0a9832e9f219a1f63af17f17058b75217b0188adaf2f1763964a3554e33a70f9", func := "syngraph/syngraphlaw01.SatBacks", spec := "satBacks", inPlace := ["math/bits.Add64"], apart := false }
def SatBacksSaid : Prop := satBacksRow.holds Try.pinned (OpenSpec.ofChange satBacksSpec)

/-- ITS FALSE NEIGHBOUR: 'it returns false'. Refute it at one input. -/
def satBacksWrong : ChangeSpec := { name := "satBacks", fn := fun _ => fun
  | [d1, d2, d3] => { results := [.lit (.bool false)], args := [d1, d2, d3] }
  | _ => none }
def SatBacksWrongFalsely : Prop := satBacksRow.holds Try.pinned (OpenSpec.ofChange satBacksWrong)

/-- 'syngraphlaw01.SatOrder': WHATEVER THE INPUT: true; the input reads as it did. -/
def satOrderSpec : ChangeSpec := { name := "satOrder", fn := fun _ => fun
  | [d1, d2] => { results := [.lit (.bool true)], args := [d1, d2] }
  | _ => none }
def satOrderRow : OpenClaim := { program := "ytfpnciackndbiaa", sum := "0a9832e9f219a1f63af17f17058b75217b0188adaf2f1763964a3554e33a70f9", func := "syngraph/syngraphlaw01.SatOrder", spec := "satOrder", inPlace := ["math/bits.Add64"], apart := false }
def SatOrderSaid : Prop := satOrderRow.holds Try.pinned (OpenSpec.ofChange satOrderSpec)

/-- ITS FALSE NEIGHBOUR: 'it returns false'. Refute it at one input. -/
def satOrderWrong : ChangeSpec := { name := "satOrder", fn := fun _ => fun
  | [d1, d2] => { results := [.lit (.bool false)], args := [d1, d2] }
  | _ => none }
def SatOrderWrongFalsely : Prop := satOrderRow.holds Try.pinned (OpenSpec.ofChange satOrderWrong)

/-- 'syngraphlaw01.SatEnds': WHATEVER THE INPUT: true; the input reads as it did. -/
def satEndsSpec : ChangeSpec := { name := "satEnds", fn := fun _ => fun
  | [d1, d2, d3] => { results := [.lit (.bool true)], args := [d1, d2, d3] }
  | _ => none }
def satEndsRow : OpenClaim := { program := "ytfpnciackndbiaa", sum := "0a9832e9f219a1f63af17f17058b75217b0188adaf2f1763964a3554e33a70f9", func := "syngraph/syngraphlaw01.SatEnds", spec := "satEnds", inPlace := ["math/bits.Add64"], apart := false }
def SatEndsSaid : Prop := satEndsRow.holds Try.pinned (OpenSpec.ofChange satEndsSpec)

/-- ITS FALSE NEIGHBOUR: 'it returns false'. Refute it at one input. -/
def satEndsWrong : ChangeSpec := { name := "satEnds", fn := fun _ => fun
  | [d1, d2, d3] => { results := [.lit (.bool false)], args := [d1, d2, d3] }
  | _ => none }
def SatEndsWrongFalsely : Prop := satEndsRow.holds Try.pinned (OpenSpec.ofChange satEndsWrong)

/-- 'syngraphlaw01.SatSpans': WHATEVER THE INPUT: true; the input reads as it did. -/
def satSpansSpec : ChangeSpec := { name := "satSpans", fn := fun _ => fun
  | [d1, d2, d3] => { results := [.lit (.bool true)], args := [d1, d2, d3] }
  | _ => none }
def satSpansRow : OpenClaim := { program := "ytfpnciackndbiaa", sum := "0a9832e9f219a1f63af17f17058b75217b0188adaf2f1763964a3554e33a70f9", func := "syngraph/syngraphlaw01.SatSpans", spec := "satSpans", inPlace := ["math/bits.Add64"], apart := false }
def SatSpansSaid : Prop := satSpansRow.holds Try.pinned (OpenSpec.ofChange satSpansSpec)

/-- ITS FALSE NEIGHBOUR: 'it returns false'. Refute it at one input. -/
def satSpansWrong : ChangeSpec := { name := "satSpans", fn := fun _ => fun
  | [d1, d2, d3] => { results := [.lit (.bool false)], args := [d1, d2, d3] }
  | _ => none }
def SatSpansWrongFalsely : Prop := satSpansRow.holds Try.pinned (OpenSpec.ofChange satSpansWrong)

/- THE SECOND FORM. 'bulk': how many values and letters a reading holds, each counted each time it is reached (what is shared counts as often as it is met; a slice's spare places count too). A statement '..UptoSaid' is the law's where the arguments, and the package variables that the reading takes, are together of bulk at most 1048576: NARROWER than '..Said'. Prove '..Said' where nothing that the law and all that it calls make is longer than what came in: it says more and counts as full. Else prove '..UptoSaid'. A law counts once. -/
mutual
def uptoBulk {H : Type} : DataW H → Nat
  | .lit (.string bytes) => bytes.length + 1
  | .lit _ => 1
  | .nil => 1
  | .ptr d => uptoBulk d + 1
  | .slice elems spare => uptoBulkAll elems + uptoBulkAll spare + 1
  | .agg parts => uptoBulkAll parts + 1
  | .iface _ d => uptoBulk d + 1
  | .map entries => uptoBulkEntries entries + 1
  | .held _ => 1
def uptoBulkAll {H : Type} : List (DataW H) → Nat
  | [] => 0
  | d :: r => uptoBulk d + uptoBulkAll r
def uptoBulkEntries {H : Type} : List (Lit × DataW H) → Nat
  | [] => 0
  | x :: r => uptoBulkEntry x + uptoBulkEntries r
def uptoBulkEntry {H : Type} : Lit × DataW H → Nat
  | (.string bytes, d) => bytes.length + uptoBulk d + 1
  | (_, d) => uptoBulk d + 1
 end
def uptoSmall : (H : Type) → List (DataW H) → Bool := fun _ ds => decide (uptoBulkAll ds ≤ 1048576)
def OpenSpec.upto (s : _root_.Go.ChangeSpec) : _root_.Go.OpenSpec := { _root_.Go.OpenSpec.ofChange s with cond := some uptoSmall }

/-- 'syngraphlaw01.SatTells', WHERE WHAT IT READS IS OF BULK AT MOST 1048576: true; the input reads as it did. -/
def satTellsUptoRow : OpenClaim := { program := "ytfpnciackndbiaa", sum := "0a9832e9f219a1f63af17f17058b75217b0188adaf2f1763964a3554e33a70f9", func := "syngraph/syngraphlaw01.SatTells", spec := "satTells", inPlace := ["math/bits.Add64"], apart := false, narrowed := true }
def SatTellsUptoSaid : Prop := satTellsUptoRow.holds Try.pinned (OpenSpec.upto satTellsSpec)

/-- 'syngraphlaw01.SatBytes', WHERE WHAT IT READS IS OF BULK AT MOST 1048576: true; the input reads as it did. -/
def satBytesUptoRow : OpenClaim := { program := "ytfpnciackndbiaa", sum := "0a9832e9f219a1f63af17f17058b75217b0188adaf2f1763964a3554e33a70f9", func := "syngraph/syngraphlaw01.SatBytes", spec := "satBytes", inPlace := ["math/bits.Add64"], apart := false, narrowed := true }
def SatBytesUptoSaid : Prop := satBytesUptoRow.holds Try.pinned (OpenSpec.upto satBytesSpec)

/-- 'syngraphlaw01.SatCuts', WHERE WHAT IT READS IS OF BULK AT MOST 1048576: true; the input reads as it did. -/
def satCutsUptoRow : OpenClaim := { program := "ytfpnciackndbiaa", sum := "0a9832e9f219a1f63af17f17058b75217b0188adaf2f1763964a3554e33a70f9", func := "syngraph/syngraphlaw01.SatCuts", spec := "satCuts", inPlace := ["math/bits.Add64"], apart := false, narrowed := true }
def SatCutsUptoSaid : Prop := satCutsUptoRow.holds Try.pinned (OpenSpec.upto satCutsSpec)

/-- 'syngraphlaw01.SatBacks', WHERE WHAT IT READS IS OF BULK AT MOST 1048576: true; the input reads as it did. -/
def satBacksUptoRow : OpenClaim := { program := "ytfpnciackndbiaa", sum := "0a9832e9f219a1f63af17f17058b75217b0188adaf2f1763964a3554e33a70f9", func := "syngraph/syngraphlaw01.SatBacks", spec := "satBacks", inPlace := ["math/bits.Add64"], apart := false, narrowed := true }
def SatBacksUptoSaid : Prop := satBacksUptoRow.holds Try.pinned (OpenSpec.upto satBacksSpec)

/-- 'syngraphlaw01.SatOrder', WHERE WHAT IT READS IS OF BULK AT MOST 1048576: true; the input reads as it did. -/
def satOrderUptoRow : OpenClaim := { program := "ytfpnciackndbiaa", sum := "0a9832e9f219a1f63af17f17058b75217b0188adaf2f1763964a3554e33a70f9", func := "syngraph/syngraphlaw01.SatOrder", spec := "satOrder", inPlace := ["math/bits.Add64"], apart := false, narrowed := true }
def SatOrderUptoSaid : Prop := satOrderUptoRow.holds Try.pinned (OpenSpec.upto satOrderSpec)

/-- 'syngraphlaw01.SatEnds', WHERE WHAT IT READS IS OF BULK AT MOST 1048576: true; the input reads as it did. -/
def satEndsUptoRow : OpenClaim := { program := "ytfpnciackndbiaa", sum := "0a9832e9f219a1f63af17f17058b75217b0188adaf2f1763964a3554e33a70f9", func := "syngraph/syngraphlaw01.SatEnds", spec := "satEnds", inPlace := ["math/bits.Add64"], apart := false, narrowed := true }
def SatEndsUptoSaid : Prop := satEndsUptoRow.holds Try.pinned (OpenSpec.upto satEndsSpec)

/-- 'syngraphlaw01.SatSpans', WHERE WHAT IT READS IS OF BULK AT MOST 1048576: true; the input reads as it did. -/
def satSpansUptoRow : OpenClaim := { program := "ytfpnciackndbiaa", sum := "0a9832e9f219a1f63af17f17058b75217b0188adaf2f1763964a3554e33a70f9", func := "syngraph/syngraphlaw01.SatSpans", spec := "satSpans", inPlace := ["math/bits.Add64"], apart := false, narrowed := true }
def SatSpansUptoSaid : Prop := satSpansUptoRow.holds Try.pinned (OpenSpec.upto satSpansSpec)

end Rows
end Go.Proofs.Ytfpnciackndbiaa
