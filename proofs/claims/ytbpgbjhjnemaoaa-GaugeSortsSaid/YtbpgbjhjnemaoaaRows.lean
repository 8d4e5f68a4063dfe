/-
  No cell of these rows narrows 'for every input' (looked for: loops, veiled, ifaces, maps, wideKeys, modest, calm, conditions, laid).
  DERIVED. THE GIVEN ROWS OF THIS SEAT. 6 by the template 'for every input the law returns true; each argument reads behind the call as it read before'; 0 by the template 'total and deterministic' (their statements: YtbpgbjhjnemaoaaTotals.lean).
  GIVEN WITH THE SEED: the statements are not yours to turn. If you find one false, say at which input.
  Laid BY PROGRAM, IN A SANDBOX (cutbox-rows.mjs): the forced cells as the released guide's own fill.sh prints them over the translation d6d2488fc240cd43… (all of the seat's roots in one cut). By AI agents, Wed Nov 11 2026. No macro, syntax, notation, axiom, sorry.
-/
import Derived.Test.YtbpgbjhjnemaoaaChecked
import GoSem.Claim
import GoSem.ClaimJoined
import GoSem.ClaimMapViews
import Derived.JoinedTies
import Derived.KernelRfl
namespace Go.Proofs.Ytbpgbjhjnemaoaa
/- THE CELL 'sum', in the pinned program and in every row, IS THE sha256 OF THE DUMP (.gsa) THAT YtbpgbjhjnemaoaaProg.lean LOADS. Nothing in Lean hashes anything: it is a label: what it is worth is what the hold of that sum in a sandbox is worth. -/
noncomputable def Try.pinned : Pinned := { name := "ytbpgbjhjnemaoaa", sum := "d6d2488fc240cd437a8830016d4efd8e1add374b86888eb3c7d1a0aafe95583c", checked := Try.checked }
namespace Rows
def none {H : Type} : Left H := { results := [], args := [] }

/-- 'syngraphlaw19.GaugeTells': WHATEVER THE INPUT: true; the input reads as it did. -/
def gaugeTellsSpec : ChangeSpec := { name := "gaugeTells", fn := fun _ => fun
  | [d1, d2, d3] => { results := [.lit (.bool true)], args := [d1, d2, d3] }
  | _ => none }
def gaugeTellsRow : OpenClaim := { program := "ytbpgbjhjnemaoaa", sum := "d6d2488fc240cd437a8830016d4efd8e1add374b86888eb3c7d1a0aafe95583c", func := "syngraph/syngraphlaw19.GaugeTells", spec := "gaugeTells", inPlace := ["math.Float64bits", "math.Float64frombits", "math/bits.Add64"], unfollowed := true, recurses := true, apart := false }
def GaugeTellsSaid : Prop := gaugeTellsRow.holds Try.pinned (OpenSpec.ofChange gaugeTellsSpec)

/-- ITS FALSE NEIGHBOUR: 'it returns false'. Refute it at one input. -/
def gaugeTellsWrong : ChangeSpec := { name := "gaugeTells", fn := fun _ => fun
  | [d1, d2, d3] => { results := [.lit (.bool false)], args := [d1, d2, d3] }
  | _ => none }
def GaugeTellsWrongFalsely : Prop := gaugeTellsRow.holds Try.pinned (OpenSpec.ofChange gaugeTellsWrong)

/-- 'syngraphlaw19.GaugeAdds': WHATEVER THE INPUT: true; the input reads as it did. -/
def gaugeAddsSpec : ChangeSpec := { name := "gaugeAdds", fn := fun _ => fun
  | [d1, d2, d3] => { results := [.lit (.bool true)], args := [d1, d2, d3] }
  | _ => none }
def gaugeAddsRow : OpenClaim := { program := "ytbpgbjhjnemaoaa", sum := "d6d2488fc240cd437a8830016d4efd8e1add374b86888eb3c7d1a0aafe95583c", func := "syngraph/syngraphlaw19.GaugeAdds", spec := "gaugeAdds", inPlace := ["math.Float64bits", "math.Float64frombits", "math/bits.Add64"], unfollowed := true, recurses := true, apart := false }
def GaugeAddsSaid : Prop := gaugeAddsRow.holds Try.pinned (OpenSpec.ofChange gaugeAddsSpec)

/-- ITS FALSE NEIGHBOUR: 'it returns false'. Refute it at one input. -/
def gaugeAddsWrong : ChangeSpec := { name := "gaugeAdds", fn := fun _ => fun
  | [d1, d2, d3] => { results := [.lit (.bool false)], args := [d1, d2, d3] }
  | _ => none }
def GaugeAddsWrongFalsely : Prop := gaugeAddsRow.holds Try.pinned (OpenSpec.ofChange gaugeAddsWrong)

/-- 'syngraphlaw19.GaugeSorts': WHATEVER THE INPUT: true; the input reads as it did. -/
def gaugeSortsSpec : ChangeSpec := { name := "gaugeSorts", fn := fun _ => fun
  | [d] => { results := [.lit (.bool true)], args := [d] }
  | _ => none }
def gaugeSortsRow : OpenClaim := { program := "ytbpgbjhjnemaoaa", sum := "d6d2488fc240cd437a8830016d4efd8e1add374b86888eb3c7d1a0aafe95583c", func := "syngraph/syngraphlaw19.GaugeSorts", spec := "gaugeSorts", inPlace := ["math.Float64bits", "math.Float64frombits", "math/bits.Add64"], unfollowed := true, recurses := true, apart := false }
def GaugeSortsSaid : Prop := gaugeSortsRow.holds Try.pinned (OpenSpec.ofChange gaugeSortsSpec)

/-- ITS FALSE NEIGHBOUR: 'it returns false'. Refute it at one input. -/
def gaugeSortsWrong : ChangeSpec := { name := "gaugeSorts", fn := fun _ => fun
  | [d] => { results := [.lit (.bool false)], args := [d] }
  | _ => none }
def GaugeSortsWrongFalsely : Prop := gaugeSortsRow.holds Try.pinned (OpenSpec.ofChange gaugeSortsWrong)

/-- 'syngraphlaw19.GaugeOrder': WHATEVER THE INPUT: true; the input reads as it did. -/
def gaugeOrderSpec : ChangeSpec := { name := "gaugeOrder", fn := fun _ => fun
  | [d1, d2, d3] => { results := [.lit (.bool true)], args := [d1, d2, d3] }
  | _ => none }
def gaugeOrderRow : OpenClaim := { program := "ytbpgbjhjnemaoaa", sum := "d6d2488fc240cd437a8830016d4efd8e1add374b86888eb3c7d1a0aafe95583c", func := "syngraph/syngraphlaw19.GaugeOrder", spec := "gaugeOrder", inPlace := ["math.Float64bits", "math.Float64frombits", "math/bits.Add64"], unfollowed := true, recurses := true, apart := false }
def GaugeOrderSaid : Prop := gaugeOrderRow.holds Try.pinned (OpenSpec.ofChange gaugeOrderSpec)

/-- ITS FALSE NEIGHBOUR: 'it returns false'. Refute it at one input. -/
def gaugeOrderWrong : ChangeSpec := { name := "gaugeOrder", fn := fun _ => fun
  | [d1, d2, d3] => { results := [.lit (.bool false)], args := [d1, d2, d3] }
  | _ => none }
def GaugeOrderWrongFalsely : Prop := gaugeOrderRow.holds Try.pinned (OpenSpec.ofChange gaugeOrderWrong)

/-- 'syngraphlaw19.GaugeEnds': WHATEVER THE INPUT: true; the input reads as it did. -/
def gaugeEndsSpec : ChangeSpec := { name := "gaugeEnds", fn := fun _ => fun
  | [d1, d2] => { results := [.lit (.bool true)], args := [d1, d2] }
  | _ => none }
def gaugeEndsRow : OpenClaim := { program := "ytbpgbjhjnemaoaa", sum := "d6d2488fc240cd437a8830016d4efd8e1add374b86888eb3c7d1a0aafe95583c", func := "syngraph/syngraphlaw19.GaugeEnds", spec := "gaugeEnds", inPlace := ["math.Float64bits", "math.Float64frombits", "math/bits.Add64"], unfollowed := true, recurses := true, apart := false }
def GaugeEndsSaid : Prop := gaugeEndsRow.holds Try.pinned (OpenSpec.ofChange gaugeEndsSpec)

/-- ITS FALSE NEIGHBOUR: 'it returns false'. Refute it at one input. -/
def gaugeEndsWrong : ChangeSpec := { name := "gaugeEnds", fn := fun _ => fun
  | [d1, d2] => { results := [.lit (.bool false)], args := [d1, d2] }
  | _ => none }
def GaugeEndsWrongFalsely : Prop := gaugeEndsRow.holds Try.pinned (OpenSpec.ofChange gaugeEndsWrong)

/-- 'syngraphlaw19.GaugeKinds': WHATEVER THE INPUT: true; the input reads as it did. -/
def gaugeKindsSpec : ChangeSpec := { name := "gaugeKinds", fn := fun _ => fun
  | [d1, d2] => { results := [.lit (.bool true)], args := [d1, d2] }
  | _ => none }
def gaugeKindsRow : OpenClaim := { program := "ytbpgbjhjnemaoaa", sum := "d6d2488fc240cd437a8830016d4efd8e1add374b86888eb3c7d1a0aafe95583c", func := "syngraph/syngraphlaw19.GaugeKinds", spec := "gaugeKinds", inPlace := ["math.Float64bits", "math.Float64frombits", "math/bits.Add64"], unfollowed := true, recurses := true, apart := false }
def GaugeKindsSaid : Prop := gaugeKindsRow.holds Try.pinned (OpenSpec.ofChange gaugeKindsSpec)

/-- ITS FALSE NEIGHBOUR: 'it returns false'. Refute it at one input. -/
def gaugeKindsWrong : ChangeSpec := { name := "gaugeKinds", fn := fun _ => fun
  | [d1, d2] => { results := [.lit (.bool false)], args := [d1, d2] }
  | _ => none }
def GaugeKindsWrongFalsely : Prop := gaugeKindsRow.holds Try.pinned (OpenSpec.ofChange gaugeKindsWrong)

/- THE SECOND FORM. 'bulk': how many values and letters a reading holds, each counted each time it is reached (what is shared counts as often as it is met; a slice's spare places count too). A statement '..UptoSaid' is the law's where the arguments, and the package variables that the reading takes, are together of bulk at most 1048576: NARROWER than '..Said'. Prove '..Said' where nothing that the law and all that it calls make is longer than what came in: it says more and counts as full. Else prove '..UptoSaid'. A law counts once. -/
mutual
def uptoBulk {H : Type} : DataW H → Nat
  | .lit (.string bytes) => bytes.length + 1
  | .lit _ => 1
  | .nil => 1
  | .ptr d => uptoBulk d + 1
  | .slice elems spare => uptoBulkAll elems + uptoBulkAll spare + 1
  | .agg parts => uptoBulkAll parts + 1
  | .iface _ d => uptoBulk d + 1
  | .map entries => uptoBulkEntries entries + 1
  | .held _ => 1
def uptoBulkAll {H : Type} : List (DataW H) → Nat
  | [] => 0
  | d :: r => uptoBulk d + uptoBulkAll r
def uptoBulkEntries {H : Type} : List (Lit × DataW H) → Nat
  | [] => 0
  | x :: r => uptoBulkEntry x + uptoBulkEntries r
def uptoBulkEntry {H : Type} : Lit × DataW H → Nat
  | (.string bytes, d) => bytes.length + uptoBulk d + 1
  | (_, d) => uptoBulk d + 1
 end
def uptoSmall : (H : Type) → List (DataW H) → Bool := fun _ ds => decide (uptoBulkAll ds ≤ 1048576)
def OpenSpec.upto (s : _root_.Go.ChangeSpec) : _root_.Go.OpenSpec := { _root_.Go.OpenSpec.ofChange s with cond := some uptoSmall }

/-- 'syngraphlaw19.GaugeTells', WHERE WHAT IT READS IS OF BULK AT MOST 1048576: true; the input reads as it did. -/
def gaugeTellsUptoRow : OpenClaim := { program := "ytbpgbjhjnemaoaa", sum := "d6d2488fc240cd437a8830016d4efd8e1add374b86888eb3c7d1a0aafe95583c", func := "syngraph/syngraphlaw19.GaugeTells", spec := "gaugeTells", inPlace := ["math.Float64bits", "math.Float64frombits", "math/bits.Add64"], unfollowed := true, recurses := true, apart := false, narrowed := true }
def GaugeTellsUptoSaid : Prop := gaugeTellsUptoRow.holds Try.pinned (OpenSpec.upto gaugeTellsSpec)

/-- 'syngraphlaw19.GaugeAdds', WHERE WHAT IT READS IS OF BULK AT MOST 1048576: true; the input reads as it did. -/
def gaugeAddsUptoRow : OpenClaim := { program := "ytbpgbjhjnemaoaa", sum := "d6d2488fc240cd437a8830016d4efd8e1add374b86888eb3c7d1a0aafe95583c", func := "syngraph/syngraphlaw19.GaugeAdds", spec := "gaugeAdds", inPlace := ["math.Float64bits", "math.Float64frombits", "math/bits.Add64"], unfollowed := true, recurses := true, apart := false, narrowed := true }
def GaugeAddsUptoSaid : Prop := gaugeAddsUptoRow.holds Try.pinned (OpenSpec.upto gaugeAddsSpec)

/-- 'syngraphlaw19.GaugeSorts', WHERE WHAT IT READS IS OF BULK AT MOST 1048576: true; the input reads as it did. -/
def gaugeSortsUptoRow : OpenClaim := { program := "ytbpgbjhjnemaoaa", sum := "d6d2488fc240cd437a8830016d4efd8e1add374b86888eb3c7d1a0aafe95583c", func := "syngraph/syngraphlaw19.GaugeSorts", spec := "gaugeSorts", inPlace := ["math.Float64bits", "math.Float64frombits", "math/bits.Add64"], unfollowed := true, recurses := true, apart := false, narrowed := true }
def GaugeSortsUptoSaid : Prop := gaugeSortsUptoRow.holds Try.pinned (OpenSpec.upto gaugeSortsSpec)

/-- 'syngraphlaw19.GaugeOrder', WHERE WHAT IT READS IS OF BULK AT MOST 1048576: true; the input reads as it did. -/
def gaugeOrderUptoRow : OpenClaim := { program := "ytbpgbjhjnemaoaa", sum := "d6d2488fc240cd437a8830016d4efd8e1add374b86888eb3c7d1a0aafe95583c", func := "syngraph/syngraphlaw19.GaugeOrder", spec := "gaugeOrder", inPlace := ["math.Float64bits", "math.Float64frombits", "math/bits.Add64"], unfollowed := true, recurses := true, apart := false, narrowed := true }
def GaugeOrderUptoSaid : Prop := gaugeOrderUptoRow.holds Try.pinned (OpenSpec.upto gaugeOrderSpec)

/-- 'syngraphlaw19.GaugeEnds', WHERE WHAT IT READS IS OF BULK AT MOST 1048576: true; the input reads as it did. -/
def gaugeEndsUptoRow : OpenClaim := { program := "ytbpgbjhjnemaoaa", sum := "d6d2488fc240cd437a8830016d4efd8e1add374b86888eb3c7d1a0aafe95583c", func := "syngraph/syngraphlaw19.GaugeEnds", spec := "gaugeEnds", inPlace := ["math.Float64bits", "math.Float64frombits", "math/bits.Add64"], unfollowed := true, recurses := true, apart := false, narrowed := true }
def GaugeEndsUptoSaid : Prop := gaugeEndsUptoRow.holds Try.pinned (OpenSpec.upto gaugeEndsSpec)

/-- 'syngraphlaw19.GaugeKinds', WHERE WHAT IT READS IS OF BULK AT MOST 1048576: true; the input reads as it did. -/
def gaugeKindsUptoRow : OpenClaim := { program := "ytbpgbjhjnemaoaa", sum := "d6d2488fc240cd437a8830016d4efd8e1add374b86888eb3c7d1a0aafe95583c", func := "syngraph/syngraphlaw19.GaugeKinds", spec := "gaugeKinds", inPlace := ["math.Float64bits", "math.Float64frombits", "math/bits.Add64"], unfollowed := true, recurses := true, apart := false, narrowed := true }
def GaugeKindsUptoSaid : Prop := gaugeKindsUptoRow.holds Try.pinned (OpenSpec.upto gaugeKindsSpec)

end Rows
end Go.Proofs.Ytbpgbjhjnemaoaa
