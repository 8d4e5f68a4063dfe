/-
  DERIVED. GIVEN WITH THE SEED: THE CARDS: each row of YtbgpgbfiadhddaaDoorRows.lean that lists a variable, with what it lists TIED to the program's text (the seventh form; the later family's looks); each row that meets fmt, with fmt's text TOLD by the authors' own Lean function (tested against real Go, not proved from fmt's source: count such statements apart). THE CARD IS WHAT COUNTS. Prove the row's statement (the work); the ties are given (YtbgpgbfiadhddaaDoorTie.lean); close each card by the builder's one call (the guide's Derived/Test/ToyasCard.lean, 'card_holds'). Laid BY PROGRAM, IN A SANDBOX (cutbox-door.mjs). By AI agents, Wed Nov 11 2026. No macro, syntax, notation, axiom, sorry.
-/
import Derived.Test.YtbgpgbfiadhddaaDoorRows
import GoSem.ClaimSeven
namespace Go.Proofs.YtbgpgbfiadhddaaDoor
namespace Rows

/-- THE TIED CARD OF 'syngraphlaw06.PointSums'. -/
def pointSumsCard : Claim7 := { stood := { row := pointSumsRow, standIns := [], harness := (true, "babdcaf0cca175565e24e0d15c29170eb951798c9cfff6b0fc0b9472553971df"), looks := false }, kinds := [], alts := [], laidByText := true, laidKinds := [.wider], laidTests := true, laidLooks := .later }
def PointSumsCardSaid : Prop := Claim7.holds Tryd.pinned (.plain (OpenSpec.ofChange pointSumsSpec)) pointSumsCard

/-- THE SECOND FORM's CARD OF 'syngraphlaw06.PointSums'. -/
def pointSumsUptoCard : Claim7 := { stood := { row := pointSumsUptoRow, standIns := [], harness := (true, "babdcaf0cca175565e24e0d15c29170eb951798c9cfff6b0fc0b9472553971df"), looks := false }, kinds := [], alts := [], laidByText := true, laidKinds := [.wider], laidTests := true, laidLooks := .later }
def PointSumsUptoCardSaid : Prop := Claim7.holds Tryd.pinned (.plain (OpenSpec.upto pointSumsSpec)) pointSumsUptoCard
end Rows
end Go.Proofs.YtbgpgbfiadhddaaDoor
