/-
  DERIVED. GIVEN WITH THE SEED: THE CARDS: each row of YtflpjnillfgghaaDoorRows.lean that lists a variable, with what it lists TIED to the program's text (the seventh form; the later family's looks); each row that meets fmt, with fmt's text TOLD by the authors' own Lean function (tested against real Go, not proved from fmt's source: count such statements apart). THE CARD IS WHAT COUNTS. Prove the row's statement (the work); the ties are given (YtflpjnillfgghaaDoorTie.lean); close each card by the builder's one call (the guide's Derived/Test/ToyasCard.lean, 'card_holds'). Laid BY PROGRAM, IN A SANDBOX (cutbox-door.mjs). By AI agents, Wed Nov 11 2026. No macro, syntax, notation, axiom, sorry.
-/
import Derived.Test.YtflpjnillfgghaaDoorRows
import GoSem.ClaimSeven
namespace Go.Proofs.YtflpjnillfgghaaDoor
namespace Rows

/-- THE TIED CARD OF 'syngraphlaw03.WideSums'. -/
def wideSumsCard : Claim7 := { stood := { row := wideSumsRow, standIns := [], harness := (true, "9d2ffe75308e69163732ed8f378e1e01cbfa7c7e927e4a5030f4f5e427ce63e2"), looks := false }, kinds := [], alts := [], laidByText := true, laidKinds := [.data, .data], laidTests := true, laidLooks := .later }
def WideSumsCardSaid : Prop := Claim7.holds Tryd.pinned (.plain (OpenSpec.ofChange wideSumsSpec)) wideSumsCard

/-- THE TIED CARD OF 'syngraphlaw03.WideParts'. -/
def widePartsCard : Claim7 := { stood := { row := widePartsRow, standIns := [], harness := (true, "9d2ffe75308e69163732ed8f378e1e01cbfa7c7e927e4a5030f4f5e427ce63e2"), looks := false }, kinds := [], alts := [], laidByText := true, laidKinds := [.data, .data], laidTests := true, laidLooks := .later }
def WidePartsCardSaid : Prop := Claim7.holds Tryd.pinned (.plain (OpenSpec.ofChange widePartsSpec)) widePartsCard

/-- THE TIED CARD OF 'syngraphlaw03.WideLong'. -/
def wideLongCard : Claim7 := { stood := { row := wideLongRow, standIns := [], harness := (true, "9d2ffe75308e69163732ed8f378e1e01cbfa7c7e927e4a5030f4f5e427ce63e2"), looks := false }, kinds := [], alts := [], laidByText := true, laidKinds := [.data, .data], laidTests := true, laidLooks := .later }
def WideLongCardSaid : Prop := Claim7.holds Tryd.pinned (.plain (OpenSpec.ofChange wideLongSpec)) wideLongCard

/-- THE TIED CARD OF 'syngraphlaw03.WideZeros'. -/
def wideZerosCard : Claim7 := { stood := { row := wideZerosRow, standIns := [], harness := (true, "9d2ffe75308e69163732ed8f378e1e01cbfa7c7e927e4a5030f4f5e427ce63e2"), looks := false }, kinds := [], alts := [], laidByText := true, laidKinds := [.data, .data], laidTests := true, laidLooks := .later }
def WideZerosCardSaid : Prop := Claim7.holds Tryd.pinned (.plain (OpenSpec.ofChange wideZerosSpec)) wideZerosCard

/-- THE TIED CARD OF 'syngraphlaw03.WideJoins'. -/
def wideJoinsCard : Claim7 := { stood := { row := wideJoinsRow, standIns := [], harness := (true, "9d2ffe75308e69163732ed8f378e1e01cbfa7c7e927e4a5030f4f5e427ce63e2"), looks := false }, kinds := [], alts := [], laidByText := true, laidKinds := [.data, .data], laidTests := true, laidLooks := .later }
def WideJoinsCardSaid : Prop := Claim7.holds Tryd.pinned (.plain (OpenSpec.ofChange wideJoinsSpec)) wideJoinsCard

/-- THE SECOND FORM's CARD OF 'syngraphlaw03.WideSums'. -/
def wideSumsUptoCard : Claim7 := { stood := { row := wideSumsUptoRow, standIns := [], harness := (true, "9d2ffe75308e69163732ed8f378e1e01cbfa7c7e927e4a5030f4f5e427ce63e2"), looks := false }, kinds := [], alts := [], laidByText := true, laidKinds := [.data, .data], laidTests := true, laidLooks := .later }
def WideSumsUptoCardSaid : Prop := Claim7.holds Tryd.pinned (.plain (OpenSpec.upto wideSumsSpec)) wideSumsUptoCard

/-- THE SECOND FORM's CARD OF 'syngraphlaw03.WideParts'. -/
def widePartsUptoCard : Claim7 := { stood := { row := widePartsUptoRow, standIns := [], harness := (true, "9d2ffe75308e69163732ed8f378e1e01cbfa7c7e927e4a5030f4f5e427ce63e2"), looks := false }, kinds := [], alts := [], laidByText := true, laidKinds := [.data, .data], laidTests := true, laidLooks := .later }
def WidePartsUptoCardSaid : Prop := Claim7.holds Tryd.pinned (.plain (OpenSpec.upto widePartsSpec)) widePartsUptoCard

/-- THE SECOND FORM's CARD OF 'syngraphlaw03.WideLong'. -/
def wideLongUptoCard : Claim7 := { stood := { row := wideLongUptoRow, standIns := [], harness := (true, "9d2ffe75308e69163732ed8f378e1e01cbfa7c7e927e4a5030f4f5e427ce63e2"), looks := false }, kinds := [], alts := [], laidByText := true, laidKinds := [.data, .data], laidTests := true, laidLooks := .later }
def WideLongUptoCardSaid : Prop := Claim7.holds Tryd.pinned (.plain (OpenSpec.upto wideLongSpec)) wideLongUptoCard

/-- THE SECOND FORM's CARD OF 'syngraphlaw03.WideZeros'. -/
def wideZerosUptoCard : Claim7 := { stood := { row := wideZerosUptoRow, standIns := [], harness := (true, "9d2ffe75308e69163732ed8f378e1e01cbfa7c7e927e4a5030f4f5e427ce63e2"), looks := false }, kinds := [], alts := [], laidByText := true, laidKinds := [.data, .data], laidTests := true, laidLooks := .later }
def WideZerosUptoCardSaid : Prop := Claim7.holds Tryd.pinned (.plain (OpenSpec.upto wideZerosSpec)) wideZerosUptoCard

/-- THE SECOND FORM's CARD OF 'syngraphlaw03.WideJoins'. -/
def wideJoinsUptoCard : Claim7 := { stood := { row := wideJoinsUptoRow, standIns := [], harness := (true, "9d2ffe75308e69163732ed8f378e1e01cbfa7c7e927e4a5030f4f5e427ce63e2"), looks := false }, kinds := [], alts := [], laidByText := true, laidKinds := [.data, .data], laidTests := true, laidLooks := .later }
def WideJoinsUptoCardSaid : Prop := Claim7.holds Tryd.pinned (.plain (OpenSpec.upto wideJoinsSpec)) wideJoinsUptoCard
end Rows
end Go.Proofs.YtflpjnillfgghaaDoor
