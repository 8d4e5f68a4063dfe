/-
  DERIVED. GIVEN WITH THE SEED: THE CARDS: each row of YtcnmpflbmnnkbaaDoorRows.lean that lists a variable, with what it lists TIED to the program's text (the seventh form; the later family's looks); each row that meets fmt, with fmt's text TOLD by the authors' own Lean function (tested against real Go, not proved from fmt's source: count such statements apart). THE CARD IS WHAT COUNTS. Prove the row's statement (the work); the ties are given (YtcnmpflbmnnkbaaDoorTie.lean); close each card by the builder's one call (the guide's Derived/Test/ToyasCard.lean, 'card_holds'). Laid BY PROGRAM, IN A SANDBOX (cutbox-door.mjs). By AI agents, Wed Nov 11 2026. No macro, syntax, notation, axiom, sorry.
-/
import Derived.Test.YtcnmpflbmnnkbaaDoorRows
import GoSem.ClaimSeven
namespace Go.Proofs.YtcnmpflbmnnkbaaDoor
namespace Rows

/-- THE TIED CARD OF 'syngraphlaw05.ScalarTells'. -/
def scalarTellsCard : Claim7 := { stood := { row := scalarTellsRow, standIns := [], harness := (true, "84a1479eabd9d5653c3acc5b2d66ecff0b87025470861c18b64c0c7268d28ebd"), looks := false }, kinds := [], alts := [], laidByText := true, laidKinds := [.wider], laidTests := true, laidLooks := .later }
def ScalarTellsCardSaid : Prop := Claim7.holds Tryd.pinned (.plain (OpenSpec.ofChange scalarTellsSpec)) scalarTellsCard

/-- THE TIED CARD OF 'syngraphlaw05.ScalarBits'. -/
def scalarBitsCard : Claim7 := { stood := { row := scalarBitsRow, standIns := [], harness := (true, "84a1479eabd9d5653c3acc5b2d66ecff0b87025470861c18b64c0c7268d28ebd"), looks := false }, kinds := [], alts := [], laidByText := true, laidKinds := [.wider], laidTests := true, laidLooks := .later }
def ScalarBitsCardSaid : Prop := Claim7.holds Tryd.pinned (.plain (OpenSpec.ofChange scalarBitsSpec)) scalarBitsCard

/-- THE TIED CARD OF 'syngraphlaw05.ScalarRing'. -/
def scalarRingCard : Claim7 := { stood := { row := scalarRingRow, standIns := [], harness := (true, "84a1479eabd9d5653c3acc5b2d66ecff0b87025470861c18b64c0c7268d28ebd"), looks := false }, kinds := [], alts := [], laidByText := true, laidKinds := [.wider], laidTests := true, laidLooks := .later }
def ScalarRingCardSaid : Prop := Claim7.holds Tryd.pinned (.plain (OpenSpec.ofChange scalarRingSpec)) scalarRingCard

/-- THE TIED CARD OF 'syngraphlaw05.ScalarParts'. -/
def scalarPartsCard : Claim7 := { stood := { row := scalarPartsRow, standIns := [], harness := (true, "84a1479eabd9d5653c3acc5b2d66ecff0b87025470861c18b64c0c7268d28ebd"), looks := false }, kinds := [], alts := [], laidByText := true, laidKinds := [.wider], laidTests := true, laidLooks := .later }
def ScalarPartsCardSaid : Prop := Claim7.holds Tryd.pinned (.plain (OpenSpec.ofChange scalarPartsSpec)) scalarPartsCard

/-- THE TIED CARD OF 'syngraphlaw05.ScalarDigits'. -/
def scalarDigitsCard : Claim7 := { stood := { row := scalarDigitsRow, standIns := [], harness := (true, "84a1479eabd9d5653c3acc5b2d66ecff0b87025470861c18b64c0c7268d28ebd"), looks := false }, kinds := [], alts := [], laidByText := true, laidKinds := [.wider], laidTests := true, laidLooks := .later }
def ScalarDigitsCardSaid : Prop := Claim7.holds Tryd.pinned (.plain (OpenSpec.ofChange scalarDigitsSpec)) scalarDigitsCard

/-- THE TIED CARD OF 'syngraphlaw05.ScalarDoubles'. -/
def scalarDoublesCard : Claim7 := { stood := { row := scalarDoublesRow, standIns := [], harness := (true, "84a1479eabd9d5653c3acc5b2d66ecff0b87025470861c18b64c0c7268d28ebd"), looks := false }, kinds := [], alts := [], laidByText := true, laidKinds := [.wider], laidTests := true, laidLooks := .later }
def ScalarDoublesCardSaid : Prop := Claim7.holds Tryd.pinned (.plain (OpenSpec.ofChange scalarDoublesSpec)) scalarDoublesCard

/-- THE SECOND FORM's CARD OF 'syngraphlaw05.ScalarTells'. -/
def scalarTellsUptoCard : Claim7 := { stood := { row := scalarTellsUptoRow, standIns := [], harness := (true, "84a1479eabd9d5653c3acc5b2d66ecff0b87025470861c18b64c0c7268d28ebd"), looks := false }, kinds := [], alts := [], laidByText := true, laidKinds := [.wider], laidTests := true, laidLooks := .later }
def ScalarTellsUptoCardSaid : Prop := Claim7.holds Tryd.pinned (.plain (OpenSpec.upto scalarTellsSpec)) scalarTellsUptoCard

/-- THE SECOND FORM's CARD OF 'syngraphlaw05.ScalarBits'. -/
def scalarBitsUptoCard : Claim7 := { stood := { row := scalarBitsUptoRow, standIns := [], harness := (true, "84a1479eabd9d5653c3acc5b2d66ecff0b87025470861c18b64c0c7268d28ebd"), looks := false }, kinds := [], alts := [], laidByText := true, laidKinds := [.wider], laidTests := true, laidLooks := .later }
def ScalarBitsUptoCardSaid : Prop := Claim7.holds Tryd.pinned (.plain (OpenSpec.upto scalarBitsSpec)) scalarBitsUptoCard

/-- THE SECOND FORM's CARD OF 'syngraphlaw05.ScalarRing'. -/
def scalarRingUptoCard : Claim7 := { stood := { row := scalarRingUptoRow, standIns := [], harness := (true, "84a1479eabd9d5653c3acc5b2d66ecff0b87025470861c18b64c0c7268d28ebd"), looks := false }, kinds := [], alts := [], laidByText := true, laidKinds := [.wider], laidTests := true, laidLooks := .later }
def ScalarRingUptoCardSaid : Prop := Claim7.holds Tryd.pinned (.plain (OpenSpec.upto scalarRingSpec)) scalarRingUptoCard

/-- THE SECOND FORM's CARD OF 'syngraphlaw05.ScalarParts'. -/
def scalarPartsUptoCard : Claim7 := { stood := { row := scalarPartsUptoRow, standIns := [], harness := (true, "84a1479eabd9d5653c3acc5b2d66ecff0b87025470861c18b64c0c7268d28ebd"), looks := false }, kinds := [], alts := [], laidByText := true, laidKinds := [.wider], laidTests := true, laidLooks := .later }
def ScalarPartsUptoCardSaid : Prop := Claim7.holds Tryd.pinned (.plain (OpenSpec.upto scalarPartsSpec)) scalarPartsUptoCard

/-- THE SECOND FORM's CARD OF 'syngraphlaw05.ScalarDigits'. -/
def scalarDigitsUptoCard : Claim7 := { stood := { row := scalarDigitsUptoRow, standIns := [], harness := (true, "84a1479eabd9d5653c3acc5b2d66ecff0b87025470861c18b64c0c7268d28ebd"), looks := false }, kinds := [], alts := [], laidByText := true, laidKinds := [.wider], laidTests := true, laidLooks := .later }
def ScalarDigitsUptoCardSaid : Prop := Claim7.holds Tryd.pinned (.plain (OpenSpec.upto scalarDigitsSpec)) scalarDigitsUptoCard

/-- THE SECOND FORM's CARD OF 'syngraphlaw05.ScalarDoubles'. -/
def scalarDoublesUptoCard : Claim7 := { stood := { row := scalarDoublesUptoRow, standIns := [], harness := (true, "84a1479eabd9d5653c3acc5b2d66ecff0b87025470861c18b64c0c7268d28ebd"), looks := false }, kinds := [], alts := [], laidByText := true, laidKinds := [.wider], laidTests := true, laidLooks := .later }
def ScalarDoublesUptoCardSaid : Prop := Claim7.holds Tryd.pinned (.plain (OpenSpec.upto scalarDoublesSpec)) scalarDoublesUptoCard
end Rows
end Go.Proofs.YtcnmpflbmnnkbaaDoor
