/-
  DERIVED. GIVEN WITH THE SEED: THE CARDS: each row of YtdbkchngpbahaaaDoorRows.lean that lists a variable, with what it lists TIED to the program's text (the seventh form; the later family's looks); each row that meets fmt, with fmt's text TOLD by the authors' own Lean function (tested against real Go, not proved from fmt's source: count such statements apart). THE CARD IS WHAT COUNTS. Prove the row's statement (the work); the ties are given (YtdbkchngpbahaaaDoorTie.lean); close each card by the builder's one call (the guide's Derived/Test/ToyasCard.lean, 'card_holds'). Laid BY PROGRAM, IN A SANDBOX (cutbox-door.mjs). By AI agents, Wed Nov 11 2026. No macro, syntax, notation, axiom, sorry.
-/
import Derived.Test.YtdbkchngpbahaaaDoorRows
import GoSem.ClaimSeven
namespace Go.Proofs.YtdbkchngpbahaaaDoor
namespace Rows

/-- THE TIED CARD OF 'proofmarklaw13.LexTells'. -/
def lexTellsCard : Claim7 := { stood := { row := lexTellsRow, standIns := [], harness := (true, "b1c74c1a01da18d6e4bd756628d4373b311be6c5af2b15ee960ce890d2312104"), looks := true }, kinds := [], alts := [], laidByText := true, laidKinds := [.data, .data, .data, .sentinel, .sentinel], laidTests := true, laidLooks := .later }
def LexTellsCardSaid : Prop := Claim7.holds Tryd.pinned (.plain (OpenSpec.ofChange lexTellsSpec)) lexTellsCard

/-- THE TIED CARD OF 'proofmarklaw13.LexSpelled'. -/
def lexSpelledCard : Claim7 := { stood := { row := lexSpelledRow, standIns := [], harness := (true, "b1c74c1a01da18d6e4bd756628d4373b311be6c5af2b15ee960ce890d2312104"), looks := true }, kinds := [], alts := [], laidByText := true, laidKinds := [.data, .data, .data, .sentinel, .sentinel], laidTests := true, laidLooks := .later }
def LexSpelledCardSaid : Prop := Claim7.holds Tryd.pinned (.plain (OpenSpec.ofChange lexSpelledSpec)) lexSpelledCard

/-- THE TIED CARD OF 'proofmarklaw13.LexBlanks'. -/
def lexBlanksCard : Claim7 := { stood := { row := lexBlanksRow, standIns := [], harness := (true, "b1c74c1a01da18d6e4bd756628d4373b311be6c5af2b15ee960ce890d2312104"), looks := true }, kinds := [], alts := [], laidByText := true, laidKinds := [.data, .data, .data, .sentinel, .sentinel], laidTests := true, laidLooks := .later }
def LexBlanksCardSaid : Prop := Claim7.holds Tryd.pinned (.plain (OpenSpec.ofChange lexBlanksSpec)) lexBlanksCard

/-- THE TIED CARD OF 'proofmarklaw13.LexMore'. -/
def lexMoreCard : Claim7 := { stood := { row := lexMoreRow, standIns := [], harness := (true, "b1c74c1a01da18d6e4bd756628d4373b311be6c5af2b15ee960ce890d2312104"), looks := true }, kinds := [], alts := [], laidByText := true, laidKinds := [.data, .data, .data, .sentinel, .sentinel], laidTests := true, laidLooks := .later }
def LexMoreCardSaid : Prop := Claim7.holds Tryd.pinned (.plain (OpenSpec.ofChange lexMoreSpec)) lexMoreCard

/-- THE TIED CARD OF 'proofmarklaw13.LexNames'. -/
def lexNamesCard : Claim7 := { stood := { row := lexNamesRow, standIns := [], harness := (true, "b1c74c1a01da18d6e4bd756628d4373b311be6c5af2b15ee960ce890d2312104"), looks := true }, kinds := [], alts := [], laidByText := true, laidKinds := [.data, .data, .data, .sentinel, .sentinel], laidTests := true, laidLooks := .later }
def LexNamesCardSaid : Prop := Claim7.holds Tryd.pinned (.plain (OpenSpec.ofChange lexNamesSpec)) lexNamesCard

/-- THE TIED CARD OF 'proofmarklaw13.LexKnown'. -/
def lexKnownCard : Claim7 := { stood := { row := lexKnownRow, standIns := [], harness := (true, "b1c74c1a01da18d6e4bd756628d4373b311be6c5af2b15ee960ce890d2312104"), looks := true }, kinds := [], alts := [], laidByText := true, laidKinds := [.data, .data, .data, .sentinel, .sentinel], laidTests := true, laidLooks := .later }
def LexKnownCardSaid : Prop := Claim7.holds Tryd.pinned (.plain (OpenSpec.ofChange lexKnownSpec)) lexKnownCard

/-- THE SECOND FORM's CARD OF 'proofmarklaw13.LexTells'. -/
def lexTellsUptoCard : Claim7 := { stood := { row := lexTellsUptoRow, standIns := [], harness := (true, "b1c74c1a01da18d6e4bd756628d4373b311be6c5af2b15ee960ce890d2312104"), looks := true }, kinds := [], alts := [], laidByText := true, laidKinds := [.data, .data, .data, .sentinel, .sentinel], laidTests := true, laidLooks := .later }
def LexTellsUptoCardSaid : Prop := Claim7.holds Tryd.pinned (.plain (OpenSpec.upto lexTellsSpec)) lexTellsUptoCard

/-- THE SECOND FORM's CARD OF 'proofmarklaw13.LexSpelled'. -/
def lexSpelledUptoCard : Claim7 := { stood := { row := lexSpelledUptoRow, standIns := [], harness := (true, "b1c74c1a01da18d6e4bd756628d4373b311be6c5af2b15ee960ce890d2312104"), looks := true }, kinds := [], alts := [], laidByText := true, laidKinds := [.data, .data, .data, .sentinel, .sentinel], laidTests := true, laidLooks := .later }
def LexSpelledUptoCardSaid : Prop := Claim7.holds Tryd.pinned (.plain (OpenSpec.upto lexSpelledSpec)) lexSpelledUptoCard

/-- THE SECOND FORM's CARD OF 'proofmarklaw13.LexBlanks'. -/
def lexBlanksUptoCard : Claim7 := { stood := { row := lexBlanksUptoRow, standIns := [], harness := (true, "b1c74c1a01da18d6e4bd756628d4373b311be6c5af2b15ee960ce890d2312104"), looks := true }, kinds := [], alts := [], laidByText := true, laidKinds := [.data, .data, .data, .sentinel, .sentinel], laidTests := true, laidLooks := .later }
def LexBlanksUptoCardSaid : Prop := Claim7.holds Tryd.pinned (.plain (OpenSpec.upto lexBlanksSpec)) lexBlanksUptoCard

/-- THE SECOND FORM's CARD OF 'proofmarklaw13.LexMore'. -/
def lexMoreUptoCard : Claim7 := { stood := { row := lexMoreUptoRow, standIns := [], harness := (true, "b1c74c1a01da18d6e4bd756628d4373b311be6c5af2b15ee960ce890d2312104"), looks := true }, kinds := [], alts := [], laidByText := true, laidKinds := [.data, .data, .data, .sentinel, .sentinel], laidTests := true, laidLooks := .later }
def LexMoreUptoCardSaid : Prop := Claim7.holds Tryd.pinned (.plain (OpenSpec.upto lexMoreSpec)) lexMoreUptoCard

/-- THE SECOND FORM's CARD OF 'proofmarklaw13.LexNames'. -/
def lexNamesUptoCard : Claim7 := { stood := { row := lexNamesUptoRow, standIns := [], harness := (true, "b1c74c1a01da18d6e4bd756628d4373b311be6c5af2b15ee960ce890d2312104"), looks := true }, kinds := [], alts := [], laidByText := true, laidKinds := [.data, .data, .data, .sentinel, .sentinel], laidTests := true, laidLooks := .later }
def LexNamesUptoCardSaid : Prop := Claim7.holds Tryd.pinned (.plain (OpenSpec.upto lexNamesSpec)) lexNamesUptoCard

/-- THE SECOND FORM's CARD OF 'proofmarklaw13.LexKnown'. -/
def lexKnownUptoCard : Claim7 := { stood := { row := lexKnownUptoRow, standIns := [], harness := (true, "b1c74c1a01da18d6e4bd756628d4373b311be6c5af2b15ee960ce890d2312104"), looks := true }, kinds := [], alts := [], laidByText := true, laidKinds := [.data, .data, .data, .sentinel, .sentinel], laidTests := true, laidLooks := .later }
def LexKnownUptoCardSaid : Prop := Claim7.holds Tryd.pinned (.plain (OpenSpec.upto lexKnownSpec)) lexKnownUptoCard
end Rows
end Go.Proofs.YtdbkchngpbahaaaDoor
