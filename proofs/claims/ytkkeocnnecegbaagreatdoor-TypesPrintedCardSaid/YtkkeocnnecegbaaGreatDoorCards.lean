/-
  DERIVED. GIVEN WITH THE SEED: THE CARDS: each row of YtkkeocnnecegbaaGreatDoorRows.lean that lists a variable, with what it lists TIED to the program's text (the seventh form; the later family's looks); each row that meets fmt, with fmt's text TOLD by the authors' own Lean function (tested against real Go, not proved from fmt's source: count such statements apart). THE CARD IS WHAT COUNTS. Prove the row's statement (the work); the ties are given (YtkkeocnnecegbaaGreatDoorTie.lean); close each card by the builder's one call (the guide's Derived/Test/ToyasCard.lean, 'card_holds'). Laid BY PROGRAM, IN A SANDBOX (cutbox-door.mjs). By AI agents, Wed Nov 11 2026. No macro, syntax, notation, axiom, sorry.
-/
import Derived.Test.YtkkeocnnecegbaaGreatDoorRows
import GoSem.ClaimSeven
namespace Go.Proofs.YtkkeocnnecegbaaGreatDoor
namespace Rows

/-- THE TIED CARD OF 'proofmarklaw14.ParseRight'. -/
def parseRightCard : Claim7 := { stood := { row := parseRightRow, standIns := [], harness := (true, "5d3c67e961f51229648b82123636f18f586732f7611b6201c47b8f9fcbbd91f0"), looks := true }, kinds := [], alts := [], laidByText := true, laidKinds := [.data, .data, .data, .data, .sentinel, .sentinel, .pinned], laidTests := true, laidLooks := .later }
def ParseRightCardSaid : Prop := Claim7.holds Tryz.pinned (.plain (OpenSpec.ofChange parseRightSpec)) parseRightCard

/-- THE TIED CARD OF 'proofmarklaw14.ParseSame'. -/
def parseSameCard : Claim7 := { stood := { row := parseSameRow, standIns := [], harness := (true, "5d3c67e961f51229648b82123636f18f586732f7611b6201c47b8f9fcbbd91f0"), looks := true }, kinds := [], alts := [], laidByText := true, laidKinds := [.data, .data, .data, .data, .sentinel, .sentinel, .pinned], laidTests := true, laidLooks := .later }
def ParseSameCardSaid : Prop := Claim7.holds Tryz.pinned (.plain (OpenSpec.ofChange parseSameSpec)) parseSameCard

/-- THE TIED CARD OF 'proofmarklaw14.ParseMore'. -/
def parseMoreCard : Claim7 := { stood := { row := parseMoreRow, standIns := [], harness := (true, "5d3c67e961f51229648b82123636f18f586732f7611b6201c47b8f9fcbbd91f0"), looks := true }, kinds := [], alts := [], laidByText := true, laidKinds := [.data, .data, .data, .data, .sentinel, .sentinel, .pinned], laidTests := true, laidLooks := .later }
def ParseMoreCardSaid : Prop := Claim7.holds Tryz.pinned (.plain (OpenSpec.ofChange parseMoreSpec)) parseMoreCard

/-- THE TIED CARD OF 'proofmarklaw14.ParseUnlike'. -/
def parseUnlikeCard : Claim7 := { stood := { row := parseUnlikeRow, standIns := [], harness := (true, "5d3c67e961f51229648b82123636f18f586732f7611b6201c47b8f9fcbbd91f0"), looks := true }, kinds := [], alts := [], laidByText := true, laidKinds := [.data, .data, .data, .data, .sentinel, .sentinel, .pinned], laidTests := true, laidLooks := .later }
def ParseUnlikeCardSaid : Prop := Claim7.holds Tryz.pinned (.plain (OpenSpec.ofChange parseUnlikeSpec)) parseUnlikeCard

/-- THE TIED CARD OF 'proofmarklaw14.ParseBack'. -/
def parseBackCard : Claim7 := { stood := { row := parseBackRow, standIns := [], harness := (true, "5d3c67e961f51229648b82123636f18f586732f7611b6201c47b8f9fcbbd91f0"), looks := true }, kinds := [], alts := [], laidByText := true, laidKinds := [.data, .data, .data, .data, .sentinel, .sentinel, .pinned], laidTests := true, laidLooks := .later }
def ParseBackCardSaid : Prop := Claim7.holds Tryz.pinned (.plain (OpenSpec.ofChange parseBackSpec)) parseBackCard

/-- THE TIED CARD OF 'proofmarklaw14.ParseEnds'. -/
def parseEndsCard : Claim7 := { stood := { row := parseEndsRow, standIns := [], harness := (true, "5d3c67e961f51229648b82123636f18f586732f7611b6201c47b8f9fcbbd91f0"), looks := true }, kinds := [], alts := [], laidByText := true, laidKinds := [.data, .data, .data, .data, .sentinel, .sentinel, .pinned], laidTests := true, laidLooks := .later }
def ParseEndsCardSaid : Prop := Claim7.holds Tryz.pinned (.plain (OpenSpec.ofChange parseEndsSpec)) parseEndsCard

/-- THE TIED CARD OF 'proofmarklaw14.ParseKnown'. -/
def parseKnownCard : Claim7 := { stood := { row := parseKnownRow, standIns := [], harness := (true, "5d3c67e961f51229648b82123636f18f586732f7611b6201c47b8f9fcbbd91f0"), looks := true }, kinds := [], alts := [], laidByText := true, laidKinds := [.data, .data, .data, .data, .sentinel, .sentinel, .pinned], laidTests := true, laidLooks := .later }
def ParseKnownCardSaid : Prop := Claim7.holds Tryz.pinned (.plain (OpenSpec.ofChange parseKnownSpec)) parseKnownCard

/-- THE TIED CARD OF 'proofmarklaw15.TypesTree'. -/
def typesTreeCard : Claim7 := { stood := { row := typesTreeRow, standIns := [], harness := (true, "5d3c67e961f51229648b82123636f18f586732f7611b6201c47b8f9fcbbd91f0"), looks := true }, kinds := [], alts := [], laidByText := true, laidKinds := [.data, .data, .data, .data, .handle, .sentinel, .sentinel, .pinned], laidTests := true, laidLooks := .later }
def TypesTreeCardSaid : Prop := Claim7.holds Tryz.pinned (.plain (OpenSpec.ofChange typesTreeSpec)) typesTreeCard

/-- THE TIED CARD OF 'proofmarklaw15.TypesSource'. -/
def typesSourceCard : Claim7 := { stood := { row := typesSourceRow, standIns := [], harness := (true, "5d3c67e961f51229648b82123636f18f586732f7611b6201c47b8f9fcbbd91f0"), looks := true }, kinds := [], alts := [], laidByText := true, laidKinds := [.data, .data, .data, .data, .handle, .sentinel, .sentinel, .pinned], laidTests := true, laidLooks := .later }
def TypesSourceCardSaid : Prop := Claim7.holds Tryz.pinned (.plain (OpenSpec.ofChange typesSourceSpec)) typesSourceCard

/-- THE TIED CARD OF 'proofmarklaw15.TypesPrinted'. -/
def typesPrintedCard : Claim7 := { stood := { row := typesPrintedRow, standIns := [], harness := (true, "5d3c67e961f51229648b82123636f18f586732f7611b6201c47b8f9fcbbd91f0"), looks := true }, kinds := [], alts := [], laidByText := true, laidKinds := [.data, .data, .data, .data, .handle, .sentinel, .sentinel, .pinned], laidTests := true, laidLooks := .later }
def TypesPrintedCardSaid : Prop := Claim7.holds Tryz.pinned (.plain (OpenSpec.ofChange typesPrintedSpec)) typesPrintedCard

/-- THE TIED CARD OF 'proofmarklaw15.TypesKnown'. -/
def typesKnownCard : Claim7 := { stood := { row := typesKnownRow, standIns := [], harness := (true, "5d3c67e961f51229648b82123636f18f586732f7611b6201c47b8f9fcbbd91f0"), looks := true }, kinds := [], alts := [], laidByText := true, laidKinds := [.data, .data, .data, .data, .handle, .sentinel, .sentinel, .pinned], laidTests := true, laidLooks := .later }
def TypesKnownCardSaid : Prop := Claim7.holds Tryz.pinned (.plain (OpenSpec.ofChange typesKnownSpec)) typesKnownCard

/-- THE SECOND FORM's CARD OF 'proofmarklaw14.ParseRight'. -/
def parseRightUptoCard : Claim7 := { stood := { row := parseRightUptoRow, standIns := [], harness := (true, "5d3c67e961f51229648b82123636f18f586732f7611b6201c47b8f9fcbbd91f0"), looks := true }, kinds := [], alts := [], laidByText := true, laidKinds := [.data, .data, .data, .data, .sentinel, .sentinel, .pinned], laidTests := true, laidLooks := .later }
def ParseRightUptoCardSaid : Prop := Claim7.holds Tryz.pinned (.plain (OpenSpec.upto parseRightSpec)) parseRightUptoCard

/-- THE SECOND FORM's CARD OF 'proofmarklaw14.ParseSame'. -/
def parseSameUptoCard : Claim7 := { stood := { row := parseSameUptoRow, standIns := [], harness := (true, "5d3c67e961f51229648b82123636f18f586732f7611b6201c47b8f9fcbbd91f0"), looks := true }, kinds := [], alts := [], laidByText := true, laidKinds := [.data, .data, .data, .data, .sentinel, .sentinel, .pinned], laidTests := true, laidLooks := .later }
def ParseSameUptoCardSaid : Prop := Claim7.holds Tryz.pinned (.plain (OpenSpec.upto parseSameSpec)) parseSameUptoCard

/-- THE SECOND FORM's CARD OF 'proofmarklaw14.ParseMore'. -/
def parseMoreUptoCard : Claim7 := { stood := { row := parseMoreUptoRow, standIns := [], harness := (true, "5d3c67e961f51229648b82123636f18f586732f7611b6201c47b8f9fcbbd91f0"), looks := true }, kinds := [], alts := [], laidByText := true, laidKinds := [.data, .data, .data, .data, .sentinel, .sentinel, .pinned], laidTests := true, laidLooks := .later }
def ParseMoreUptoCardSaid : Prop := Claim7.holds Tryz.pinned (.plain (OpenSpec.upto parseMoreSpec)) parseMoreUptoCard

/-- THE SECOND FORM's CARD OF 'proofmarklaw14.ParseUnlike'. -/
def parseUnlikeUptoCard : Claim7 := { stood := { row := parseUnlikeUptoRow, standIns := [], harness := (true, "5d3c67e961f51229648b82123636f18f586732f7611b6201c47b8f9fcbbd91f0"), looks := true }, kinds := [], alts := [], laidByText := true, laidKinds := [.data, .data, .data, .data, .sentinel, .sentinel, .pinned], laidTests := true, laidLooks := .later }
def ParseUnlikeUptoCardSaid : Prop := Claim7.holds Tryz.pinned (.plain (OpenSpec.upto parseUnlikeSpec)) parseUnlikeUptoCard

/-- THE SECOND FORM's CARD OF 'proofmarklaw14.ParseBack'. -/
def parseBackUptoCard : Claim7 := { stood := { row := parseBackUptoRow, standIns := [], harness := (true, "5d3c67e961f51229648b82123636f18f586732f7611b6201c47b8f9fcbbd91f0"), looks := true }, kinds := [], alts := [], laidByText := true, laidKinds := [.data, .data, .data, .data, .sentinel, .sentinel, .pinned], laidTests := true, laidLooks := .later }
def ParseBackUptoCardSaid : Prop := Claim7.holds Tryz.pinned (.plain (OpenSpec.upto parseBackSpec)) parseBackUptoCard

/-- THE SECOND FORM's CARD OF 'proofmarklaw14.ParseEnds'. -/
def parseEndsUptoCard : Claim7 := { stood := { row := parseEndsUptoRow, standIns := [], harness := (true, "5d3c67e961f51229648b82123636f18f586732f7611b6201c47b8f9fcbbd91f0"), looks := true }, kinds := [], alts := [], laidByText := true, laidKinds := [.data, .data, .data, .data, .sentinel, .sentinel, .pinned], laidTests := true, laidLooks := .later }
def ParseEndsUptoCardSaid : Prop := Claim7.holds Tryz.pinned (.plain (OpenSpec.upto parseEndsSpec)) parseEndsUptoCard

/-- THE SECOND FORM's CARD OF 'proofmarklaw14.ParseKnown'. -/
def parseKnownUptoCard : Claim7 := { stood := { row := parseKnownUptoRow, standIns := [], harness := (true, "5d3c67e961f51229648b82123636f18f586732f7611b6201c47b8f9fcbbd91f0"), looks := true }, kinds := [], alts := [], laidByText := true, laidKinds := [.data, .data, .data, .data, .sentinel, .sentinel, .pinned], laidTests := true, laidLooks := .later }
def ParseKnownUptoCardSaid : Prop := Claim7.holds Tryz.pinned (.plain (OpenSpec.upto parseKnownSpec)) parseKnownUptoCard

/-- THE SECOND FORM's CARD OF 'proofmarklaw15.TypesTree'. -/
def typesTreeUptoCard : Claim7 := { stood := { row := typesTreeUptoRow, standIns := [], harness := (true, "5d3c67e961f51229648b82123636f18f586732f7611b6201c47b8f9fcbbd91f0"), looks := true }, kinds := [], alts := [], laidByText := true, laidKinds := [.data, .data, .data, .data, .handle, .sentinel, .sentinel, .pinned], laidTests := true, laidLooks := .later }
def TypesTreeUptoCardSaid : Prop := Claim7.holds Tryz.pinned (.plain (OpenSpec.upto typesTreeSpec)) typesTreeUptoCard

/-- THE SECOND FORM's CARD OF 'proofmarklaw15.TypesSource'. -/
def typesSourceUptoCard : Claim7 := { stood := { row := typesSourceUptoRow, standIns := [], harness := (true, "5d3c67e961f51229648b82123636f18f586732f7611b6201c47b8f9fcbbd91f0"), looks := true }, kinds := [], alts := [], laidByText := true, laidKinds := [.data, .data, .data, .data, .handle, .sentinel, .sentinel, .pinned], laidTests := true, laidLooks := .later }
def TypesSourceUptoCardSaid : Prop := Claim7.holds Tryz.pinned (.plain (OpenSpec.upto typesSourceSpec)) typesSourceUptoCard

/-- THE SECOND FORM's CARD OF 'proofmarklaw15.TypesPrinted'. -/
def typesPrintedUptoCard : Claim7 := { stood := { row := typesPrintedUptoRow, standIns := [], harness := (true, "5d3c67e961f51229648b82123636f18f586732f7611b6201c47b8f9fcbbd91f0"), looks := true }, kinds := [], alts := [], laidByText := true, laidKinds := [.data, .data, .data, .data, .handle, .sentinel, .sentinel, .pinned], laidTests := true, laidLooks := .later }
def TypesPrintedUptoCardSaid : Prop := Claim7.holds Tryz.pinned (.plain (OpenSpec.upto typesPrintedSpec)) typesPrintedUptoCard

/-- THE SECOND FORM's CARD OF 'proofmarklaw15.TypesKnown'. -/
def typesKnownUptoCard : Claim7 := { stood := { row := typesKnownUptoRow, standIns := [], harness := (true, "5d3c67e961f51229648b82123636f18f586732f7611b6201c47b8f9fcbbd91f0"), looks := true }, kinds := [], alts := [], laidByText := true, laidKinds := [.data, .data, .data, .data, .handle, .sentinel, .sentinel, .pinned], laidTests := true, laidLooks := .later }
def TypesKnownUptoCardSaid : Prop := Claim7.holds Tryz.pinned (.plain (OpenSpec.upto typesKnownSpec)) typesKnownUptoCard
end Rows
end Go.Proofs.YtkkeocnnecegbaaGreatDoor
