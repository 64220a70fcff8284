/-
  DERIVED. GIVEN WITH THE SEED: THE CARDS: each row of YtgdibfnpkcdiiaaGreatDoorRows.lean that lists a variable, with what it lists TIED to the program's text (the seventh form; the later family's looks); each row that meets fmt, with fmt's text TOLD by the authors' own Lean function (tested against real Go, not proved from fmt's source: count such statements apart). THE CARD IS WHAT COUNTS. Prove the row's statement (the work); the ties are given (YtgdibfnpkcdiiaaGreatDoorTie.lean); close each card by the builder's one call (the guide's Derived/Test/ToyasCard.lean, 'card_holds'). Laid BY PROGRAM, IN A SANDBOX (cutbox-door.mjs). By AI agents, Wed Nov 11 2026. No macro, syntax, notation, axiom, sorry.
-/
import Derived.Test.YtgdibfnpkcdiiaaGreatDoorRows
import GoSem.ClaimSeven
namespace Go.Proofs.YtgdibfnpkcdiiaaGreatDoor
namespace Rows

/-- THE TIED CARD OF 'proofmarklaw16.ThreeRight'. -/
def threeRightCard : Claim7 := { stood := { row := threeRightRow, standIns := [], harness := (true, "9d57fff9a1a40f01a00cd2b9cca7a2746d3969f0f4b2269c52fbd44b4cfa2fe1"), looks := true }, kinds := [], alts := [], laidByText := true, laidKinds := [.data, .data, .data, .data, .handle, .sentinel, .sentinel, .pinned], laidTests := true, laidLooks := .later }
def ThreeRightCardSaid : Prop := Claim7.holds Tryz.pinned (.plain (OpenSpec.ofChange threeRightSpec)) threeRightCard

/-- THE TIED CARD OF 'proofmarklaw16.ThreeSame'. -/
def threeSameCard : Claim7 := { stood := { row := threeSameRow, standIns := [], harness := (true, "9d57fff9a1a40f01a00cd2b9cca7a2746d3969f0f4b2269c52fbd44b4cfa2fe1"), looks := true }, kinds := [], alts := [], laidByText := true, laidKinds := [.data, .data, .data, .data, .handle, .sentinel, .sentinel, .pinned], laidTests := true, laidLooks := .later }
def ThreeSameCardSaid : Prop := Claim7.holds Tryz.pinned (.plain (OpenSpec.ofChange threeSameSpec)) threeSameCard

/-- THE TIED CARD OF 'proofmarklaw17.MeaningDoes'. -/
def meaningDoesCard : Claim7 := { stood := { row := meaningDoesRow, standIns := [], harness := (true, "9d57fff9a1a40f01a00cd2b9cca7a2746d3969f0f4b2269c52fbd44b4cfa2fe1"), looks := true }, kinds := [], alts := [], laidByText := true, laidKinds := [.data, .data, .data, .data, .handle, .sentinel, .sentinel, .pinned], laidTests := true, laidLooks := .later }
def MeaningDoesCardSaid : Prop := Claim7.holds Tryz.pinned (.plain (OpenSpec.ofChange meaningDoesSpec)) meaningDoesCard

/-- THE TIED CARD OF 'proofmarklaw17.MeaningInput'. -/
def meaningInputCard : Claim7 := { stood := { row := meaningInputRow, standIns := [], harness := (true, "9d57fff9a1a40f01a00cd2b9cca7a2746d3969f0f4b2269c52fbd44b4cfa2fe1"), looks := true }, kinds := [], alts := [], laidByText := true, laidKinds := [.data, .data, .data, .data, .handle, .sentinel, .sentinel, .pinned], laidTests := true, laidLooks := .later }
def MeaningInputCardSaid : Prop := Claim7.holds Tryz.pinned (.plain (OpenSpec.ofChange meaningInputSpec)) meaningInputCard

/-- THE TIED CARD OF 'proofmarklaw17.MeaningSplit'. -/
def meaningSplitCard : Claim7 := { stood := { row := meaningSplitRow, standIns := [], harness := (true, "9d57fff9a1a40f01a00cd2b9cca7a2746d3969f0f4b2269c52fbd44b4cfa2fe1"), looks := true }, kinds := [], alts := [], laidByText := true, laidKinds := [.data, .data, .data, .data, .handle, .sentinel, .sentinel, .pinned], laidTests := true, laidLooks := .later }
def MeaningSplitCardSaid : Prop := Claim7.holds Tryz.pinned (.plain (OpenSpec.ofChange meaningSplitSpec)) meaningSplitCard

/-- THE TIED CARD OF 'proofmarklaw19.OptClean'. -/
def optCleanCard : Claim7 := { stood := { row := optCleanRow, standIns := [], harness := (true, "9d57fff9a1a40f01a00cd2b9cca7a2746d3969f0f4b2269c52fbd44b4cfa2fe1"), looks := true }, kinds := [], alts := [], laidByText := true, laidKinds := [.data, .data, .data, .data, .handle, .sentinel, .sentinel, .pinned], laidTests := true, laidLooks := .later }
def OptCleanCardSaid : Prop := Claim7.holds Tryz.pinned (.plain (OpenSpec.ofChange optCleanSpec)) optCleanCard

/-- THE TIED CARD OF 'proofmarklaw19.OptAgain'. -/
def optAgainCard : Claim7 := { stood := { row := optAgainRow, standIns := [], harness := (true, "9d57fff9a1a40f01a00cd2b9cca7a2746d3969f0f4b2269c52fbd44b4cfa2fe1"), looks := true }, kinds := [], alts := [], laidByText := true, laidKinds := [.data, .data, .data, .data, .handle, .sentinel, .sentinel, .pinned], laidTests := true, laidLooks := .later }
def OptAgainCardSaid : Prop := Claim7.holds Tryz.pinned (.plain (OpenSpec.ofChange optAgainSpec)) optAgainCard

/-- THE TIED CARD OF 'proofmarklaw19.OptMeans'. -/
def optMeansCard : Claim7 := { stood := { row := optMeansRow, standIns := [], harness := (true, "9d57fff9a1a40f01a00cd2b9cca7a2746d3969f0f4b2269c52fbd44b4cfa2fe1"), looks := true }, kinds := [], alts := [], laidByText := true, laidKinds := [.data, .data, .data, .data, .handle, .sentinel, .sentinel, .pinned], laidTests := true, laidLooks := .later }
def OptMeansCardSaid : Prop := Claim7.holds Tryz.pinned (.plain (OpenSpec.ofChange optMeansSpec)) optMeansCard

/-- THE SECOND FORM's CARD OF 'proofmarklaw16.ThreeRight'. -/
def threeRightUptoCard : Claim7 := { stood := { row := threeRightUptoRow, standIns := [], harness := (true, "9d57fff9a1a40f01a00cd2b9cca7a2746d3969f0f4b2269c52fbd44b4cfa2fe1"), looks := true }, kinds := [], alts := [], laidByText := true, laidKinds := [.data, .data, .data, .data, .handle, .sentinel, .sentinel, .pinned], laidTests := true, laidLooks := .later }
def ThreeRightUptoCardSaid : Prop := Claim7.holds Tryz.pinned (.plain (OpenSpec.upto threeRightSpec)) threeRightUptoCard

/-- THE SECOND FORM's CARD OF 'proofmarklaw16.ThreeSame'. -/
def threeSameUptoCard : Claim7 := { stood := { row := threeSameUptoRow, standIns := [], harness := (true, "9d57fff9a1a40f01a00cd2b9cca7a2746d3969f0f4b2269c52fbd44b4cfa2fe1"), looks := true }, kinds := [], alts := [], laidByText := true, laidKinds := [.data, .data, .data, .data, .handle, .sentinel, .sentinel, .pinned], laidTests := true, laidLooks := .later }
def ThreeSameUptoCardSaid : Prop := Claim7.holds Tryz.pinned (.plain (OpenSpec.upto threeSameSpec)) threeSameUptoCard

/-- THE SECOND FORM's CARD OF 'proofmarklaw17.MeaningDoes'. -/
def meaningDoesUptoCard : Claim7 := { stood := { row := meaningDoesUptoRow, standIns := [], harness := (true, "9d57fff9a1a40f01a00cd2b9cca7a2746d3969f0f4b2269c52fbd44b4cfa2fe1"), looks := true }, kinds := [], alts := [], laidByText := true, laidKinds := [.data, .data, .data, .data, .handle, .sentinel, .sentinel, .pinned], laidTests := true, laidLooks := .later }
def MeaningDoesUptoCardSaid : Prop := Claim7.holds Tryz.pinned (.plain (OpenSpec.upto meaningDoesSpec)) meaningDoesUptoCard

/-- THE SECOND FORM's CARD OF 'proofmarklaw17.MeaningInput'. -/
def meaningInputUptoCard : Claim7 := { stood := { row := meaningInputUptoRow, standIns := [], harness := (true, "9d57fff9a1a40f01a00cd2b9cca7a2746d3969f0f4b2269c52fbd44b4cfa2fe1"), looks := true }, kinds := [], alts := [], laidByText := true, laidKinds := [.data, .data, .data, .data, .handle, .sentinel, .sentinel, .pinned], laidTests := true, laidLooks := .later }
def MeaningInputUptoCardSaid : Prop := Claim7.holds Tryz.pinned (.plain (OpenSpec.upto meaningInputSpec)) meaningInputUptoCard

/-- THE SECOND FORM's CARD OF 'proofmarklaw17.MeaningSplit'. -/
def meaningSplitUptoCard : Claim7 := { stood := { row := meaningSplitUptoRow, standIns := [], harness := (true, "9d57fff9a1a40f01a00cd2b9cca7a2746d3969f0f4b2269c52fbd44b4cfa2fe1"), looks := true }, kinds := [], alts := [], laidByText := true, laidKinds := [.data, .data, .data, .data, .handle, .sentinel, .sentinel, .pinned], laidTests := true, laidLooks := .later }
def MeaningSplitUptoCardSaid : Prop := Claim7.holds Tryz.pinned (.plain (OpenSpec.upto meaningSplitSpec)) meaningSplitUptoCard

/-- THE SECOND FORM's CARD OF 'proofmarklaw19.OptClean'. -/
def optCleanUptoCard : Claim7 := { stood := { row := optCleanUptoRow, standIns := [], harness := (true, "9d57fff9a1a40f01a00cd2b9cca7a2746d3969f0f4b2269c52fbd44b4cfa2fe1"), looks := true }, kinds := [], alts := [], laidByText := true, laidKinds := [.data, .data, .data, .data, .handle, .sentinel, .sentinel, .pinned], laidTests := true, laidLooks := .later }
def OptCleanUptoCardSaid : Prop := Claim7.holds Tryz.pinned (.plain (OpenSpec.upto optCleanSpec)) optCleanUptoCard

/-- THE SECOND FORM's CARD OF 'proofmarklaw19.OptAgain'. -/
def optAgainUptoCard : Claim7 := { stood := { row := optAgainUptoRow, standIns := [], harness := (true, "9d57fff9a1a40f01a00cd2b9cca7a2746d3969f0f4b2269c52fbd44b4cfa2fe1"), looks := true }, kinds := [], alts := [], laidByText := true, laidKinds := [.data, .data, .data, .data, .handle, .sentinel, .sentinel, .pinned], laidTests := true, laidLooks := .later }
def OptAgainUptoCardSaid : Prop := Claim7.holds Tryz.pinned (.plain (OpenSpec.upto optAgainSpec)) optAgainUptoCard

/-- THE SECOND FORM's CARD OF 'proofmarklaw19.OptMeans'. -/
def optMeansUptoCard : Claim7 := { stood := { row := optMeansUptoRow, standIns := [], harness := (true, "9d57fff9a1a40f01a00cd2b9cca7a2746d3969f0f4b2269c52fbd44b4cfa2fe1"), looks := true }, kinds := [], alts := [], laidByText := true, laidKinds := [.data, .data, .data, .data, .handle, .sentinel, .sentinel, .pinned], laidTests := true, laidLooks := .later }
def OptMeansUptoCardSaid : Prop := Claim7.holds Tryz.pinned (.plain (OpenSpec.upto optMeansSpec)) optMeansUptoCard
end Rows
end Go.Proofs.YtgdibfnpkcdiiaaGreatDoor
