/-
  DERIVED. GIVEN WITH THE SEED: THE CARDS: each row of YtillgofjlpjbcaaGreatDoorRows.lean that lists a variable, with what it lists TIED to the program's text (the seventh form; the later family's looks); each row that meets fmt, with fmt's text TOLD by the authors' own Lean function (tested against real Go, not proved from fmt's source: count such statements apart). THE CARD IS WHAT COUNTS. Prove the row's statement (the work); the ties are given (YtillgofjlpjbcaaGreatDoorTie.lean); close each card by the builder's one call (the guide's Derived/Test/ToyasCard.lean, 'card_holds'). Laid BY PROGRAM, IN A SANDBOX (cutbox-door.mjs). By AI agents, Wed Nov 11 2026. No macro, syntax, notation, axiom, sorry.
-/
import Derived.Test.YtillgofjlpjbcaaGreatDoorRows
import GoSem.ClaimSeven
namespace Go.Proofs.YtillgofjlpjbcaaGreatDoor
namespace Rows

/-- THE TIED CARD OF 'entaillaw01.NumIntegers'. -/
def numIntegersCard : Claim7 := { stood := { row := numIntegersRow, standIns := [], harness := (true, "566c5ec6fceb08051a41bde996094d44296e3f0717d2f29fe673dae51624f0f3"), looks := true }, kinds := [], alts := [], laidByText := true, laidKinds := [.data, .data, .data, .sentinel, .sentinel, .funcs], laidTests := true, laidLooks := .later }
def NumIntegersCardSaid : Prop := Claim7.holds Tryz.pinned (.plain (OpenSpec.ofChange numIntegersSpec)) numIntegersCard

/-- THE TIED CARD OF 'entaillaw01.NumFractions'. -/
def numFractionsCard : Claim7 := { stood := { row := numFractionsRow, standIns := [], harness := (true, "566c5ec6fceb08051a41bde996094d44296e3f0717d2f29fe673dae51624f0f3"), looks := true }, kinds := [], alts := [], laidByText := true, laidKinds := [.data, .data, .data, .sentinel, .sentinel, .funcs], laidTests := true, laidLooks := .later }
def NumFractionsCardSaid : Prop := Claim7.holds Tryz.pinned (.plain (OpenSpec.ofChange numFractionsSpec)) numFractionsCard

/-- THE TIED CARD OF 'entaillaw01.NumBits'. -/
def numBitsCard : Claim7 := { stood := { row := numBitsRow, standIns := [], harness := (true, "566c5ec6fceb08051a41bde996094d44296e3f0717d2f29fe673dae51624f0f3"), looks := true }, kinds := [], alts := [], laidByText := true, laidKinds := [.data, .data, .data, .sentinel, .sentinel, .funcs], laidTests := true, laidLooks := .later }
def NumBitsCardSaid : Prop := Claim7.holds Tryz.pinned (.plain (OpenSpec.ofChange numBitsSpec)) numBitsCard

/-- THE TIED CARD OF 'entaillaw01.NumWords'. -/
def numWordsCard : Claim7 := { stood := { row := numWordsRow, standIns := [], harness := (true, "566c5ec6fceb08051a41bde996094d44296e3f0717d2f29fe673dae51624f0f3"), looks := true }, kinds := [], alts := [], laidByText := true, laidKinds := [.data, .data, .data, .sentinel, .sentinel, .funcs], laidTests := true, laidLooks := .later }
def NumWordsCardSaid : Prop := Claim7.holds Tryz.pinned (.plain (OpenSpec.ofChange numWordsSpec)) numWordsCard

/-- THE TIED CARD OF 'entaillaw01.NumRing'. -/
def numRingCard : Claim7 := { stood := { row := numRingRow, standIns := [], harness := (true, "566c5ec6fceb08051a41bde996094d44296e3f0717d2f29fe673dae51624f0f3"), looks := true }, kinds := [], alts := [], laidByText := true, laidKinds := [.data, .data, .data, .sentinel, .sentinel, .funcs], laidTests := true, laidLooks := .later }
def NumRingCardSaid : Prop := Claim7.holds Tryz.pinned (.plain (OpenSpec.ofChange numRingSpec)) numRingCard

/-- THE TIED CARD OF 'entaillaw01.NumField'. -/
def numFieldCard : Claim7 := { stood := { row := numFieldRow, standIns := [], harness := (true, "566c5ec6fceb08051a41bde996094d44296e3f0717d2f29fe673dae51624f0f3"), looks := true }, kinds := [], alts := [], laidByText := true, laidKinds := [.data, .data, .data, .sentinel, .sentinel, .funcs], laidTests := true, laidLooks := .later }
def NumFieldCardSaid : Prop := Claim7.holds Tryz.pinned (.plain (OpenSpec.ofChange numFieldSpec)) numFieldCard

/-- THE TIED CARD OF 'entaillaw01.NumParts'. -/
def numPartsCard : Claim7 := { stood := { row := numPartsRow, standIns := [], harness := (true, "566c5ec6fceb08051a41bde996094d44296e3f0717d2f29fe673dae51624f0f3"), looks := true }, kinds := [], alts := [], laidByText := true, laidKinds := [.data, .data, .data, .sentinel, .sentinel, .funcs], laidTests := true, laidLooks := .later }
def NumPartsCardSaid : Prop := Claim7.holds Tryz.pinned (.plain (OpenSpec.ofChange numPartsSpec)) numPartsCard

/-- THE SECOND FORM's CARD OF 'entaillaw01.NumIntegers'. -/
def numIntegersUptoCard : Claim7 := { stood := { row := numIntegersUptoRow, standIns := [], harness := (true, "566c5ec6fceb08051a41bde996094d44296e3f0717d2f29fe673dae51624f0f3"), looks := true }, kinds := [], alts := [], laidByText := true, laidKinds := [.data, .data, .data, .sentinel, .sentinel, .funcs], laidTests := true, laidLooks := .later }
def NumIntegersUptoCardSaid : Prop := Claim7.holds Tryz.pinned (.plain (OpenSpec.upto numIntegersSpec)) numIntegersUptoCard

/-- THE SECOND FORM's CARD OF 'entaillaw01.NumFractions'. -/
def numFractionsUptoCard : Claim7 := { stood := { row := numFractionsUptoRow, standIns := [], harness := (true, "566c5ec6fceb08051a41bde996094d44296e3f0717d2f29fe673dae51624f0f3"), looks := true }, kinds := [], alts := [], laidByText := true, laidKinds := [.data, .data, .data, .sentinel, .sentinel, .funcs], laidTests := true, laidLooks := .later }
def NumFractionsUptoCardSaid : Prop := Claim7.holds Tryz.pinned (.plain (OpenSpec.upto numFractionsSpec)) numFractionsUptoCard

/-- THE SECOND FORM's CARD OF 'entaillaw01.NumBits'. -/
def numBitsUptoCard : Claim7 := { stood := { row := numBitsUptoRow, standIns := [], harness := (true, "566c5ec6fceb08051a41bde996094d44296e3f0717d2f29fe673dae51624f0f3"), looks := true }, kinds := [], alts := [], laidByText := true, laidKinds := [.data, .data, .data, .sentinel, .sentinel, .funcs], laidTests := true, laidLooks := .later }
def NumBitsUptoCardSaid : Prop := Claim7.holds Tryz.pinned (.plain (OpenSpec.upto numBitsSpec)) numBitsUptoCard

/-- THE SECOND FORM's CARD OF 'entaillaw01.NumWords'. -/
def numWordsUptoCard : Claim7 := { stood := { row := numWordsUptoRow, standIns := [], harness := (true, "566c5ec6fceb08051a41bde996094d44296e3f0717d2f29fe673dae51624f0f3"), looks := true }, kinds := [], alts := [], laidByText := true, laidKinds := [.data, .data, .data, .sentinel, .sentinel, .funcs], laidTests := true, laidLooks := .later }
def NumWordsUptoCardSaid : Prop := Claim7.holds Tryz.pinned (.plain (OpenSpec.upto numWordsSpec)) numWordsUptoCard

/-- THE SECOND FORM's CARD OF 'entaillaw01.NumRing'. -/
def numRingUptoCard : Claim7 := { stood := { row := numRingUptoRow, standIns := [], harness := (true, "566c5ec6fceb08051a41bde996094d44296e3f0717d2f29fe673dae51624f0f3"), looks := true }, kinds := [], alts := [], laidByText := true, laidKinds := [.data, .data, .data, .sentinel, .sentinel, .funcs], laidTests := true, laidLooks := .later }
def NumRingUptoCardSaid : Prop := Claim7.holds Tryz.pinned (.plain (OpenSpec.upto numRingSpec)) numRingUptoCard

/-- THE SECOND FORM's CARD OF 'entaillaw01.NumField'. -/
def numFieldUptoCard : Claim7 := { stood := { row := numFieldUptoRow, standIns := [], harness := (true, "566c5ec6fceb08051a41bde996094d44296e3f0717d2f29fe673dae51624f0f3"), looks := true }, kinds := [], alts := [], laidByText := true, laidKinds := [.data, .data, .data, .sentinel, .sentinel, .funcs], laidTests := true, laidLooks := .later }
def NumFieldUptoCardSaid : Prop := Claim7.holds Tryz.pinned (.plain (OpenSpec.upto numFieldSpec)) numFieldUptoCard

/-- THE SECOND FORM's CARD OF 'entaillaw01.NumParts'. -/
def numPartsUptoCard : Claim7 := { stood := { row := numPartsUptoRow, standIns := [], harness := (true, "566c5ec6fceb08051a41bde996094d44296e3f0717d2f29fe673dae51624f0f3"), looks := true }, kinds := [], alts := [], laidByText := true, laidKinds := [.data, .data, .data, .sentinel, .sentinel, .funcs], laidTests := true, laidLooks := .later }
def NumPartsUptoCardSaid : Prop := Claim7.holds Tryz.pinned (.plain (OpenSpec.upto numPartsSpec)) numPartsUptoCard
end Rows
end Go.Proofs.YtillgofjlpjbcaaGreatDoor
