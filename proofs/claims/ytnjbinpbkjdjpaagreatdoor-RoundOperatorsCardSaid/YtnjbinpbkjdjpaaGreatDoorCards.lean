/-
  DERIVED. GIVEN WITH THE SEED: THE CARDS: each row of YtnjbinpbkjdjpaaGreatDoorRows.lean that lists a variable, with what it lists TIED to the program's text (the seventh form; the later family's looks); each row that meets fmt, with fmt's text TOLD by the authors' own Lean function (tested against real Go, not proved from fmt's source: count such statements apart). THE CARD IS WHAT COUNTS. Prove the row's statement (the work); the ties are given (YtnjbinpbkjdjpaaGreatDoorTie.lean); close each card by the builder's one call (the guide's Derived/Test/ToyasCard.lean, 'card_holds'). Laid BY PROGRAM, IN A SANDBOX (cutbox-door.mjs). By AI agents, Wed Nov 11 2026. No macro, syntax, notation, axiom, sorry.
-/
import Derived.Test.YtnjbinpbkjdjpaaGreatDoorRows
import GoSem.ClaimSeven
namespace Go.Proofs.YtnjbinpbkjdjpaaGreatDoor
namespace Rows

/-- THE TIED CARD OF 'entailtop.TopCobaltRounds'. -/
def topCobaltRoundsCard : Claim7 := { stood := { row := topCobaltRoundsRow, standIns := [], harness := (true, "2b0525427bf680c8202ee9c0b085f5854cddcfae6b51b75755a5823558f75c2a"), looks := false }, kinds := [], alts := [], laidByText := true, laidKinds := [.data, .data, .data], laidTests := true, laidLooks := .later }
def TopCobaltRoundsCardSaid : Prop := Claim7.holds Tryz.pinned (.plain (OpenSpec.ofChange topCobaltRoundsSpec)) topCobaltRoundsCard

/-- THE TIED CARD OF 'entaillaw38.RoundNumbers'. -/
def roundNumbersCard : Claim7 := { stood := { row := roundNumbersRow, standIns := [], harness := (true, "2b0525427bf680c8202ee9c0b085f5854cddcfae6b51b75755a5823558f75c2a"), looks := false }, kinds := [], alts := [], laidByText := true, laidKinds := [.data, .data, .data], laidTests := true, laidLooks := .later }
def RoundNumbersCardSaid : Prop := Claim7.holds Tryz.pinned (.plain (OpenSpec.ofChange roundNumbersSpec)) roundNumbersCard

/-- THE TIED CARD OF 'entaillaw38.RoundValues'. -/
def roundValuesCard : Claim7 := { stood := { row := roundValuesRow, standIns := [], harness := (true, "2b0525427bf680c8202ee9c0b085f5854cddcfae6b51b75755a5823558f75c2a"), looks := false }, kinds := [], alts := [], laidByText := true, laidKinds := [.data, .data, .data], laidTests := true, laidLooks := .later }
def RoundValuesCardSaid : Prop := Claim7.holds Tryz.pinned (.plain (OpenSpec.ofChange roundValuesSpec)) roundValuesCard

/-- THE TIED CARD OF 'entaillaw38.RoundOperators'. -/
def roundOperatorsCard : Claim7 := { stood := { row := roundOperatorsRow, standIns := [], harness := (true, "2b0525427bf680c8202ee9c0b085f5854cddcfae6b51b75755a5823558f75c2a"), looks := false }, kinds := [], alts := [], laidByText := true, laidKinds := [.data, .data, .data], laidTests := true, laidLooks := .later }
def RoundOperatorsCardSaid : Prop := Claim7.holds Tryz.pinned (.plain (OpenSpec.ofChange roundOperatorsSpec)) roundOperatorsCard

/-- THE TIED CARD OF 'entaillaw38.RoundComplex'. -/
def roundComplexCard : Claim7 := { stood := { row := roundComplexRow, standIns := [], harness := (true, "2b0525427bf680c8202ee9c0b085f5854cddcfae6b51b75755a5823558f75c2a"), looks := false }, kinds := [], alts := [], laidByText := true, laidKinds := [.data, .data, .data], laidTests := true, laidLooks := .later }
def RoundComplexCardSaid : Prop := Claim7.holds Tryz.pinned (.plain (OpenSpec.ofChange roundComplexSpec)) roundComplexCard

/-- THE TIED CARD OF 'entaillaw38.RoundField'. -/
def roundFieldCard : Claim7 := { stood := { row := roundFieldRow, standIns := [], harness := (true, "2b0525427bf680c8202ee9c0b085f5854cddcfae6b51b75755a5823558f75c2a"), looks := false }, kinds := [], alts := [], laidByText := true, laidKinds := [.data, .data, .data], laidTests := true, laidLooks := .later }
def RoundFieldCardSaid : Prop := Claim7.holds Tryz.pinned (.plain (OpenSpec.ofChange roundFieldSpec)) roundFieldCard

/-- THE TIED CARD OF 'entaillaw38.RoundExact'. -/
def roundExactCard : Claim7 := { stood := { row := roundExactRow, standIns := [], harness := (true, "2b0525427bf680c8202ee9c0b085f5854cddcfae6b51b75755a5823558f75c2a"), looks := false }, kinds := [], alts := [], laidByText := true, laidKinds := [.data, .data, .data], laidTests := true, laidLooks := .later }
def RoundExactCardSaid : Prop := Claim7.holds Tryz.pinned (.plain (OpenSpec.ofChange roundExactSpec)) roundExactCard

/-- THE TIED CARD OF 'entaillaw38.RoundMonotone'. -/
def roundMonotoneCard : Claim7 := { stood := { row := roundMonotoneRow, standIns := [], harness := (true, "2b0525427bf680c8202ee9c0b085f5854cddcfae6b51b75755a5823558f75c2a"), looks := false }, kinds := [], alts := [], laidByText := true, laidKinds := [.data, .data, .data], laidTests := true, laidLooks := .later }
def RoundMonotoneCardSaid : Prop := Claim7.holds Tryz.pinned (.plain (OpenSpec.ofChange roundMonotoneSpec)) roundMonotoneCard

/-- THE SECOND FORM's CARD OF 'entailtop.TopCobaltRounds'. -/
def topCobaltRoundsUptoCard : Claim7 := { stood := { row := topCobaltRoundsUptoRow, standIns := [], harness := (true, "2b0525427bf680c8202ee9c0b085f5854cddcfae6b51b75755a5823558f75c2a"), looks := false }, kinds := [], alts := [], laidByText := true, laidKinds := [.data, .data, .data], laidTests := true, laidLooks := .later }
def TopCobaltRoundsUptoCardSaid : Prop := Claim7.holds Tryz.pinned (.plain (OpenSpec.upto topCobaltRoundsSpec)) topCobaltRoundsUptoCard

/-- THE SECOND FORM's CARD OF 'entaillaw38.RoundNumbers'. -/
def roundNumbersUptoCard : Claim7 := { stood := { row := roundNumbersUptoRow, standIns := [], harness := (true, "2b0525427bf680c8202ee9c0b085f5854cddcfae6b51b75755a5823558f75c2a"), looks := false }, kinds := [], alts := [], laidByText := true, laidKinds := [.data, .data, .data], laidTests := true, laidLooks := .later }
def RoundNumbersUptoCardSaid : Prop := Claim7.holds Tryz.pinned (.plain (OpenSpec.upto roundNumbersSpec)) roundNumbersUptoCard

/-- THE SECOND FORM's CARD OF 'entaillaw38.RoundValues'. -/
def roundValuesUptoCard : Claim7 := { stood := { row := roundValuesUptoRow, standIns := [], harness := (true, "2b0525427bf680c8202ee9c0b085f5854cddcfae6b51b75755a5823558f75c2a"), looks := false }, kinds := [], alts := [], laidByText := true, laidKinds := [.data, .data, .data], laidTests := true, laidLooks := .later }
def RoundValuesUptoCardSaid : Prop := Claim7.holds Tryz.pinned (.plain (OpenSpec.upto roundValuesSpec)) roundValuesUptoCard

/-- THE SECOND FORM's CARD OF 'entaillaw38.RoundOperators'. -/
def roundOperatorsUptoCard : Claim7 := { stood := { row := roundOperatorsUptoRow, standIns := [], harness := (true, "2b0525427bf680c8202ee9c0b085f5854cddcfae6b51b75755a5823558f75c2a"), looks := false }, kinds := [], alts := [], laidByText := true, laidKinds := [.data, .data, .data], laidTests := true, laidLooks := .later }
def RoundOperatorsUptoCardSaid : Prop := Claim7.holds Tryz.pinned (.plain (OpenSpec.upto roundOperatorsSpec)) roundOperatorsUptoCard

/-- THE SECOND FORM's CARD OF 'entaillaw38.RoundComplex'. -/
def roundComplexUptoCard : Claim7 := { stood := { row := roundComplexUptoRow, standIns := [], harness := (true, "2b0525427bf680c8202ee9c0b085f5854cddcfae6b51b75755a5823558f75c2a"), looks := false }, kinds := [], alts := [], laidByText := true, laidKinds := [.data, .data, .data], laidTests := true, laidLooks := .later }
def RoundComplexUptoCardSaid : Prop := Claim7.holds Tryz.pinned (.plain (OpenSpec.upto roundComplexSpec)) roundComplexUptoCard

/-- THE SECOND FORM's CARD OF 'entaillaw38.RoundField'. -/
def roundFieldUptoCard : Claim7 := { stood := { row := roundFieldUptoRow, standIns := [], harness := (true, "2b0525427bf680c8202ee9c0b085f5854cddcfae6b51b75755a5823558f75c2a"), looks := false }, kinds := [], alts := [], laidByText := true, laidKinds := [.data, .data, .data], laidTests := true, laidLooks := .later }
def RoundFieldUptoCardSaid : Prop := Claim7.holds Tryz.pinned (.plain (OpenSpec.upto roundFieldSpec)) roundFieldUptoCard

/-- THE SECOND FORM's CARD OF 'entaillaw38.RoundExact'. -/
def roundExactUptoCard : Claim7 := { stood := { row := roundExactUptoRow, standIns := [], harness := (true, "2b0525427bf680c8202ee9c0b085f5854cddcfae6b51b75755a5823558f75c2a"), looks := false }, kinds := [], alts := [], laidByText := true, laidKinds := [.data, .data, .data], laidTests := true, laidLooks := .later }
def RoundExactUptoCardSaid : Prop := Claim7.holds Tryz.pinned (.plain (OpenSpec.upto roundExactSpec)) roundExactUptoCard

/-- THE SECOND FORM's CARD OF 'entaillaw38.RoundMonotone'. -/
def roundMonotoneUptoCard : Claim7 := { stood := { row := roundMonotoneUptoRow, standIns := [], harness := (true, "2b0525427bf680c8202ee9c0b085f5854cddcfae6b51b75755a5823558f75c2a"), looks := false }, kinds := [], alts := [], laidByText := true, laidKinds := [.data, .data, .data], laidTests := true, laidLooks := .later }
def RoundMonotoneUptoCardSaid : Prop := Claim7.holds Tryz.pinned (.plain (OpenSpec.upto roundMonotoneSpec)) roundMonotoneUptoCard
end Rows
end Go.Proofs.YtnjbinpbkjdjpaaGreatDoor
