/-
  DERIVED. GIVEN WITH THE SEED: THE CARDS: each row of YtdmaephmkfmehaaGreatDoorRows.lean that lists a variable, with what it lists TIED to the program's text (the seventh form; the later family's looks); each row that meets fmt, with fmt's text TOLD by the authors' own Lean function (tested against real Go, not proved from fmt's source: count such statements apart). THE CARD IS WHAT COUNTS. Prove the row's statement (the work); the ties are given (YtdmaephmkfmehaaGreatDoorTie.lean); close each card by the builder's one call (the guide's Derived/Test/ToyasCard.lean, 'card_holds'). Laid BY PROGRAM, IN A SANDBOX (cutbox-door.mjs). By AI agents, Wed Nov 11 2026. No macro, syntax, notation, axiom, sorry.
-/
import Derived.Test.YtdmaephmkfmehaaGreatDoorRows
import GoSem.ClaimSeven
namespace Go.Proofs.YtdmaephmkfmehaaGreatDoor
namespace Rows

/-- THE TIED CARD OF 'groundlinglaw21.PromoteTicks'. -/
def promoteTicksCard : Claim7 := { stood := { row := promoteTicksRow, standIns := [], harness := (true, "36415a6b7bb573e87f2be7100e85d5b96ef317fc7bc8e688f59eac3bef06106e"), looks := true }, kinds := [], alts := [], laidByText := true, laidKinds := [.data, .pinned], laidTests := true, laidLooks := .later }
def PromoteTicksCardSaid : Prop := Claim7.holds Tryz.pinned (.plain (OpenSpec.ofChange promoteTicksSpec)) promoteTicksCard

/-- THE TIED CARD OF 'groundlinglaw21.PromoteJust'. -/
def promoteJustCard : Claim7 := { stood := { row := promoteJustRow, standIns := [], harness := (true, "36415a6b7bb573e87f2be7100e85d5b96ef317fc7bc8e688f59eac3bef06106e"), looks := true }, kinds := [], alts := [], laidByText := true, laidKinds := [.data, .pinned], laidTests := true, laidLooks := .later }
def PromoteJustCardSaid : Prop := Claim7.holds Tryz.pinned (.plain (OpenSpec.ofChange promoteJustSpec)) promoteJustCard

/-- THE TIED CARD OF 'groundlinglaw21.PromoteOffers'. -/
def promoteOffersCard : Claim7 := { stood := { row := promoteOffersRow, standIns := [], harness := (true, "36415a6b7bb573e87f2be7100e85d5b96ef317fc7bc8e688f59eac3bef06106e"), looks := true }, kinds := [], alts := [], laidByText := true, laidKinds := [.data, .pinned], laidTests := true, laidLooks := .later }
def PromoteOffersCardSaid : Prop := Claim7.holds Tryz.pinned (.plain (OpenSpec.ofChange promoteOffersSpec)) promoteOffersCard

/-- THE TIED CARD OF 'groundlinglaw21.PromoteEnds'. -/
def promoteEndsCard : Claim7 := { stood := { row := promoteEndsRow, standIns := [], harness := (true, "36415a6b7bb573e87f2be7100e85d5b96ef317fc7bc8e688f59eac3bef06106e"), looks := true }, kinds := [], alts := [], laidByText := true, laidKinds := [.data, .pinned], laidTests := true, laidLooks := .later }
def PromoteEndsCardSaid : Prop := Claim7.holds Tryz.pinned (.plain (OpenSpec.ofChange promoteEndsSpec)) promoteEndsCard

/-- THE TIED CARD OF 'groundlinglaw21.PromoteFairs'. -/
def promoteFairsCard : Claim7 := { stood := { row := promoteFairsRow, standIns := [], harness := (true, "36415a6b7bb573e87f2be7100e85d5b96ef317fc7bc8e688f59eac3bef06106e"), looks := true }, kinds := [], alts := [], laidByText := true, laidKinds := [.data, .pinned], laidTests := true, laidLooks := .later }
def PromoteFairsCardSaid : Prop := Claim7.holds Tryz.pinned (.plain (OpenSpec.ofChange promoteFairsSpec)) promoteFairsCard

/-- THE TIED CARD OF 'groundlinglaw21.PromoteOrder'. -/
def promoteOrderCard : Claim7 := { stood := { row := promoteOrderRow, standIns := [], harness := (true, "36415a6b7bb573e87f2be7100e85d5b96ef317fc7bc8e688f59eac3bef06106e"), looks := true }, kinds := [], alts := [], laidByText := true, laidKinds := [.data, .pinned], laidTests := true, laidLooks := .later }
def PromoteOrderCardSaid : Prop := Claim7.holds Tryz.pinned (.plain (OpenSpec.ofChange promoteOrderSpec)) promoteOrderCard

/-- THE TIED CARD OF 'groundlinglaw21.PromoteSteps'. -/
def promoteStepsCard : Claim7 := { stood := { row := promoteStepsRow, standIns := [], harness := (true, "36415a6b7bb573e87f2be7100e85d5b96ef317fc7bc8e688f59eac3bef06106e"), looks := true }, kinds := [], alts := [], laidByText := true, laidKinds := [.data, .pinned], laidTests := true, laidLooks := .later }
def PromoteStepsCardSaid : Prop := Claim7.holds Tryz.pinned (.plain (OpenSpec.ofChange promoteStepsSpec)) promoteStepsCard

/-- THE SECOND FORM's CARD OF 'groundlinglaw21.PromoteTicks'. -/
def promoteTicksUptoCard : Claim7 := { stood := { row := promoteTicksUptoRow, standIns := [], harness := (true, "36415a6b7bb573e87f2be7100e85d5b96ef317fc7bc8e688f59eac3bef06106e"), looks := true }, kinds := [], alts := [], laidByText := true, laidKinds := [.data, .pinned], laidTests := true, laidLooks := .later }
def PromoteTicksUptoCardSaid : Prop := Claim7.holds Tryz.pinned (.plain (OpenSpec.upto promoteTicksSpec)) promoteTicksUptoCard

/-- THE SECOND FORM's CARD OF 'groundlinglaw21.PromoteJust'. -/
def promoteJustUptoCard : Claim7 := { stood := { row := promoteJustUptoRow, standIns := [], harness := (true, "36415a6b7bb573e87f2be7100e85d5b96ef317fc7bc8e688f59eac3bef06106e"), looks := true }, kinds := [], alts := [], laidByText := true, laidKinds := [.data, .pinned], laidTests := true, laidLooks := .later }
def PromoteJustUptoCardSaid : Prop := Claim7.holds Tryz.pinned (.plain (OpenSpec.upto promoteJustSpec)) promoteJustUptoCard

/-- THE SECOND FORM's CARD OF 'groundlinglaw21.PromoteOffers'. -/
def promoteOffersUptoCard : Claim7 := { stood := { row := promoteOffersUptoRow, standIns := [], harness := (true, "36415a6b7bb573e87f2be7100e85d5b96ef317fc7bc8e688f59eac3bef06106e"), looks := true }, kinds := [], alts := [], laidByText := true, laidKinds := [.data, .pinned], laidTests := true, laidLooks := .later }
def PromoteOffersUptoCardSaid : Prop := Claim7.holds Tryz.pinned (.plain (OpenSpec.upto promoteOffersSpec)) promoteOffersUptoCard

/-- THE SECOND FORM's CARD OF 'groundlinglaw21.PromoteEnds'. -/
def promoteEndsUptoCard : Claim7 := { stood := { row := promoteEndsUptoRow, standIns := [], harness := (true, "36415a6b7bb573e87f2be7100e85d5b96ef317fc7bc8e688f59eac3bef06106e"), looks := true }, kinds := [], alts := [], laidByText := true, laidKinds := [.data, .pinned], laidTests := true, laidLooks := .later }
def PromoteEndsUptoCardSaid : Prop := Claim7.holds Tryz.pinned (.plain (OpenSpec.upto promoteEndsSpec)) promoteEndsUptoCard

/-- THE SECOND FORM's CARD OF 'groundlinglaw21.PromoteFairs'. -/
def promoteFairsUptoCard : Claim7 := { stood := { row := promoteFairsUptoRow, standIns := [], harness := (true, "36415a6b7bb573e87f2be7100e85d5b96ef317fc7bc8e688f59eac3bef06106e"), looks := true }, kinds := [], alts := [], laidByText := true, laidKinds := [.data, .pinned], laidTests := true, laidLooks := .later }
def PromoteFairsUptoCardSaid : Prop := Claim7.holds Tryz.pinned (.plain (OpenSpec.upto promoteFairsSpec)) promoteFairsUptoCard

/-- THE SECOND FORM's CARD OF 'groundlinglaw21.PromoteOrder'. -/
def promoteOrderUptoCard : Claim7 := { stood := { row := promoteOrderUptoRow, standIns := [], harness := (true, "36415a6b7bb573e87f2be7100e85d5b96ef317fc7bc8e688f59eac3bef06106e"), looks := true }, kinds := [], alts := [], laidByText := true, laidKinds := [.data, .pinned], laidTests := true, laidLooks := .later }
def PromoteOrderUptoCardSaid : Prop := Claim7.holds Tryz.pinned (.plain (OpenSpec.upto promoteOrderSpec)) promoteOrderUptoCard

/-- THE SECOND FORM's CARD OF 'groundlinglaw21.PromoteSteps'. -/
def promoteStepsUptoCard : Claim7 := { stood := { row := promoteStepsUptoRow, standIns := [], harness := (true, "36415a6b7bb573e87f2be7100e85d5b96ef317fc7bc8e688f59eac3bef06106e"), looks := true }, kinds := [], alts := [], laidByText := true, laidKinds := [.data, .pinned], laidTests := true, laidLooks := .later }
def PromoteStepsUptoCardSaid : Prop := Claim7.holds Tryz.pinned (.plain (OpenSpec.upto promoteStepsSpec)) promoteStepsUptoCard
end Rows
end Go.Proofs.YtdmaephmkfmehaaGreatDoor
