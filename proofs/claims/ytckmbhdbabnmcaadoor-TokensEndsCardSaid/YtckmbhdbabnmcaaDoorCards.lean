/-
  DERIVED. GIVEN WITH THE SEED: THE CARDS: each row of YtckmbhdbabnmcaaDoorRows.lean that lists a variable, with what it lists TIED to the program's text (the seventh form; the later family's looks); each row that meets fmt, with fmt's text TOLD by the authors' own Lean function (tested against real Go, not proved from fmt's source: count such statements apart). THE CARD IS WHAT COUNTS. Prove the row's statement (the work); the ties are given (YtckmbhdbabnmcaaDoorTie.lean); close each card by the builder's one call (the guide's Derived/Test/ToyasCard.lean, 'card_holds'). Laid BY PROGRAM, IN A SANDBOX (cutbox-door.mjs). By AI agents, Wed Nov 11 2026. No macro, syntax, notation, axiom, sorry.
-/
import Derived.Test.YtckmbhdbabnmcaaDoorRows
import GoSem.ClaimSeven
namespace Go.Proofs.YtckmbhdbabnmcaaDoor
namespace Rows

/-- THE TIED CARD OF 'groundlinglaw11.TokensRecords'. -/
def tokensRecordsCard : Claim7 := { stood := { row := tokensRecordsRow, standIns := [], harness := (true, "13a6d20503648066ba77d5ba576978b4fe0cb8590cecc27cf7911df2a622b798"), looks := false }, kinds := [], alts := [], laidByText := true, laidKinds := [.data, .data], laidTests := true, laidLooks := .later }
def TokensRecordsCardSaid : Prop := Claim7.holds Tryd.pinned (.plain (OpenSpec.ofChange tokensRecordsSpec)) tokensRecordsCard

/-- THE TIED CARD OF 'groundlinglaw11.TokensIssues'. -/
def tokensIssuesCard : Claim7 := { stood := { row := tokensIssuesRow, standIns := [], harness := (true, "13a6d20503648066ba77d5ba576978b4fe0cb8590cecc27cf7911df2a622b798"), looks := false }, kinds := [], alts := [], laidByText := true, laidKinds := [.data, .data], laidTests := true, laidLooks := .later }
def TokensIssuesCardSaid : Prop := Claim7.holds Tryd.pinned (.plain (OpenSpec.ofChange tokensIssuesSpec)) tokensIssuesCard

/-- THE TIED CARD OF 'groundlinglaw11.TokensOpens'. -/
def tokensOpensCard : Claim7 := { stood := { row := tokensOpensRow, standIns := [], harness := (true, "13a6d20503648066ba77d5ba576978b4fe0cb8590cecc27cf7911df2a622b798"), looks := false }, kinds := [], alts := [], laidByText := true, laidKinds := [.data, .data], laidTests := true, laidLooks := .later }
def TokensOpensCardSaid : Prop := Claim7.holds Tryd.pinned (.plain (OpenSpec.ofChange tokensOpensSpec)) tokensOpensCard

/-- THE TIED CARD OF 'groundlinglaw11.TokensAccepts'. -/
def tokensAcceptsCard : Claim7 := { stood := { row := tokensAcceptsRow, standIns := [], harness := (true, "13a6d20503648066ba77d5ba576978b4fe0cb8590cecc27cf7911df2a622b798"), looks := false }, kinds := [], alts := [], laidByText := true, laidKinds := [.data, .data], laidTests := true, laidLooks := .later }
def TokensAcceptsCardSaid : Prop := Claim7.holds Tryd.pinned (.plain (OpenSpec.ofChange tokensAcceptsSpec)) tokensAcceptsCard

/-- THE TIED CARD OF 'groundlinglaw11.TokensGuarded'. -/
def tokensGuardedCard : Claim7 := { stood := { row := tokensGuardedRow, standIns := [], harness := (true, "13a6d20503648066ba77d5ba576978b4fe0cb8590cecc27cf7911df2a622b798"), looks := false }, kinds := [], alts := [], laidByText := true, laidKinds := [.data, .data], laidTests := true, laidLooks := .later }
def TokensGuardedCardSaid : Prop := Claim7.holds Tryd.pinned (.plain (OpenSpec.ofChange tokensGuardedSpec)) tokensGuardedCard

/-- THE TIED CARD OF 'groundlinglaw11.TokensEnds'. -/
def tokensEndsCard : Claim7 := { stood := { row := tokensEndsRow, standIns := [], harness := (true, "13a6d20503648066ba77d5ba576978b4fe0cb8590cecc27cf7911df2a622b798"), looks := false }, kinds := [], alts := [], laidByText := true, laidKinds := [.data, .data], laidTests := true, laidLooks := .later }
def TokensEndsCardSaid : Prop := Claim7.holds Tryd.pinned (.plain (OpenSpec.ofChange tokensEndsSpec)) tokensEndsCard

/-- THE TIED CARD OF 'groundlinglaw11.TokensKnown'. -/
def tokensKnownCard : Claim7 := { stood := { row := tokensKnownRow, standIns := [], harness := (true, "13a6d20503648066ba77d5ba576978b4fe0cb8590cecc27cf7911df2a622b798"), looks := false }, kinds := [], alts := [], laidByText := true, laidKinds := [.data, .data], laidTests := true, laidLooks := .later }
def TokensKnownCardSaid : Prop := Claim7.holds Tryd.pinned (.plain (OpenSpec.ofChange tokensKnownSpec)) tokensKnownCard

/-- THE SECOND FORM's CARD OF 'groundlinglaw11.TokensRecords'. -/
def tokensRecordsUptoCard : Claim7 := { stood := { row := tokensRecordsUptoRow, standIns := [], harness := (true, "13a6d20503648066ba77d5ba576978b4fe0cb8590cecc27cf7911df2a622b798"), looks := false }, kinds := [], alts := [], laidByText := true, laidKinds := [.data, .data], laidTests := true, laidLooks := .later }
def TokensRecordsUptoCardSaid : Prop := Claim7.holds Tryd.pinned (.plain (OpenSpec.upto tokensRecordsSpec)) tokensRecordsUptoCard

/-- THE SECOND FORM's CARD OF 'groundlinglaw11.TokensIssues'. -/
def tokensIssuesUptoCard : Claim7 := { stood := { row := tokensIssuesUptoRow, standIns := [], harness := (true, "13a6d20503648066ba77d5ba576978b4fe0cb8590cecc27cf7911df2a622b798"), looks := false }, kinds := [], alts := [], laidByText := true, laidKinds := [.data, .data], laidTests := true, laidLooks := .later }
def TokensIssuesUptoCardSaid : Prop := Claim7.holds Tryd.pinned (.plain (OpenSpec.upto tokensIssuesSpec)) tokensIssuesUptoCard

/-- THE SECOND FORM's CARD OF 'groundlinglaw11.TokensOpens'. -/
def tokensOpensUptoCard : Claim7 := { stood := { row := tokensOpensUptoRow, standIns := [], harness := (true, "13a6d20503648066ba77d5ba576978b4fe0cb8590cecc27cf7911df2a622b798"), looks := false }, kinds := [], alts := [], laidByText := true, laidKinds := [.data, .data], laidTests := true, laidLooks := .later }
def TokensOpensUptoCardSaid : Prop := Claim7.holds Tryd.pinned (.plain (OpenSpec.upto tokensOpensSpec)) tokensOpensUptoCard

/-- THE SECOND FORM's CARD OF 'groundlinglaw11.TokensAccepts'. -/
def tokensAcceptsUptoCard : Claim7 := { stood := { row := tokensAcceptsUptoRow, standIns := [], harness := (true, "13a6d20503648066ba77d5ba576978b4fe0cb8590cecc27cf7911df2a622b798"), looks := false }, kinds := [], alts := [], laidByText := true, laidKinds := [.data, .data], laidTests := true, laidLooks := .later }
def TokensAcceptsUptoCardSaid : Prop := Claim7.holds Tryd.pinned (.plain (OpenSpec.upto tokensAcceptsSpec)) tokensAcceptsUptoCard

/-- THE SECOND FORM's CARD OF 'groundlinglaw11.TokensGuarded'. -/
def tokensGuardedUptoCard : Claim7 := { stood := { row := tokensGuardedUptoRow, standIns := [], harness := (true, "13a6d20503648066ba77d5ba576978b4fe0cb8590cecc27cf7911df2a622b798"), looks := false }, kinds := [], alts := [], laidByText := true, laidKinds := [.data, .data], laidTests := true, laidLooks := .later }
def TokensGuardedUptoCardSaid : Prop := Claim7.holds Tryd.pinned (.plain (OpenSpec.upto tokensGuardedSpec)) tokensGuardedUptoCard

/-- THE SECOND FORM's CARD OF 'groundlinglaw11.TokensEnds'. -/
def tokensEndsUptoCard : Claim7 := { stood := { row := tokensEndsUptoRow, standIns := [], harness := (true, "13a6d20503648066ba77d5ba576978b4fe0cb8590cecc27cf7911df2a622b798"), looks := false }, kinds := [], alts := [], laidByText := true, laidKinds := [.data, .data], laidTests := true, laidLooks := .later }
def TokensEndsUptoCardSaid : Prop := Claim7.holds Tryd.pinned (.plain (OpenSpec.upto tokensEndsSpec)) tokensEndsUptoCard

/-- THE SECOND FORM's CARD OF 'groundlinglaw11.TokensKnown'. -/
def tokensKnownUptoCard : Claim7 := { stood := { row := tokensKnownUptoRow, standIns := [], harness := (true, "13a6d20503648066ba77d5ba576978b4fe0cb8590cecc27cf7911df2a622b798"), looks := false }, kinds := [], alts := [], laidByText := true, laidKinds := [.data, .data], laidTests := true, laidLooks := .later }
def TokensKnownUptoCardSaid : Prop := Claim7.holds Tryd.pinned (.plain (OpenSpec.upto tokensKnownSpec)) tokensKnownUptoCard
end Rows
end Go.Proofs.YtckmbhdbabnmcaaDoor
