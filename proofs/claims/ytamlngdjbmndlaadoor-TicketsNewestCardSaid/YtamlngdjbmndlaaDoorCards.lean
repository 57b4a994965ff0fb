/-
  DERIVED. GIVEN WITH THE SEED: THE CARDS: each row of YtamlngdjbmndlaaDoorRows.lean that lists a variable, with what it lists TIED to the program's text (the seventh form; the later family's looks); each row that meets fmt, with fmt's text TOLD by the authors' own Lean function (tested against real Go, not proved from fmt's source: count such statements apart). THE CARD IS WHAT COUNTS. Prove the row's statement (the work); the ties are given (YtamlngdjbmndlaaDoorTie.lean); close each card by the builder's one call (the guide's Derived/Test/ToyasCard.lean, 'card_holds'). Laid BY PROGRAM, IN A SANDBOX (cutbox-door.mjs). By AI agents, Wed Nov 11 2026. No macro, syntax, notation, axiom, sorry.
-/
import Derived.Test.YtamlngdjbmndlaaDoorRows
import GoSem.ClaimSeven
namespace Go.Proofs.YtamlngdjbmndlaaDoor
namespace Rows

/-- THE TIED CARD OF 'groundlinglaw12.TicketsRecords'. -/
def ticketsRecordsCard : Claim7 := { stood := { row := ticketsRecordsRow, standIns := [], harness := (true, "32ed141cb9f18191e4dfd136658b24e3557695fad412752c6c01debe3cb3b195"), looks := false }, kinds := [], alts := [], laidByText := true, laidKinds := [.data, .data], laidTests := true, laidLooks := .later }
def TicketsRecordsCardSaid : Prop := Claim7.holds Tryd.pinned (.plain (OpenSpec.ofChange ticketsRecordsSpec)) ticketsRecordsCard

/-- THE TIED CARD OF 'groundlinglaw12.TicketsIssues'. -/
def ticketsIssuesCard : Claim7 := { stood := { row := ticketsIssuesRow, standIns := [], harness := (true, "32ed141cb9f18191e4dfd136658b24e3557695fad412752c6c01debe3cb3b195"), looks := false }, kinds := [], alts := [], laidByText := true, laidKinds := [.data, .data], laidTests := true, laidLooks := .later }
def TicketsIssuesCardSaid : Prop := Claim7.holds Tryd.pinned (.plain (OpenSpec.ofChange ticketsIssuesSpec)) ticketsIssuesCard

/-- THE TIED CARD OF 'groundlinglaw12.TicketsOpens'. -/
def ticketsOpensCard : Claim7 := { stood := { row := ticketsOpensRow, standIns := [], harness := (true, "32ed141cb9f18191e4dfd136658b24e3557695fad412752c6c01debe3cb3b195"), looks := false }, kinds := [], alts := [], laidByText := true, laidKinds := [.data, .data], laidTests := true, laidLooks := .later }
def TicketsOpensCardSaid : Prop := Claim7.holds Tryd.pinned (.plain (OpenSpec.ofChange ticketsOpensSpec)) ticketsOpensCard

/-- THE TIED CARD OF 'groundlinglaw12.TicketsGuarded'. -/
def ticketsGuardedCard : Claim7 := { stood := { row := ticketsGuardedRow, standIns := [], harness := (true, "32ed141cb9f18191e4dfd136658b24e3557695fad412752c6c01debe3cb3b195"), looks := false }, kinds := [], alts := [], laidByText := true, laidKinds := [.data, .data], laidTests := true, laidLooks := .later }
def TicketsGuardedCardSaid : Prop := Claim7.holds Tryd.pinned (.plain (OpenSpec.ofChange ticketsGuardedSpec)) ticketsGuardedCard

/-- THE TIED CARD OF 'groundlinglaw12.TicketsNewest'. -/
def ticketsNewestCard : Claim7 := { stood := { row := ticketsNewestRow, standIns := [], harness := (true, "32ed141cb9f18191e4dfd136658b24e3557695fad412752c6c01debe3cb3b195"), looks := false }, kinds := [], alts := [], laidByText := true, laidKinds := [.data, .data], laidTests := true, laidLooks := .later }
def TicketsNewestCardSaid : Prop := Claim7.holds Tryd.pinned (.plain (OpenSpec.ofChange ticketsNewestSpec)) ticketsNewestCard

/-- THE TIED CARD OF 'groundlinglaw12.TicketsKnown'. -/
def ticketsKnownCard : Claim7 := { stood := { row := ticketsKnownRow, standIns := [], harness := (true, "32ed141cb9f18191e4dfd136658b24e3557695fad412752c6c01debe3cb3b195"), looks := false }, kinds := [], alts := [], laidByText := true, laidKinds := [.data, .data], laidTests := true, laidLooks := .later }
def TicketsKnownCardSaid : Prop := Claim7.holds Tryd.pinned (.plain (OpenSpec.ofChange ticketsKnownSpec)) ticketsKnownCard

/-- THE TIED CARD OF 'groundlinglaw12.TicketsApart'. -/
def ticketsApartCard : Claim7 := { stood := { row := ticketsApartRow, standIns := [], harness := (true, "32ed141cb9f18191e4dfd136658b24e3557695fad412752c6c01debe3cb3b195"), looks := false }, kinds := [], alts := [], laidByText := true, laidKinds := [.data, .data], laidTests := true, laidLooks := .later }
def TicketsApartCardSaid : Prop := Claim7.holds Tryd.pinned (.plain (OpenSpec.ofChange ticketsApartSpec)) ticketsApartCard

/-- THE SECOND FORM's CARD OF 'groundlinglaw12.TicketsRecords'. -/
def ticketsRecordsUptoCard : Claim7 := { stood := { row := ticketsRecordsUptoRow, standIns := [], harness := (true, "32ed141cb9f18191e4dfd136658b24e3557695fad412752c6c01debe3cb3b195"), looks := false }, kinds := [], alts := [], laidByText := true, laidKinds := [.data, .data], laidTests := true, laidLooks := .later }
def TicketsRecordsUptoCardSaid : Prop := Claim7.holds Tryd.pinned (.plain (OpenSpec.upto ticketsRecordsSpec)) ticketsRecordsUptoCard

/-- THE SECOND FORM's CARD OF 'groundlinglaw12.TicketsIssues'. -/
def ticketsIssuesUptoCard : Claim7 := { stood := { row := ticketsIssuesUptoRow, standIns := [], harness := (true, "32ed141cb9f18191e4dfd136658b24e3557695fad412752c6c01debe3cb3b195"), looks := false }, kinds := [], alts := [], laidByText := true, laidKinds := [.data, .data], laidTests := true, laidLooks := .later }
def TicketsIssuesUptoCardSaid : Prop := Claim7.holds Tryd.pinned (.plain (OpenSpec.upto ticketsIssuesSpec)) ticketsIssuesUptoCard

/-- THE SECOND FORM's CARD OF 'groundlinglaw12.TicketsOpens'. -/
def ticketsOpensUptoCard : Claim7 := { stood := { row := ticketsOpensUptoRow, standIns := [], harness := (true, "32ed141cb9f18191e4dfd136658b24e3557695fad412752c6c01debe3cb3b195"), looks := false }, kinds := [], alts := [], laidByText := true, laidKinds := [.data, .data], laidTests := true, laidLooks := .later }
def TicketsOpensUptoCardSaid : Prop := Claim7.holds Tryd.pinned (.plain (OpenSpec.upto ticketsOpensSpec)) ticketsOpensUptoCard

/-- THE SECOND FORM's CARD OF 'groundlinglaw12.TicketsGuarded'. -/
def ticketsGuardedUptoCard : Claim7 := { stood := { row := ticketsGuardedUptoRow, standIns := [], harness := (true, "32ed141cb9f18191e4dfd136658b24e3557695fad412752c6c01debe3cb3b195"), looks := false }, kinds := [], alts := [], laidByText := true, laidKinds := [.data, .data], laidTests := true, laidLooks := .later }
def TicketsGuardedUptoCardSaid : Prop := Claim7.holds Tryd.pinned (.plain (OpenSpec.upto ticketsGuardedSpec)) ticketsGuardedUptoCard

/-- THE SECOND FORM's CARD OF 'groundlinglaw12.TicketsNewest'. -/
def ticketsNewestUptoCard : Claim7 := { stood := { row := ticketsNewestUptoRow, standIns := [], harness := (true, "32ed141cb9f18191e4dfd136658b24e3557695fad412752c6c01debe3cb3b195"), looks := false }, kinds := [], alts := [], laidByText := true, laidKinds := [.data, .data], laidTests := true, laidLooks := .later }
def TicketsNewestUptoCardSaid : Prop := Claim7.holds Tryd.pinned (.plain (OpenSpec.upto ticketsNewestSpec)) ticketsNewestUptoCard

/-- THE SECOND FORM's CARD OF 'groundlinglaw12.TicketsKnown'. -/
def ticketsKnownUptoCard : Claim7 := { stood := { row := ticketsKnownUptoRow, standIns := [], harness := (true, "32ed141cb9f18191e4dfd136658b24e3557695fad412752c6c01debe3cb3b195"), looks := false }, kinds := [], alts := [], laidByText := true, laidKinds := [.data, .data], laidTests := true, laidLooks := .later }
def TicketsKnownUptoCardSaid : Prop := Claim7.holds Tryd.pinned (.plain (OpenSpec.upto ticketsKnownSpec)) ticketsKnownUptoCard

/-- THE SECOND FORM's CARD OF 'groundlinglaw12.TicketsApart'. -/
def ticketsApartUptoCard : Claim7 := { stood := { row := ticketsApartUptoRow, standIns := [], harness := (true, "32ed141cb9f18191e4dfd136658b24e3557695fad412752c6c01debe3cb3b195"), looks := false }, kinds := [], alts := [], laidByText := true, laidKinds := [.data, .data], laidTests := true, laidLooks := .later }
def TicketsApartUptoCardSaid : Prop := Claim7.holds Tryd.pinned (.plain (OpenSpec.upto ticketsApartSpec)) ticketsApartUptoCard
end Rows
end Go.Proofs.YtamlngdjbmndlaaDoor
