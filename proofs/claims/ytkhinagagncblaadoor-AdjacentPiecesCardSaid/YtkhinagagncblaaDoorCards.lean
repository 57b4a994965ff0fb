/-
  DERIVED. GIVEN WITH THE SEED: THE CARDS: each row of YtkhinagagncblaaDoorRows.lean that lists a variable, with what it lists TIED to the program's text (the seventh form; the later family's looks); each row that meets fmt, with fmt's text TOLD by the authors' own Lean function (tested against real Go, not proved from fmt's source: count such statements apart). THE CARD IS WHAT COUNTS. Prove the row's statement (the work); the ties are given (YtkhinagagncblaaDoorTie.lean); close each card by the builder's one call (the guide's Derived/Test/ToyasCard.lean, 'card_holds'). Laid BY PROGRAM, IN A SANDBOX (cutbox-door.mjs). By AI agents, Wed Nov 11 2026. No macro, syntax, notation, axiom, sorry.
-/
import Derived.Test.YtkhinagagncblaaDoorRows
import GoSem.ClaimSeven
namespace Go.Proofs.YtkhinagagncblaaDoor
namespace Rows

/-- THE TIED CARD OF 'groundlinglaw19.AdjacentRuns'. -/
def adjacentRunsCard : Claim7 := { stood := { row := adjacentRunsRow, standIns := [], harness := (true, "162193453a66ebf7fc2b947f48a479037259ecdb553b752b3026f23458d31b4c"), looks := false }, kinds := [], alts := [], laidByText := true, laidKinds := [.data, .pinned], laidTests := true, laidLooks := .later }
def AdjacentRunsCardSaid : Prop := Claim7.holds Tryd.pinned (.plain (OpenSpec.ofChange adjacentRunsSpec)) adjacentRunsCard

/-- THE TIED CARD OF 'groundlinglaw19.AdjacentBest'. -/
def adjacentBestCard : Claim7 := { stood := { row := adjacentBestRow, standIns := [], harness := (true, "162193453a66ebf7fc2b947f48a479037259ecdb553b752b3026f23458d31b4c"), looks := false }, kinds := [], alts := [], laidByText := true, laidKinds := [.data, .pinned], laidTests := true, laidLooks := .later }
def AdjacentBestCardSaid : Prop := Claim7.holds Tryd.pinned (.plain (OpenSpec.ofChange adjacentBestSpec)) adjacentBestCard

/-- THE TIED CARD OF 'groundlinglaw19.AdjacentLeast'. -/
def adjacentLeastCard : Claim7 := { stood := { row := adjacentLeastRow, standIns := [], harness := (true, "162193453a66ebf7fc2b947f48a479037259ecdb553b752b3026f23458d31b4c"), looks := false }, kinds := [], alts := [], laidByText := true, laidKinds := [.data, .pinned], laidTests := true, laidLooks := .later }
def AdjacentLeastCardSaid : Prop := Claim7.holds Tryd.pinned (.plain (OpenSpec.ofChange adjacentLeastSpec)) adjacentLeastCard

/-- THE TIED CARD OF 'groundlinglaw19.AdjacentMore'. -/
def adjacentMoreCard : Claim7 := { stood := { row := adjacentMoreRow, standIns := [], harness := (true, "162193453a66ebf7fc2b947f48a479037259ecdb553b752b3026f23458d31b4c"), looks := false }, kinds := [], alts := [], laidByText := true, laidKinds := [.data, .pinned], laidTests := true, laidLooks := .later }
def AdjacentMoreCardSaid : Prop := Claim7.holds Tryd.pinned (.plain (OpenSpec.ofChange adjacentMoreSpec)) adjacentMoreCard

/-- THE TIED CARD OF 'groundlinglaw19.AdjacentPieces'. -/
def adjacentPiecesCard : Claim7 := { stood := { row := adjacentPiecesRow, standIns := [], harness := (true, "162193453a66ebf7fc2b947f48a479037259ecdb553b752b3026f23458d31b4c"), looks := false }, kinds := [], alts := [], laidByText := true, laidKinds := [.data, .pinned], laidTests := true, laidLooks := .later }
def AdjacentPiecesCardSaid : Prop := Claim7.holds Tryd.pinned (.plain (OpenSpec.ofChange adjacentPiecesSpec)) adjacentPiecesCard

/-- THE TIED CARD OF 'groundlinglaw19.AdjacentCover'. -/
def adjacentCoverCard : Claim7 := { stood := { row := adjacentCoverRow, standIns := [], harness := (true, "162193453a66ebf7fc2b947f48a479037259ecdb553b752b3026f23458d31b4c"), looks := false }, kinds := [], alts := [], laidByText := true, laidKinds := [.data, .pinned], laidTests := true, laidLooks := .later }
def AdjacentCoverCardSaid : Prop := Claim7.holds Tryd.pinned (.plain (OpenSpec.ofChange adjacentCoverSpec)) adjacentCoverCard

/-- THE SECOND FORM's CARD OF 'groundlinglaw19.AdjacentRuns'. -/
def adjacentRunsUptoCard : Claim7 := { stood := { row := adjacentRunsUptoRow, standIns := [], harness := (true, "162193453a66ebf7fc2b947f48a479037259ecdb553b752b3026f23458d31b4c"), looks := false }, kinds := [], alts := [], laidByText := true, laidKinds := [.data, .pinned], laidTests := true, laidLooks := .later }
def AdjacentRunsUptoCardSaid : Prop := Claim7.holds Tryd.pinned (.plain (OpenSpec.upto adjacentRunsSpec)) adjacentRunsUptoCard

/-- THE SECOND FORM's CARD OF 'groundlinglaw19.AdjacentBest'. -/
def adjacentBestUptoCard : Claim7 := { stood := { row := adjacentBestUptoRow, standIns := [], harness := (true, "162193453a66ebf7fc2b947f48a479037259ecdb553b752b3026f23458d31b4c"), looks := false }, kinds := [], alts := [], laidByText := true, laidKinds := [.data, .pinned], laidTests := true, laidLooks := .later }
def AdjacentBestUptoCardSaid : Prop := Claim7.holds Tryd.pinned (.plain (OpenSpec.upto adjacentBestSpec)) adjacentBestUptoCard

/-- THE SECOND FORM's CARD OF 'groundlinglaw19.AdjacentLeast'. -/
def adjacentLeastUptoCard : Claim7 := { stood := { row := adjacentLeastUptoRow, standIns := [], harness := (true, "162193453a66ebf7fc2b947f48a479037259ecdb553b752b3026f23458d31b4c"), looks := false }, kinds := [], alts := [], laidByText := true, laidKinds := [.data, .pinned], laidTests := true, laidLooks := .later }
def AdjacentLeastUptoCardSaid : Prop := Claim7.holds Tryd.pinned (.plain (OpenSpec.upto adjacentLeastSpec)) adjacentLeastUptoCard

/-- THE SECOND FORM's CARD OF 'groundlinglaw19.AdjacentMore'. -/
def adjacentMoreUptoCard : Claim7 := { stood := { row := adjacentMoreUptoRow, standIns := [], harness := (true, "162193453a66ebf7fc2b947f48a479037259ecdb553b752b3026f23458d31b4c"), looks := false }, kinds := [], alts := [], laidByText := true, laidKinds := [.data, .pinned], laidTests := true, laidLooks := .later }
def AdjacentMoreUptoCardSaid : Prop := Claim7.holds Tryd.pinned (.plain (OpenSpec.upto adjacentMoreSpec)) adjacentMoreUptoCard

/-- THE SECOND FORM's CARD OF 'groundlinglaw19.AdjacentPieces'. -/
def adjacentPiecesUptoCard : Claim7 := { stood := { row := adjacentPiecesUptoRow, standIns := [], harness := (true, "162193453a66ebf7fc2b947f48a479037259ecdb553b752b3026f23458d31b4c"), looks := false }, kinds := [], alts := [], laidByText := true, laidKinds := [.data, .pinned], laidTests := true, laidLooks := .later }
def AdjacentPiecesUptoCardSaid : Prop := Claim7.holds Tryd.pinned (.plain (OpenSpec.upto adjacentPiecesSpec)) adjacentPiecesUptoCard

/-- THE SECOND FORM's CARD OF 'groundlinglaw19.AdjacentCover'. -/
def adjacentCoverUptoCard : Claim7 := { stood := { row := adjacentCoverUptoRow, standIns := [], harness := (true, "162193453a66ebf7fc2b947f48a479037259ecdb553b752b3026f23458d31b4c"), looks := false }, kinds := [], alts := [], laidByText := true, laidKinds := [.data, .pinned], laidTests := true, laidLooks := .later }
def AdjacentCoverUptoCardSaid : Prop := Claim7.holds Tryd.pinned (.plain (OpenSpec.upto adjacentCoverSpec)) adjacentCoverUptoCard
end Rows
end Go.Proofs.YtkhinagagncblaaDoor
