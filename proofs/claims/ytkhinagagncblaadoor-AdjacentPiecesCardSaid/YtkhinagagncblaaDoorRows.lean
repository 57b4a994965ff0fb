/-
  NARROWER THAN 'FOR EVERY INPUT', by the rows' own cells (each row's printed sentence says how): AdjacentRuns: laid · AdjacentBest: laid · AdjacentLeast: laid · AdjacentMore: laid · AdjacentPieces: laid · AdjacentCover: laid.
  DERIVED. THE GIVEN ROWS OF THIS SEAT. 6 by the template 'for every input the law returns true; each argument reads behind the call as it read before'; 0 by the template 'total and deterministic' (their statements: YtkhinagagncblaaDoorTotals.lean).
  GIVEN WITH THE SEED: the statements are not yours to turn. If you find one false, say at which input.
  Laid BY PROGRAM, IN A SANDBOX (cutbox-rows.mjs): the forced cells as the released guide's own fill.sh prints them over the translation 466dc7ff4dfaa32d… (all of the seat's roots in one cut). By AI agents, Wed Nov 11 2026. No macro, syntax, notation, axiom, sorry.
-/
import Derived.Test.YtkhinagagncblaaDoorChecked
import GoSem.PinnedTables
import GoSem.Claim
import GoSem.ClaimJoined
import GoSem.ClaimMapViews
import Derived.JoinedTies
import Derived.KernelRfl
namespace Go.Proofs.YtkhinagagncblaaDoor
/- THE CELL 'sum', in the pinned program and in every row, IS THE sha256 OF THE DUMP (.gsa) THAT YtkhinagagncblaaDoorProg.lean LOADS. Nothing in Lean hashes anything: it is a label: what it is worth is what the hold of that sum in a sandbox is worth. -/
noncomputable def Tryd.pinned : Pinned := { name := "ytkhinagagncblaadoor", sum := "466dc7ff4dfaa32dbdd34fe4561b7986ddca7b2dbd5aaa9ea94751fb1fd16269", checked := Tryd.checked }
namespace Rows
def none {H : Type} : Left H := { results := [], args := [] }

/- WHAT THE LISTED PACKAGE-LEVEL VARIABLES READ AS WHEN THE CALL BEGINS. Each datum BY PROGRAM (the guide's laid-datum.mjs) off the statement by which the dump's own 'gosem.cut.vars' lays the variable. In a bare row this is a premise. The card (YtkhinagagncblaaDoorCards.lean) ties it to the program's text. -/
def laid_unicode_utf8_acceptRanges {H : Type} : DataW H := .agg [.agg [.lit (.int .u8 128), .lit (.int .u8 191)], .agg [.lit (.int .u8 160), .lit (.int .u8 191)], .agg [.lit (.int .u8 128), .lit (.int .u8 159)], .agg [.lit (.int .u8 144), .lit (.int .u8 191)], .agg [.lit (.int .u8 128), .lit (.int .u8 143)], .agg [.lit (.int .u8 0), .lit (.int .u8 0)], .agg [.lit (.int .u8 0), .lit (.int .u8 0)], .agg [.lit (.int .u8 0), .lit (.int .u8 0)], .agg [.lit (.int .u8 0), .lit (.int .u8 0)], .agg [.lit (.int .u8 0), .lit (.int .u8 0)], .agg [.lit (.int .u8 0), .lit (.int .u8 0)], .agg [.lit (.int .u8 0), .lit (.int .u8 0)], .agg [.lit (.int .u8 0), .lit (.int .u8 0)], .agg [.lit (.int .u8 0), .lit (.int .u8 0)], .agg [.lit (.int .u8 0), .lit (.int .u8 0)], .agg [.lit (.int .u8 0), .lit (.int .u8 0)]]
/-- One of Go's own tables, pinned by name: the form's constant. -/
def laid_unicode_utf8_first : DataW Unit := Go.Pinned.utf8First

/-- 'groundlinglaw19.AdjacentRuns': WHATEVER THE INPUT: true; the input reads as it did. -/
def adjacentRunsSpec : ChangeSpec := { name := "adjacentRuns", fn := fun _ => fun
  | [d1, d2, d3] => { results := [.lit (.bool true)], args := [d1, d2, d3] }
  | _ => none }
def adjacentRunsRow : OpenClaim := { program := "ytkhinagagncblaadoor", sum := "466dc7ff4dfaa32dbdd34fe4561b7986ddca7b2dbd5aaa9ea94751fb1fd16269", func := "groundling/groundlinglaw19.AdjacentRuns", spec := "adjacentRuns", inPlace := ["internal/bytealg.IndexByteString", "internal/bytealg.IndexString"], unfollowed := true, recurses := true, named := ["unicode/utf8.first", "unicode/utf8.acceptRanges", "internal/bytealg.MaxLen"], apart := false, laid := [("unicode/utf8.acceptRanges", laid_unicode_utf8_acceptRanges), ("unicode/utf8.first", laid_unicode_utf8_first)] }
def AdjacentRunsSaid : Prop := adjacentRunsRow.holds Tryd.pinned (OpenSpec.ofChange adjacentRunsSpec)

/-- ITS FALSE NEIGHBOUR: 'it returns false'. Refute it at one input. -/
def adjacentRunsWrong : ChangeSpec := { name := "adjacentRuns", fn := fun _ => fun
  | [d1, d2, d3] => { results := [.lit (.bool false)], args := [d1, d2, d3] }
  | _ => none }
def AdjacentRunsWrongFalsely : Prop := adjacentRunsRow.holds Tryd.pinned (OpenSpec.ofChange adjacentRunsWrong)

/-- 'groundlinglaw19.AdjacentBest': WHATEVER THE INPUT: true; the input reads as it did. -/
def adjacentBestSpec : ChangeSpec := { name := "adjacentBest", fn := fun _ => fun
  | [d1, d2, d3] => { results := [.lit (.bool true)], args := [d1, d2, d3] }
  | _ => none }
def adjacentBestRow : OpenClaim := { program := "ytkhinagagncblaadoor", sum := "466dc7ff4dfaa32dbdd34fe4561b7986ddca7b2dbd5aaa9ea94751fb1fd16269", func := "groundling/groundlinglaw19.AdjacentBest", spec := "adjacentBest", inPlace := ["internal/bytealg.IndexByteString", "internal/bytealg.IndexString"], unfollowed := true, recurses := true, named := ["unicode/utf8.first", "unicode/utf8.acceptRanges", "internal/bytealg.MaxLen"], apart := false, laid := [("unicode/utf8.acceptRanges", laid_unicode_utf8_acceptRanges), ("unicode/utf8.first", laid_unicode_utf8_first)] }
def AdjacentBestSaid : Prop := adjacentBestRow.holds Tryd.pinned (OpenSpec.ofChange adjacentBestSpec)

/-- ITS FALSE NEIGHBOUR: 'it returns false'. Refute it at one input. -/
def adjacentBestWrong : ChangeSpec := { name := "adjacentBest", fn := fun _ => fun
  | [d1, d2, d3] => { results := [.lit (.bool false)], args := [d1, d2, d3] }
  | _ => none }
def AdjacentBestWrongFalsely : Prop := adjacentBestRow.holds Tryd.pinned (OpenSpec.ofChange adjacentBestWrong)

/-- 'groundlinglaw19.AdjacentLeast': WHATEVER THE INPUT: true; the input reads as it did. -/
def adjacentLeastSpec : ChangeSpec := { name := "adjacentLeast", fn := fun _ => fun
  | [d1, d2, d3] => { results := [.lit (.bool true)], args := [d1, d2, d3] }
  | _ => none }
def adjacentLeastRow : OpenClaim := { program := "ytkhinagagncblaadoor", sum := "466dc7ff4dfaa32dbdd34fe4561b7986ddca7b2dbd5aaa9ea94751fb1fd16269", func := "groundling/groundlinglaw19.AdjacentLeast", spec := "adjacentLeast", inPlace := ["internal/bytealg.IndexByteString", "internal/bytealg.IndexString"], unfollowed := true, recurses := true, named := ["unicode/utf8.first", "unicode/utf8.acceptRanges", "internal/bytealg.MaxLen"], apart := false, laid := [("unicode/utf8.acceptRanges", laid_unicode_utf8_acceptRanges), ("unicode/utf8.first", laid_unicode_utf8_first)] }
def AdjacentLeastSaid : Prop := adjacentLeastRow.holds Tryd.pinned (OpenSpec.ofChange adjacentLeastSpec)

/-- ITS FALSE NEIGHBOUR: 'it returns false'. Refute it at one input. -/
def adjacentLeastWrong : ChangeSpec := { name := "adjacentLeast", fn := fun _ => fun
  | [d1, d2, d3] => { results := [.lit (.bool false)], args := [d1, d2, d3] }
  | _ => none }
def AdjacentLeastWrongFalsely : Prop := adjacentLeastRow.holds Tryd.pinned (OpenSpec.ofChange adjacentLeastWrong)

/-- 'groundlinglaw19.AdjacentMore': WHATEVER THE INPUT: true; the input reads as it did. -/
def adjacentMoreSpec : ChangeSpec := { name := "adjacentMore", fn := fun _ => fun
  | [d1, d2, d3] => { results := [.lit (.bool true)], args := [d1, d2, d3] }
  | _ => none }
def adjacentMoreRow : OpenClaim := { program := "ytkhinagagncblaadoor", sum := "466dc7ff4dfaa32dbdd34fe4561b7986ddca7b2dbd5aaa9ea94751fb1fd16269", func := "groundling/groundlinglaw19.AdjacentMore", spec := "adjacentMore", inPlace := ["internal/bytealg.IndexByteString", "internal/bytealg.IndexString"], unfollowed := true, recurses := true, named := ["unicode/utf8.first", "unicode/utf8.acceptRanges", "internal/bytealg.MaxLen"], apart := false, laid := [("unicode/utf8.acceptRanges", laid_unicode_utf8_acceptRanges), ("unicode/utf8.first", laid_unicode_utf8_first)] }
def AdjacentMoreSaid : Prop := adjacentMoreRow.holds Tryd.pinned (OpenSpec.ofChange adjacentMoreSpec)

/-- ITS FALSE NEIGHBOUR: 'it returns false'. Refute it at one input. -/
def adjacentMoreWrong : ChangeSpec := { name := "adjacentMore", fn := fun _ => fun
  | [d1, d2, d3] => { results := [.lit (.bool false)], args := [d1, d2, d3] }
  | _ => none }
def AdjacentMoreWrongFalsely : Prop := adjacentMoreRow.holds Tryd.pinned (OpenSpec.ofChange adjacentMoreWrong)

/-- 'groundlinglaw19.AdjacentPieces': WHATEVER THE INPUT: true; the input reads as it did. -/
def adjacentPiecesSpec : ChangeSpec := { name := "adjacentPieces", fn := fun _ => fun
  | [d1, d2, d3] => { results := [.lit (.bool true)], args := [d1, d2, d3] }
  | _ => none }
def adjacentPiecesRow : OpenClaim := { program := "ytkhinagagncblaadoor", sum := "466dc7ff4dfaa32dbdd34fe4561b7986ddca7b2dbd5aaa9ea94751fb1fd16269", func := "groundling/groundlinglaw19.AdjacentPieces", spec := "adjacentPieces", inPlace := ["internal/bytealg.IndexByteString", "internal/bytealg.IndexString"], unfollowed := true, recurses := true, named := ["unicode/utf8.first", "unicode/utf8.acceptRanges", "internal/bytealg.MaxLen"], apart := false, laid := [("unicode/utf8.acceptRanges", laid_unicode_utf8_acceptRanges), ("unicode/utf8.first", laid_unicode_utf8_first)] }
def AdjacentPiecesSaid : Prop := adjacentPiecesRow.holds Tryd.pinned (OpenSpec.ofChange adjacentPiecesSpec)

/-- ITS FALSE NEIGHBOUR: 'it returns false'. Refute it at one input. -/
def adjacentPiecesWrong : ChangeSpec := { name := "adjacentPieces", fn := fun _ => fun
  | [d1, d2, d3] => { results := [.lit (.bool false)], args := [d1, d2, d3] }
  | _ => none }
def AdjacentPiecesWrongFalsely : Prop := adjacentPiecesRow.holds Tryd.pinned (OpenSpec.ofChange adjacentPiecesWrong)

/-- 'groundlinglaw19.AdjacentCover': WHATEVER THE INPUT: true; the input reads as it did. -/
def adjacentCoverSpec : ChangeSpec := { name := "adjacentCover", fn := fun _ => fun
  | [d1, d2, d3] => { results := [.lit (.bool true)], args := [d1, d2, d3] }
  | _ => none }
def adjacentCoverRow : OpenClaim := { program := "ytkhinagagncblaadoor", sum := "466dc7ff4dfaa32dbdd34fe4561b7986ddca7b2dbd5aaa9ea94751fb1fd16269", func := "groundling/groundlinglaw19.AdjacentCover", spec := "adjacentCover", inPlace := ["internal/bytealg.IndexByteString", "internal/bytealg.IndexString"], unfollowed := true, recurses := true, named := ["unicode/utf8.first", "unicode/utf8.acceptRanges", "internal/bytealg.MaxLen"], apart := false, laid := [("unicode/utf8.acceptRanges", laid_unicode_utf8_acceptRanges), ("unicode/utf8.first", laid_unicode_utf8_first)] }
def AdjacentCoverSaid : Prop := adjacentCoverRow.holds Tryd.pinned (OpenSpec.ofChange adjacentCoverSpec)

/-- ITS FALSE NEIGHBOUR: 'it returns false'. Refute it at one input. -/
def adjacentCoverWrong : ChangeSpec := { name := "adjacentCover", fn := fun _ => fun
  | [d1, d2, d3] => { results := [.lit (.bool false)], args := [d1, d2, d3] }
  | _ => none }
def AdjacentCoverWrongFalsely : Prop := adjacentCoverRow.holds Tryd.pinned (OpenSpec.ofChange adjacentCoverWrong)

/- THE SECOND FORM. 'bulk': how many values and letters a reading holds, each counted each time it is reached (what is shared counts as often as it is met; a slice's spare places count too). A statement '..UptoSaid' is the law's where the arguments, and the package variables that the reading takes, are together of bulk at most 1048576: NARROWER than '..Said'. Prove '..Said' where nothing that the law and all that it calls make is longer than what came in: it says more and counts as full. Else prove '..UptoSaid'. A law counts once. -/
mutual
def uptoBulk {H : Type} : DataW H → Nat
  | .lit (.string bytes) => bytes.length + 1
  | .lit _ => 1
  | .nil => 1
  | .ptr d => uptoBulk d + 1
  | .slice elems spare => uptoBulkAll elems + uptoBulkAll spare + 1
  | .agg parts => uptoBulkAll parts + 1
  | .iface _ d => uptoBulk d + 1
  | .map entries => uptoBulkEntries entries + 1
  | .held _ => 1
def uptoBulkAll {H : Type} : List (DataW H) → Nat
  | [] => 0
  | d :: r => uptoBulk d + uptoBulkAll r
def uptoBulkEntries {H : Type} : List (Lit × DataW H) → Nat
  | [] => 0
  | x :: r => uptoBulkEntry x + uptoBulkEntries r
def uptoBulkEntry {H : Type} : Lit × DataW H → Nat
  | (.string bytes, d) => bytes.length + uptoBulk d + 1
  | (_, d) => uptoBulk d + 1
 end
def uptoSmall : (H : Type) → List (DataW H) → Bool := fun _ ds => decide (uptoBulkAll ds ≤ 1048576)
def OpenSpec.upto (s : _root_.Go.ChangeSpec) : _root_.Go.OpenSpec := { _root_.Go.OpenSpec.ofChange s with cond := some uptoSmall }

/-- 'groundlinglaw19.AdjacentRuns', WHERE WHAT IT READS IS OF BULK AT MOST 1048576: true; the input reads as it did. -/
def adjacentRunsUptoRow : OpenClaim := { program := "ytkhinagagncblaadoor", sum := "466dc7ff4dfaa32dbdd34fe4561b7986ddca7b2dbd5aaa9ea94751fb1fd16269", func := "groundling/groundlinglaw19.AdjacentRuns", spec := "adjacentRuns", inPlace := ["internal/bytealg.IndexByteString", "internal/bytealg.IndexString"], unfollowed := true, recurses := true, named := ["unicode/utf8.first", "unicode/utf8.acceptRanges", "internal/bytealg.MaxLen"], apart := false, laid := [("unicode/utf8.acceptRanges", laid_unicode_utf8_acceptRanges), ("unicode/utf8.first", laid_unicode_utf8_first)], narrowed := true }
def AdjacentRunsUptoSaid : Prop := adjacentRunsUptoRow.holds Tryd.pinned (OpenSpec.upto adjacentRunsSpec)

/-- 'groundlinglaw19.AdjacentBest', WHERE WHAT IT READS IS OF BULK AT MOST 1048576: true; the input reads as it did. -/
def adjacentBestUptoRow : OpenClaim := { program := "ytkhinagagncblaadoor", sum := "466dc7ff4dfaa32dbdd34fe4561b7986ddca7b2dbd5aaa9ea94751fb1fd16269", func := "groundling/groundlinglaw19.AdjacentBest", spec := "adjacentBest", inPlace := ["internal/bytealg.IndexByteString", "internal/bytealg.IndexString"], unfollowed := true, recurses := true, named := ["unicode/utf8.first", "unicode/utf8.acceptRanges", "internal/bytealg.MaxLen"], apart := false, laid := [("unicode/utf8.acceptRanges", laid_unicode_utf8_acceptRanges), ("unicode/utf8.first", laid_unicode_utf8_first)], narrowed := true }
def AdjacentBestUptoSaid : Prop := adjacentBestUptoRow.holds Tryd.pinned (OpenSpec.upto adjacentBestSpec)

/-- 'groundlinglaw19.AdjacentLeast', WHERE WHAT IT READS IS OF BULK AT MOST 1048576: true; the input reads as it did. -/
def adjacentLeastUptoRow : OpenClaim := { program := "ytkhinagagncblaadoor", sum := "466dc7ff4dfaa32dbdd34fe4561b7986ddca7b2dbd5aaa9ea94751fb1fd16269", func := "groundling/groundlinglaw19.AdjacentLeast", spec := "adjacentLeast", inPlace := ["internal/bytealg.IndexByteString", "internal/bytealg.IndexString"], unfollowed := true, recurses := true, named := ["unicode/utf8.first", "unicode/utf8.acceptRanges", "internal/bytealg.MaxLen"], apart := false, laid := [("unicode/utf8.acceptRanges", laid_unicode_utf8_acceptRanges), ("unicode/utf8.first", laid_unicode_utf8_first)], narrowed := true }
def AdjacentLeastUptoSaid : Prop := adjacentLeastUptoRow.holds Tryd.pinned (OpenSpec.upto adjacentLeastSpec)

/-- 'groundlinglaw19.AdjacentMore', WHERE WHAT IT READS IS OF BULK AT MOST 1048576: true; the input reads as it did. -/
def adjacentMoreUptoRow : OpenClaim := { program := "ytkhinagagncblaadoor", sum := "466dc7ff4dfaa32dbdd34fe4561b7986ddca7b2dbd5aaa9ea94751fb1fd16269", func := "groundling/groundlinglaw19.AdjacentMore", spec := "adjacentMore", inPlace := ["internal/bytealg.IndexByteString", "internal/bytealg.IndexString"], unfollowed := true, recurses := true, named := ["unicode/utf8.first", "unicode/utf8.acceptRanges", "internal/bytealg.MaxLen"], apart := false, laid := [("unicode/utf8.acceptRanges", laid_unicode_utf8_acceptRanges), ("unicode/utf8.first", laid_unicode_utf8_first)], narrowed := true }
def AdjacentMoreUptoSaid : Prop := adjacentMoreUptoRow.holds Tryd.pinned (OpenSpec.upto adjacentMoreSpec)

/-- 'groundlinglaw19.AdjacentPieces', WHERE WHAT IT READS IS OF BULK AT MOST 1048576: true; the input reads as it did. -/
def adjacentPiecesUptoRow : OpenClaim := { program := "ytkhinagagncblaadoor", sum := "466dc7ff4dfaa32dbdd34fe4561b7986ddca7b2dbd5aaa9ea94751fb1fd16269", func := "groundling/groundlinglaw19.AdjacentPieces", spec := "adjacentPieces", inPlace := ["internal/bytealg.IndexByteString", "internal/bytealg.IndexString"], unfollowed := true, recurses := true, named := ["unicode/utf8.first", "unicode/utf8.acceptRanges", "internal/bytealg.MaxLen"], apart := false, laid := [("unicode/utf8.acceptRanges", laid_unicode_utf8_acceptRanges), ("unicode/utf8.first", laid_unicode_utf8_first)], narrowed := true }
def AdjacentPiecesUptoSaid : Prop := adjacentPiecesUptoRow.holds Tryd.pinned (OpenSpec.upto adjacentPiecesSpec)

/-- 'groundlinglaw19.AdjacentCover', WHERE WHAT IT READS IS OF BULK AT MOST 1048576: true; the input reads as it did. -/
def adjacentCoverUptoRow : OpenClaim := { program := "ytkhinagagncblaadoor", sum := "466dc7ff4dfaa32dbdd34fe4561b7986ddca7b2dbd5aaa9ea94751fb1fd16269", func := "groundling/groundlinglaw19.AdjacentCover", spec := "adjacentCover", inPlace := ["internal/bytealg.IndexByteString", "internal/bytealg.IndexString"], unfollowed := true, recurses := true, named := ["unicode/utf8.first", "unicode/utf8.acceptRanges", "internal/bytealg.MaxLen"], apart := false, laid := [("unicode/utf8.acceptRanges", laid_unicode_utf8_acceptRanges), ("unicode/utf8.first", laid_unicode_utf8_first)], narrowed := true }
def AdjacentCoverUptoSaid : Prop := adjacentCoverUptoRow.holds Tryd.pinned (OpenSpec.upto adjacentCoverSpec)

end Rows
end Go.Proofs.YtkhinagagncblaaDoor
