/-
  NARROWER THAN 'FOR EVERY INPUT', by the rows' own cells (each row's printed sentence says how): TokensRecords: laid · TokensIssues: laid · TokensOpens: laid · TokensAccepts: laid · TokensGuarded: laid · TokensEnds: laid · TokensKnown: laid.
  DERIVED. THE GIVEN ROWS OF THIS SEAT. 7 by the template 'for every input the law returns true; each argument reads behind the call as it read before'; 0 by the template 'total and deterministic' (their statements: YtckmbhdbabnmcaaDoorTotals.lean).
  GIVEN WITH THE SEED: the statements are not yours to turn. If you find one false, say at which input.
  Laid BY PROGRAM, IN A SANDBOX (cutbox-rows.mjs): the forced cells as the released guide's own fill.sh prints them over the translation 83e08fc5c6b57e72… (all of the seat's roots in one cut). By AI agents, Wed Nov 11 2026. No macro, syntax, notation, axiom, sorry.
-/
import Derived.Test.YtckmbhdbabnmcaaDoorChecked
import GoSem.Claim
import GoSem.ClaimJoined
import GoSem.ClaimMapViews
import Derived.JoinedTies
import Derived.KernelRfl
namespace Go.Proofs.YtckmbhdbabnmcaaDoor
/- THE CELL 'sum', in the pinned program and in every row, IS THE sha256 OF THE DUMP (.gsa) THAT YtckmbhdbabnmcaaDoorProg.lean LOADS. Nothing in Lean hashes anything: it is a label: what it is worth is what the hold of that sum in a sandbox is worth. -/
noncomputable def Tryd.pinned : Pinned := { name := "ytckmbhdbabnmcaadoor", sum := "83e08fc5c6b57e721888be592f6883af036c1ad3937770d9f855561f5c692e45", checked := Tryd.checked }
namespace Rows
def none {H : Type} : Left H := { results := [], args := [] }

/- WHAT THE LISTED PACKAGE-LEVEL VARIABLES READ AS WHEN THE CALL BEGINS. Each datum BY PROGRAM (the guide's laid-datum.mjs) off the statement by which the dump's own 'gosem.cut.vars' lays the variable. In a bare row this is a premise. The card (YtckmbhdbabnmcaaDoorCards.lean) ties it to the program's text. -/
def laid_groundling_sha_constants {H : Type} : DataW H := .agg [.lit (.int .u32 1116352408), .lit (.int .u32 1899447441), .lit (.int .u32 3049323471), .lit (.int .u32 3921009573), .lit (.int .u32 961987163), .lit (.int .u32 1508970993), .lit (.int .u32 2453635748), .lit (.int .u32 2870763221), .lit (.int .u32 3624381080), .lit (.int .u32 310598401), .lit (.int .u32 607225278), .lit (.int .u32 1426881987), .lit (.int .u32 1925078388), .lit (.int .u32 2162078206), .lit (.int .u32 2614888103), .lit (.int .u32 3248222580), .lit (.int .u32 3835390401), .lit (.int .u32 4022224774), .lit (.int .u32 264347078), .lit (.int .u32 604807628), .lit (.int .u32 770255983), .lit (.int .u32 1249150122), .lit (.int .u32 1555081692), .lit (.int .u32 1996064986), .lit (.int .u32 2554220882), .lit (.int .u32 2821834349), .lit (.int .u32 2952996808), .lit (.int .u32 3210313671), .lit (.int .u32 3336571891), .lit (.int .u32 3584528711), .lit (.int .u32 113926993), .lit (.int .u32 338241895), .lit (.int .u32 666307205), .lit (.int .u32 773529912), .lit (.int .u32 1294757372), .lit (.int .u32 1396182291), .lit (.int .u32 1695183700), .lit (.int .u32 1986661051), .lit (.int .u32 2177026350), .lit (.int .u32 2456956037), .lit (.int .u32 2730485921), .lit (.int .u32 2820302411), .lit (.int .u32 3259730800), .lit (.int .u32 3345764771), .lit (.int .u32 3516065817), .lit (.int .u32 3600352804), .lit (.int .u32 4094571909), .lit (.int .u32 275423344), .lit (.int .u32 430227734), .lit (.int .u32 506948616), .lit (.int .u32 659060556), .lit (.int .u32 883997877), .lit (.int .u32 958139571), .lit (.int .u32 1322822218), .lit (.int .u32 1537002063), .lit (.int .u32 1747873779), .lit (.int .u32 1955562222), .lit (.int .u32 2024104815), .lit (.int .u32 2227730452), .lit (.int .u32 2361852424), .lit (.int .u32 2428436474), .lit (.int .u32 2756734187), .lit (.int .u32 3204031479), .lit (.int .u32 3329325298)]
def laid_groundling_sha_start {H : Type} : DataW H := .agg [.lit (.int .u32 1779033703), .lit (.int .u32 3144134277), .lit (.int .u32 1013904242), .lit (.int .u32 2773480762), .lit (.int .u32 1359893119), .lit (.int .u32 2600822924), .lit (.int .u32 528734635), .lit (.int .u32 1541459225)]

/-- 'groundlinglaw11.TokensRecords': WHATEVER THE INPUT: true; the input reads as it did. -/
def tokensRecordsSpec : ChangeSpec := { name := "tokensRecords", fn := fun _ => fun
  | [d1, d2] => { results := [.lit (.bool true)], args := [d1, d2] }
  | _ => none }
def tokensRecordsRow : OpenClaim := { program := "ytckmbhdbabnmcaadoor", sum := "83e08fc5c6b57e721888be592f6883af036c1ad3937770d9f855561f5c692e45", func := "groundling/groundlinglaw11.TokensRecords", spec := "tokensRecords", unfollowed := true, recurses := true, named := ["groundling/sha.start", "groundling/sha.constants"], apart := false, laid := [("groundling/sha.constants", laid_groundling_sha_constants), ("groundling/sha.start", laid_groundling_sha_start)] }
def TokensRecordsSaid : Prop := tokensRecordsRow.holds Tryd.pinned (OpenSpec.ofChange tokensRecordsSpec)

/-- ITS FALSE NEIGHBOUR: 'it returns false'. Refute it at one input. -/
def tokensRecordsWrong : ChangeSpec := { name := "tokensRecords", fn := fun _ => fun
  | [d1, d2] => { results := [.lit (.bool false)], args := [d1, d2] }
  | _ => none }
def TokensRecordsWrongFalsely : Prop := tokensRecordsRow.holds Tryd.pinned (OpenSpec.ofChange tokensRecordsWrong)

/-- 'groundlinglaw11.TokensIssues': WHATEVER THE INPUT: true; the input reads as it did. -/
def tokensIssuesSpec : ChangeSpec := { name := "tokensIssues", fn := fun _ => fun
  | [d1, d2] => { results := [.lit (.bool true)], args := [d1, d2] }
  | _ => none }
def tokensIssuesRow : OpenClaim := { program := "ytckmbhdbabnmcaadoor", sum := "83e08fc5c6b57e721888be592f6883af036c1ad3937770d9f855561f5c692e45", func := "groundling/groundlinglaw11.TokensIssues", spec := "tokensIssues", unfollowed := true, recurses := true, named := ["groundling/sha.start", "groundling/sha.constants"], apart := false, laid := [("groundling/sha.constants", laid_groundling_sha_constants), ("groundling/sha.start", laid_groundling_sha_start)] }
def TokensIssuesSaid : Prop := tokensIssuesRow.holds Tryd.pinned (OpenSpec.ofChange tokensIssuesSpec)

/-- ITS FALSE NEIGHBOUR: 'it returns false'. Refute it at one input. -/
def tokensIssuesWrong : ChangeSpec := { name := "tokensIssues", fn := fun _ => fun
  | [d1, d2] => { results := [.lit (.bool false)], args := [d1, d2] }
  | _ => none }
def TokensIssuesWrongFalsely : Prop := tokensIssuesRow.holds Tryd.pinned (OpenSpec.ofChange tokensIssuesWrong)

/-- 'groundlinglaw11.TokensOpens': WHATEVER THE INPUT: true; the input reads as it did. -/
def tokensOpensSpec : ChangeSpec := { name := "tokensOpens", fn := fun _ => fun
  | [d1, d2] => { results := [.lit (.bool true)], args := [d1, d2] }
  | _ => none }
def tokensOpensRow : OpenClaim := { program := "ytckmbhdbabnmcaadoor", sum := "83e08fc5c6b57e721888be592f6883af036c1ad3937770d9f855561f5c692e45", func := "groundling/groundlinglaw11.TokensOpens", spec := "tokensOpens", unfollowed := true, recurses := true, named := ["groundling/sha.start", "groundling/sha.constants"], apart := false, laid := [("groundling/sha.constants", laid_groundling_sha_constants), ("groundling/sha.start", laid_groundling_sha_start)] }
def TokensOpensSaid : Prop := tokensOpensRow.holds Tryd.pinned (OpenSpec.ofChange tokensOpensSpec)

/-- ITS FALSE NEIGHBOUR: 'it returns false'. Refute it at one input. -/
def tokensOpensWrong : ChangeSpec := { name := "tokensOpens", fn := fun _ => fun
  | [d1, d2] => { results := [.lit (.bool false)], args := [d1, d2] }
  | _ => none }
def TokensOpensWrongFalsely : Prop := tokensOpensRow.holds Tryd.pinned (OpenSpec.ofChange tokensOpensWrong)

/-- 'groundlinglaw11.TokensAccepts': WHATEVER THE INPUT: true; the input reads as it did. -/
def tokensAcceptsSpec : ChangeSpec := { name := "tokensAccepts", fn := fun _ => fun
  | [d1, d2, d3] => { results := [.lit (.bool true)], args := [d1, d2, d3] }
  | _ => none }
def tokensAcceptsRow : OpenClaim := { program := "ytckmbhdbabnmcaadoor", sum := "83e08fc5c6b57e721888be592f6883af036c1ad3937770d9f855561f5c692e45", func := "groundling/groundlinglaw11.TokensAccepts", spec := "tokensAccepts", unfollowed := true, recurses := true, named := ["groundling/sha.start", "groundling/sha.constants"], apart := false, laid := [("groundling/sha.constants", laid_groundling_sha_constants), ("groundling/sha.start", laid_groundling_sha_start)] }
def TokensAcceptsSaid : Prop := tokensAcceptsRow.holds Tryd.pinned (OpenSpec.ofChange tokensAcceptsSpec)

/-- ITS FALSE NEIGHBOUR: 'it returns false'. Refute it at one input. -/
def tokensAcceptsWrong : ChangeSpec := { name := "tokensAccepts", fn := fun _ => fun
  | [d1, d2, d3] => { results := [.lit (.bool false)], args := [d1, d2, d3] }
  | _ => none }
def TokensAcceptsWrongFalsely : Prop := tokensAcceptsRow.holds Tryd.pinned (OpenSpec.ofChange tokensAcceptsWrong)

/-- 'groundlinglaw11.TokensGuarded': WHATEVER THE INPUT: true; the input reads as it did. -/
def tokensGuardedSpec : ChangeSpec := { name := "tokensGuarded", fn := fun _ => fun
  | [d1, d2, d3] => { results := [.lit (.bool true)], args := [d1, d2, d3] }
  | _ => none }
def tokensGuardedRow : OpenClaim := { program := "ytckmbhdbabnmcaadoor", sum := "83e08fc5c6b57e721888be592f6883af036c1ad3937770d9f855561f5c692e45", func := "groundling/groundlinglaw11.TokensGuarded", spec := "tokensGuarded", unfollowed := true, recurses := true, named := ["groundling/sha.start", "groundling/sha.constants"], apart := false, laid := [("groundling/sha.constants", laid_groundling_sha_constants), ("groundling/sha.start", laid_groundling_sha_start)] }
def TokensGuardedSaid : Prop := tokensGuardedRow.holds Tryd.pinned (OpenSpec.ofChange tokensGuardedSpec)

/-- ITS FALSE NEIGHBOUR: 'it returns false'. Refute it at one input. -/
def tokensGuardedWrong : ChangeSpec := { name := "tokensGuarded", fn := fun _ => fun
  | [d1, d2, d3] => { results := [.lit (.bool false)], args := [d1, d2, d3] }
  | _ => none }
def TokensGuardedWrongFalsely : Prop := tokensGuardedRow.holds Tryd.pinned (OpenSpec.ofChange tokensGuardedWrong)

/-- 'groundlinglaw11.TokensEnds': WHATEVER THE INPUT: true; the input reads as it did. -/
def tokensEndsSpec : ChangeSpec := { name := "tokensEnds", fn := fun _ => fun
  | [d] => { results := [.lit (.bool true)], args := [d] }
  | _ => none }
def tokensEndsRow : OpenClaim := { program := "ytckmbhdbabnmcaadoor", sum := "83e08fc5c6b57e721888be592f6883af036c1ad3937770d9f855561f5c692e45", func := "groundling/groundlinglaw11.TokensEnds", spec := "tokensEnds", unfollowed := true, recurses := true, named := ["groundling/sha.start", "groundling/sha.constants"], apart := false, laid := [("groundling/sha.constants", laid_groundling_sha_constants), ("groundling/sha.start", laid_groundling_sha_start)] }
def TokensEndsSaid : Prop := tokensEndsRow.holds Tryd.pinned (OpenSpec.ofChange tokensEndsSpec)

/-- ITS FALSE NEIGHBOUR: 'it returns false'. Refute it at one input. -/
def tokensEndsWrong : ChangeSpec := { name := "tokensEnds", fn := fun _ => fun
  | [d] => { results := [.lit (.bool false)], args := [d] }
  | _ => none }
def TokensEndsWrongFalsely : Prop := tokensEndsRow.holds Tryd.pinned (OpenSpec.ofChange tokensEndsWrong)

/-- 'groundlinglaw11.TokensKnown': WHATEVER THE INPUT: true; the input reads as it did. -/
def tokensKnownSpec : ChangeSpec := { name := "tokensKnown", fn := fun _ => fun
  | [] => { results := [.lit (.bool true)], args := [] }
  | _ => none }
def tokensKnownRow : OpenClaim := { program := "ytckmbhdbabnmcaadoor", sum := "83e08fc5c6b57e721888be592f6883af036c1ad3937770d9f855561f5c692e45", func := "groundling/groundlinglaw11.TokensKnown", spec := "tokensKnown", unfollowed := true, recurses := true, named := ["groundling/sha.start", "groundling/sha.constants"], apart := false, laid := [("groundling/sha.constants", laid_groundling_sha_constants), ("groundling/sha.start", laid_groundling_sha_start)] }
def TokensKnownSaid : Prop := tokensKnownRow.holds Tryd.pinned (OpenSpec.ofChange tokensKnownSpec)

/-- ITS FALSE NEIGHBOUR: 'it returns false'. Refute it at one input. -/
def tokensKnownWrong : ChangeSpec := { name := "tokensKnown", fn := fun _ => fun
  | [] => { results := [.lit (.bool false)], args := [] }
  | _ => none }
def TokensKnownWrongFalsely : Prop := tokensKnownRow.holds Tryd.pinned (OpenSpec.ofChange tokensKnownWrong)

/- THE SECOND FORM. 'bulk': how many values and letters a reading holds, each counted each time it is reached (what is shared counts as often as it is met; a slice's spare places count too). A statement '..UptoSaid' is the law's where the arguments, and the package variables that the reading takes, are together of bulk at most 1048576: NARROWER than '..Said'. Prove '..Said' where nothing that the law and all that it calls make is longer than what came in: it says more and counts as full. Else prove '..UptoSaid'. A law counts once. -/
mutual
def uptoBulk {H : Type} : DataW H → Nat
  | .lit (.string bytes) => bytes.length + 1
  | .lit _ => 1
  | .nil => 1
  | .ptr d => uptoBulk d + 1
  | .slice elems spare => uptoBulkAll elems + uptoBulkAll spare + 1
  | .agg parts => uptoBulkAll parts + 1
  | .iface _ d => uptoBulk d + 1
  | .map entries => uptoBulkEntries entries + 1
  | .held _ => 1
def uptoBulkAll {H : Type} : List (DataW H) → Nat
  | [] => 0
  | d :: r => uptoBulk d + uptoBulkAll r
def uptoBulkEntries {H : Type} : List (Lit × DataW H) → Nat
  | [] => 0
  | x :: r => uptoBulkEntry x + uptoBulkEntries r
def uptoBulkEntry {H : Type} : Lit × DataW H → Nat
  | (.string bytes, d) => bytes.length + uptoBulk d + 1
  | (_, d) => uptoBulk d + 1
 end
def uptoSmall : (H : Type) → List (DataW H) → Bool := fun _ ds => decide (uptoBulkAll ds ≤ 1048576)
def OpenSpec.upto (s : _root_.Go.ChangeSpec) : _root_.Go.OpenSpec := { _root_.Go.OpenSpec.ofChange s with cond := some uptoSmall }

/-- 'groundlinglaw11.TokensRecords', WHERE WHAT IT READS IS OF BULK AT MOST 1048576: true; the input reads as it did. -/
def tokensRecordsUptoRow : OpenClaim := { program := "ytckmbhdbabnmcaadoor", sum := "83e08fc5c6b57e721888be592f6883af036c1ad3937770d9f855561f5c692e45", func := "groundling/groundlinglaw11.TokensRecords", spec := "tokensRecords", unfollowed := true, recurses := true, named := ["groundling/sha.start", "groundling/sha.constants"], apart := false, laid := [("groundling/sha.constants", laid_groundling_sha_constants), ("groundling/sha.start", laid_groundling_sha_start)], narrowed := true }
def TokensRecordsUptoSaid : Prop := tokensRecordsUptoRow.holds Tryd.pinned (OpenSpec.upto tokensRecordsSpec)

/-- 'groundlinglaw11.TokensIssues', WHERE WHAT IT READS IS OF BULK AT MOST 1048576: true; the input reads as it did. -/
def tokensIssuesUptoRow : OpenClaim := { program := "ytckmbhdbabnmcaadoor", sum := "83e08fc5c6b57e721888be592f6883af036c1ad3937770d9f855561f5c692e45", func := "groundling/groundlinglaw11.TokensIssues", spec := "tokensIssues", unfollowed := true, recurses := true, named := ["groundling/sha.start", "groundling/sha.constants"], apart := false, laid := [("groundling/sha.constants", laid_groundling_sha_constants), ("groundling/sha.start", laid_groundling_sha_start)], narrowed := true }
def TokensIssuesUptoSaid : Prop := tokensIssuesUptoRow.holds Tryd.pinned (OpenSpec.upto tokensIssuesSpec)

/-- 'groundlinglaw11.TokensOpens', WHERE WHAT IT READS IS OF BULK AT MOST 1048576: true; the input reads as it did. -/
def tokensOpensUptoRow : OpenClaim := { program := "ytckmbhdbabnmcaadoor", sum := "83e08fc5c6b57e721888be592f6883af036c1ad3937770d9f855561f5c692e45", func := "groundling/groundlinglaw11.TokensOpens", spec := "tokensOpens", unfollowed := true, recurses := true, named := ["groundling/sha.start", "groundling/sha.constants"], apart := false, laid := [("groundling/sha.constants", laid_groundling_sha_constants), ("groundling/sha.start", laid_groundling_sha_start)], narrowed := true }
def TokensOpensUptoSaid : Prop := tokensOpensUptoRow.holds Tryd.pinned (OpenSpec.upto tokensOpensSpec)

/-- 'groundlinglaw11.TokensAccepts', WHERE WHAT IT READS IS OF BULK AT MOST 1048576: true; the input reads as it did. -/
def tokensAcceptsUptoRow : OpenClaim := { program := "ytckmbhdbabnmcaadoor", sum := "83e08fc5c6b57e721888be592f6883af036c1ad3937770d9f855561f5c692e45", func := "groundling/groundlinglaw11.TokensAccepts", spec := "tokensAccepts", unfollowed := true, recurses := true, named := ["groundling/sha.start", "groundling/sha.constants"], apart := false, laid := [("groundling/sha.constants", laid_groundling_sha_constants), ("groundling/sha.start", laid_groundling_sha_start)], narrowed := true }
def TokensAcceptsUptoSaid : Prop := tokensAcceptsUptoRow.holds Tryd.pinned (OpenSpec.upto tokensAcceptsSpec)

/-- 'groundlinglaw11.TokensGuarded', WHERE WHAT IT READS IS OF BULK AT MOST 1048576: true; the input reads as it did. -/
def tokensGuardedUptoRow : OpenClaim := { program := "ytckmbhdbabnmcaadoor", sum := "83e08fc5c6b57e721888be592f6883af036c1ad3937770d9f855561f5c692e45", func := "groundling/groundlinglaw11.TokensGuarded", spec := "tokensGuarded", unfollowed := true, recurses := true, named := ["groundling/sha.start", "groundling/sha.constants"], apart := false, laid := [("groundling/sha.constants", laid_groundling_sha_constants), ("groundling/sha.start", laid_groundling_sha_start)], narrowed := true }
def TokensGuardedUptoSaid : Prop := tokensGuardedUptoRow.holds Tryd.pinned (OpenSpec.upto tokensGuardedSpec)

/-- 'groundlinglaw11.TokensEnds', WHERE WHAT IT READS IS OF BULK AT MOST 1048576: true; the input reads as it did. -/
def tokensEndsUptoRow : OpenClaim := { program := "ytckmbhdbabnmcaadoor", sum := "83e08fc5c6b57e721888be592f6883af036c1ad3937770d9f855561f5c692e45", func := "groundling/groundlinglaw11.TokensEnds", spec := "tokensEnds", unfollowed := true, recurses := true, named := ["groundling/sha.start", "groundling/sha.constants"], apart := false, laid := [("groundling/sha.constants", laid_groundling_sha_constants), ("groundling/sha.start", laid_groundling_sha_start)], narrowed := true }
def TokensEndsUptoSaid : Prop := tokensEndsUptoRow.holds Tryd.pinned (OpenSpec.upto tokensEndsSpec)

/-- 'groundlinglaw11.TokensKnown', WHERE WHAT IT READS IS OF BULK AT MOST 1048576: true; the input reads as it did. -/
def tokensKnownUptoRow : OpenClaim := { program := "ytckmbhdbabnmcaadoor", sum := "83e08fc5c6b57e721888be592f6883af036c1ad3937770d9f855561f5c692e45", func := "groundling/groundlinglaw11.TokensKnown", spec := "tokensKnown", unfollowed := true, recurses := true, named := ["groundling/sha.start", "groundling/sha.constants"], apart := false, laid := [("groundling/sha.constants", laid_groundling_sha_constants), ("groundling/sha.start", laid_groundling_sha_start)], narrowed := true }
def TokensKnownUptoSaid : Prop := tokensKnownUptoRow.holds Tryd.pinned (OpenSpec.upto tokensKnownSpec)

end Rows
end Go.Proofs.YtckmbhdbabnmcaaDoor
