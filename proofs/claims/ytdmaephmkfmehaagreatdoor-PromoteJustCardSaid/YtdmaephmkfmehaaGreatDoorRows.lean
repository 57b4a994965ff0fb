/-
  NARROWER THAN 'FOR EVERY INPUT', by the rows' own cells (each row's printed sentence says how): PromoteTicks: laid · PromoteJust: laid · PromoteOffers: laid · PromoteEnds: laid · PromoteFairs: laid · PromoteOrder: laid · PromoteSteps: laid.
  DERIVED. THE GIVEN ROWS OF THIS SEAT. 7 by the template 'for every input the law returns true; each argument reads behind the call as it read before'; 0 by the template 'total and deterministic' (their statements: YtdmaephmkfmehaaGreatDoorTotals.lean).
  GIVEN WITH THE SEED: the statements are not yours to turn. If you find one false, say at which input.
  Laid BY PROGRAM, IN A SANDBOX (cutbox-rows.mjs): the forced cells as the released guide's own fill.sh prints them over the translation 3862559e5b0b0e05… (all of the seat's roots in one cut). By AI agents, Wed Nov 11 2026. No macro, syntax, notation, axiom, sorry.
-/
import Derived.Test.YtdmaephmkfmehaaGreatDoorChecked
import GoSem.PinnedTables
import GoSem.Claim
import GoSem.ClaimJoined
import GoSem.ClaimMapViews
import Derived.JoinedTies
import Derived.KernelRfl
namespace Go.Proofs.YtdmaephmkfmehaaGreatDoor
/- THE CELL 'sum', in the pinned program and in every row, IS THE sha256 OF THE DUMP (.gsa) THAT YtdmaephmkfmehaaGreatDoorProg.lean LOADS. Nothing in Lean hashes anything: it is a label: what it is worth is what the hold of that sum in a sandbox is worth. -/
noncomputable def Tryz.pinned : Pinned := { name := "ytdmaephmkfmehaagreatdoor", sum := "3862559e5b0b0e051262677d70994c5aef416ad6893b28d7b89e0dd3d9acc731", checked := Tryz.checked }
namespace Rows
def none {H : Type} : Left H := { results := [], args := [] }

/- WHAT THE LISTED PACKAGE-LEVEL VARIABLES READ AS WHEN THE CALL BEGINS. Each datum BY PROGRAM (the guide's laid-datum.mjs) off the statement by which the dump's own 'gosem.cut.vars' lays the variable. In a bare row this is a premise. The card (YtdmaephmkfmehaaGreatDoorCards.lean) ties it to the program's text. -/
def laid_unicode_utf8_acceptRanges {H : Type} : DataW H := .agg [.agg [.lit (.int .u8 128), .lit (.int .u8 191)], .agg [.lit (.int .u8 160), .lit (.int .u8 191)], .agg [.lit (.int .u8 128), .lit (.int .u8 159)], .agg [.lit (.int .u8 144), .lit (.int .u8 191)], .agg [.lit (.int .u8 128), .lit (.int .u8 143)], .agg [.lit (.int .u8 0), .lit (.int .u8 0)], .agg [.lit (.int .u8 0), .lit (.int .u8 0)], .agg [.lit (.int .u8 0), .lit (.int .u8 0)], .agg [.lit (.int .u8 0), .lit (.int .u8 0)], .agg [.lit (.int .u8 0), .lit (.int .u8 0)], .agg [.lit (.int .u8 0), .lit (.int .u8 0)], .agg [.lit (.int .u8 0), .lit (.int .u8 0)], .agg [.lit (.int .u8 0), .lit (.int .u8 0)], .agg [.lit (.int .u8 0), .lit (.int .u8 0)], .agg [.lit (.int .u8 0), .lit (.int .u8 0)], .agg [.lit (.int .u8 0), .lit (.int .u8 0)]]
/-- One of Go's own tables, pinned by name: the form's constant. -/
def laid_unicode_utf8_first : DataW Unit := Go.Pinned.utf8First

/-- 'groundlinglaw21.PromoteTicks': WHATEVER THE INPUT: true; the input reads as it did. -/
def promoteTicksSpec : ChangeSpec := { name := "promoteTicks", fn := fun _ => fun
  | [d1, d2] => { results := [.lit (.bool true)], args := [d1, d2] }
  | _ => none }
def promoteTicksRow : OpenClaim := { program := "ytdmaephmkfmehaagreatdoor", sum := "3862559e5b0b0e051262677d70994c5aef416ad6893b28d7b89e0dd3d9acc731", func := "groundling/groundlinglaw21.PromoteTicks", spec := "promoteTicks", inPlace := ["internal/bytealg.IndexByteString", "internal/bytealg.IndexString"], unfollowed := true, recurses := true, named := ["unicode/utf8.first", "unicode/utf8.acceptRanges", "internal/bytealg.MaxLen"], apart := false, laid := [("unicode/utf8.acceptRanges", laid_unicode_utf8_acceptRanges), ("unicode/utf8.first", laid_unicode_utf8_first)] }
def PromoteTicksSaid : Prop := promoteTicksRow.holds Tryz.pinned (OpenSpec.ofChange promoteTicksSpec)

/-- ITS FALSE NEIGHBOUR: 'it returns false'. Refute it at one input. -/
def promoteTicksWrong : ChangeSpec := { name := "promoteTicks", fn := fun _ => fun
  | [d1, d2] => { results := [.lit (.bool false)], args := [d1, d2] }
  | _ => none }
def PromoteTicksWrongFalsely : Prop := promoteTicksRow.holds Tryz.pinned (OpenSpec.ofChange promoteTicksWrong)

/-- 'groundlinglaw21.PromoteJust': WHATEVER THE INPUT: true; the input reads as it did. -/
def promoteJustSpec : ChangeSpec := { name := "promoteJust", fn := fun _ => fun
  | [d1, d2, d3] => { results := [.lit (.bool true)], args := [d1, d2, d3] }
  | _ => none }
def promoteJustRow : OpenClaim := { program := "ytdmaephmkfmehaagreatdoor", sum := "3862559e5b0b0e051262677d70994c5aef416ad6893b28d7b89e0dd3d9acc731", func := "groundling/groundlinglaw21.PromoteJust", spec := "promoteJust", inPlace := ["internal/bytealg.IndexByteString", "internal/bytealg.IndexString"], unfollowed := true, recurses := true, named := ["unicode/utf8.first", "unicode/utf8.acceptRanges", "internal/bytealg.MaxLen"], apart := false, laid := [("unicode/utf8.acceptRanges", laid_unicode_utf8_acceptRanges), ("unicode/utf8.first", laid_unicode_utf8_first)] }
def PromoteJustSaid : Prop := promoteJustRow.holds Tryz.pinned (OpenSpec.ofChange promoteJustSpec)

/-- ITS FALSE NEIGHBOUR: 'it returns false'. Refute it at one input. -/
def promoteJustWrong : ChangeSpec := { name := "promoteJust", fn := fun _ => fun
  | [d1, d2, d3] => { results := [.lit (.bool false)], args := [d1, d2, d3] }
  | _ => none }
def PromoteJustWrongFalsely : Prop := promoteJustRow.holds Tryz.pinned (OpenSpec.ofChange promoteJustWrong)

/-- 'groundlinglaw21.PromoteOffers': WHATEVER THE INPUT: true; the input reads as it did. -/
def promoteOffersSpec : ChangeSpec := { name := "promoteOffers", fn := fun _ => fun
  | [d1, d2] => { results := [.lit (.bool true)], args := [d1, d2] }
  | _ => none }
def promoteOffersRow : OpenClaim := { program := "ytdmaephmkfmehaagreatdoor", sum := "3862559e5b0b0e051262677d70994c5aef416ad6893b28d7b89e0dd3d9acc731", func := "groundling/groundlinglaw21.PromoteOffers", spec := "promoteOffers", inPlace := ["internal/bytealg.IndexByteString", "internal/bytealg.IndexString"], unfollowed := true, recurses := true, named := ["unicode/utf8.first", "unicode/utf8.acceptRanges", "internal/bytealg.MaxLen"], apart := false, laid := [("unicode/utf8.acceptRanges", laid_unicode_utf8_acceptRanges), ("unicode/utf8.first", laid_unicode_utf8_first)] }
def PromoteOffersSaid : Prop := promoteOffersRow.holds Tryz.pinned (OpenSpec.ofChange promoteOffersSpec)

/-- ITS FALSE NEIGHBOUR: 'it returns false'. Refute it at one input. -/
def promoteOffersWrong : ChangeSpec := { name := "promoteOffers", fn := fun _ => fun
  | [d1, d2] => { results := [.lit (.bool false)], args := [d1, d2] }
  | _ => none }
def PromoteOffersWrongFalsely : Prop := promoteOffersRow.holds Tryz.pinned (OpenSpec.ofChange promoteOffersWrong)

/-- 'groundlinglaw21.PromoteEnds': WHATEVER THE INPUT: true; the input reads as it did. -/
def promoteEndsSpec : ChangeSpec := { name := "promoteEnds", fn := fun _ => fun
  | [d1, d2] => { results := [.lit (.bool true)], args := [d1, d2] }
  | _ => none }
def promoteEndsRow : OpenClaim := { program := "ytdmaephmkfmehaagreatdoor", sum := "3862559e5b0b0e051262677d70994c5aef416ad6893b28d7b89e0dd3d9acc731", func := "groundling/groundlinglaw21.PromoteEnds", spec := "promoteEnds", inPlace := ["internal/bytealg.IndexByteString", "internal/bytealg.IndexString"], unfollowed := true, recurses := true, named := ["unicode/utf8.first", "unicode/utf8.acceptRanges", "internal/bytealg.MaxLen"], apart := false, laid := [("unicode/utf8.acceptRanges", laid_unicode_utf8_acceptRanges), ("unicode/utf8.first", laid_unicode_utf8_first)] }
def PromoteEndsSaid : Prop := promoteEndsRow.holds Tryz.pinned (OpenSpec.ofChange promoteEndsSpec)

/-- ITS FALSE NEIGHBOUR: 'it returns false'. Refute it at one input. -/
def promoteEndsWrong : ChangeSpec := { name := "promoteEnds", fn := fun _ => fun
  | [d1, d2] => { results := [.lit (.bool false)], args := [d1, d2] }
  | _ => none }
def PromoteEndsWrongFalsely : Prop := promoteEndsRow.holds Tryz.pinned (OpenSpec.ofChange promoteEndsWrong)

/-- 'groundlinglaw21.PromoteFairs': WHATEVER THE INPUT: true; the input reads as it did. -/
def promoteFairsSpec : ChangeSpec := { name := "promoteFairs", fn := fun _ => fun
  | [d1, d2] => { results := [.lit (.bool true)], args := [d1, d2] }
  | _ => none }
def promoteFairsRow : OpenClaim := { program := "ytdmaephmkfmehaagreatdoor", sum := "3862559e5b0b0e051262677d70994c5aef416ad6893b28d7b89e0dd3d9acc731", func := "groundling/groundlinglaw21.PromoteFairs", spec := "promoteFairs", inPlace := ["internal/bytealg.IndexByteString", "internal/bytealg.IndexString"], unfollowed := true, recurses := true, named := ["unicode/utf8.first", "unicode/utf8.acceptRanges", "internal/bytealg.MaxLen"], apart := false, laid := [("unicode/utf8.acceptRanges", laid_unicode_utf8_acceptRanges), ("unicode/utf8.first", laid_unicode_utf8_first)] }
def PromoteFairsSaid : Prop := promoteFairsRow.holds Tryz.pinned (OpenSpec.ofChange promoteFairsSpec)

/-- ITS FALSE NEIGHBOUR: 'it returns false'. Refute it at one input. -/
def promoteFairsWrong : ChangeSpec := { name := "promoteFairs", fn := fun _ => fun
  | [d1, d2] => { results := [.lit (.bool false)], args := [d1, d2] }
  | _ => none }
def PromoteFairsWrongFalsely : Prop := promoteFairsRow.holds Tryz.pinned (OpenSpec.ofChange promoteFairsWrong)

/-- 'groundlinglaw21.PromoteOrder': WHATEVER THE INPUT: true; the input reads as it did. -/
def promoteOrderSpec : ChangeSpec := { name := "promoteOrder", fn := fun _ => fun
  | [d1, d2] => { results := [.lit (.bool true)], args := [d1, d2] }
  | _ => none }
def promoteOrderRow : OpenClaim := { program := "ytdmaephmkfmehaagreatdoor", sum := "3862559e5b0b0e051262677d70994c5aef416ad6893b28d7b89e0dd3d9acc731", func := "groundling/groundlinglaw21.PromoteOrder", spec := "promoteOrder", inPlace := ["internal/bytealg.IndexByteString", "internal/bytealg.IndexString"], unfollowed := true, recurses := true, named := ["unicode/utf8.first", "unicode/utf8.acceptRanges", "internal/bytealg.MaxLen"], apart := false, laid := [("unicode/utf8.acceptRanges", laid_unicode_utf8_acceptRanges), ("unicode/utf8.first", laid_unicode_utf8_first)] }
def PromoteOrderSaid : Prop := promoteOrderRow.holds Tryz.pinned (OpenSpec.ofChange promoteOrderSpec)

/-- ITS FALSE NEIGHBOUR: 'it returns false'. Refute it at one input. -/
def promoteOrderWrong : ChangeSpec := { name := "promoteOrder", fn := fun _ => fun
  | [d1, d2] => { results := [.lit (.bool false)], args := [d1, d2] }
  | _ => none }
def PromoteOrderWrongFalsely : Prop := promoteOrderRow.holds Tryz.pinned (OpenSpec.ofChange promoteOrderWrong)

/-- 'groundlinglaw21.PromoteSteps': WHATEVER THE INPUT: true; the input reads as it did. -/
def promoteStepsSpec : ChangeSpec := { name := "promoteSteps", fn := fun _ => fun
  | [d1, d2] => { results := [.lit (.bool true)], args := [d1, d2] }
  | _ => none }
def promoteStepsRow : OpenClaim := { program := "ytdmaephmkfmehaagreatdoor", sum := "3862559e5b0b0e051262677d70994c5aef416ad6893b28d7b89e0dd3d9acc731", func := "groundling/groundlinglaw21.PromoteSteps", spec := "promoteSteps", inPlace := ["internal/bytealg.IndexByteString", "internal/bytealg.IndexString"], unfollowed := true, recurses := true, named := ["unicode/utf8.first", "unicode/utf8.acceptRanges", "internal/bytealg.MaxLen"], apart := false, laid := [("unicode/utf8.acceptRanges", laid_unicode_utf8_acceptRanges), ("unicode/utf8.first", laid_unicode_utf8_first)] }
def PromoteStepsSaid : Prop := promoteStepsRow.holds Tryz.pinned (OpenSpec.ofChange promoteStepsSpec)

/-- ITS FALSE NEIGHBOUR: 'it returns false'. Refute it at one input. -/
def promoteStepsWrong : ChangeSpec := { name := "promoteSteps", fn := fun _ => fun
  | [d1, d2] => { results := [.lit (.bool false)], args := [d1, d2] }
  | _ => none }
def PromoteStepsWrongFalsely : Prop := promoteStepsRow.holds Tryz.pinned (OpenSpec.ofChange promoteStepsWrong)

/- THE SECOND FORM. 'bulk': how many values and letters a reading holds, each counted each time it is reached (what is shared counts as often as it is met; a slice's spare places count too). A statement '..UptoSaid' is the law's where the arguments, and the package variables that the reading takes, are together of bulk at most 1048576: NARROWER than '..Said'. Prove '..Said' where nothing that the law and all that it calls make is longer than what came in: it says more and counts as full. Else prove '..UptoSaid'. A law counts once. -/
mutual
def uptoBulk {H : Type} : DataW H → Nat
  | .lit (.string bytes) => bytes.length + 1
  | .lit _ => 1
  | .nil => 1
  | .ptr d => uptoBulk d + 1
  | .slice elems spare => uptoBulkAll elems + uptoBulkAll spare + 1
  | .agg parts => uptoBulkAll parts + 1
  | .iface _ d => uptoBulk d + 1
  | .map entries => uptoBulkEntries entries + 1
  | .held _ => 1
def uptoBulkAll {H : Type} : List (DataW H) → Nat
  | [] => 0
  | d :: r => uptoBulk d + uptoBulkAll r
def uptoBulkEntries {H : Type} : List (Lit × DataW H) → Nat
  | [] => 0
  | x :: r => uptoBulkEntry x + uptoBulkEntries r
def uptoBulkEntry {H : Type} : Lit × DataW H → Nat
  | (.string bytes, d) => bytes.length + uptoBulk d + 1
  | (_, d) => uptoBulk d + 1
 end
def uptoSmall : (H : Type) → List (DataW H) → Bool := fun _ ds => decide (uptoBulkAll ds ≤ 1048576)
def OpenSpec.upto (s : _root_.Go.ChangeSpec) : _root_.Go.OpenSpec := { _root_.Go.OpenSpec.ofChange s with cond := some uptoSmall }

/-- 'groundlinglaw21.PromoteTicks', WHERE WHAT IT READS IS OF BULK AT MOST 1048576: true; the input reads as it did. -/
def promoteTicksUptoRow : OpenClaim := { program := "ytdmaephmkfmehaagreatdoor", sum := "3862559e5b0b0e051262677d70994c5aef416ad6893b28d7b89e0dd3d9acc731", func := "groundling/groundlinglaw21.PromoteTicks", spec := "promoteTicks", inPlace := ["internal/bytealg.IndexByteString", "internal/bytealg.IndexString"], unfollowed := true, recurses := true, named := ["unicode/utf8.first", "unicode/utf8.acceptRanges", "internal/bytealg.MaxLen"], apart := false, laid := [("unicode/utf8.acceptRanges", laid_unicode_utf8_acceptRanges), ("unicode/utf8.first", laid_unicode_utf8_first)], narrowed := true }
def PromoteTicksUptoSaid : Prop := promoteTicksUptoRow.holds Tryz.pinned (OpenSpec.upto promoteTicksSpec)

/-- 'groundlinglaw21.PromoteJust', WHERE WHAT IT READS IS OF BULK AT MOST 1048576: true; the input reads as it did. -/
def promoteJustUptoRow : OpenClaim := { program := "ytdmaephmkfmehaagreatdoor", sum := "3862559e5b0b0e051262677d70994c5aef416ad6893b28d7b89e0dd3d9acc731", func := "groundling/groundlinglaw21.PromoteJust", spec := "promoteJust", inPlace := ["internal/bytealg.IndexByteString", "internal/bytealg.IndexString"], unfollowed := true, recurses := true, named := ["unicode/utf8.first", "unicode/utf8.acceptRanges", "internal/bytealg.MaxLen"], apart := false, laid := [("unicode/utf8.acceptRanges", laid_unicode_utf8_acceptRanges), ("unicode/utf8.first", laid_unicode_utf8_first)], narrowed := true }
def PromoteJustUptoSaid : Prop := promoteJustUptoRow.holds Tryz.pinned (OpenSpec.upto promoteJustSpec)

/-- 'groundlinglaw21.PromoteOffers', WHERE WHAT IT READS IS OF BULK AT MOST 1048576: true; the input reads as it did. -/
def promoteOffersUptoRow : OpenClaim := { program := "ytdmaephmkfmehaagreatdoor", sum := "3862559e5b0b0e051262677d70994c5aef416ad6893b28d7b89e0dd3d9acc731", func := "groundling/groundlinglaw21.PromoteOffers", spec := "promoteOffers", inPlace := ["internal/bytealg.IndexByteString", "internal/bytealg.IndexString"], unfollowed := true, recurses := true, named := ["unicode/utf8.first", "unicode/utf8.acceptRanges", "internal/bytealg.MaxLen"], apart := false, laid := [("unicode/utf8.acceptRanges", laid_unicode_utf8_acceptRanges), ("unicode/utf8.first", laid_unicode_utf8_first)], narrowed := true }
def PromoteOffersUptoSaid : Prop := promoteOffersUptoRow.holds Tryz.pinned (OpenSpec.upto promoteOffersSpec)

/-- 'groundlinglaw21.PromoteEnds', WHERE WHAT IT READS IS OF BULK AT MOST 1048576: true; the input reads as it did. -/
def promoteEndsUptoRow : OpenClaim := { program := "ytdmaephmkfmehaagreatdoor", sum := "3862559e5b0b0e051262677d70994c5aef416ad6893b28d7b89e0dd3d9acc731", func := "groundling/groundlinglaw21.PromoteEnds", spec := "promoteEnds", inPlace := ["internal/bytealg.IndexByteString", "internal/bytealg.IndexString"], unfollowed := true, recurses := true, named := ["unicode/utf8.first", "unicode/utf8.acceptRanges", "internal/bytealg.MaxLen"], apart := false, laid := [("unicode/utf8.acceptRanges", laid_unicode_utf8_acceptRanges), ("unicode/utf8.first", laid_unicode_utf8_first)], narrowed := true }
def PromoteEndsUptoSaid : Prop := promoteEndsUptoRow.holds Tryz.pinned (OpenSpec.upto promoteEndsSpec)

/-- 'groundlinglaw21.PromoteFairs', WHERE WHAT IT READS IS OF BULK AT MOST 1048576: true; the input reads as it did. -/
def promoteFairsUptoRow : OpenClaim := { program := "ytdmaephmkfmehaagreatdoor", sum := "3862559e5b0b0e051262677d70994c5aef416ad6893b28d7b89e0dd3d9acc731", func := "groundling/groundlinglaw21.PromoteFairs", spec := "promoteFairs", inPlace := ["internal/bytealg.IndexByteString", "internal/bytealg.IndexString"], unfollowed := true, recurses := true, named := ["unicode/utf8.first", "unicode/utf8.acceptRanges", "internal/bytealg.MaxLen"], apart := false, laid := [("unicode/utf8.acceptRanges", laid_unicode_utf8_acceptRanges), ("unicode/utf8.first", laid_unicode_utf8_first)], narrowed := true }
def PromoteFairsUptoSaid : Prop := promoteFairsUptoRow.holds Tryz.pinned (OpenSpec.upto promoteFairsSpec)

/-- 'groundlinglaw21.PromoteOrder', WHERE WHAT IT READS IS OF BULK AT MOST 1048576: true; the input reads as it did. -/
def promoteOrderUptoRow : OpenClaim := { program := "ytdmaephmkfmehaagreatdoor", sum := "3862559e5b0b0e051262677d70994c5aef416ad6893b28d7b89e0dd3d9acc731", func := "groundling/groundlinglaw21.PromoteOrder", spec := "promoteOrder", inPlace := ["internal/bytealg.IndexByteString", "internal/bytealg.IndexString"], unfollowed := true, recurses := true, named := ["unicode/utf8.first", "unicode/utf8.acceptRanges", "internal/bytealg.MaxLen"], apart := false, laid := [("unicode/utf8.acceptRanges", laid_unicode_utf8_acceptRanges), ("unicode/utf8.first", laid_unicode_utf8_first)], narrowed := true }
def PromoteOrderUptoSaid : Prop := promoteOrderUptoRow.holds Tryz.pinned (OpenSpec.upto promoteOrderSpec)

/-- 'groundlinglaw21.PromoteSteps', WHERE WHAT IT READS IS OF BULK AT MOST 1048576: true; the input reads as it did. -/
def promoteStepsUptoRow : OpenClaim := { program := "ytdmaephmkfmehaagreatdoor", sum := "3862559e5b0b0e051262677d70994c5aef416ad6893b28d7b89e0dd3d9acc731", func := "groundling/groundlinglaw21.PromoteSteps", spec := "promoteSteps", inPlace := ["internal/bytealg.IndexByteString", "internal/bytealg.IndexString"], unfollowed := true, recurses := true, named := ["unicode/utf8.first", "unicode/utf8.acceptRanges", "internal/bytealg.MaxLen"], apart := false, laid := [("unicode/utf8.acceptRanges", laid_unicode_utf8_acceptRanges), ("unicode/utf8.first", laid_unicode_utf8_first)], narrowed := true }
def PromoteStepsUptoSaid : Prop := promoteStepsUptoRow.holds Tryz.pinned (OpenSpec.upto promoteStepsSpec)

end Rows
end Go.Proofs.YtdmaephmkfmehaaGreatDoor
