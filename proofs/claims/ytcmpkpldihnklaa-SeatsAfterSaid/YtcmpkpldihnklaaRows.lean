/-
  No cell of these rows narrows 'for every input' (looked for: loops, veiled, ifaces, maps, wideKeys, modest, calm, conditions, laid).
  DERIVED. THE GIVEN ROWS OF THIS SEAT. 7 by the template 'for every input the law returns true; each argument reads behind the call as it read before'; 0 by the template 'total and deterministic' (their statements: YtcmpkpldihnklaaTotals.lean).
  GIVEN WITH THE SEED: the statements are not yours to turn. If you find one false, say at which input.
  Laid BY PROGRAM, IN A SANDBOX (cutbox-rows.mjs): the forced cells as the released guide's own fill.sh prints them over the translation 5ab927e0c2f35ce7… (all of the seat's roots in one cut). By AI agents, Wed Nov 11 2026. No macro, syntax, notation, axiom, sorry.
-/
import Derived.Test.YtcmpkpldihnklaaChecked
import GoSem.Claim
import GoSem.ClaimJoined
import GoSem.ClaimMapViews
import Derived.JoinedTies
import Derived.KernelRfl
namespace Go.Proofs.Ytcmpkpldihnklaa
/- THE CELL 'sum', in the pinned program and in every row, IS THE sha256 OF THE DUMP (.gsa) THAT YtcmpkpldihnklaaProg.lean LOADS. Nothing in Lean hashes anything: it is a label: what it is worth is what the hold of that sum in a sandbox is worth. -/
noncomputable def Try.pinned : Pinned := { name := "ytcmpkpldihnklaa", sum := "5ab927e0c2f35ce790cd821b9f3030cc7e73f5ef267d38a9c9f7e72c172449a9", checked := Try.checked }
namespace Rows
def none {H : Type} : Left H := { results := [], args := [] }

/-- 'groundlinglaw16.SeatsEnds': WHATEVER THE INPUT: true; the input reads as it did. -/
def seatsEndsSpec : ChangeSpec := { name := "seatsEnds", fn := fun _ => fun
  | [d1, d2, d3] => { results := [.lit (.bool true)], args := [d1, d2, d3] }
  | _ => none }
def seatsEndsRow : OpenClaim := { program := "ytcmpkpldihnklaa", sum := "5ab927e0c2f35ce790cd821b9f3030cc7e73f5ef267d38a9c9f7e72c172449a9", func := "groundling/groundlinglaw16.SeatsEnds", spec := "seatsEnds", apart := false }
def SeatsEndsSaid : Prop := seatsEndsRow.holds Try.pinned (OpenSpec.ofChange seatsEndsSpec)

/-- ITS FALSE NEIGHBOUR: 'it returns false'. Refute it at one input. -/
def seatsEndsWrong : ChangeSpec := { name := "seatsEnds", fn := fun _ => fun
  | [d1, d2, d3] => { results := [.lit (.bool false)], args := [d1, d2, d3] }
  | _ => none }
def SeatsEndsWrongFalsely : Prop := seatsEndsRow.holds Try.pinned (OpenSpec.ofChange seatsEndsWrong)

/-- 'groundlinglaw16.SeatsSteps': WHATEVER THE INPUT: true; the input reads as it did. -/
def seatsStepsSpec : ChangeSpec := { name := "seatsSteps", fn := fun _ => fun
  | [d1, d2] => { results := [.lit (.bool true)], args := [d1, d2] }
  | _ => none }
def seatsStepsRow : OpenClaim := { program := "ytcmpkpldihnklaa", sum := "5ab927e0c2f35ce790cd821b9f3030cc7e73f5ef267d38a9c9f7e72c172449a9", func := "groundling/groundlinglaw16.SeatsSteps", spec := "seatsSteps", apart := false }
def SeatsStepsSaid : Prop := seatsStepsRow.holds Try.pinned (OpenSpec.ofChange seatsStepsSpec)

/-- ITS FALSE NEIGHBOUR: 'it returns false'. Refute it at one input. -/
def seatsStepsWrong : ChangeSpec := { name := "seatsSteps", fn := fun _ => fun
  | [d1, d2] => { results := [.lit (.bool false)], args := [d1, d2] }
  | _ => none }
def SeatsStepsWrongFalsely : Prop := seatsStepsRow.holds Try.pinned (OpenSpec.ofChange seatsStepsWrong)

/-- 'groundlinglaw16.SeatsPlays': WHATEVER THE INPUT: true; the input reads as it did. -/
def seatsPlaysSpec : ChangeSpec := { name := "seatsPlays", fn := fun _ => fun
  | [d1, d2] => { results := [.lit (.bool true)], args := [d1, d2] }
  | _ => none }
def seatsPlaysRow : OpenClaim := { program := "ytcmpkpldihnklaa", sum := "5ab927e0c2f35ce790cd821b9f3030cc7e73f5ef267d38a9c9f7e72c172449a9", func := "groundling/groundlinglaw16.SeatsPlays", spec := "seatsPlays", apart := false }
def SeatsPlaysSaid : Prop := seatsPlaysRow.holds Try.pinned (OpenSpec.ofChange seatsPlaysSpec)

/-- ITS FALSE NEIGHBOUR: 'it returns false'. Refute it at one input. -/
def seatsPlaysWrong : ChangeSpec := { name := "seatsPlays", fn := fun _ => fun
  | [d1, d2] => { results := [.lit (.bool false)], args := [d1, d2] }
  | _ => none }
def SeatsPlaysWrongFalsely : Prop := seatsPlaysRow.holds Try.pinned (OpenSpec.ofChange seatsPlaysWrong)

/-- 'groundlinglaw16.SeatsOne': WHATEVER THE INPUT: true; the input reads as it did. -/
def seatsOneSpec : ChangeSpec := { name := "seatsOne", fn := fun _ => fun
  | [d1, d2] => { results := [.lit (.bool true)], args := [d1, d2] }
  | _ => none }
def seatsOneRow : OpenClaim := { program := "ytcmpkpldihnklaa", sum := "5ab927e0c2f35ce790cd821b9f3030cc7e73f5ef267d38a9c9f7e72c172449a9", func := "groundling/groundlinglaw16.SeatsOne", spec := "seatsOne", apart := false }
def SeatsOneSaid : Prop := seatsOneRow.holds Try.pinned (OpenSpec.ofChange seatsOneSpec)

/-- ITS FALSE NEIGHBOUR: 'it returns false'. Refute it at one input. -/
def seatsOneWrong : ChangeSpec := { name := "seatsOne", fn := fun _ => fun
  | [d1, d2] => { results := [.lit (.bool false)], args := [d1, d2] }
  | _ => none }
def SeatsOneWrongFalsely : Prop := seatsOneRow.holds Try.pinned (OpenSpec.ofChange seatsOneWrong)

/-- 'groundlinglaw16.SeatsAfter': WHATEVER THE INPUT: true; the input reads as it did. -/
def seatsAfterSpec : ChangeSpec := { name := "seatsAfter", fn := fun _ => fun
  | [d1, d2] => { results := [.lit (.bool true)], args := [d1, d2] }
  | _ => none }
def seatsAfterRow : OpenClaim := { program := "ytcmpkpldihnklaa", sum := "5ab927e0c2f35ce790cd821b9f3030cc7e73f5ef267d38a9c9f7e72c172449a9", func := "groundling/groundlinglaw16.SeatsAfter", spec := "seatsAfter", apart := false }
def SeatsAfterSaid : Prop := seatsAfterRow.holds Try.pinned (OpenSpec.ofChange seatsAfterSpec)

/-- ITS FALSE NEIGHBOUR: 'it returns false'. Refute it at one input. -/
def seatsAfterWrong : ChangeSpec := { name := "seatsAfter", fn := fun _ => fun
  | [d1, d2] => { results := [.lit (.bool false)], args := [d1, d2] }
  | _ => none }
def SeatsAfterWrongFalsely : Prop := seatsAfterRow.holds Try.pinned (OpenSpec.ofChange seatsAfterWrong)

/-- 'groundlinglaw16.SeatsGrow': WHATEVER THE INPUT: true; the input reads as it did. -/
def seatsGrowSpec : ChangeSpec := { name := "seatsGrow", fn := fun _ => fun
  | [d1, d2] => { results := [.lit (.bool true)], args := [d1, d2] }
  | _ => none }
def seatsGrowRow : OpenClaim := { program := "ytcmpkpldihnklaa", sum := "5ab927e0c2f35ce790cd821b9f3030cc7e73f5ef267d38a9c9f7e72c172449a9", func := "groundling/groundlinglaw16.SeatsGrow", spec := "seatsGrow", apart := false }
def SeatsGrowSaid : Prop := seatsGrowRow.holds Try.pinned (OpenSpec.ofChange seatsGrowSpec)

/-- ITS FALSE NEIGHBOUR: 'it returns false'. Refute it at one input. -/
def seatsGrowWrong : ChangeSpec := { name := "seatsGrow", fn := fun _ => fun
  | [d1, d2] => { results := [.lit (.bool false)], args := [d1, d2] }
  | _ => none }
def SeatsGrowWrongFalsely : Prop := seatsGrowRow.holds Try.pinned (OpenSpec.ofChange seatsGrowWrong)

/-- 'groundlinglaw16.SeatsStates': WHATEVER THE INPUT: true; the input reads as it did. -/
def seatsStatesSpec : ChangeSpec := { name := "seatsStates", fn := fun _ => fun
  | [d1, d2] => { results := [.lit (.bool true)], args := [d1, d2] }
  | _ => none }
def seatsStatesRow : OpenClaim := { program := "ytcmpkpldihnklaa", sum := "5ab927e0c2f35ce790cd821b9f3030cc7e73f5ef267d38a9c9f7e72c172449a9", func := "groundling/groundlinglaw16.SeatsStates", spec := "seatsStates", apart := false }
def SeatsStatesSaid : Prop := seatsStatesRow.holds Try.pinned (OpenSpec.ofChange seatsStatesSpec)

/-- ITS FALSE NEIGHBOUR: 'it returns false'. Refute it at one input. -/
def seatsStatesWrong : ChangeSpec := { name := "seatsStates", fn := fun _ => fun
  | [d1, d2] => { results := [.lit (.bool false)], args := [d1, d2] }
  | _ => none }
def SeatsStatesWrongFalsely : Prop := seatsStatesRow.holds Try.pinned (OpenSpec.ofChange seatsStatesWrong)

/- THE SECOND FORM. 'bulk': how many values and letters a reading holds, each counted each time it is reached (what is shared counts as often as it is met; a slice's spare places count too). A statement '..UptoSaid' is the law's where the arguments, and the package variables that the reading takes, are together of bulk at most 1048576: NARROWER than '..Said'. Prove '..Said' where nothing that the law and all that it calls make is longer than what came in: it says more and counts as full. Else prove '..UptoSaid'. A law counts once. -/
mutual
def uptoBulk {H : Type} : DataW H → Nat
  | .lit (.string bytes) => bytes.length + 1
  | .lit _ => 1
  | .nil => 1
  | .ptr d => uptoBulk d + 1
  | .slice elems spare => uptoBulkAll elems + uptoBulkAll spare + 1
  | .agg parts => uptoBulkAll parts + 1
  | .iface _ d => uptoBulk d + 1
  | .map entries => uptoBulkEntries entries + 1
  | .held _ => 1
def uptoBulkAll {H : Type} : List (DataW H) → Nat
  | [] => 0
  | d :: r => uptoBulk d + uptoBulkAll r
def uptoBulkEntries {H : Type} : List (Lit × DataW H) → Nat
  | [] => 0
  | x :: r => uptoBulkEntry x + uptoBulkEntries r
def uptoBulkEntry {H : Type} : Lit × DataW H → Nat
  | (.string bytes, d) => bytes.length + uptoBulk d + 1
  | (_, d) => uptoBulk d + 1
 end
def uptoSmall : (H : Type) → List (DataW H) → Bool := fun _ ds => decide (uptoBulkAll ds ≤ 1048576)
def OpenSpec.upto (s : _root_.Go.ChangeSpec) : _root_.Go.OpenSpec := { _root_.Go.OpenSpec.ofChange s with cond := some uptoSmall }

/-- 'groundlinglaw16.SeatsEnds', WHERE WHAT IT READS IS OF BULK AT MOST 1048576: true; the input reads as it did. -/
def seatsEndsUptoRow : OpenClaim := { program := "ytcmpkpldihnklaa", sum := "5ab927e0c2f35ce790cd821b9f3030cc7e73f5ef267d38a9c9f7e72c172449a9", func := "groundling/groundlinglaw16.SeatsEnds", spec := "seatsEnds", apart := false, narrowed := true }
def SeatsEndsUptoSaid : Prop := seatsEndsUptoRow.holds Try.pinned (OpenSpec.upto seatsEndsSpec)

/-- 'groundlinglaw16.SeatsSteps', WHERE WHAT IT READS IS OF BULK AT MOST 1048576: true; the input reads as it did. -/
def seatsStepsUptoRow : OpenClaim := { program := "ytcmpkpldihnklaa", sum := "5ab927e0c2f35ce790cd821b9f3030cc7e73f5ef267d38a9c9f7e72c172449a9", func := "groundling/groundlinglaw16.SeatsSteps", spec := "seatsSteps", apart := false, narrowed := true }
def SeatsStepsUptoSaid : Prop := seatsStepsUptoRow.holds Try.pinned (OpenSpec.upto seatsStepsSpec)

/-- 'groundlinglaw16.SeatsPlays', WHERE WHAT IT READS IS OF BULK AT MOST 1048576: true; the input reads as it did. -/
def seatsPlaysUptoRow : OpenClaim := { program := "ytcmpkpldihnklaa", sum := "5ab927e0c2f35ce790cd821b9f3030cc7e73f5ef267d38a9c9f7e72c172449a9", func := "groundling/groundlinglaw16.SeatsPlays", spec := "seatsPlays", apart := false, narrowed := true }
def SeatsPlaysUptoSaid : Prop := seatsPlaysUptoRow.holds Try.pinned (OpenSpec.upto seatsPlaysSpec)

/-- 'groundlinglaw16.SeatsOne', WHERE WHAT IT READS IS OF BULK AT MOST 1048576: true; the input reads as it did. -/
def seatsOneUptoRow : OpenClaim := { program := "ytcmpkpldihnklaa", sum := "5ab927e0c2f35ce790cd821b9f3030cc7e73f5ef267d38a9c9f7e72c172449a9", func := "groundling/groundlinglaw16.SeatsOne", spec := "seatsOne", apart := false, narrowed := true }
def SeatsOneUptoSaid : Prop := seatsOneUptoRow.holds Try.pinned (OpenSpec.upto seatsOneSpec)

/-- 'groundlinglaw16.SeatsAfter', WHERE WHAT IT READS IS OF BULK AT MOST 1048576: true; the input reads as it did. -/
def seatsAfterUptoRow : OpenClaim := { program := "ytcmpkpldihnklaa", sum := "5ab927e0c2f35ce790cd821b9f3030cc7e73f5ef267d38a9c9f7e72c172449a9", func := "groundling/groundlinglaw16.SeatsAfter", spec := "seatsAfter", apart := false, narrowed := true }
def SeatsAfterUptoSaid : Prop := seatsAfterUptoRow.holds Try.pinned (OpenSpec.upto seatsAfterSpec)

/-- 'groundlinglaw16.SeatsGrow', WHERE WHAT IT READS IS OF BULK AT MOST 1048576: true; the input reads as it did. -/
def seatsGrowUptoRow : OpenClaim := { program := "ytcmpkpldihnklaa", sum := "5ab927e0c2f35ce790cd821b9f3030cc7e73f5ef267d38a9c9f7e72c172449a9", func := "groundling/groundlinglaw16.SeatsGrow", spec := "seatsGrow", apart := false, narrowed := true }
def SeatsGrowUptoSaid : Prop := seatsGrowUptoRow.holds Try.pinned (OpenSpec.upto seatsGrowSpec)

/-- 'groundlinglaw16.SeatsStates', WHERE WHAT IT READS IS OF BULK AT MOST 1048576: true; the input reads as it did. -/
def seatsStatesUptoRow : OpenClaim := { program := "ytcmpkpldihnklaa", sum := "5ab927e0c2f35ce790cd821b9f3030cc7e73f5ef267d38a9c9f7e72c172449a9", func := "groundling/groundlinglaw16.SeatsStates", spec := "seatsStates", apart := false, narrowed := true }
def SeatsStatesUptoSaid : Prop := seatsStatesUptoRow.holds Try.pinned (OpenSpec.upto seatsStatesSpec)

end Rows
end Go.Proofs.Ytcmpkpldihnklaa
