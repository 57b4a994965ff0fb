/-
  No cell of these rows narrows 'for every input' (looked for: loops, veiled, ifaces, maps, wideKeys, modest, calm, conditions, laid).
  DERIVED. THE GIVEN ROWS OF THIS SEAT. 6 by the template 'for every input the law returns true; each argument reads behind the call as it read before'; 0 by the template 'total and deterministic' (their statements: YteecgieigjfjiaaTotals.lean).
  GIVEN WITH THE SEED: the statements are not yours to turn. If you find one false, say at which input.
  Laid BY PROGRAM, IN A SANDBOX (cutbox-rows.mjs): the forced cells as the released guide's own fill.sh prints them over the translation dd48f60e2f502018… (all of the seat's roots in one cut). By AI agents, Wed Nov 11 2026. No macro, syntax, notation, axiom, sorry.
-/
import Derived.Test.YteecgieigjfjiaaChecked
import GoSem.Claim
import GoSem.ClaimJoined
import GoSem.ClaimMapViews
import Derived.JoinedTies
import Derived.KernelRfl
namespace Go.Proofs.Yteecgieigjfjiaa
/- THE CELL 'sum', in the pinned program and in every row, IS THE sha256 OF THE DUMP (.gsa) THAT YteecgieigjfjiaaProg.lean LOADS. Nothing in Lean hashes anything: it is a label: what it is worth is what the hold of that sum in a sandbox is worth. -/
noncomputable def Try.pinned : Pinned := { name := "yteecgieigjfjiaa", sum := "dd48f60e2f502018b3129d79a20e6798e815ce8d82bbacda98065f37bd551a96", checked := Try.checked }
namespace Rows
def none {H : Type} : Left H := { results := [], args := [] }

/-- 'groundlinglaw20.WaitlistPlaces': WHATEVER THE INPUT: true; the input reads as it did. -/
def waitlistPlacesSpec : ChangeSpec := { name := "waitlistPlaces", fn := fun _ => fun
  | [d1, d2, d3] => { results := [.lit (.bool true)], args := [d1, d2, d3] }
  | _ => none }
def waitlistPlacesRow : OpenClaim := { program := "yteecgieigjfjiaa", sum := "dd48f60e2f502018b3129d79a20e6798e815ce8d82bbacda98065f37bd551a96", func := "groundling/groundlinglaw20.WaitlistPlaces", spec := "waitlistPlaces", apart := false }
def WaitlistPlacesSaid : Prop := waitlistPlacesRow.holds Try.pinned (OpenSpec.ofChange waitlistPlacesSpec)

/-- ITS FALSE NEIGHBOUR: 'it returns false'. Refute it at one input. -/
def waitlistPlacesWrong : ChangeSpec := { name := "waitlistPlaces", fn := fun _ => fun
  | [d1, d2, d3] => { results := [.lit (.bool false)], args := [d1, d2, d3] }
  | _ => none }
def WaitlistPlacesWrongFalsely : Prop := waitlistPlacesRow.holds Try.pinned (OpenSpec.ofChange waitlistPlacesWrong)

/-- 'groundlinglaw20.WaitlistApart': WHATEVER THE INPUT: true; the input reads as it did. -/
def waitlistApartSpec : ChangeSpec := { name := "waitlistApart", fn := fun _ => fun
  | [d1, d2] => { results := [.lit (.bool true)], args := [d1, d2] }
  | _ => none }
def waitlistApartRow : OpenClaim := { program := "yteecgieigjfjiaa", sum := "dd48f60e2f502018b3129d79a20e6798e815ce8d82bbacda98065f37bd551a96", func := "groundling/groundlinglaw20.WaitlistApart", spec := "waitlistApart", apart := false }
def WaitlistApartSaid : Prop := waitlistApartRow.holds Try.pinned (OpenSpec.ofChange waitlistApartSpec)

/-- ITS FALSE NEIGHBOUR: 'it returns false'. Refute it at one input. -/
def waitlistApartWrong : ChangeSpec := { name := "waitlistApart", fn := fun _ => fun
  | [d1, d2] => { results := [.lit (.bool false)], args := [d1, d2] }
  | _ => none }
def WaitlistApartWrongFalsely : Prop := waitlistApartRow.holds Try.pinned (OpenSpec.ofChange waitlistApartWrong)

/-- 'groundlinglaw20.WaitlistPlays': WHATEVER THE INPUT: true; the input reads as it did. -/
def waitlistPlaysSpec : ChangeSpec := { name := "waitlistPlays", fn := fun _ => fun
  | [d1, d2] => { results := [.lit (.bool true)], args := [d1, d2] }
  | _ => none }
def waitlistPlaysRow : OpenClaim := { program := "yteecgieigjfjiaa", sum := "dd48f60e2f502018b3129d79a20e6798e815ce8d82bbacda98065f37bd551a96", func := "groundling/groundlinglaw20.WaitlistPlays", spec := "waitlistPlays", apart := false }
def WaitlistPlaysSaid : Prop := waitlistPlaysRow.holds Try.pinned (OpenSpec.ofChange waitlistPlaysSpec)

/-- ITS FALSE NEIGHBOUR: 'it returns false'. Refute it at one input. -/
def waitlistPlaysWrong : ChangeSpec := { name := "waitlistPlays", fn := fun _ => fun
  | [d1, d2] => { results := [.lit (.bool false)], args := [d1, d2] }
  | _ => none }
def WaitlistPlaysWrongFalsely : Prop := waitlistPlaysRow.holds Try.pinned (OpenSpec.ofChange waitlistPlaysWrong)

/-- 'groundlinglaw20.WaitlistOrder': WHATEVER THE INPUT: true; the input reads as it did. -/
def waitlistOrderSpec : ChangeSpec := { name := "waitlistOrder", fn := fun _ => fun
  | [d1, d2] => { results := [.lit (.bool true)], args := [d1, d2] }
  | _ => none }
def waitlistOrderRow : OpenClaim := { program := "yteecgieigjfjiaa", sum := "dd48f60e2f502018b3129d79a20e6798e815ce8d82bbacda98065f37bd551a96", func := "groundling/groundlinglaw20.WaitlistOrder", spec := "waitlistOrder", apart := false }
def WaitlistOrderSaid : Prop := waitlistOrderRow.holds Try.pinned (OpenSpec.ofChange waitlistOrderSpec)

/-- ITS FALSE NEIGHBOUR: 'it returns false'. Refute it at one input. -/
def waitlistOrderWrong : ChangeSpec := { name := "waitlistOrder", fn := fun _ => fun
  | [d1, d2] => { results := [.lit (.bool false)], args := [d1, d2] }
  | _ => none }
def WaitlistOrderWrongFalsely : Prop := waitlistOrderRow.holds Try.pinned (OpenSpec.ofChange waitlistOrderWrong)

/-- 'groundlinglaw20.WaitlistNone': WHATEVER THE INPUT: true; the input reads as it did. -/
def waitlistNoneSpec : ChangeSpec := { name := "waitlistNone", fn := fun _ => fun
  | [d1, d2, d3] => { results := [.lit (.bool true)], args := [d1, d2, d3] }
  | _ => none }
def waitlistNoneRow : OpenClaim := { program := "yteecgieigjfjiaa", sum := "dd48f60e2f502018b3129d79a20e6798e815ce8d82bbacda98065f37bd551a96", func := "groundling/groundlinglaw20.WaitlistNone", spec := "waitlistNone", apart := false }
def WaitlistNoneSaid : Prop := waitlistNoneRow.holds Try.pinned (OpenSpec.ofChange waitlistNoneSpec)

/-- ITS FALSE NEIGHBOUR: 'it returns false'. Refute it at one input. -/
def waitlistNoneWrong : ChangeSpec := { name := "waitlistNone", fn := fun _ => fun
  | [d1, d2, d3] => { results := [.lit (.bool false)], args := [d1, d2, d3] }
  | _ => none }
def WaitlistNoneWrongFalsely : Prop := waitlistNoneRow.holds Try.pinned (OpenSpec.ofChange waitlistNoneWrong)

/-- 'groundlinglaw20.WaitlistLoads': WHATEVER THE INPUT: true; the input reads as it did. -/
def waitlistLoadsSpec : ChangeSpec := { name := "waitlistLoads", fn := fun _ => fun
  | [d1, d2, d3] => { results := [.lit (.bool true)], args := [d1, d2, d3] }
  | _ => none }
def waitlistLoadsRow : OpenClaim := { program := "yteecgieigjfjiaa", sum := "dd48f60e2f502018b3129d79a20e6798e815ce8d82bbacda98065f37bd551a96", func := "groundling/groundlinglaw20.WaitlistLoads", spec := "waitlistLoads", apart := false }
def WaitlistLoadsSaid : Prop := waitlistLoadsRow.holds Try.pinned (OpenSpec.ofChange waitlistLoadsSpec)

/-- ITS FALSE NEIGHBOUR: 'it returns false'. Refute it at one input. -/
def waitlistLoadsWrong : ChangeSpec := { name := "waitlistLoads", fn := fun _ => fun
  | [d1, d2, d3] => { results := [.lit (.bool false)], args := [d1, d2, d3] }
  | _ => none }
def WaitlistLoadsWrongFalsely : Prop := waitlistLoadsRow.holds Try.pinned (OpenSpec.ofChange waitlistLoadsWrong)

/- THE SECOND FORM. 'bulk': how many values and letters a reading holds, each counted each time it is reached (what is shared counts as often as it is met; a slice's spare places count too). A statement '..UptoSaid' is the law's where the arguments, and the package variables that the reading takes, are together of bulk at most 1048576: NARROWER than '..Said'. Prove '..Said' where nothing that the law and all that it calls make is longer than what came in: it says more and counts as full. Else prove '..UptoSaid'. A law counts once. -/
mutual
def uptoBulk {H : Type} : DataW H → Nat
  | .lit (.string bytes) => bytes.length + 1
  | .lit _ => 1
  | .nil => 1
  | .ptr d => uptoBulk d + 1
  | .slice elems spare => uptoBulkAll elems + uptoBulkAll spare + 1
  | .agg parts => uptoBulkAll parts + 1
  | .iface _ d => uptoBulk d + 1
  | .map entries => uptoBulkEntries entries + 1
  | .held _ => 1
def uptoBulkAll {H : Type} : List (DataW H) → Nat
  | [] => 0
  | d :: r => uptoBulk d + uptoBulkAll r
def uptoBulkEntries {H : Type} : List (Lit × DataW H) → Nat
  | [] => 0
  | x :: r => uptoBulkEntry x + uptoBulkEntries r
def uptoBulkEntry {H : Type} : Lit × DataW H → Nat
  | (.string bytes, d) => bytes.length + uptoBulk d + 1
  | (_, d) => uptoBulk d + 1
 end
def uptoSmall : (H : Type) → List (DataW H) → Bool := fun _ ds => decide (uptoBulkAll ds ≤ 1048576)
def OpenSpec.upto (s : _root_.Go.ChangeSpec) : _root_.Go.OpenSpec := { _root_.Go.OpenSpec.ofChange s with cond := some uptoSmall }

/-- 'groundlinglaw20.WaitlistPlaces', WHERE WHAT IT READS IS OF BULK AT MOST 1048576: true; the input reads as it did. -/
def waitlistPlacesUptoRow : OpenClaim := { program := "yteecgieigjfjiaa", sum := "dd48f60e2f502018b3129d79a20e6798e815ce8d82bbacda98065f37bd551a96", func := "groundling/groundlinglaw20.WaitlistPlaces", spec := "waitlistPlaces", apart := false, narrowed := true }
def WaitlistPlacesUptoSaid : Prop := waitlistPlacesUptoRow.holds Try.pinned (OpenSpec.upto waitlistPlacesSpec)

/-- 'groundlinglaw20.WaitlistApart', WHERE WHAT IT READS IS OF BULK AT MOST 1048576: true; the input reads as it did. -/
def waitlistApartUptoRow : OpenClaim := { program := "yteecgieigjfjiaa", sum := "dd48f60e2f502018b3129d79a20e6798e815ce8d82bbacda98065f37bd551a96", func := "groundling/groundlinglaw20.WaitlistApart", spec := "waitlistApart", apart := false, narrowed := true }
def WaitlistApartUptoSaid : Prop := waitlistApartUptoRow.holds Try.pinned (OpenSpec.upto waitlistApartSpec)

/-- 'groundlinglaw20.WaitlistPlays', WHERE WHAT IT READS IS OF BULK AT MOST 1048576: true; the input reads as it did. -/
def waitlistPlaysUptoRow : OpenClaim := { program := "yteecgieigjfjiaa", sum := "dd48f60e2f502018b3129d79a20e6798e815ce8d82bbacda98065f37bd551a96", func := "groundling/groundlinglaw20.WaitlistPlays", spec := "waitlistPlays", apart := false, narrowed := true }
def WaitlistPlaysUptoSaid : Prop := waitlistPlaysUptoRow.holds Try.pinned (OpenSpec.upto waitlistPlaysSpec)

/-- 'groundlinglaw20.WaitlistOrder', WHERE WHAT IT READS IS OF BULK AT MOST 1048576: true; the input reads as it did. -/
def waitlistOrderUptoRow : OpenClaim := { program := "yteecgieigjfjiaa", sum := "dd48f60e2f502018b3129d79a20e6798e815ce8d82bbacda98065f37bd551a96", func := "groundling/groundlinglaw20.WaitlistOrder", spec := "waitlistOrder", apart := false, narrowed := true }
def WaitlistOrderUptoSaid : Prop := waitlistOrderUptoRow.holds Try.pinned (OpenSpec.upto waitlistOrderSpec)

/-- 'groundlinglaw20.WaitlistNone', WHERE WHAT IT READS IS OF BULK AT MOST 1048576: true; the input reads as it did. -/
def waitlistNoneUptoRow : OpenClaim := { program := "yteecgieigjfjiaa", sum := "dd48f60e2f502018b3129d79a20e6798e815ce8d82bbacda98065f37bd551a96", func := "groundling/groundlinglaw20.WaitlistNone", spec := "waitlistNone", apart := false, narrowed := true }
def WaitlistNoneUptoSaid : Prop := waitlistNoneUptoRow.holds Try.pinned (OpenSpec.upto waitlistNoneSpec)

/-- 'groundlinglaw20.WaitlistLoads', WHERE WHAT IT READS IS OF BULK AT MOST 1048576: true; the input reads as it did. -/
def waitlistLoadsUptoRow : OpenClaim := { program := "yteecgieigjfjiaa", sum := "dd48f60e2f502018b3129d79a20e6798e815ce8d82bbacda98065f37bd551a96", func := "groundling/groundlinglaw20.WaitlistLoads", spec := "waitlistLoads", apart := false, narrowed := true }
def WaitlistLoadsUptoSaid : Prop := waitlistLoadsUptoRow.holds Try.pinned (OpenSpec.upto waitlistLoadsSpec)

end Rows
end Go.Proofs.Yteecgieigjfjiaa
