/- What the listed variables read as gives the walks what they ask of memory; the door's own heap meets it. -/
import Derived.Test.YtamlngdjbmndlaaDoorRows
import Derived.ProofKit
import Derived.LaidMore
import Derived.OpenShut
import Derived.Stop.Joined
import Derived.Test.YtamlngdjbmndlaaDoorS15
namespace Go.Proofs.YtamlngdjbmndlaaDoor
open Go.ChangeShapes Go.WideShapes Go.ChangeAt Go.RowKit Go.Gr
set_option linter.unusedVariables false
def laid2 : List (String × DataW Unit) := [("groundling/sha.constants", Rows.laid_groundling_sha_constants), ("groundling/sha.start", Rows.laid_groundling_sha_start)]
theorem own : ownKnob Tryd.prog.godebug = none := by kernel_rfl
theorem laidOut : laidOutB Tryd.prog = true := by kernel_rfl
theorem door_met (os : Os) (args : Array Value) : laidMetH Tryd.prog laid2 ((World.doorLaid Tryd.prog 400 os).forCall (fun _ _ => 0) ⟨#[], args, []⟩).memory :=
  laidMetH_of_parts3 (fuel := 8) (laidMet_of_run' 8 (by kernel_rfl) (by kernel_rfl)) (by kernel_rfl) (by kernel_rfl)
theorem array_read {H : Type} {enc : TypeId × Value → H} {P : Program} {W : World} {held : Bool} {base f g : Nat} {spare : Nat → Bool} {name : String} {t e : TypeId} {n : Nat} {k : IntKind} {cs : Array Value} {q : List MemPlace} {l : List Int} (hg : P.globalNamed name = some g)
    (hv : W.var? P name = some cs) (ht : P.underlying t = some (.array n e)) (he : P.underlying e = some (.int k)) (hc : P.cellsOf e = 1) (hd : DataW.trod enc P W base spare held f t cs.toList = some (.agg (l.map fun x => .lit (.int k x)), q)) (hn : l.length = n) :
    Rd W (some ⟨g, 0, none⟩) (l.map (Value.int k)) := by
  obtain ⟨xs, m, rfl, hx, _, hlen, hel⟩ := DataW.trod_array ht hd
  intro j u hu
  rw [List.getElem?_map] at hu
  have hj : j < l.length := by
    rcases Nat.lt_or_ge j l.length with h | h
    · exact h
    · rw [List.getElem?_eq_none h] at hu; cases hu
  rw [List.getElem?_eq_getElem hj] at hu
  cases hu
  have h1 := hel j (by omega)
  have h2 : xs[j]? = some xs[j] := List.getElem?_eq_getElem (by omega)
  rw [h2] at h1
  obtain ⟨r, e1, e2, _⟩ := DataW.trod_int he h1
  have h3 : (xs.map (·.1))[j]? = (l.map fun x => DataW.lit (Lit.int k x))[j]? := by
    have := (Prod.mk.injEq _ _ _ _ ▸ hx).1
    rw [DataW.agg.injEq] at this
    rw [← this]
  rw [List.getElem?_map, h2, List.getElem?_map, List.getElem?_eq_getElem hj, Option.map_some, Option.map_some, e2] at h3
  have h4 : r = l[j] := by simpa using h3
  subst h4
  rw [hc, Nat.mul_one] at e1
  have h5 : cs.toList[j]? = some (.int k l[j]) := by
    have : ((cs.toList.drop j).take 1)[0]? = some (Value.int k l[j]) := by rw [e1]; rfl
    rw [List.getElem?_take] at this
    simpa using this
  refine ⟨_, rfl, ?_⟩
  rw [add0, World.var?_cell hg hv j]
  simpa using h5
theorem of_laid {W : World} (h : laidMetH Tryd.prog laid2 W) : Laid W := by
  rw [MakeChecks.laidMetH_plain _ _ _ (by kernel_rfl)] at h
  obtain ⟨ps, ⟨g0, t0, cs0, f0, p0, q0, hg0, ht0, hv0, hd0, ⟨g1, t1, cs1, f1, p1, q1, hg1, ht1, hv1, hd1, _, _⟩, _⟩, _, _⟩ := h
  obtain rfl := Option.some.inj ((show Tryd.prog.globalNamed "groundling/sha.constants" = some 1 by kernel_rfl).symm.trans hg0)
  obtain rfl := Option.some.inj ((show Tryd.prog.globalNamed "groundling/sha.start" = some 0 by kernel_rfl).symm.trans hg1)
  obtain rfl := Option.some.inj ((show (Tryd.prog.globals[1]?).map (·.type) = some 127 by kernel_rfl).symm.trans ht0)
  obtain rfl := Option.some.inj ((show (Tryd.prog.globals[0]?).map (·.type) = some 120 by kernel_rfl).symm.trans ht1)
  exact ⟨array_read (l := kT) hg0 hv0 Tryd.underlying127 Tryd.underlying22 (by kernel_rfl) hd0 rfl, array_read (l := hT) hg1 hv1 Tryd.underlying120 Tryd.underlying22 (by kernel_rfl) hd1 rfl⟩
end Go.Proofs.YtamlngdjbmndlaaDoor
