/- General lemmas: whole arrays and structs out of where they lie; more of a block's cells. -/
import Derived.Deep.MidRow
import Derived.Test.YtkhinagagncblaaDoorTail
namespace Go.Gr
open Go.RowKit Go.Sort
set_option linter.unusedVariables false
section
variable {P : Program}
theorem Rd.range {w : World} {b : Nat} {cs : List Value} (h : Rd w (some ⟨b, 0, none⟩) cs) : w.rangeAt b 0 cs := fun j v hv => by
  rw [Nat.zero_add]; exact h.cell0 j hv
/-- a whole array or struct out of where it lies -/
theorem wpList_loadR {ops : Array Oper} {rest : List Oper} {o : Oper} {a : Act} {w : World} {Q : Exit → Act → World → Prop} (hgd : o.guard = none) (ty : TypeId) (x : Operand) (ho : o.op = .load ty x)
    {g : Nat} {cs : List Value} (hr : Rd w (some ⟨g, 0, none⟩) cs) (hx : a.eval x = .pointer (some ⟨g, 0, none⟩)) (d : TypeDesc)
    (hu : P.underlying ty = some d) (hd : d.isRow = true) (hi : (P.info? ty).map (·.size) = some cs.length)
    (h : wpList P ops Q rest (a.put o.dst (.agg cs.toArray)) w) : wpList P ops Q (o :: rest) a w :=
  wpList_load_mid hgd ty x ho g 0 hx cs d hr.range hu hd hi h
theorem Blk.range {w : World} {g : Nat} {e : TypeId} {cs : List Value} (h : Blk w g e cs) : w.rangeAt g 0 cs := fun j v hv => by
  rw [Nat.zero_add]; exact (h.cell j).trans hv
/-- a reading operation of a region: a whole array or struct out of a block -/
theorem rdOp_loadB {o : Oper} {a : Act} {w : World} {next : Act → Prop} (ty : TypeId) (x : Operand) (ho : o.op = .load ty x)
    {g : Nat} {t : TypeId} {cs : List Value} (hB : Blk w g t cs) (hx : a.eval x = .pointer (some ⟨g, 0, none⟩)) (d : TypeDesc)
    (hu : P.underlying ty = some d) (hd : d.isRow = true) (hi : (P.info? ty).map (·.size) = some cs.length)
    (h : next (a.put o.dst (.agg cs.toArray))) : rdOp P o a (Cls w) next := by
  refine ⟨_, fun w' hw' => ?_, h⟩
  have hr := (hB.ext (cls_iff.1 hw')).range
  unfold rdAt execOp
  simp only [ho, hx, Instr.loadAt, Instr.sureAddr, Sem.run_bind, Sem.run_pure, Result.andThen_ok, run_loadVar_mid w' g 0 ty cs d hr hu hd hi]
  exact ⟨rfl, rfl⟩
theorem wt_loadB {ops : Array Oper} {Q : Exit → Act → World → Prop} {tail : List Oper} {i : Nat} {o : Oper} {rest : List Nat} {a : Act} {w : World} (hi : ops[i]? = some o) (hgd : o.guard = none) (ty : TypeId) (x : Operand) (ho : o.op = .load ty x)
    {g : Nat} {t : TypeId} {cs : List Value} (hB : Blk w g t cs) (hx : a.eval x = .pointer (some ⟨g, 0, none⟩)) (d : TypeDesc)
    (hu : P.underlying ty = some d) (hd : d.isRow = true) (hs : (P.info? ty).map (·.size) = some cs.length)
    (h : WT P ops Q tail rest (a.put o.dst (.agg cs.toArray)) w) : WT P ops Q tail (i :: rest) a w := by
  refine wt_rd hi (by simp [isExt, ho]) fun K hK => ?_
  rw [if_pos (by simp [Region.wanted, hgd])]
  exact rdOp_loadB ty x ho hB hx d hu hd hs (hK _ h)
theorem wm_loadB {ops : Array Oper} {Q : Exit → Act → World → Prop} {i : Nat} {o : Oper} {rest : List Nat} {a : Act} {w : World} (hi : ops[i]? = some o) (hgd : o.guard = none) (ty : TypeId) (x : Operand) (ho : o.op = .load ty x)
    {g : Nat} {t : TypeId} {cs : List Value} (hB : Blk w g t cs) (hx : a.eval x = .pointer (some ⟨g, 0, none⟩)) (d : TypeDesc)
    (hu : P.underlying ty = some d) (hd : d.isRow = true) (hs : (P.info? ty).map (·.size) = some cs.length)
    (h : WM P ops Q rest (a.put o.dst (.agg cs.toArray)) w) : WM P ops Q (i :: rest) a w := by
  refine wm_rd hi (by simp [isExt, ho]) fun K hK => ?_
  rw [if_pos (by simp [Region.wanted, hgd])]
  exact rdOp_loadB ty x ho hB hx d hu hd hs (hK _ h)
end
end Go.Gr
