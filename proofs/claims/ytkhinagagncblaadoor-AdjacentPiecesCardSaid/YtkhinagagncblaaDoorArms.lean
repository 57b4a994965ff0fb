/- General: one arm for each operation on memory, over one hypothesis for the whole of memory. -/
import Derived.Test.YtkhinagagncblaaDoorMonoR
namespace Go.Gr
open Go.RowKit Go.Sort
set_option linter.unusedVariables false
section
variable {P : Program} {G : Nat → Prop} {w0 w : World} {L L1 L2 : List As} {ops : Array Oper} {rest : List Oper} {o : Oper} {a : Act} {Q : Exit → Act → World → Prop} {K : Act → World → Prop}
theorem run_storeVar_cell (g i : Nat) (ty : TypeId) (v : Value) (hc : (w.cell? ⟨g, i, none⟩).isSome = true) (hf : w.frozen? ⟨g, i, none⟩ = false) (hi : (P.info? ty).map (·.size) = some 1) (h1 : v.oneCell' = true) :
    (storeVar ty ⟨g, i, none⟩ v).run P w = .ok () (w.setCell ⟨g, i, none⟩ v) := by
  have hj : ∀ {j}, j < [v].length → j = 0 := fun h => by simpa using h
  have := run_storeCells_cells (P := P) g i [v] 0 w (fun j h => by rw [hj h]; simpa using hc) (fun j h => by rw [hj h]; simpa using hf) (fun u hu => by simp at hu; subst hu; exact h1)
  have hcs : v.cells = #[v] := by cases v <;> first | rfl | cases h1
  cases hq : P.info? ty with
  | none => simp [hq] at hi
  | some ii =>
    have hs : ii.size = 1 := by simpa [hq] using hi
    simp only [Nat.add_zero] at this
    simp [storeVar, sizeOf, typeInfo, hq, hcs, hs, this, World.setCells]
/-- a scalar into a cell of a block -/
theorem wp_st1S (L1 : List As) {L2 : List As} {g i : Nat} {t : TypeId} {cs : List Value} (H : Sep G w0 w (L1 ++ As.blk g t cs :: L2)) (ty : TypeId) (x y : Operand) (ho : o.op = .store ty x y)
    {v : Value} (hx : a.eval x = .pointer (some ⟨g, i, none⟩)) (hy : a.eval y = v) (hi : (P.info? ty).map (·.size) = some 1) (hl : i < cs.length) (h1 : v.oneCell' = true)
    (h : ∀ w', Sep G w0 w' (L1 ++ As.blk g t (cs.set i v) :: L2) → Upd g w w' → K (a.put o.dst undef) w') : o.wp P a w K Q := by
  have hB := H.blk (g := g) (e := t) (cs := cs) (by simp)
  have hr := run_storeVar_cell (P := P) (w := w) g i ty v (by rw [hB.cell i, List.getElem?_eq_getElem hl]; rfl) (hB.free i) hi h1
  unfold Oper.wp execOp
  simp only [ho, hx, hy, Instr.storeAt, Instr.sureAddr, Sem.run_bind, Sem.run_pure, Result.andThen_ok, hr]
  exact h _ (H.cell i v) ((Upd.refl g w).cell i v)
theorem wpList_st1S (L1 : List As) {L2 : List As} {g i : Nat} {t : TypeId} {cs : List Value} (H : Sep G w0 w (L1 ++ As.blk g t cs :: L2)) (hgd : o.guard = none) (ty : TypeId) (x y : Operand) (ho : o.op = .store ty x y)
    {v : Value} (hx : a.eval x = .pointer (some ⟨g, i, none⟩)) (hy : a.eval y = v) (hi : (P.info? ty).map (·.size) = some 1) (hl : i < cs.length) (h1 : v.oneCell' = true)
    (h : ∀ w', Sep G w0 w' (L1 ++ As.blk g t (cs.set i v) :: L2) → wpList P ops Q rest (a.put o.dst undef) w') : wpList P ops Q (o :: rest) a w :=
  wpList_plain hgd fun K hK => wp_st1S L1 H ty x y ho hx hy hi hl h1 fun w' H' _ => hK _ _ (h w' H')
/-- a scalar out of a cell -/
theorem wpList_ld1 (hw : Region.wanted o (yielded ops a.tmps) = true) (ty : TypeId) (x : Operand) (ho : o.op = .load ty x) {ad : Addr} {v : Value} (hx : a.eval x = .pointer (some ad)) (hc : w.cell? ad = some v) (d : TypeDesc)
    (hu : P.underlying ty = some d) (hd : (match d with | .struct _ | .array _ _ => false | _ => true) = true) (h : wpList P ops Q rest (a.put o.dst v) w) : wpList P ops Q (o :: rest) a w :=
  wpList_step fun K hK => by
    rw [if_pos hw]
    unfold Oper.wp execOp
    simp only [ho, hx, Instr.loadAt, Instr.sureAddr, Sem.run_bind, Sem.run_pure, Result.andThen_ok, run_loadVar_one ty ad v d hu hd hc]
    exact hK _ _ h
/-- a new variable -/
theorem wpList_alS (H : Sep G w0 w L) (hgd : o.guard = none) (ty : TypeId) (ho : o.op = .alloc ty) (cs : List Value) (hz : (P.info? ty).map (fun i => i.zero.map (·.cells)) = some (some cs.toArray))
    (h : ∀ w', w'.heap.size = w.heap.size + 1 → Sep G w0 w' (As.blk w.heap.size ty cs :: L) → wpList P ops Q rest (a.put o.dst (.pointer (some ⟨w.heap.size, 0, none⟩))) w') : wpList P ops Q (o :: rest) a w := by
  refine wpList_plain hgd fun K hK => ?_
  unfold Oper.wp execOp
  cases hq : P.info? ty with
  | none => simp [hq] at hz
  | some ii =>
    cases hq2 : ii.zero with
    | none => simp [hq, hq2] at hz
    | some z =>
      have hzc : z.cells = cs.toArray := by simpa [hq, hq2] using hz
      have hr : (zeroValue ty).run P w = .ok z w := by simp [zeroValue, typeInfo, hq, hq2]
      simp only [ho, Instr.alloc, Sem.run_bind, hr, Result.andThen_ok, newVar, newRow, hzc]
      exact hK _ _ (h _ (by simp) (H.newB ((Ext.refl w).alloc (.cells cs.toArray ty)) (Blk.new w ty cs) (Nat.le_refl _)))
end
end Go.Gr
