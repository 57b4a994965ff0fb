/- General: two arrays of integers are compared. -/
import Derived.ChangeKeysEq
import Derived.Laws.StructEq
import Derived.Test.YtkhinagagncblaaDoorU
namespace Go.Gr
open Go.RowKit
set_option linter.unusedVariables false
section
variable {P : Program}
/-- a whole array or struct into a block: the walk goes on in a world with a name -/
theorem wpList_storeH {ops : Array Oper} {rest : List Oper} {o : Oper} {a : Act} {w : World} {Q : Exit → Act → World → Prop} (hgd : o.guard = none) (ty : TypeId) (x y : Operand) (ho : o.op = .store ty x y)
    {g : Nat} {t : TypeId} {old cs : List Value} (hB : Blk w g t old) (hx : a.eval x = .pointer (some ⟨g, 0, none⟩)) (hy : a.eval y = .agg cs.toArray)
    (hi : (P.info? ty).map (·.size) = some cs.length) (hl : old.length = cs.length) (h1 : ∀ v ∈ cs, v.oneCell' = true)
    (h : ∀ w', Blk w' g t cs → Upd g w w' → wpList P ops Q rest (a.put o.dst undef) w') : wpList P ops Q (o :: rest) a w :=
  wpList_storeB hgd ty x y ho hB hx hy hi hl h1 (h _ (hB.setRow cs) ((Upd.refl g w).row _))
/-- a guarded load, where its guard says yes -/
theorem wpList_loadBG {ops : Array Oper} {rest : List Oper} {o : Oper} {a : Act} {w : World} {Q : Exit → Act → World → Prop} (hw : Region.wanted o (yielded ops a.tmps) = true) (ty : TypeId) (x : Operand) (ho : o.op = .load ty x)
    {g : Nat} {t : TypeId} {cs : List Value} (hB : Blk w g t cs) (hx : a.eval x = .pointer (some ⟨g, 0, none⟩)) (d : TypeDesc)
    (hu : P.underlying ty = some d) (hd : (match d with | .struct _ | .array _ _ => true | _ => false) = true) (hi : (P.info? ty).map (·.size) = some cs.length)
    (h : wpList P ops Q rest (a.put o.dst (.agg cs.toArray)) w) : wpList P ops Q (o :: rest) a w :=
  wpList_step fun K hK => by
    rw [if_pos hw]
    exact wp_load_row ty x ho g hx t cs.toArray (0, 0) d hB hu hd (by simpa using hi) (hK _ _ h)
theorem wm_loadBG {ops : Array Oper} {Q : Exit → Act → World → Prop} {i : Nat} {o : Oper} {rest : List Nat} {a : Act} {w : World} (hi : ops[i]? = some o) (hw : Region.wanted o (yielded ops a.tmps) = true) (ty : TypeId) (x : Operand) (ho : o.op = .load ty x)
    {g : Nat} {t : TypeId} {cs : List Value} (hB : Blk w g t cs) (hx : a.eval x = .pointer (some ⟨g, 0, none⟩)) (d : TypeDesc)
    (hu : P.underlying ty = some d) (hd : d.isRow = true) (hs : (P.info? ty).map (·.size) = some cs.length)
    (h : WM P ops Q rest (a.put o.dst (.agg cs.toArray)) w) : WM P ops Q (i :: rest) a w := by
  refine wm_rd hi (by simp [isExt, ho]) fun K hK => ?_
  rw [if_pos hw]
  exact rdOp_loadB ty x ho hB hx d hu hd hs (hK _ h)
theorem run_part_int {e : TypeId} {k : IntKind} (he : P.underlying e = some (.int k)) (hi : (P.info? e).map (·.size) = some 1) (l : List Int) (j : Nat) (h : j < l.length) (w : World) : (part e (l.map (Value.int k)).toArray j).run P w = .ok (.int k (l.getD j 0)) w := by
  cases hq : P.info? e with
  | none => simp [hq] at hi
  | some ie =>
    have hs : ie.size = 1 := by simpa [hq] using hi
    simp [part, run_underlying he, isAgg, sizeOf, typeInfo, hq, hs, h]
theorem run_eqItems_ints {e : TypeId} {k : IntKind} (he : P.underlying e = some (.int k)) (hi : (P.info? e).map (·.size) = some 1) (l l' : List Int) (d : Nat) (w : World) : ∀ is : List Nat, (∀ i ∈ is, i < l.length ∧ i < l'.length) →
    (Op.eqItems (d + 1) e 1 (l.map (Value.int k)).toArray (l'.map (Value.int k)).toArray is).run P w = .ok (is.all fun i => l.getD i 0 == l'.getD i 0) w
  | [], _ => by simp [Op.eqItems]
  | i :: is, h => by
    obtain ⟨h1, h2⟩ := h i (by simp)
    have ih := run_eqItems_ints he hi l l' d w is (fun j hj => h j (by simp [hj]))
    rw [Op.eqItems]
    simp only [Sem.run_bind, Nat.mul_one, run_part_int he hi l i h1, run_part_int he hi l' i h2, Result.andThen_ok, run_equalIn_int w d e k k _ _ he, List.all_cons]
    cases hb : (l.getD i 0 == l'.getD i 0)
    · simp
    · simpa using ih
theorem run_equalIn_ints {t e : TypeId} {n : Nat} {k : IntKind} (ht : P.underlying t = some (.array n e)) (he : P.underlying e = some (.int k)) (hi : (P.info? e).map (·.size) = some 1) (hc : P.cellsOf e = 1) (l l' : List Int) (hl : l.length = n) (hl' : l'.length = n) (d : Nat) (w : World) :
    (Op.equalIn (d + 2) t (.agg (l.map (Value.int k)).toArray) (.agg (l'.map (Value.int k)).toArray)).run P w = .ok (l == l') w := by
  obtain ⟨ie, hie⟩ : ∃ ie, P.info? e = some ie := by
    cases hq : P.info? e with
    | none => simp [hq] at hi
    | some ie => exact ⟨ie, rfl⟩
  rw [run_equalIn_array w (d + 1) _ _ ht hie, hc, run_eqItems_ints he hi l l' d w _ (fun i h => by have := List.mem_range.1 h; omega)]
  congr 1
  rw [Bool.eq_iff_iff, List.all_eq_true, beq_iff_eq]
  constructor
  · intro h
    apply List.ext_getElem (by omega)
    intro i h1 h2
    have := h i (List.mem_range.2 (by omega))
    simpa [h1, h2] using this
  · intro h i _
    rw [h]; simp
theorem run_eql_ints {t e : TypeId} {n : Nat} {k : IntKind} (ht : P.underlying t = some (.array n e)) (he : P.underlying e = some (.int k)) (hi : (P.info? e).map (·.size) = some 1) (hc : P.cellsOf e = 1) (l l' : List Int) (hl : l.length = n) (hl' : l'.length = n) (w : World) :
    (binOp .eql t (.agg (l.map (Value.int k)).toArray) (.agg (l'.map (Value.int k)).toArray)).run P w = .ok (.bool (l == l')) w := by
  rw [run_eql_struct, run_equalIn_ints ht he hi hc l l' hl hl' 9998 w]; rfl
theorem run_neq_ints {t e : TypeId} {n : Nat} {k : IntKind} (ht : P.underlying t = some (.array n e)) (he : P.underlying e = some (.int k)) (hi : (P.info? e).map (·.size) = some 1) (hc : P.cellsOf e = 1) (l l' : List Int) (hl : l.length = n) (hl' : l'.length = n) (w : World) :
    (binOp .neq t (.agg (l.map (Value.int k)).toArray) (.agg (l'.map (Value.int k)).toArray)).run P w = .ok (.bool (!(l == l'))) w := by
  rw [run_neq_struct, run_equalIn_ints ht he hi hc l l' hl hl' 9998 w]; rfl
end
end Go.Gr
