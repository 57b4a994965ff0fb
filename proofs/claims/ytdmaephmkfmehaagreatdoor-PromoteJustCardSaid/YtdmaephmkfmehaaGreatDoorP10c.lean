/- General: a struct of three cells into a row of an own array. -/
import Derived.Test.YtdmaephmkfmehaaGreatDoorP10b
namespace Go.Gr
open Go.RowKit Go.Sort
set_option linter.unusedVariables false
section
variable {P : Program} {G : Nat → Prop} {w0 w : World} {L L1 L2 : List As} {o : Oper} {a : Act} {Q : Exit → Act → World → Prop} {K : Act → World → Prop}
theorem run_storeVar_3 (g i : Nat) (ty : TypeId) (u0 u1 u2 : Value) (hc : ∀ j, j < 3 → (w.cell? ⟨g, i + j, none⟩).isSome = true) (hf : ∀ j, j < 3 → w.frozen? ⟨g, i + j, none⟩ = false) (hi : (P.info? ty).map (·.size) = some 3) (h1 : ∀ u ∈ [u0, u1, u2], u.oneCell' = true) :
    (storeVar ty ⟨g, i, none⟩ (.agg #[u0, u1, u2])).run P w = .ok () (((w.setCell ⟨g, i, none⟩ u0).setCell ⟨g, i + 1, none⟩ u1).setCell ⟨g, i + 2, none⟩ u2) := by
  have := run_storeCells_cells (P := P) g i [u0, u1, u2] 0 w (fun j h => by simpa using hc j (by simpa using h)) (fun j h => by simpa using hf j (by simpa using h)) h1
  have hcs : (Value.agg #[u0, u1, u2]).cells = #[u0, u1, u2] := rfl
  cases hq : P.info? ty with
  | none => simp [hq] at hi
  | some ii =>
    have hs : ii.size = 3 := by simpa [hq] using hi
    simp only [Nat.add_zero] at this
    simp [storeVar, sizeOf, typeInfo, hq, hcs, hs, this, World.setCells]
theorem wp_stM3 (L1 : List As) {L2 : List As} {e : TypeId} {g n c : Nat} {rows : List (List Value)} (H : Sep G w0 w (L1 ++ As.ownM e 3 (.slice (some ⟨g, 0, none⟩) n c) rows :: L2)) (ty : TypeId) (x y : Operand) (ho : o.op = .store ty x y)
    {i : Nat} {r : List Value} (hr : rows[i]? = some r) (hr3 : r.length = 3) {u0 u1 u2 : Value} (hx : a.eval x = .pointer (some ⟨g, i * 3, none⟩)) (hy : a.eval y = .agg #[u0, u1, u2]) (hi : (P.info? ty).map (·.size) = some 3) (h1 : ∀ u ∈ [u0, u1, u2], u.oneCell' = true)
    (h : ∀ w', Sep G w0 w' (L1 ++ As.ownM e 3 (.slice (some ⟨g, 0, none⟩) n c) (rows.set i [u0, u1, u2]) :: L2) → Upd g w w' → K (a.put o.dst undef) w') : o.wp P a w K Q := by
  obtain ⟨r0, r1, r2, rfl⟩ : ∃ a b c, r = [a, b, c] := by
    rcases r with _ | ⟨a, _ | ⟨b, _ | ⟨c, _ | ⟨d, t⟩⟩⟩⟩ <;> simp at hr3
    exact ⟨a, b, c, rfl⟩
  have hil := (List.getElem?_eq_some_iff.1 hr).1
  have hset : ∀ q : List Value, (rows.set i q)[i]? = some q := fun q => by rw [List.getElem?_set_self (by simpa using hil)]
  obtain ⟨g', c', e1, -, a0, f0, -, H1⟩ := H.setM L1 (i := i) (j := 0) hr (by decide) u0
  obtain ⟨_, _, _, -, a1, f1, -, -⟩ := H.setM L1 (i := i) (j := 1) hr (by decide) u0
  obtain ⟨_, _, _, -, a2, f2, -, -⟩ := H.setM L1 (i := i) (j := 2) hr (by decide) u0
  rename_i _ _ e2 _ _ e3
  simp only [Value.slice.injEq, Option.some.injEq, Addr.mk.injEq] at e1 e2 e3
  obtain ⟨⟨rfl, -, -⟩, -, -⟩ := e1
  obtain ⟨⟨rfl, -, -⟩, -, -⟩ := e2
  obtain ⟨⟨rfl, -, -⟩, -, -⟩ := e3
  simp only [List.set_cons_zero] at H1
  obtain ⟨_, _, e4, -, -, -, -, H2⟩ := H1.setM L1 (i := i) (j := 1) (hset _) (by decide) u1
  simp only [Value.slice.injEq, Option.some.injEq, Addr.mk.injEq] at e4
  obtain ⟨⟨rfl, -, -⟩, -, -⟩ := e4
  rw [List.set_set] at H2
  obtain ⟨_, _, e5, -, -, -, -, H3⟩ := H2.setM L1 (i := i) (j := 2) (hset _) (by decide) u2
  simp only [Value.slice.injEq, Option.some.injEq, Addr.mk.injEq] at e5
  obtain ⟨⟨rfl, -, -⟩, -, -⟩ := e5
  rw [List.set_set] at H3
  have hrun := run_storeVar_3 (P := P) (w := w) g (i * 3) ty u0 u1 u2 (fun j hj => by
    rcases j with _ | _ | _ | j
    · rw [a0]; rfl
    · rw [a1]; rfl
    · rw [a2]; rfl
    · omega) (fun j hj => by
    rcases j with _ | _ | _ | j
    · exact f0
    · exact f1
    · exact f2
    · omega) hi h1
  unfold Oper.wp execOp
  simp only [ho, hx, hy, Instr.storeAt, Instr.sureAddr, Sem.run_bind, Sem.run_pure, Result.andThen_ok, hrun]
  exact h _ H3 (((Upd.refl g w).cell (i * 3) u0).cell (i * 3 + 1) u1 |>.cell (i * 3 + 2) u2)
end
end Go.Gr
