/- General: a row of several cells, in a block of its own, is put onto a slice of the call's own; a cell of such a slice is written. -/
import Derived.Test.YtkhinagagncblaaDoorRowM
namespace Go.Gr
open Go.RowKit Go.Sort
set_option linter.unusedVariables false
section
variable {P : Program} {w w0 : World} {G : Nat → Prop} {L1 L2 : List As}
theorem wpList_pushM {ops : Array Oper} {rest : List Oper} {o : Oper} {a : Act} {Q : Exit → Act → World → Prop} (L1 : List As) {L2 : List As} {e e' : TypeId} {k : Nat} {v : Value} {rows : List (List Value)} {r : List Value} (H : Sep G w0 w (L1 ++ As.ownM e k v rows :: L2)) (hgd : o.guard = none) (s x : Operand) (t : TypeId)
    (ho : o.op = .call { callee := .builtin .append, args := #[s, x], argTypes := #[t, t] })
    (i : TypeInfo) (z : Value) (bytes : Nat) (ht : P.underlying t = some (.slice e)) (hi : P.info? e = some i) (hz : i.zero = some z)
    (hsize : i.size = k) (hby : i.bytes = bytes) (hzs : z.cells.size = k) (hsz : 0 < k)
    (hs : a.eval s = v) (hx : a.eval x = .slice (some ⟨w.heap.size, 0, none⟩) 1 1) (hl : r.length = k)
    (h1 : ∀ u ∈ r, u.oneCell' = true) (hn : rows.length < 100000) (hb : bytes ≤ 1000)
    (h : ∀ v' w', Sep G w0 w' (L1 ++ As.ownM e k v' (rows ++ [r]) :: L2) → wpList P ops Q rest (a.put o.dst v') w') : wpList P ops Q (o :: rest) a (w.alloc (.cells r.toArray e')) :=
  wpList_apM hgd s x t ho e i z k bytes ht hi hz hsize hby hzs hsz hs ((H.ownsM (e := e) (k := k) (v := v) (rows := rows) (by simp)).ext ((Ext.refl w).alloc _)) hx hl (Blk.rd (Blk.new w e' r)) h1 hn hb
    fun v' w' h2 h3 => h v' w' ((H.ext ((Ext.refl w).alloc _)).grewM L1 h3 h2)
theorem flatten_set {k : Nat} : ∀ {rows : List (List Value)}, (∀ r ∈ rows, r.length = k) → ∀ (i j : Nat) {r : List Value} (u : Value), rows[i]? = some r → j < k → (rows.set i (r.set j u)).flatten = rows.flatten.set (i * k + j) u
  | [], _, i, j, r, u, hr, _ => by simp at hr
  | a :: rows, h, 0, j, r, u, hr, hj => by
    simp only [List.getElem?_cons_zero, Option.some.injEq] at hr
    subst hr
    have ha := h a (by simp)
    rw [List.set_cons_zero, List.flatten_cons, List.flatten_cons, Nat.zero_mul, Nat.zero_add, List.set_append_left _ _ (by rw [ha]; exact hj)]
  | a :: rows, h, i + 1, j, r, u, hr, hj => by
    rw [List.getElem?_cons_succ] at hr
    have ha := h a (by simp)
    rw [List.set_cons_succ, List.flatten_cons, List.flatten_cons, List.set_append_right _ _ (by rw [ha, Nat.add_mul]; omega), flatten_set (fun x hx => h x (by simp [hx])) i j u hr hj, ha,
      show (i + 1) * k + j - k = i * k + j by rw [Nat.add_mul]; omega]
/-- a cell of a row of the call's own is written -/
theorem Sep.setM (L1 : List As) {L2 : List As} {e : TypeId} {k : Nat} {v : Value} {rows : List (List Value)} (H : Sep G w0 w (L1 ++ As.ownM e k v rows :: L2)) {i j : Nat} {r : List Value} (hr : rows[i]? = some r) (hj : j < k) (u : Value) :
    ∃ g c, v = .slice (some ⟨g, 0, none⟩) rows.length c ∧ rows.length ≤ c ∧ w.cell? ⟨g, i * k + j, none⟩ = r[j]? ∧ w.frozen? ⟨g, i * k + j, none⟩ = false ∧ g < w.heap.size ∧ Sep G w0 (w.setCell ⟨g, i * k + j, none⟩ u) (L1 ++ As.ownM e k v (rows.set i (r.set j u)) :: L2) := by
  have hO := H.ownsM (e := e) (k := k) (v := v) (rows := rows) (by simp)
  have hil : i < rows.length := by
    rcases Nat.lt_or_ge i rows.length with h3 | h3
    · exact h3
    · rw [List.getElem?_eq_none h3] at hr; cases hr
  have hrl := hO.len r (List.mem_of_getElem? hr)
  rcases hO.row.2 with ⟨h1, h⟩ | ⟨g, cap, cur, hv, hb, hh, hc, hm, hs, ht⟩
  · omega
  · subst hv
    have hB : Blk w g e cur.toList := by
      show w.heap[g]? = some (.cells cur.toList.toArray e (0, 0))
      rw [hh, Array.toArray_toList]
    have hlt : i * k + j < rows.length * k := by
      have := Nat.mul_le_mul_right k (show i + 1 ≤ rows.length by omega)
      rw [Nat.add_mul] at this; omega
    have hci : cur.toList[i * k + j]? = r[j]? := by
      have h2 : (cur.toList.take (rows.length * k))[i * k + j]? = rows.flatten[i * k + j]? := by rw [ht]
      rw [List.getElem?_take, if_pos hlt] at h2
      rw [h2, flatten_get hO.len i j hr (List.getElem?_eq_getElem (show j < r.length by omega)), List.getElem?_eq_getElem]
    refine ⟨g, cap, rfl, hc, (hB.cell _).trans hci, hB.free _, hB.lt, ?_⟩
    refine H.upd (B := As.ownM e k (.slice (some ⟨g, 0, none⟩) rows.length cap) (rows.set i (r.set j u))) (Fr.of_upd ((Upd.refl g w).cell _ u)) (fun q hq => by rw [show q = g from hq]; rfl) ?_ (fun _ h => .inl h)
    refine ⟨⟨?_, .inr ⟨g, cap, (cur.toList.set (i * k + j) u).toArray, by simp, hb, ?_, by simpa using hc, hm, by simpa using hs, ?_⟩⟩, ?_⟩
    · rw [flatten_set hO.len i j u hr hj, List.length_set, List.length_set]; exact hO.row.1
    · exact hB.set _ u
    · rw [flatten_set hO.len i j u hr hj, List.length_set]
      simp only
      rw [List.take_set, ht]
    · intro x hx
      rcases List.mem_or_eq_of_mem_set hx with hx | rfl
      · exact hO.len x hx
      · rw [List.length_set]; exact hrl
end
end Go.Gr
