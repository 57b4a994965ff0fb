/- General: an element, in a block of its own, is put onto a row of the call's own. -/
import Derived.Test.YtkhinagagncblaaDoorArms
namespace Go.Gr
open Go.RowKit Go.Sort
set_option linter.unusedVariables false
section
variable {P : Program} {w w0 : World} {G : Nat → Prop} {L1 L2 : List As}
theorem wpList_pushS {ops : Array Oper} {rest : List Oper} {o : Oper} {a : Act} {Q : Exit → Act → World → Prop} (L1 : List As) {L2 : List As} {e e' : TypeId} {v u : Value} {xs : List Value} (H : Sep G w0 w (L1 ++ As.own e v xs :: L2)) (hgd : o.guard = none) (s x : Operand) (t : TypeId)
    (ho : o.op = .call { callee := .builtin .append, args := #[s, x], argTypes := #[t, t] })
    (i : TypeInfo) (z : Value) (bytes : Nat) (ht : P.underlying t = some (.slice e)) (hi : P.info? e = some i) (hz : i.zero = some z)
    (hsize : i.size = 1) (hby : i.bytes = bytes) (hzs : z.cells.size = 1)
    (hs : a.eval s = v) (hx : a.eval x = .slice (some ⟨w.heap.size, 0, none⟩) 1 1)
    (h1 : u.oneCell' = true) (hlen : xs.length < 1000000000) (hb : bytes ≤ 1000)
    (h : ∀ v' w', Sep G w0 w' (L1 ++ As.own e v' (xs ++ [u]) :: L2) → wpList P ops Q rest (a.put o.dst v') w') : wpList P ops Q (o :: rest) a (w.alloc (.cells #[u] e')) :=
  wpList_apS L1 (H.ext ((Ext.refl w).alloc _)) hgd s x t ho i z bytes ht hi hz hsize hby hzs hs hx rfl (Rd.one w u e') (by simp [h1]) (by simp; omega) hb h
/-- a row of the call's own as the block that it is -/
theorem Sep.ownBlk (L1 : List As) {L2 : List As} {e : TypeId} {v : Value} {xs : List Value} (H : Sep G w0 w (L1 ++ As.own e v xs :: L2)) (h0 : 0 < xs.length) :
    ∃ g cap cur, v = .slice (some ⟨g, 0, none⟩) xs.length cap ∧ xs.length ≤ cap ∧ cur.length = cap ∧ cur.take xs.length = xs ∧ Sep G w0 w (L1 ++ As.blk g e cur :: L2) := by
  obtain ⟨_, ⟨_, h⟩ | ⟨g, cap, cur, rfl, _, hh, hc, _, hs, ht⟩⟩ := H.owns (e := e) (v := v) (xs := xs) (by simp)
  · omega
  · refine ⟨g, cap, cur.toList, rfl, hc, by simpa using hs, by simpa using ht, H.weak L1 (B := As.blk g e cur.toList) (fun _ => ?_) (fun i hi => ?_)⟩
    · show w.heap[g]? = some (.cells cur.toList.toArray e (0, 0))
      rw [hh, Array.toArray_toList]
    · cases hi; rfl
/-- a cell of a row of the call's own is written -/
theorem Sep.ownSet (L1 : List As) {L2 : List As} {e : TypeId} {A : Option Addr} {n c : Nat} {xs : List Value} (H : Sep G w0 w (L1 ++ As.own e (.slice A n c) xs :: L2)) {i : Nat} (hi : i < xs.length) (u : Value) :
    ∃ g, A = some ⟨g, 0, none⟩ ∧ w.cell? ⟨g, i, none⟩ = some xs[i] ∧ w.frozen? ⟨g, i, none⟩ = false ∧ g < w.heap.size ∧ Sep G w0 (w.setCell ⟨g, i, none⟩ u) (L1 ++ As.own e (.slice A n c) (xs.set i u) :: L2) := by
  obtain ⟨_, ⟨h1, h⟩ | ⟨g, cap, cur, hv, hb, hh, hc, hm, hs, ht⟩⟩ := H.owns (e := e) (v := .slice A n c) (xs := xs) (by simp)
  · omega
  · cases hv
    have hB : Blk w g e cur.toList := by
      show w.heap[g]? = some (.cells cur.toList.toArray e (0, 0))
      rw [hh, Array.toArray_toList]
    have hci : cur.toList[i]? = some xs[i] := by
      have : (cur.toList.take (xs.length * 1))[i]? = xs[i]? := by rw [ht]
      rw [List.getElem?_take, if_pos (by omega), List.getElem?_eq_getElem hi] at this
      exact this
    refine ⟨g, rfl, (hB.cell i).trans hci, hB.free i, hB.lt, ?_⟩
    refine H.upd (B := As.own e (.slice (some ⟨g, 0, none⟩) xs.length c) (xs.set i u)) (Fr.of_upd ((Upd.refl g w).cell i u)) (fun k hk => by rw [show k = g from hk]; rfl) ?_ (fun _ h => .inl h)
    refine ⟨by simp, .inr ⟨g, c, (cur.toList.set i u).toArray, by simp, hb, ?_, by simpa using hc, hm, by simpa using hs, ?_⟩⟩
    · exact hB.set i u
    · simp only [List.length_set]
      rw [List.take_set, ht]
theorem Rd.take_ {A : Option Addr} {xs : List Value} (h : Rd w A xs) (n : Nat) : Rd w A (xs.take n) := fun j u hu => h j u (by
  rw [List.getElem?_take] at hu
  split at hu
  · exact hu
  · cases hu)
end
end Go.Gr
