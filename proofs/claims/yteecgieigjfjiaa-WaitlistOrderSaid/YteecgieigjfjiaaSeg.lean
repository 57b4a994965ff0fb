/- General: a row of the call's own that may begin within its block (what w = w[1:] leaves). -/
import Derived.Test.YteecgieigjfjiaaPush
import Derived.ArgAppend
namespace Go.Gr
open Go.RowKit Go.Sort
set_option linter.unusedVariables false
set_option linter.unusedSimpArgs false
def SegP (w : World) (e : TypeId) (v : Value) (xs : List Value) : Prop :=
  (v = .slice none 0 0 ∧ xs = []) ∨ ∃ g off cap cur, v = .slice (some ⟨g, off, none⟩) xs.length cap ∧ Blk w g e cur ∧ xs.length ≤ cap ∧ off + cap ≤ cur.length ∧ (cur.drop off).take xs.length = xs
/-- such a row -/
def As.seg (e : TypeId) (v : Value) (xs : List Value) : As := ⟨fun k => v.ownBlock = some k, fun w => SegP w e v xs,
  fun {w} h k hk => by
    rcases h with ⟨rfl, _⟩ | ⟨g, off, cap, cur, rfl, hB, _⟩
    · simp [Value.ownBlock] at hk
    · have : g = k := by simpa [Value.ownBlock] using hk
      subst this
      exact hB.lt,
  fun {w w'} h k => by
    rcases h with h | ⟨g, off, cap, cur, rfl, hB, r⟩
    · exact .inl h
    · exact .inr ⟨g, off, cap, cur, rfl, (k g (by simp [Value.ownBlock])).trans hB, r⟩⟩
theorem SegP.of_own {B : Nat} {w : World} {e : TypeId} {v : Value} {xs : List Value} (h : Own B w e v xs) : SegP w e v xs := by
  obtain ⟨_, ⟨hv, hx⟩ | ⟨g, cap, cur, hv, _, hh, hc, _, hs, ht⟩⟩ := h
  · exact .inl ⟨hv, List.length_eq_zero_iff.1 hx⟩
  · refine .inr ⟨g, 0, cap, cur.toList, hv, ?_, hc, by simpa using Nat.le_of_eq hs.symm, by simpa using ht⟩
    show w.heap[g]? = some (.cells cur.toList.toArray e (0, 0))
    rw [hh, Array.toArray_toList]
theorem SegP.form {w : World} {e : TypeId} {v : Value} {xs : List Value} (h : SegP w e v xs) : ∃ A c, v = .slice A xs.length c ∧ Rd w A xs ∧ xs.length ≤ c := by
  rcases h with ⟨rfl, rfl⟩ | ⟨g, off, cap, cur, rfl, hB, hc, hf, ht⟩
  · exact ⟨none, 0, rfl, fun j u hu => by simp at hu, Nat.le_refl _⟩
  · refine ⟨_, cap, rfl, fun j u hu => ⟨_, rfl, ?_⟩, hc⟩
    have hadd : (⟨g, off, none⟩ : Addr).add j = ⟨g, off + j, none⟩ := by simp [Addr.add]
    rw [hadd, hB.cell, ← List.getElem?_drop]
    have hj : j < xs.length := (List.getElem?_eq_some_iff.1 hu).1
    rw [← ht, List.getElem?_take, if_pos hj] at hu
    exact hu
section
variable {P : Program} {w w0 : World} {G : Nat → Prop} {L1 L2 : List As}
theorem Sep.toSeg (L1 : List As) {L2 : List As} {e : TypeId} {v : Value} {xs : List Value} (H : Sep G w0 w (L1 ++ As.own e v xs :: L2)) : Sep G w0 w (L1 ++ As.seg e v xs :: L2) :=
  H.weak L1 (B := As.seg e v xs) (fun h => SegP.of_own h) (fun i hi => hi)
theorem Sep.segs {e : TypeId} {v : Value} {xs : List Value} {L : List As} (H : Sep G w0 w L) (hA : As.seg e v xs ∈ L) : SegP w e v xs := H.get hA
/-- without its first element -/
theorem Sep.segTail (L1 : List As) {L2 : List As} {e : TypeId} {v : Value} {x : Value} {t : List Value} (H : Sep G w0 w (L1 ++ As.seg e v (x :: t) :: L2)) :
    ∃ g off cap, v = .slice (some ⟨g, off, none⟩) (t.length + 1) cap ∧ t.length + 1 ≤ cap ∧ w.cell? ⟨g, off, none⟩ = some x ∧
      (cap ≠ 1 → Sep G w0 w (L1 ++ As.seg e (.slice (some ⟨g, off + 1, none⟩) t.length (cap - 1)) t :: L2)) ∧ (cap = 1 → t = [] ∧ Sep G w0 w (L1 ++ As.seg e (.slice (some ⟨g, off, none⟩) 0 0) [] :: L2)) := by
  rcases H.segs (e := e) (v := v) (xs := x :: t) (by simp) with ⟨_, h⟩ | ⟨g, off, cap, cur, rfl, hB, hc, hf, ht⟩
  · cases h
  · simp only [List.length_cons] at hc ht
    have hd : cur.drop off = x :: (cur.drop (off + 1)) := by
      have ho : off < cur.length := by omega
      have h1 := List.drop_eq_getElem_cons ho
      rw [h1, List.take_succ_cons] at ht
      rw [h1, (List.cons.inj ht).1]
    have ht2 : (cur.drop (off + 1)).take t.length = t := by
      rw [hd, List.take_succ_cons] at ht
      exact (List.cons.inj ht).2
    refine ⟨g, off, cap, rfl, hc, ?_, fun _ => ?_, fun h1 => ?_⟩
    · rw [hB.cell, show cur[off]? = (cur.drop off)[0]? by rw [List.getElem?_drop]; rfl, hd]; rfl
    · exact H.weak L1 (B := As.seg e (.slice (some ⟨g, off + 1, none⟩) t.length (cap - 1)) t) (fun _ => .inr ⟨g, off + 1, cap - 1, cur, rfl, hB, by omega, by omega, ht2⟩) (fun i hi => by simpa [As.seg, Value.ownBlock] using hi)
    · have h0 : t = [] := by
        rcases t with _ | ⟨y, r⟩
        · rfl
        · simp only [List.length_cons] at hc; omega
      exact ⟨h0, H.weak L1 (B := As.seg e (.slice (some ⟨g, off, none⟩) 0 0) []) (fun _ => .inr ⟨g, off, 0, cur, rfl, hB, Nat.le_refl _, by omega, by simp⟩) (fun i hi => by simpa [As.seg, Value.ownBlock] using hi)⟩
theorem wpList_pushSeg {ops : Array Oper} {rest : List Oper} {o : Oper} {a : Act} {Q : Exit → Act → World → Prop} (L1 : List As) {L2 : List As} {e e' : TypeId} {v u : Value} {xs : List Value} (H : Sep G w0 w (L1 ++ As.seg e v xs :: L2)) (hgd : o.guard = none) (s x : Operand) (t : TypeId)
    (ho : o.op = .call { callee := .builtin .append, args := #[s, x], argTypes := #[t, t] })
    (i : TypeInfo) (z : Value) (bytes : Nat) (ht : P.underlying t = some (.slice e)) (hi : P.info? e = some i) (hz : i.zero = some z)
    (hsize : i.size = 1) (hby : i.bytes = bytes) (hzs : z.cells.size = 1)
    (hs : a.eval s = v) (hx : a.eval x = .slice (some ⟨w.heap.size, 0, none⟩) 1 1)
    (h1 : u.oneCell' = true) (hlen : xs.length < 1000000000) (hb : bytes ≤ 1000)
    (h : ∀ v' w', Sep G w0 w' (L1 ++ As.seg e v' (xs ++ [u]) :: L2) → wpList P ops Q rest (a.put o.dst v') w') : wpList P ops Q (o :: rest) a (w.alloc (.cells #[u] e')) := by
  have H1 := H.ext ((Ext.refl w).alloc (.cells #[u] e'))
  rcases H.segs (e := e) (v := v) (xs := xs) (by simp) with ⟨rfl, rfl⟩ | ⟨g, off, cap, cur, rfl, hB, hc, hf, ht'⟩
  · have K : Sep G w0 w (L1 ++ As.own e (.slice none 0 0) [] :: L2) := H.weak L1 (B := As.own e (.slice none 0 0) []) (fun _ => Own.nil 0 w e) (fun i hi => by simp [As.own, Value.ownBlock] at hi)
    exact wpList_pushS L1 K hgd s x t ho i z bytes ht hi hz hsize hby hzs hs hx h1 (by simp) hb (fun v' w' H' => h v' w' (Sep.toSeg L1 H'))
  · have hB1 := hB.alloc (.cells #[u] e')
    have hbb : (xs.length + 1) * bytes ≤ 1000000000 * 1000 := Nat.mul_le_mul (by omega) hb
    refine wpList_append_arg (w.alloc (.cells #[u] e')) hgd s x t ho e i z 1 bytes ht hi hz hsize hby hzs (by decide) g off xs.length cap xs hs (by simp) (fun j u' hj => ?_) ⟨w.heap.size, 0, none⟩ 1 1 [u] hx (by simp) (fun j u' hj => ?_) (by simp [h1]) (fun hr j hj => ?_) (by unfold maxLen; omega) (by omega) (fun hr => ?_) (fun hr v' w' r1 r2 => ?_)
    · have hjl : j < xs.length := (List.getElem?_eq_some_iff.1 hj).1
      rw [hB1.cell, ← List.getElem?_drop]
      rw [← ht', List.getElem?_take, if_pos hjl] at hj
      exact hj
    · obtain ⟨ad, e1, hc1⟩ := Rd.one w u e' j u' hj
      cases e1
      exact hc1
    · obtain rfl : j = 0 := by simpa using hj
      refine ⟨?_, hB1.free _⟩
      rw [hB1.cell, List.getElem?_eq_getElem (by omega)]
      rfl
    · refine h _ _ ?_
      have e2 : (w.alloc (.cells #[u] e')).setCells g (off + xs.length * 1) [u] = (w.alloc (.cells #[u] e')).setCell ⟨g, off + xs.length, none⟩ u := by simp [World.setCells]
      rw [e2]
      refine H1.upd (B := As.seg e (.slice (some ⟨g, off, none⟩) (xs.length + 1) cap) (xs ++ [u])) (Fr.of_upd ((Upd.refl g _).cell (off + xs.length) u)) (fun k hk => by cases hk; simp [As.seg, Value.ownBlock]) ?_ (fun k hk => .inl (by simpa [As.seg, Value.ownBlock] using hk))
      refine .inr ⟨g, off, cap, cur.set (off + xs.length) u, by simp, hB1.set _ _, by simp; omega, by simpa using hf, ?_⟩
      apply List.ext_getElem?
      intro j
      rw [List.getElem?_take, List.getElem?_drop]
      simp only [List.length_append, List.length_singleton]
      by_cases hj : j < xs.length
      · rw [if_pos (by omega), List.getElem?_set_ne (by omega), List.getElem?_append_left hj]
        have : xs[j]? = ((cur.drop off).take xs.length)[j]? := by rw [ht']
        rw [this, List.getElem?_take, if_pos hj, List.getElem?_drop]
      · by_cases hj2 : j = xs.length
        · subst hj2
          rw [if_pos (by omega), List.getElem?_set_self (by omega)]
          simp
        · rw [if_neg (by omega), List.getElem?_eq_none (by simp; omega)]
    · refine h _ _ (H1.upd (B := As.seg e v' (xs ++ [u])) (S := No) ⟨r2.os, r2.tape, r2.output, r2.size, fun k hk _ => r2.block k hk (by simp)⟩ (fun _ h => h.elim) (SegP.of_own (B := (w.alloc (.cells #[u] e')).heap.size) (by unfold Own; rw [List.length_append]; exact r1)) (fun k hk => .inr (World.ownsRow.lt r1 k hk).1))
end
end Go.Gr
