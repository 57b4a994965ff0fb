/- General lemmas: only one block, and what is new, has turned; copy into a block. -/
import Derived.Laws.CopyRow
import Derived.Laws.CopyOwn
import Derived.Test.YtkhinagagncblaaDoorTail2
namespace Go.Gr
open Go.RowKit Go.Sort
set_option linter.unusedVariables false
/-- w' is w but for block g, and for more memory -/
def Upd (g : Nat) (w w' : World) : Prop := w.grownBy w' (some g)
section
variable {g : Nat} {a b c w w' : World}
theorem Upd.refl (g : Nat) (w : World) : Upd g w w := World.grownBy.refl w _
theorem Upd.of (h : Ext a b) : Upd g a b := ⟨h.os, h.tape, h.output, h.size, fun i hi _ => h.block i hi⟩
theorem Upd.trans (h : Upd g a b) (k : Upd g b c) : Upd g a c :=
  ⟨k.os.trans h.os, k.tape.trans h.tape, k.output.trans h.output, Nat.le_trans h.size k.size, fun i hi hne => (k.block i (Nat.lt_of_lt_of_le hi h.size) hne).trans (h.block i hi hne)⟩
theorem Upd.ext (h : Upd g a b) (k : Ext b c) : Upd g a c := h.trans (.of k)
theorem Upd.drew (h : Upd g a b) : Upd g a b.drew := h.ext ((Ext.refl _).drew)
theorem Upd.row (h : Upd g a b) (C : Array Value) : Upd g a (b.setRow g C) :=
  h.trans ⟨rfl, rfl, rfl, by simp, fun k hk hne => setRow_other b g k C (fun e => hne (by rw [e]))⟩
theorem Upd.cell (h : Upd g a b) (i : Nat) (u : Value) : Upd g a (b.setCell ⟨g, i, none⟩ u) :=
  h.trans ⟨rfl, rfl, rfl, by simp [World.setCell], fun k hk hne => Below.heap_setCell b _ u k (fun e => hne (by rw [e]))⟩
/-- a block from B on: below B all is as it was -/
theorem Upd.below (h : Upd g a b) {B : Nat} (hB : B ≤ g) (hs : B ≤ a.heap.size) : Below B a b :=
  ⟨h.os, h.tape, h.output, h.size, fun k hk => h.block k (Nat.lt_of_lt_of_le hk hs) (fun e => by cases e; omega)⟩
theorem Rd.upd {A : Option Addr} {xs : List Value} (h : Rd a A xs) (k : Upd g a b) (hne : ∀ ad, A = some ad → ad.block ≠ g) : Rd b A xs := fun j u hu => by
  obtain ⟨ad, e, hc⟩ := h j u hu
  refine ⟨ad, e, ?_⟩
  have hl := cell_lt hc
  rw [add_block] at hl
  have : b.heap[(ad.add j).block]? = a.heap[(ad.add j).block]? := by
    rw [add_block]
    exact k.block _ hl (fun e' => hne ad e (by cases e'; rfl))
  exact (World.cell?_of_block this).trans hc
theorem Blk.upd {g' : Nat} {e : TypeId} {cs : List Value} (h : Blk a g' e cs) (k : Upd g a b) (hne : g' ≠ g) : Blk b g' e cs :=
  (k.block g' h.lt (fun e' => hne (by cases e'; rfl))).trans h
theorem Own.upd {B : Nat} {e : TypeId} {v : Value} {xs : List Value} (h : Own B a e v xs) (k : Upd g a b) (hg : g < B) : Own B b e v xs := by
  refine ⟨h.1, ?_⟩
  rcases h.2 with h0 | ⟨g', cap, cur, rfl, hb, hh, r⟩
  · exact .inl h0
  · refine .inr ⟨g', cap, cur, rfl, hb, ?_, r⟩
    have hlt : g' < a.heap.size := by
      rcases Nat.lt_or_ge g' a.heap.size with h3 | h3
      · exact h3
      · rw [Array.getElem?_eq_none h3] at hh; cases hh
    rw [k.block g' hlt (fun e' => by cases e'; omega)]; exact hh
end
section
variable {P : Program} {w : World}
/-- copy into a block: from 'off' on it holds what was read -/
theorem wpList_copyB {ops : Array Oper} {rest : List Oper} {o : Oper} {a : Act} {Q : Exit → Act → World → Prop} (hgd : o.guard = none) (d s : Operand) (dT sT : TypeId)
    (ho : o.op = .call { callee := .builtin .copy, args := #[d, s], argTypes := #[dT, sT] }) (elem : TypeId) (hu : P.underlying dT = some (.slice elem)) (hsz : (P.info? elem).map (·.size) = some 1)
    {A : Option Addr} {off dLen dCap sLen sCap : Nat} {g : Nat} {t : TypeId} {cur src : List Value} (hd : a.eval d = .slice (some ⟨g, off, none⟩) dLen dCap) (hs : a.eval s = .slice A sLen sCap)
    (hB : Blk w g t cur) (hr : Rd w A src) (hl : src.length = sLen) (n : Nat) (hn : n = Nat.min sLen dLen) (hfit : off + n ≤ cur.length) (h1 : ∀ v ∈ src, v.oneCell' = true)
    (h : wpList P ops Q rest (a.put o.dst (.int .i64 n)) (w.setRow g (splice cur off (src.take n)).toArray)) : wpList P ops Q (o :: rest) a w := by
  have hnl : n ≤ sLen := by rw [hn]; exact Nat.min_le_left _ _
  have hlen : (src.take n).length = n := by rw [List.length_take]; omega
  by_cases h0 : n = 0
  · subst h0
    have e1 : splice cur off (src.take 0) = cur := by simp [splice]
    rw [e1, setRow_self w g cur.toArray t (0, 0) hB] at h
    exact wpList_copy_nothing hgd d s dT sT ho elem hu hsz _ _ dLen dCap sLen sCap hd hs hn.symm h
  · have hsome : ∃ ad, A = some ad := by
      obtain ⟨u, hu⟩ : ∃ u, src[0]? = some u := ⟨src[0]'(by omega), List.getElem?_eq_getElem (by omega)⟩
      obtain ⟨ad, e, _⟩ := hr 0 u hu
      exact ⟨ad, e⟩
    obtain ⟨ad, rfl⟩ := hsome
    have := wpList_copy_own (P := P) (w := w) (ops := ops) (rest := rest) (o := o) (a := a) (Q := Q) hgd d s dT sT ho elem hu hsz g off dLen dCap ad sLen sCap hd hs cur.toArray t hB (src.take n) (by rw [hlen]; exact hn)
      (fun j v hv => by
        have hv' : src[j]? = some v := by
          rw [List.getElem?_take] at hv
          split at hv
          · exact hv
          · cases hv
        obtain ⟨ad', e, hc⟩ := hr j v hv'
        cases e; exact hc) (by rw [hlen]; simpa using hfit) (fun v hv => h1 v (List.mem_of_mem_take hv))
    refine this ?_
    rw [hlen]
    have e2 : (cur.toArray.toList.take off ++ (src.take n ++ cur.toArray.toList.drop (off + n))).toArray = (splice cur off (src.take n)).toArray := by simp [splice, hlen]
    rw [e2]
    exact h
theorem splice_set (cs : List Value) (o : Nat) (v : Value) (r : List Value) (h : o + (r.length + 1) ≤ cs.length) : splice (cs.set o v) (o + 1) r = splice cs o (v :: r) := by
  have := list_seg_step cs o v r h
  simp only [splice, List.length_cons]
  simpa using this
theorem Blk.setCells {g : Nat} {e : TypeId} : ∀ (vs : List Value) (o : Nat) (w : World) (cs : List Value), Blk w g e cs → o + vs.length ≤ cs.length → Blk (w.setCells g o vs) g e (splice cs o vs)
  | [], o, w, cs, h, _ => by simpa [splice, World.setCells] using h
  | v :: r, o, w, cs, h, hl => by
    have := Blk.setCells r (o + 1) (w.setCell ⟨g, o, none⟩ v) (cs.set o v) (h.set o v) (by simp at hl ⊢; omega)
    rw [splice_set cs o v r (by simp at hl; omega)] at this
    exact this
theorem Upd.cells {g : Nat} {a : World} : ∀ (vs : List Value) (o : Nat) (b : World), Upd g a b → Upd g a (b.setCells g o vs)
  | [], o, b, h => h
  | v :: r, o, b, h => Upd.cells r (o + 1) _ (h.cell o v)
theorem Blk.mid {w : World} {g : Nat} {e : TypeId} {whole cs : List Value} (h : Blk w g e whole) (o : Nat) (hm : ∀ j v, cs[j]? = some v → whole[o + j]? = some v) : w.rangeAt g o cs := fun j v hv => (h.cell (o + j)).trans (hm j v hv)
theorem Blk.there {w : World} {g : Nat} {e : TypeId} {whole : List Value} (h : Blk w g e whole) (o n : Nat) (hn : o + n ≤ whole.length) : w.there g o n := fun j hj =>
  ⟨by rw [h.cell (o + j), List.getElem?_eq_getElem (by omega)]; rfl, h.free (o + j)⟩
theorem rdOp_loadM {o : Oper} {a : Act} {w : World} {next : Act → Prop} (ty : TypeId) (x : Operand) (ho : o.op = .load ty x)
    {g off : Nat} {t : TypeId} {whole cs : List Value} (hB : Blk w g t whole) (hm : ∀ j v, cs[j]? = some v → whole[off + j]? = some v) (hx : a.eval x = .pointer (some ⟨g, off, none⟩)) (d : TypeDesc)
    (hu : P.underlying ty = some d) (hd : d.isRow = true) (hi : (P.info? ty).map (·.size) = some cs.length)
    (h : next (a.put o.dst (.agg cs.toArray))) : rdOp P o a (Cls w) next := by
  refine ⟨_, fun w' hw' => ?_, h⟩
  have hr := (hB.ext (cls_iff.1 hw')).mid off hm
  unfold rdAt execOp
  simp only [ho, hx, Instr.loadAt, Instr.sureAddr, Sem.run_bind, Sem.run_pure, Result.andThen_ok, run_loadVar_mid w' g off ty cs d hr hu hd hi]
  exact ⟨rfl, rfl⟩
theorem wt_loadM {ops : Array Oper} {Q : Exit → Act → World → Prop} {tail : List Oper} {i : Nat} {o : Oper} {rest : List Nat} {a : Act} {w : World} (hi : ops[i]? = some o) (hgd : o.guard = none) (ty : TypeId) (x : Operand) (ho : o.op = .load ty x)
    {g off : Nat} {t : TypeId} {whole cs : List Value} (hB : Blk w g t whole) (hm : ∀ j v, cs[j]? = some v → whole[off + j]? = some v) (hx : a.eval x = .pointer (some ⟨g, off, none⟩)) (d : TypeDesc)
    (hu : P.underlying ty = some d) (hd : d.isRow = true) (hs : (P.info? ty).map (·.size) = some cs.length)
    (h : WT P ops Q tail rest (a.put o.dst (.agg cs.toArray)) w) : WT P ops Q tail (i :: rest) a w := by
  refine wt_rd hi (by simp [isExt, ho]) fun K hK => ?_
  rw [if_pos (by simp [Region.wanted, hgd])]
  exact rdOp_loadM ty x ho hB hm hx d hu hd hs (hK _ h)
theorem wpList_loadM {ops : Array Oper} {rest : List Oper} {o : Oper} {a : Act} {Q : Exit → Act → World → Prop} (hgd : o.guard = none) (ty : TypeId) (x : Operand) (ho : o.op = .load ty x)
    {g off : Nat} {t : TypeId} {whole cs : List Value} (hB : Blk w g t whole) (hm : ∀ j v, cs[j]? = some v → whole[off + j]? = some v) (hx : a.eval x = .pointer (some ⟨g, off, none⟩)) (d : TypeDesc)
    (hu : P.underlying ty = some d) (hd : d.isRow = true) (hi : (P.info? ty).map (·.size) = some cs.length)
    (h : wpList P ops Q rest (a.put o.dst (.agg cs.toArray)) w) : wpList P ops Q (o :: rest) a w :=
  wpList_load_mid hgd ty x ho g off hx cs d (hB.mid off hm) hu hd hi h
theorem wpList_storeM {ops : Array Oper} {rest : List Oper} {o : Oper} {a : Act} {Q : Exit → Act → World → Prop} (hgd : o.guard = none) (ty : TypeId) (x y : Operand) (ho : o.op = .store ty x y)
    {g off : Nat} {t : TypeId} {whole cs : List Value} (hB : Blk w g t whole) (hx : a.eval x = .pointer (some ⟨g, off, none⟩)) (hy : a.eval y = .agg cs.toArray)
    (hi : (P.info? ty).map (·.size) = some cs.length) (hl : off + cs.length ≤ whole.length) (h1 : ∀ v ∈ cs, v.oneCell' = true)
    (h : wpList P ops Q rest (a.put o.dst undef) (w.setCells g off cs)) : wpList P ops Q (o :: rest) a w := by
  refine wpList_store_mid hgd ty x y ho g off cs.toArray hx hy (by simpa using hB.there off cs.length hl) (by simpa using hi) (all_oneCell_toArray h1) ?_
  simpa using h
end
end Go.Gr
