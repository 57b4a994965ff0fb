/- General lemmas: a region that draws its order: reading operations and calls that only add memory come first, in one walk; then a tail in the order of the text (a store, mostly). -/
import Derived.StillTail
import Derived.Laws.Rows
import Derived.Laws.Tables
import Derived.Test.YtkhinagagncblaaDoorMono
namespace Go.Gr
open Go.RowKit Go.Sort
set_option linter.unusedVariables false

/-- f operations of the head are still to come, whatever order is picked; S holds behind each of them; then the tail of g operations. -/
def wpAnyT (P : Program) (md : Region.Mode) (ops : Array Oper) (Q : Exit → Act → World → Prop) (n g : Nat) (S : World → Prop) : Nat → Array Bool → Act → World → Prop
  | 0, listed, a, w => (∀ j ∈ Region.ready md ops listed, n ≤ j) ∧ wpAny P md ops Q g listed a w
  | f + 1, listed, a, w =>
    Region.ready md ops listed ≠ [] ∧ ∀ i ∈ Region.ready md ops listed, i < n ∧ wpOp P ops Q i (fun a' w' => S w' ∧ wpAnyT P md ops Q n g S f (listed.setIfInBounds i true) a' w') a w
section
variable {P : Program} {ops : Array Oper} {Q : Exit → Act → World → Prop} {md : Region.Mode} {S : World → Prop} {n g : Nat}
theorem wpAny_of_T : ∀ (f : Nat) (listed : Array Bool) (a : Act) (w : World), wpAnyT P md ops Q n g S f listed a w → wpAny P md ops Q (f + g) listed a w
  | 0, _, _, _, h => by rw [Nat.zero_add]; exact h.2
  | f + 1, listed, a, w, h => by
    rw [show f + 1 + g = (f + g) + 1 by omega]
    exact ⟨fun h0 => absurd h0 h.1, fun i hi => wpOp_mono (fun a' w' h' => wpAny_of_T f _ a' w' h'.2) (h.2 i hi).2⟩
theorem wpAnyT_mono {S' : World → Prop} (hs : ∀ w, S w → S' w) : ∀ (f : Nat) (listed : Array Bool) (a : Act) (w : World), wpAnyT P md ops Q n g S f listed a w → wpAnyT P md ops Q n g S' f listed a w
  | 0, _, _, _, h => h
  | f + 1, _, _, _, h => ⟨h.1, fun i hi => ⟨(h.2 i hi).1, wpOp_mono (fun a' w' h' => ⟨hs _ h'.1, wpAnyT_mono hs f _ a' w' h'.2⟩) (h.2 i hi).2⟩⟩
theorem wpAnyT_first {i : Nat} {oi : Oper} {v : Value} (hi : ops[i]? = some oi) (hsel : ∀ (j : Nat) (o : Oper) cs b, ops[j]? = some o → o.op ≠ .select cs b)
    (hs : Region.sinkB md ops n = true) (hc : Region.chainB md ops n = true) (hn : n < ops.size) (hin : i < n)
    (hQ : ∀ c a w, Q (.panic c) (a.put oi.dst v) w → Q (.panic c) a w) :
    ∀ (f : Nat) (listed : Array Bool) (a : Act) (w : World), HeadInv md ops n listed →
      (∀ j oj, ops[j]? = some oj → j ≠ i → listed.getD j true = false → (∀ e ∈ oj.after, Region.binds md e = true → e.on ≠ i) → oi.apart ops oj = true) →
      i ∈ Region.ready md ops listed → YieldsIf P ops S oi v a → S w →
      wpAnyT P md ops Q n g S f (listed.setIfInBounds i true) (a.put oi.dst v) w → wpAnyT P md ops Q n g S (f + 1) listed a w := by
  intro f
  induction f with
  | zero =>
    intro listed a w inv _ hr hy hS H
    have hun := (mem_ready.1 hr).1
    refine ⟨fun h => (by rw [h] at hr; cases hr), fun j hj => ?_⟩
    have hjn : j < n := by
      rcases Nat.lt_or_ge j n with h | h
      · exact h
      · exact absurd hj (tail_waits hs hc hn inv _ i rfl hin hun j h)
    refine ⟨hjn, ?_⟩
    by_cases hji : j = i
    · subst hji; exact hy.wpOp hi hS ⟨hS, H⟩
    · have := H.1 j (ready_mono hj hji)
      omega
  | succ f ih =>
    intro listed a w inv hfree hr hy hS H
    have hun := (mem_ready.1 hr).1
    refine ⟨fun h => (by rw [h] at hr; cases hr), fun j hj => ?_⟩
    have hjn : j < n := by
      rcases Nat.lt_or_ge j n with h | h
      · exact h
      · exact absurd hj (tail_waits hs hc hn inv _ i rfl hin hun j h)
    refine ⟨hjn, ?_⟩
    by_cases hji : j = i
    · subst hji; exact hy.wpOp hi hS ⟨hS, H⟩
    · have h1 := (H.2 j (ready_mono hj hji)).2
      obtain ⟨hjun, oj, hoj, hall⟩ := mem_ready.1 hj
      have hnot : ∀ e ∈ oj.after, Region.binds md e = true → e.on ≠ i := fun e he hb heq => by
        have h1 := hall e he hb
        rw [heq, getD_both hun] at h1
        cases h1
      have h2 := wpOp_putIf hoj (hfree j oj hoj hji hjun hnot) (fun cs b => hsel i oi cs b hi) (fun cs b => hsel j oj cs b hoj) hQ hy h1
      have hfree' : ∀ k ok, ops[k]? = some ok → k ≠ i → (listed.setIfInBounds j true).getD k true = false →
          (∀ e ∈ ok.after, Region.binds md e = true → e.on ≠ i) → oi.apart ops ok = true := fun k ok hk hki hun hno => by
        refine hfree k ok hk hki ?_ hno
        by_cases hjk : j = k
        · subst hjk; exact hjun
        · rw [getD_set_ne true hjk] at hun; exact hun
      refine wpOp_mono (fun a' w' h3 => ⟨h3.2.1, ih (listed.setIfInBounds j true) a' w' (inv.set hj hjn) hfree' (ready_mono hr (Ne.symm hji)) h3.1 h3.2.1 ?_⟩) h2
      rw [Array.setIfInBounds_comm _ _ hji]
      exact h3.2.2
/-- the head in this order, each reading operation as early as its edges allow, what adds memory in one line; then the tail from n on, in one line -/
def okTail (ops : Array Oper) (n g : Nat) : Array Bool → List Nat → Bool
  | listed, [] => Region.seqB .any ops g n listed
  | listed, i :: rest =>
    match ops[i]? with
    | none => false
    | some o =>
      decide (i < n) && (if isExt o then Region.ready .any ops listed == [i]
       else (Region.ready .any ops listed).contains i &&
        (List.range ops.size).all fun j => j == i || listed.getD j true || (match ops[j]? with
          | some oj => !(oj.after.all fun e => !Region.binds .any e || e.on != i) || o.apart ops oj
          | none => true)) &&
      okTail ops n g (listed.setIfInBounds i true) rest
def wpT (P : Program) (ops : Array Oper) (Q : Exit → Act → World → Prop) (tail : List Oper) : List Nat → Act → World → Prop
  | [], a, w => wpList P ops Q tail a w
  | i :: rest, a, w =>
    match ops[i]? with
    | none => False
    | some o =>
      if Region.wanted o (yielded ops a.tmps) then
        (if isExt o then o.wp P a w (fun a' w' => Ext w w' ∧ wpT P ops Q tail rest a' w') Q else rdOp P o a (Cls w) (fun a' => wpT P ops Q tail rest a' w))
      else wpT P ops Q tail rest (a.put o.dst undef) w
theorem run_tail {tail : List Oper} (hsel : ∀ (j : Nat) (o : Oper) cs b, ops[j]? = some o → o.op ≠ .select cs b) (hQ : ∀ c a w, ¬ Q (.panic c) a w)
    (hs : Region.sinkB .any ops n = true) (hc : Region.chainB .any ops n = true) (hn : n < ops.size) (htl : ∀ j, tail[j]? = ops[n + j]?) (hg : tail.length = g) :
    ∀ (perm : List Nat) (listed : Array Bool) (a : Act) (w : World), HeadInv .any ops n listed → okTail ops n g listed perm = true → wpT P ops Q tail perm a w → wpAnyT P .any ops Q n g (Ext w) perm.length listed a w
  | [], listed, a, w, inv, hok, h => by
    simp only [okTail] at hok
    have := wpAny_of_seq (P := P) (md := .any) (ops := ops) (Q' := Q) tail n listed a w htl (by rw [hg]; exact hok) h
    rw [hg] at this
    exact ⟨seqB_ready hok, this⟩
  | i :: rest, listed, a, w, inv, hok, h => by
    unfold okTail at hok
    unfold wpT at h
    cases ho : ops[i]? with
    | none => rw [ho] at h; exact h.elim
    | some o =>
      simp only [ho] at hok h
      rw [Bool.and_eq_true, Bool.and_eq_true, decide_eq_true_eq] at hok
      obtain ⟨⟨hin, hok1⟩, hok2⟩ := hok
      by_cases hx : isExt o = true
      · simp only [hx, if_true] at hok1 h
        have hr : Region.ready .any ops listed = [i] := by simpa using hok1
        have hir : i ∈ Region.ready .any ops listed := by rw [hr]; simp
        refine ⟨by rw [hr]; simp, fun j hj => ?_⟩
        obtain rfl : j = i := by rw [hr] at hj; simpa using hj
        refine ⟨hin, ?_⟩
        refine wpOp_step ho fun K' hK => ?_
        split
        · rename_i hw
          rw [if_pos hw] at h
          have hm : ∀ a' w', (Ext w w' ∧ wpT P ops Q tail rest a' w') → K' a' w' := fun a' w' ⟨h1, h2⟩ =>
            hK _ _ ⟨h1, wpAnyT_mono (fun x hx => h1.trans hx) _ _ _ _ (run_tail hsel hQ hs hc hn htl hg rest _ a' w' (inv.set hir hin) hok2 h2)⟩
          exact Oper.wp_mono hm h
        · rename_i hw
          rw [if_neg hw] at h
          exact hK _ _ ⟨Ext.refl w, run_tail hsel hQ hs hc hn htl hg rest _ _ w (inv.set hir hin) hok2 h⟩
      · have hx' : isExt o = false := by simpa using hx
        simp only [hx', Bool.false_eq_true, if_false] at hok1 h
        rw [Bool.and_eq_true] at hok1
        obtain ⟨hinr, hap⟩ := hok1
        have hmem : i ∈ Region.ready .any ops listed := by simpa using hinr
        have hapart : ∀ j oj, ops[j]? = some oj → j ≠ i → listed.getD j true = false → (∀ e ∈ oj.after, Region.binds .any e = true → e.on ≠ i) → o.apart ops oj = true := by
          intro j oj hj hne hl hw
          have hjl : j < ops.size := (Array.getElem?_eq_some_iff.1 hj).1
          have h1 := List.all_eq_true.1 hap j (List.mem_range.2 hjl)
          simp only [hj, Bool.or_eq_true, beq_iff_eq] at h1
          rcases h1 with (h1 | h1) | h1 | h1
          · exact absurd h1 hne
          · rw [hl] at h1; cases h1
          · exfalso
            have : (oj.after.all fun e => !Region.binds .any e || e.on != i) = true := by
              rw [Array.all_eq_true_iff_forall_mem]
              intro e he
              by_cases hb : Region.binds .any e = true
              · have := hw e he hb; simp [this]
              · simp [hb]
            rw [this] at h1; cases h1
          · exact h1
        split at h
        · rename_i hw
          obtain ⟨v, hv, hnx⟩ := h
          refine wpAnyT_first ho hsel hs hc hn hin (fun c a w h => (hQ _ _ _ h).elim) rest.length listed a w inv hapart hmem (.inl ⟨hw, fun w' hw' => rd_run (hv w' (cls_iff.2 hw'))⟩) (Ext.refl w) ?_
          exact run_tail hsel hQ hs hc hn htl hg rest _ _ w (inv.set hmem hin) hok2 hnx
        · rename_i hw
          refine wpAnyT_first (v := undef) ho hsel hs hc hn hin (fun c a w h => (hQ _ _ _ h).elim) rest.length listed a w inv hapart hmem (.inr ⟨by simpa using hw, rfl⟩) (Ext.refl w) ?_
          exact run_tail hsel hQ hs hc hn htl hg rest _ _ w (inv.set hmem hin) hok2 h
/-- the same behind a name that does not unfold -/
structure WT (P : Program) (ops : Array Oper) (Q : Exit → Act → World → Prop) (tail : List Oper) (l : List Nat) (a : Act) (w : World) : Prop where
  out : wpT P ops Q tail l a w
theorem wt_rd {tail : List Oper} {i : Nat} {o : Oper} {rest : List Nat} {a : Act} {w : World} (ho : ops[i]? = some o) (hx : isExt o = false)
    (h : ∀ K : Act → Prop, (∀ a, WT P ops Q tail rest a w → K a) → if Region.wanted o (yielded ops a.tmps) then rdOp P o a (Cls w) K else K (a.put o.dst undef)) : WT P ops Q tail (i :: rest) a w := by
  have := h (fun a => wpT P ops Q tail rest a w) (fun _ h => h.out)
  refine ⟨?_⟩
  unfold wpT
  simp only [ho, hx]
  exact this
theorem wt_ext {tail : List Oper} {i : Nat} {o : Oper} {rest : List Nat} {a : Act} {w : World} (ho : ops[i]? = some o) (hx : isExt o = true)
    (h : ∀ K : Act → World → Prop, (∀ a' w', Ext w w' → WT P ops Q tail rest a' w' → K a' w') → if Region.wanted o (yielded ops a.tmps) then o.wp P a w K Q else K (a.put o.dst undef) w) : WT P ops Q tail (i :: rest) a w := by
  have := h (fun a' w' => Ext w w' ∧ wpT P ops Q tail rest a' w') (fun _ _ h1 h2 => ⟨h1, h2.out⟩)
  refine ⟨?_⟩
  unfold wpT
  simp only [ho, hx, if_true]
  split
  · rename_i hw; rw [if_pos hw] at this; exact this
  · rename_i hw; rw [if_neg hw] at this; exact this.2
theorem wt_nil {tail : List Oper} {a : Act} {w : World} (h : wpList P ops Q tail a w) : WT P ops Q tail [] a w := ⟨h⟩
/-- THE RULE: n operations of the head in the order 'perm', then the rest in the order of the text. -/
theorem wp_region_tail {id : Nat} {l : List Oper} {a : Act} {w : World} (n : Nat) (perm : List Nat) (hm : P.follows .mixedOrders = true) (hs : (l.all fun o => !isSel o) = true)
    (hok : (decide (perm.length = n) && decide (n < l.toArray.size) && Region.sinkB .any l.toArray n && Region.chainB .any l.toArray n && okTail l.toArray n (l.toArray.size - n) (Array.replicate l.toArray.size false) perm) = true)
    (h : WT P l.toArray (NoPanic Q) (l.drop n) perm a w.drew) : (Code.region id l.toArray true).wp P Q a w := by
  simp only [Bool.and_eq_true, decide_eq_true_eq] at hok
  obtain ⟨⟨⟨⟨hlen, hn⟩, hsk⟩, hc⟩, hk⟩ := hok
  refine wp_region_noPanic (wp_region_any hm ?_)
  have inv0 : HeadInv .any l.toArray n (Array.replicate l.toArray.size false) :=
    ⟨by simp, fun j oj _ hl => (by rw [getD_replicate_false] at hl; cases hl), fun t _ ht => getD_in (by simpa using ht) (getD_replicate_false _ _)⟩
  have hsel : ∀ (j : Nat) (o : Oper) cs b, l.toArray[j]? = some o → o.op ≠ .select cs b := by
    intro j o cs b hj he
    have hmem : o ∈ l := by
      rw [List.getElem?_toArray] at hj
      exact List.mem_of_getElem? hj
    have := List.all_eq_true.1 hs o hmem
    simp [isSel, he] at this
  have H := run_tail (tail := l.drop n) (g := l.toArray.size - n) hsel (fun c a w h => h) hsk hc hn (fun j => by simp [List.getElem?_drop]) (by simp) perm _ a w.drew inv0 hk h.out
  have := wpAny_of_T _ _ _ _ H
  rw [hlen, show n + (l.toArray.size - n) = l.toArray.size by omega] at this
  exact this
end
theorem Blk.new' {w : World} (e : TypeId) (cs : List Value) {g : Nat} (h : w.heap.size = g) : Blk (w.alloc (.cells cs.toArray e)) g e cs := by subst h; exact Blk.new w e cs
/-- a cell of a block, in whatever world has grown out of this one (behind the draw of a region) -/
theorem Blk.cls {w : World} {g : Nat} {e : TypeId} {cs : List Value} (h : Blk w g e cs) (i : Nat) {u : Value} (hu : cs[i]? = some u) (p : Regrown) : (Sort.grow (redrawn w.drew p.d) p.os).cell? ⟨g, i, none⟩ = some u :=
  (((show Blk w.drew g e cs from h).ext (below_regrown w.drew p.d p.os)).cell i).trans hu
theorem Blk.drew {w : World} {g : Nat} {e : TypeId} {cs : List Value} (h : Blk w g e cs) : Blk w.drew g e cs := h
theorem Rd.drew {w : World} {A : Option Addr} {xs : List Value} (h : Rd w A xs) : Rd w.drew A xs := h
theorem Rd.cls {w : World} {ad : Addr} {xs : List Value} (h : Rd w (some ad) xs) (i : Nat) {u : Value} (hu : xs[i]? = some u) (p : Regrown) : (Sort.grow (redrawn w.drew p.d) p.os).cell? (ad.add i) = some u := by
  obtain ⟨ad', e, hc⟩ := (h.drew.ext (below_regrown w.drew p.d p.os)) i u hu
  cases e; exact hc
theorem add0 (b i : Nat) : (⟨b, 0, none⟩ : Addr).add i = ⟨b, i, none⟩ := by unfold Addr.add; split <;> simp_all
theorem Rd.cls0 {w : World} {b : Nat} {xs : List Value} (h : Rd w (some ⟨b, 0, none⟩) xs) (i : Nat) {u : Value} (hu : xs[i]? = some u) (p : Regrown) : (Sort.grow (redrawn w.drew p.d) p.os).cell? ⟨b, i, none⟩ = some u := by
  have := h.cls i hu p
  rwa [add0] at this
theorem Rd.cell0 {w : World} {b : Nat} {xs : List Value} (h : Rd w (some ⟨b, 0, none⟩) xs) (i : Nat) {u : Value} (hu : xs[i]? = some u) : w.cell? ⟨b, i, none⟩ = some u := by
  obtain ⟨ad, e, hc⟩ := h i u hu
  cases e
  rwa [add0] at hc
section
variable {P : Program}
theorem Blk.setRow {w : World} {g : Nat} {e : TypeId} {old : List Value} (h : Blk w g e old) (cs : List Value) : Blk (w.setRow g cs.toArray) g e cs := setRow_heap w g _ cs.toArray e _ h
theorem Blk.rowFar {w : World} {g g' : Nat} {e : TypeId} {cs : List Value} (h : Blk w g e cs) (hne : g ≠ g') (C : Array Value) : Blk (w.setRow g' C) g e cs := (setRow_other w g' g C hne).trans h
theorem Below.setRow {B : Nat} {a w : World} (h : Below B a w) {g : Nat} (hg : B ≤ g) (C : Array Value) : Below B a (w.setRow g C) :=
  h.trans ⟨rfl, rfl, rfl, by simp, fun k hk => setRow_other w g k C (by omega)⟩
/-- a whole array or struct out of a block -/
theorem wpList_loadB {ops : Array Oper} {rest : List Oper} {o : Oper} {a : Act} {w : World} {Q : Exit → Act → World → Prop} (hgd : o.guard = none) (ty : TypeId) (x : Operand) (ho : o.op = .load ty x)
    {g : Nat} {t : TypeId} {cs : List Value} (hB : Blk w g t cs) (hx : a.eval x = .pointer (some ⟨g, 0, none⟩)) (d : TypeDesc)
    (hu : P.underlying ty = some d) (hd : (match d with | .struct _ | .array _ _ => true | _ => false) = true) (hi : (P.info? ty).map (·.size) = some cs.length)
    (h : wpList P ops Q rest (a.put o.dst (.agg cs.toArray)) w) : wpList P ops Q (o :: rest) a w :=
  wpList_load_row hgd ty x ho g hx t cs.toArray (0, 0) d hB hu hd (by simpa using hi) h
/-- a whole array or struct into a block -/
theorem wpList_storeB {ops : Array Oper} {rest : List Oper} {o : Oper} {a : Act} {w : World} {Q : Exit → Act → World → Prop} (hgd : o.guard = none) (ty : TypeId) (x y : Operand) (ho : o.op = .store ty x y)
    {g : Nat} {t : TypeId} {old cs : List Value} (hB : Blk w g t old) (hx : a.eval x = .pointer (some ⟨g, 0, none⟩)) (hy : a.eval y = .agg cs.toArray)
    (hi : (P.info? ty).map (·.size) = some cs.length) (hl : old.length = cs.length) (h1 : ∀ v ∈ cs, v.oneCell' = true)
    (h : wpList P ops Q rest (a.put o.dst undef) (w.setRow g cs.toArray)) : wpList P ops Q (o :: rest) a w :=
  wpList_store_row hgd ty x y ho g cs.toArray hx hy t old.toArray hB (by simpa using hi) (by simpa using hl) (Array.all_eq_true_iff_forall_mem.2 (fun v hv => h1 v (by simpa using hv))) h
theorem run_index_agg {w : World} {t e : TypeId} {n : Nat} {ke : IntKind} (h : P.underlying t = some (.array n e)) (he : P.underlying e = some (.int ke)) (hi : (P.info? e).map (·.size) = some 1)
    (cs : Array Value) (k : IntKind) (i : Nat) (hn : i < n) {u : Value} (hu : cs[i]? = some u) : (Instr.index t (.agg cs) (.int k (i : Int))).run P w = .ok u w := by
  cases hq : P.info? e with
  | none => simp [hq] at hi
  | some ie =>
    have hs : ie.size = 1 := by simpa [hq] using hi
    have hb : (0 : Int) ≤ i ∧ (i : Int) < n := by omega
    simp [Instr.index, asIntOf, run_underlying h, run_underlying he, hb, sizeOf, typeInfo, hq, hs, part, isAgg, hu]
    omega
end
end Go.Gr
