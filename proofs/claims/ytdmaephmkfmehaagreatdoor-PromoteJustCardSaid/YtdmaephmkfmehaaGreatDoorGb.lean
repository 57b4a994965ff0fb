/- Texts put together: MonoF MonoS Make PushM AppM Join MapS MonoS2 MonoB Seg. -/
import Derived.Test.YtdmaephmkfmehaaGreatDoorGa
import Derived.Maps.OwnSet
import Derived.Maps.RangeWalk
import Derived.ArgAppend
namespace Go.Gr
open Go.RowKit Go.Sort
set_option linter.unusedVariables false
/-- as okAllX; but operation j may come ahead of each operation that is more than reading -/
def okF (ops : Array Oper) (j : Nat) : Array Bool → List Nat → Bool
  | _, [] => false
  | listed, i :: rest =>
    match ops[i]? with
    | none => false
    | some o =>
      if i == j then okAllX ops listed (i :: rest)
      else if isX o then (Region.ready .any ops listed == [i, j] || Region.ready .any ops listed == [j, i]) && rest.contains j && okF ops j (listed.setIfInBounds i true) rest && okAllX ops (listed.setIfInBounds j true) (i :: rest.erase j)
      else (Region.ready .any ops listed).contains i &&
        ((List.range ops.size).all fun j => j == i || listed.getD j true || (match ops[j]? with
          | some oj => !(oj.after.all fun e => !Region.binds .any e || e.on != i) || o.apart ops oj
          | none => true)) && okF ops j (listed.setIfInBounds i true) rest
def wpF (R : RT) (P : Program) (ops : Array Oper) (Q : Exit → Act → World → Prop) (j : Nat) : List Nat → Act → World → Prop
  | [], a, w => False
  | i :: rest, a, w =>
    match ops[i]? with
    | none => False
    | some o =>
      if i == j then wpMR R P ops Q (i :: rest) a w
      else if isX o then
        (if Region.wanted o (yielded ops a.tmps) then o.wp P a w (fun a' w' => R.r w w' ∧ wpF R P ops Q j rest a' w') Q else wpF R P ops Q j rest (a.put o.dst undef) w) ∧ wpMR R P ops Q (j :: i :: rest.erase j) a w
      else (if Region.wanted o (yielded ops a.tmps) then rdOp P o a (R.r w) (fun a' => wpF R P ops Q j rest a' w) else wpF R P ops Q j rest (a.put o.dst undef) w)
section
variable {P : Program} {ops : Array Oper} {Q : Exit → Act → World → Prop} {R : RT}
theorem run_monoF {j : Nat} {oj : Oper} (hoj : ops[j]? = some oj) (hxj : isX oj = true) (hsel : ∀ (j : Nat) (o : Oper) cs b, ops[j]? = some o → o.op ≠ .select cs b) (hQ : ∀ c a w, ¬ Q (.panic c) a w) :
    ∀ (perm : List Nat) (listed : Array Bool) (a : Act) (w : World), okF ops j listed perm = true → wpF R P ops Q j perm a w → wpAnyH P .any ops Q (R.r w) perm.length listed a w
  | [], listed, a, w, hok, h => h.elim
  | i :: rest, listed, a, w, hok, h => by
    unfold okF at hok
    unfold wpF at h
    cases ho : ops[i]? with
    | none => rw [ho] at h; exact h.elim
    | some o =>
      simp only [ho] at hok h
      by_cases hij : i = j
      · have hb : (i == j) = true := by simpa using hij
        rw [if_pos hb] at hok h
        exact run_monoR hsel hQ _ _ _ _ hok h
      · have hb : ¬ (i == j) = true := by simpa using hij
        rw [if_neg hb] at hok h
        by_cases hx : isX o = true
        · rw [if_pos hx] at hok h
          rw [Bool.and_eq_true, Bool.and_eq_true, Bool.and_eq_true] at hok
          obtain ⟨⟨⟨hr, hc⟩, hok1⟩, hok2⟩ := hok
          obtain ⟨h1, h2⟩ := h
          have hmem : j ∈ rest := by simpa using hc
          have hlen : (i :: rest.erase j).length = rest.length := by
            rw [List.length_cons, List.length_erase_of_mem hmem]
            have := List.length_pos_of_mem hmem
            omega
          have hi : wpOp P ops Q i (fun a' w' => R.r w w' ∧ wpAnyH P .any ops Q (R.r w) rest.length (listed.setIfInBounds i true) a' w') a w := by
            refine wpOp_step ho fun K' hK => ?_
            split
            · rename_i hw
              rw [if_pos hw] at h1
              have hm : ∀ a' w', (R.r w w' ∧ wpF R P ops Q j rest a' w') → K' a' w' := fun a' w' ⟨h3, h4⟩ =>
                hK _ _ ⟨h3, wpAnyH_mono (fun x hx => R.trans _ _ _ h3 hx) _ _ _ _ (run_monoF hoj hxj hsel hQ rest _ a' w' hok1 h4)⟩
              exact Oper.wp_mono hm h1
            · rename_i hw
              rw [if_neg hw] at h1
              exact hK _ _ ⟨R.refl w, run_monoF hoj hxj hsel hQ rest _ _ w hok1 h1⟩
          have hj : wpOp P ops Q j (fun a' w' => R.r w w' ∧ wpAnyH P .any ops Q (R.r w) rest.length (listed.setIfInBounds j true) a' w') a w := by
            unfold wpMR at h2
            simp only [hoj, hxj, if_true] at h2
            refine wpOp_step hoj fun K' hK => ?_
            split
            · rename_i hw
              rw [if_pos hw] at h2
              have hm : ∀ a' w', (R.r w w' ∧ wpMR R P ops Q (i :: rest.erase j) a' w') → K' a' w' := fun a' w' ⟨h3, h4⟩ =>
                hK _ _ ⟨h3, wpAnyH_mono (fun x hx => R.trans _ _ _ h3 hx) _ _ _ _ (by have := run_monoR hsel hQ _ _ a' w' hok2 h4; rwa [hlen] at this)⟩
              exact Oper.wp_mono hm h2
            · rename_i hw
              rw [if_neg hw] at h2
              exact hK _ _ ⟨R.refl w, by have := run_monoR hsel hQ _ _ _ w hok2 h2; rwa [hlen] at this⟩
          rw [Bool.or_eq_true] at hr
          rcases hr with hr | hr
          · have hr' : Region.ready .any ops listed = [i, j] := by simpa using hr
            refine wpAnyH_all hr' (by simp) fun k hk => ?_
            rcases (by simpa using hk : k = i ∨ k = j) with rfl | rfl
            · exact hi
            · exact hj
          · have hr' : Region.ready .any ops listed = [j, i] := by simpa using hr
            refine wpAnyH_all hr' (by simp) fun k hk => ?_
            rcases (by simpa using hk : k = j ∨ k = i) with rfl | rfl
            · exact hj
            · exact hi
        · rw [if_neg hx] at hok h
          rw [Bool.and_eq_true, Bool.and_eq_true] at hok
          obtain ⟨⟨hin, hap⟩, hok2⟩ := hok
          have hmem : i ∈ Region.ready .any ops listed := by simpa using hin
          have hapart : ∀ j oj, ops[j]? = some oj → j ≠ i → listed.getD j true = false → (∀ e ∈ oj.after, Region.binds .any e = true → e.on ≠ i) → o.apart ops oj = true := by
            intro j oj hj hne hl hw
            have hjl : j < ops.size := (Array.getElem?_eq_some_iff.1 hj).1
            have h1 := List.all_eq_true.1 hap j (List.mem_range.2 hjl)
            simp only [hj, Bool.or_eq_true, beq_iff_eq] at h1
            rcases h1 with (h1 | h1) | h1 | h1
            · exact absurd h1 hne
            · rw [hl] at h1; cases h1
            · exfalso
              have : (oj.after.all fun e => !Region.binds .any e || e.on != i) = true := by
                rw [Array.all_eq_true_iff_forall_mem]
                intro e he
                by_cases hb : Region.binds .any e = true
                · have := hw e he hb; simp [this]
                · simp [hb]
              rw [this] at h1; cases h1
            · exact h1
          split at h
          · rename_i hw
            obtain ⟨v, hv, hn⟩ := h
            refine wpAnyH_first ho hsel (fun c a w h => (hQ _ _ _ h).elim) rest.length listed a w hapart hmem (.inl ⟨hw, fun w' hw' => rd_run (hv w' hw')⟩) (R.refl w) ?_
            exact run_monoF hoj hxj hsel hQ rest _ _ w hok2 hn
          · rename_i hw
            refine wpAnyH_first (v := undef) ho hsel (fun c a w h => (hQ _ _ _ h).elim) rest.length listed a w hapart hmem (.inr ⟨by simpa using hw, rfl⟩) (R.refl w) ?_
            exact run_monoF hoj hxj hsel hQ rest _ _ w hok2 h
/-- the same behind a name that does not unfold -/
structure WF (R : RT) (P : Program) (ops : Array Oper) (Q : Exit → Act → World → Prop) (j : Nat) (l : List Nat) (a : Act) (w : World) : Prop where
  out : wpF R P ops Q j l a w
/-- THE RULE: a region that draws its order, in which operation j floats, walked in the order 'perm'. -/
theorem wp_region_wf {id : Nat} {l : List Oper} {a : Act} {w : World} (R : RT) (j : Nat) (perm : List Nat) (hm : P.follows .mixedOrders = true) (hs : (l.all fun o => !isSel o) = true) (hl : perm.length = l.toArray.size)
    (hok : okF l.toArray j (Array.replicate l.toArray.size false) perm = true) (hj : (match l[j]? with | some o => isX o | none => false) = true) (h : WF R P l.toArray (NoPanic Q) j perm a w.drew) : (Code.region id l.toArray true).wp P Q a w := by
  refine wp_region_noPanic (wp_region_held (S := R.r w.drew) hm ?_)
  rw [← hl] at *
  cases hoj : l[j]? with
  | none => rw [hoj] at hj; cases hj
  | some oj =>
    rw [hoj] at hj
    refine run_monoF (j := j) (oj := oj) (by rw [List.getElem?_toArray]; exact hoj) hj ?_ (fun c a w h => h) perm _ a _ hok h.out
    intro j o cs b hj he
    have hmem : o ∈ l := by
      rw [List.getElem?_toArray] at hj
      exact List.mem_of_getElem? hj
    have := List.all_eq_true.1 hs o hmem
    simp [isSel, he] at this
variable {j : Nat} {i : Nat} {o : Oper} {rest : List Nat} {a : Act} {w : World}
theorem wf_rd (ho : ops[i]? = some o) (hij : (i == j) = false) (hx : isX o = false)
    (h : ∀ K : Act → Prop, (∀ a, WF R P ops Q j rest a w → K a) → if Region.wanted o (yielded ops a.tmps) then rdOp P o a (R.r w) K else K (a.put o.dst undef)) : WF R P ops Q j (i :: rest) a w := by
  have := h (fun a => wpF R P ops Q j rest a w) (fun _ h => h.out)
  refine ⟨?_⟩
  unfold wpF
  simp only [ho, hx, hij, Bool.false_eq_true, if_false]
  exact this
/-- an operation that is more than reading: ahead of the floating one, and behind it -/
theorem wf_ext (ho : ops[i]? = some o) (hij : (i == j) = false) (hx : isX o = true)
    (h : ∀ K : Act → World → Prop, (∀ a' w', R.r w w' → WF R P ops Q j rest a' w' → K a' w') → if Region.wanted o (yielded ops a.tmps) then o.wp P a w K Q else K (a.put o.dst undef) w)
    (h2 : WMR R P ops Q (j :: i :: rest.erase j) a w) : WF R P ops Q j (i :: rest) a w := by
  have := h (fun a' w' => R.r w w' ∧ wpF R P ops Q j rest a' w') (fun _ _ h1 h2 => ⟨h1, h2.out⟩)
  refine ⟨?_⟩
  unfold wpF
  simp only [ho, hx, hij, Bool.false_eq_true, if_false, if_true]
  refine ⟨?_, h2.out⟩
  split
  · rename_i hw; rw [if_pos hw] at this; exact this
  · rename_i hw; rw [if_neg hw] at this; exact this.2
/-- the floating one at its own place -/
theorem wf_at (ho : ops[j]? = some o) (h : WMR R P ops Q (j :: rest) a w) : WF R P ops Q j (j :: rest) a w := by
  refine ⟨?_⟩
  unfold wpF
  simp only [ho, beq_self_eq_true, if_true]
  exact h.out
theorem wf_ldX {g off : Nat} {cs : List Value} (hi' : ops[i]? = some o) (hij : (i == j) = false) (hw : Region.wanted o (yielded ops a.tmps) = true) (ty : TypeId) (x : Operand) (ho : o.op = .load ty x)
    (hr : ∀ w', R.r w w' → At5 w' g off cs) (hx : a.eval x = .pointer (some ⟨g, off, none⟩)) (d : TypeDesc)
    (hu : P.underlying ty = some d) (hd : d.isRow = true) (hi : (P.info? ty).map (·.size) = some cs.length)
    (h : WF R P ops Q j rest (a.put o.dst (.agg cs.toArray)) w) : WF R P ops Q j (i :: rest) a w := by
  refine wf_rd hi' hij (by simp [isX, isExt, ho]) fun K hK => ?_
  rw [if_pos hw]
  exact rdOp_ldX ty x ho hr hx d hu hd hi (hK _ h)
theorem wmr_ldX {g off : Nat} {cs : List Value} (hi' : ops[i]? = some o) (hw : Region.wanted o (yielded ops a.tmps) = true) (ty : TypeId) (x : Operand) (ho : o.op = .load ty x)
    (hr : ∀ w', R.r w w' → At5 w' g off cs) (hx : a.eval x = .pointer (some ⟨g, off, none⟩)) (d : TypeDesc)
    (hu : P.underlying ty = some d) (hd : d.isRow = true) (hi : (P.info? ty).map (·.size) = some cs.length)
    (h : WMR R P ops Q rest (a.put o.dst (.agg cs.toArray)) w) : WMR R P ops Q (i :: rest) a w := by
  refine wmr_rd hi' (by simp [isX, isExt, ho]) fun K hK => ?_
  rw [if_pos hw]
  exact rdOp_ldX ty x ho hr hx d hu hd hi (hK _ h)
end
section
variable {P : Program} {G : Nat → Prop} {w0 w : World} {L L1 L2 : List As} {o : Oper} {a : Act} {Q : Exit → Act → World → Prop} {K : Act → World → Prop}
/-- a whole array or struct into a block -/
theorem wp_stS (L1 : List As) {L2 : List As} {g : Nat} {t : TypeId} {old cs : List Value} (H : Sep G w0 w (L1 ++ As.blk g t old :: L2)) (ty : TypeId) (x y : Operand) (ho : o.op = .store ty x y)
    (hx : a.eval x = .pointer (some ⟨g, 0, none⟩)) (hy : a.eval y = .agg cs.toArray)
    (hi : (P.info? ty).map (·.size) = some cs.length) (hl : old.length = cs.length) (h1 : ∀ v ∈ cs, v.oneCell' = true)
    (h : ∀ w', Sep G w0 w' (L1 ++ As.blk g t cs :: L2) → Upd g w w' → K (a.put o.dst undef) w') : o.wp P a w K Q := by
  have hB := H.blk (g := g) (e := t) (cs := old) (by simp)
  have hu := (Upd.refl g w).row cs.toArray
  exact wp_store_row ty x y ho g cs.toArray hx hy t old.toArray hB (by simpa using hi) (by simpa using hl) (Array.all_eq_true_iff_forall_mem.2 (fun v hv => h1 v (by simpa using hv)))
    (h _ (H.upd (B := As.blk g t cs) (Fr.of_upd hu) (fun _ h => h) (hB.setRow cs) (fun _ h => .inl h)) hu)
/-- a new variable -/
theorem wp_alS (H : Sep G w0 w L) (ty : TypeId) (ho : o.op = .alloc ty) (cs : List Value) (hz : (P.info? ty).map (fun i => i.zero.map (·.cells)) = some (some cs.toArray))
    (h : ∀ w', w'.heap.size = w.heap.size + 1 → Ext w w' → Sep G w0 w' (As.blk w.heap.size ty cs :: L) → K (a.put o.dst (.pointer (some ⟨w.heap.size, 0, none⟩))) w') : o.wp P a w K Q := by
  unfold Oper.wp execOp
  cases hq : P.info? ty with
  | none => simp [hq] at hz
  | some ii =>
    cases hq2 : ii.zero with
    | none => simp [hq, hq2] at hz
    | some z =>
      have hzc : z.cells = cs.toArray := by simpa [hq, hq2] using hz
      have hr : (zeroValue ty).run P w = .ok z w := by simp [zeroValue, typeInfo, hq, hq2]
      simp only [ho, Instr.alloc, Sem.run_bind, hr, Result.andThen_ok, newVar, newRow, hzc]
      exact h _ (by simp) ((Ext.refl w).alloc (.cells cs.toArray ty)) (H.newB ((Ext.refl w).alloc (.cells cs.toArray ty)) (Blk.new w ty cs) (Nat.le_refl _))
end
theorem Upd.up {g : Nat} {w w' : World} (h : Upd g w w') {B : Nat} (hB : B ≤ g) : (RT.fr fun k => B ≤ k).r w w' := (Fr.of_upd h).mono fun k hk => by cases hk; exact hB
/-- only blocks from B on may turn -/
def RT.up (B : Nat) : RT := RT.fr fun k => B ≤ k
theorem At5.fr {S : Nat → Prop} {w w' : World} {g off : Nat} {cs : List Value} (h : At5 w g off cs) (k : Fr S w w') (hS : ¬ S g) : At5 w' g off cs := fun j v hv => k.cell (h j v hv) hS
theorem Blk.at5 {w : World} {g : Nat} {e : TypeId} {cs : List Value} (h : Blk w g e cs) : At5 w g 0 cs := fun j v hv => by rw [Nat.zero_add]; exact (h.cell j).trans hv
theorem Blk.at5m {w : World} {g : Nat} {e : TypeId} {whole cs : List Value} (h : Blk w g e whole) (o : Nat) (hm : ∀ j v, cs[j]? = some v → whole[o + j]? = some v) : At5 w g o cs := h.mid o hm
theorem Ext.up {w w' : World} (h : Ext w w') (B : Nat) : (RT.up B).r w w' := (Fr.of_ext h).mono fun _ h => h.elim
end Go.Gr
namespace Go.Gr
open Go.RowKit Go.Sort
set_option linter.unusedVariables false
/-- as wpAnyH, but S holds only as long as operation s has not come up -/
def wpAnyS (P : Program) (ops : Array Oper) (Q : Exit → Act → World → Prop) (s : Nat) (S : World → Prop) : Nat → Array Bool → Act → World → Prop
  | 0, listed, a, w => Region.ready .any ops listed = [] ∧ Q .normal a w
  | f + 1, listed, a, w =>
    (Region.ready .any ops listed = [] → Q .normal a w) ∧
    ∀ i ∈ Region.ready .any ops listed, wpOp P ops Q i (fun a' w' => ((listed.setIfInBounds i true).getD s true = false → S w') ∧ wpAnyS P ops Q s S f (listed.setIfInBounds i true) a' w') a w
section
variable {P : Program} {ops : Array Oper} {Q : Exit → Act → World → Prop} {s : Nat} {S : World → Prop}
theorem wpAny_of_S : ∀ (f : Nat) (listed : Array Bool) (a : Act) (w : World), wpAnyS P ops Q s S f listed a w → wpAny P .any ops Q f listed a w
  | 0, _, _, _, h => h
  | f + 1, _, _, _, h => ⟨h.1, fun i hi => wpOp_mono (fun a' w' h' => wpAny_of_S f _ a' w' h'.2) (h.2 i hi)⟩
theorem wpAnyS_mono {S' : World → Prop} (hs : ∀ w, S w → S' w) : ∀ (f : Nat) (listed : Array Bool) (a : Act) (w : World), wpAnyS P ops Q s S f listed a w → wpAnyS P ops Q s S' f listed a w
  | 0, _, _, _, h => h
  | f + 1, _, _, _, h => ⟨h.1, fun i hi => wpOp_mono (fun a' w' h' => ⟨fun hl => hs _ (h'.1 hl), wpAnyS_mono hs f _ a' w' h'.2⟩) (h.2 i hi)⟩
theorem getD_set_true' {l : Array Bool} {i j : Nat} (h : l.getD j true = true) : (l.setIfInBounds i true).getD j true = true := by
  by_cases hij : i = j
  · subst hij
    rcases Nat.lt_or_ge i l.size with h' | h'
    · simp [h']
    · simp
  · rw [getD_set_ne true hij]; exact h
/-- behind operation s nothing is asked -/
theorem wpAnyS_of_H : ∀ (f : Nat) (listed : Array Bool) (a : Act) (w : World), listed.getD s true = true → wpAnyH P .any ops Q (fun _ => True) f listed a w → wpAnyS P ops Q s S f listed a w
  | 0, _, _, _, _, h => h
  | f + 1, listed, a, w, hl, h => ⟨h.1, fun i hi => wpOp_mono (fun a' w' h' => ⟨fun h0 => (by rw [getD_set_true' hl] at h0; cases h0), wpAnyS_of_H f _ a' w' (getD_set_true' hl) h'.2⟩) (h.2 i hi)⟩
/-- an operation for which s waits, or one that yields in whatever world, may be taken first -/
theorem wpAnyS_first {i : Nat} {oi : Oper} {v : Value} {T : World → Prop} (hi : ops[i]? = some oi) (his : i ≠ s) (hsel : ∀ (j : Nat) (o : Oper) cs b, ops[j]? = some o → o.op ≠ .select cs b)
    (hQ : ∀ c a w, Q (.panic c) (a.put oi.dst v) w → Q (.panic c) a w)
    (hT : (∀ w, T w) ∨ (Region.waitsFor .any ops s i = true ∧ ∀ w, S w → T w)) :
    ∀ (f : Nat) (listed : Array Bool) (a : Act) (w : World),
      (∀ j oj, ops[j]? = some oj → j ≠ i → listed.getD j true = false → (∀ e ∈ oj.after, Region.binds .any e = true → e.on ≠ i) → oi.apart ops oj = true) →
      ((∀ w, T w) ∨ listed.getD s true = false) → i ∈ Region.ready .any ops listed → YieldsIf P ops T oi v a → (listed.getD s true = false → S w) → T w →
      wpAnyS P ops Q s S f (listed.setIfInBounds i true) (a.put oi.dst v) w → wpAnyS P ops Q s S (f + 1) listed a w := by
  intro f
  induction f with
  | zero =>
    intro listed a w _ hsu hr hy hS hTw H
    refine ⟨fun h => (by rw [h] at hr; cases hr), fun j hj => ?_⟩
    by_cases hji : j = i
    · subst hji; exact hy.wpOp hi hTw ⟨fun h => hS (by rwa [getD_set_ne true his] at h), H⟩
    · have := ready_mono hj hji
      rw [H.1] at this
      cases this
  | succ f ih =>
    intro listed a w hfree hsu hr hy hS hTw H
    refine ⟨fun h => (by rw [h] at hr; cases hr), fun j hj => ?_⟩
    by_cases hji : j = i
    · subst hji; exact hy.wpOp hi hTw ⟨fun h => hS (by rwa [getD_set_ne true his] at h), H⟩
    · have h1 := H.2 j (ready_mono hj hji)
      have hun := (mem_ready.1 hr).1
      obtain ⟨hjun, oj, hoj, hall⟩ := mem_ready.1 hj
      have hnot : ∀ e ∈ oj.after, Region.binds .any e = true → e.on ≠ i := fun e he hb heq => by
        have h1 := hall e he hb
        rw [heq, getD_both hun] at h1
        cases h1
      have h2 := wpOp_putIf hoj (hfree j oj hoj hji hjun hnot) (fun cs b => hsel i oi cs b hi) (fun cs b => hsel j oj cs b hoj) hQ hy h1
      have hfree' : ∀ k ok, ops[k]? = some ok → k ≠ i → (listed.setIfInBounds j true).getD k true = false →
          (∀ e ∈ ok.after, Region.binds .any e = true → e.on ≠ i) → oi.apart ops ok = true := fun k ok hk hki hun hno => by
        refine hfree k ok hk hki ?_ hno
        by_cases hjk : j = k
        · subst hjk; exact hjun
        · rw [getD_set_ne true hjk] at hun; exact hun
      have hSj : ∀ w', (((listed.setIfInBounds i true).setIfInBounds j true).getD s true = false → S w') → (listed.setIfInBounds j true).getD s true = false → S w' := fun w' h h0 => by
        refine h ?_
        rw [Array.setIfInBounds_comm _ _ (Ne.symm hji), getD_set_ne true his]
        exact h0
      have hsu' : (∀ w, T w) ∨ (listed.setIfInBounds j true).getD s true = false := by
        rcases hsu with h | h
        · exact .inl h
        · rcases hT with hT | ⟨hw, hT⟩
          · exact .inl hT
          · refine .inr ?_
            have hjs : j ≠ s := by
              rintro rfl
              obtain ⟨os, hos, e, he, hb, hon⟩ := Region.waitsFor_spec hw
              have := hall e (by rw [hoj] at hos; cases hos; exact he) hb
              rw [hon, getD_both hun] at this
              cases this
            rw [getD_set_ne true hjs]
            exact h
      refine wpOp_mono (fun a' w' h3 => ⟨hSj w' h3.2.1, ih (listed.setIfInBounds j true) a' w' hfree' hsu' (ready_mono hr (Ne.symm hji)) h3.1 (hSj w' h3.2.1) ?_ ?_⟩) h2
      · rcases hsu' with hT' | h0
        · exact hT' w'
        · rcases hT with hT | ⟨hw, hT⟩
          · exact hT w'
          · exact hT w' (hSj w' h3.2.1 h0)
      · rw [Array.setIfInBounds_comm _ _ hji]
        exact h3.2.2
/-- the operations ahead of s in this order: each reading one as early as its edges allow, those that are more in one line; then s; then as okAllX -/
def okS (ops : Array Oper) (s : Nat) : Array Bool → List Nat → Bool
  | _, [] => false
  | listed, i :: rest =>
    match ops[i]? with
    | none => false
    | some o =>
      if i == s then Region.ready .any ops listed == [s] && okAllX ops (listed.setIfInBounds s true) rest
      else if isX o then Region.ready .any ops listed == [i] && okS ops s (listed.setIfInBounds i true) rest
      else (Region.ready .any ops listed).contains i && !(listed.getD s true) &&
        ((List.range ops.size).all fun j => j == i || listed.getD j true || (match ops[j]? with
          | some oj => !(oj.after.all fun e => !Region.binds .any e || e.on != i) || o.apart ops oj
          | none => true)) && okS ops s (listed.setIfInBounds i true) rest
def RT.all : RT := ⟨fun _ _ => True, fun _ => trivial, fun _ _ _ _ _ => trivial⟩
def wpMS (R : RT) (P : Program) (ops : Array Oper) (Q : Exit → Act → World → Prop) (s : Nat) : List Nat → Act → World → Prop
  | [], a, w => False
  | i :: rest, a, w =>
    match ops[i]? with
    | none => False
    | some o =>
      if i == s then (if Region.wanted o (yielded ops a.tmps) then o.wp P a w (fun a' w' => wpMR RT.all P ops Q rest a' w') Q else wpMR RT.all P ops Q rest (a.put o.dst undef) w)
      else if isX o then
        (if Region.wanted o (yielded ops a.tmps) then o.wp P a w (fun a' w' => R.r w w' ∧ wpMS R P ops Q s rest a' w') Q else wpMS R P ops Q s rest (a.put o.dst undef) w)
      else (if Region.wanted o (yielded ops a.tmps) then rdOp P o a (fun w' => if Region.waitsFor .any ops s i then R.r w w' else True) (fun a' => wpMS R P ops Q s rest a' w) else wpMS R P ops Q s rest (a.put o.dst undef) w)
theorem run_monoS {R : RT} (hsel : ∀ (j : Nat) (o : Oper) cs b, ops[j]? = some o → o.op ≠ .select cs b) (hQ : ∀ c a w, ¬ Q (.panic c) a w) :
    ∀ (perm : List Nat) (listed : Array Bool) (a : Act) (w : World), okS ops s listed perm = true → wpMS R P ops Q s perm a w → wpAnyS P ops Q s (R.r w) perm.length listed a w
  | [], listed, a, w, hok, h => h.elim
  | i :: rest, listed, a, w, hok, h => by
    unfold okS at hok
    unfold wpMS at h
    cases ho : ops[i]? with
    | none => rw [ho] at h; exact h.elim
    | some o =>
      simp only [ho] at hok h
      by_cases his : i = s
      · have hb : (i == s) = true := by simpa using his
        rw [if_pos hb] at hok h
        subst his
        rw [Bool.and_eq_true] at hok
        obtain ⟨hr, hok1⟩ := hok
        have hr' : Region.ready .any ops listed = [i] := by simpa using hr
        have hil : i < listed.size := by
          have hm : i ∈ Region.ready .any ops listed := by rw [hr']; simp
          have h0 := (mem_ready.1 hm).1
          rcases Nat.lt_or_ge i listed.size with h' | h'
          · exact h'
          · simp [Array.getElem?_eq_none h'] at h0
        have hset : (listed.setIfInBounds i true).getD i true = true := by simp [hil]
        refine ⟨fun h0 => (by rw [hr'] at h0; cases h0), fun k hk => ?_⟩
        obtain rfl : k = i := by rw [hr'] at hk; simpa using hk
        refine wpOp_step ho fun K' hK => ?_
        split
        · rename_i hw
          rw [if_pos hw] at h
          refine Oper.wp_mono (fun a' w' h3 => hK _ _ ⟨fun h0 => (by rw [hset] at h0; cases h0), ?_⟩) h
          exact wpAnyS_of_H _ _ _ _ hset (run_monoR (R := RT.all) hsel hQ rest _ a' w' hok1 h3)
        · rename_i hw
          rw [if_neg hw] at h
          exact hK _ _ ⟨fun h0 => (by rw [hset] at h0; cases h0), wpAnyS_of_H _ _ _ _ hset (run_monoR (R := RT.all) hsel hQ rest _ _ w hok1 h)⟩
      · have hb : ¬ (i == s) = true := by simpa using his
        rw [if_neg hb] at hok h
        by_cases hx : isX o = true
        · rw [if_pos hx] at hok h
          rw [Bool.and_eq_true] at hok
          obtain ⟨hr, hok1⟩ := hok
          have hr' : Region.ready .any ops listed = [i] := by simpa using hr
          refine ⟨fun h0 => (by rw [hr'] at h0; cases h0), fun k hk => ?_⟩
          obtain rfl : k = i := by rw [hr'] at hk; simpa using hk
          refine wpOp_step ho fun K' hK => ?_
          split
          · rename_i hw
            rw [if_pos hw] at h
            refine Oper.wp_mono (fun a' w' h3 => hK _ _ ⟨fun _ => h3.1, ?_⟩) h
            exact wpAnyS_mono (fun x hx => R.trans _ _ _ h3.1 hx) _ _ _ _ (run_monoS hsel hQ rest _ a' w' hok1 h3.2)
          · rename_i hw
            rw [if_neg hw] at h
            exact hK _ _ ⟨fun _ => R.refl w, run_monoS hsel hQ rest _ _ w hok1 h⟩
        · rw [if_neg hx] at hok h
          rw [Bool.and_eq_true, Bool.and_eq_true, Bool.and_eq_true] at hok
          obtain ⟨⟨⟨hin, hsu⟩, hap⟩, hok2⟩ := hok
          have hmem : i ∈ Region.ready .any ops listed := by simpa using hin
          have hsu' : listed.getD s true = false := by simpa using hsu
          have hapart : ∀ j oj, ops[j]? = some oj → j ≠ i → listed.getD j true = false → (∀ e ∈ oj.after, Region.binds .any e = true → e.on ≠ i) → o.apart ops oj = true := by
            intro j oj hj hne hl hw
            have hjl : j < ops.size := (Array.getElem?_eq_some_iff.1 hj).1
            have h1 := List.all_eq_true.1 hap j (List.mem_range.2 hjl)
            simp only [hj, Bool.or_eq_true, beq_iff_eq] at h1
            rcases h1 with (h1 | h1) | h1 | h1
            · exact absurd h1 hne
            · rw [hl] at h1; cases h1
            · exfalso
              have : (oj.after.all fun e => !Region.binds .any e || e.on != i) = true := by
                rw [Array.all_eq_true_iff_forall_mem]
                intro e he
                by_cases hb : Region.binds .any e = true
                · have := hw e he hb; simp [this]
                · simp [hb]
              rw [this] at h1; cases h1
            · exact h1
          have hTT : (∀ w', (if Region.waitsFor .any ops s i then R.r w w' else True)) ∨ (Region.waitsFor .any ops s i = true ∧ ∀ w', R.r w w' → (if Region.waitsFor .any ops s i then R.r w w' else True)) := by
            by_cases hwf : Region.waitsFor .any ops s i = true
            · exact .inr ⟨hwf, fun w' h => by rw [if_pos hwf]; exact h⟩
            · exact .inl fun w' => by rw [if_neg hwf]; trivial
          have hTw : (if Region.waitsFor .any ops s i then R.r w w else True) := by
            split
            · exact R.refl w
            · trivial
          split at h
          · rename_i hw
            obtain ⟨v, hv, hn⟩ := h
            exact wpAnyS_first (T := fun w' => if Region.waitsFor .any ops s i then R.r w w' else True) ho his hsel (fun c a w h => (hQ _ _ _ h).elim) hTT rest.length listed a w hapart (.inr hsu') hmem (.inl ⟨hw, fun w' hw' => rd_run (hv w' hw')⟩) (fun _ => R.refl w) hTw
              (run_monoS hsel hQ rest _ _ w hok2 hn)
          · rename_i hw
            exact wpAnyS_first (T := fun w' => if Region.waitsFor .any ops s i then R.r w w' else True) (v := undef) ho his hsel (fun c a w h => (hQ _ _ _ h).elim) hTT rest.length listed a w hapart (.inr hsu') hmem (.inr ⟨by simpa using hw, rfl⟩) (fun _ => R.refl w) hTw
              (run_monoS hsel hQ rest _ _ w hok2 h)
/-- the same behind a name that does not unfold -/
structure WS (R : RT) (P : Program) (ops : Array Oper) (Q : Exit → Act → World → Prop) (s : Nat) (l : List Nat) (a : Act) (w : World) : Prop where
  out : wpMS R P ops Q s l a w
/-- THE RULE: a region that draws its order, in which operation s may turn what others read, walked in the order 'perm'. -/
theorem wp_region_ws {id : Nat} {l : List Oper} {a : Act} {w : World} (R : RT) (s : Nat) (perm : List Nat) (hm : P.follows .mixedOrders = true) (hs : (l.all fun o => !isSel o) = true) (hl : perm.length = l.toArray.size)
    (hok : okS l.toArray s (Array.replicate l.toArray.size false) perm = true) (h : WS R P l.toArray (NoPanic Q) s perm a w.drew) : (Code.region id l.toArray true).wp P Q a w := by
  refine wp_region_noPanic (wp_region_any hm ?_)
  have hsel : ∀ (j : Nat) (o : Oper) cs b, l.toArray[j]? = some o → o.op ≠ .select cs b := by
    intro j o cs b hj he
    have hmem : o ∈ l := by
      rw [List.getElem?_toArray] at hj
      exact List.mem_of_getElem? hj
    have := List.all_eq_true.1 hs o hmem
    simp [isSel, he] at this
  have H := wpAny_of_S _ _ _ _ (run_monoS (R := R) hsel (fun c a w h => h) perm _ a w.drew hok h.out)
  rw [hl] at H
  exact H
variable {R : RT} {i : Nat} {o : Oper} {rest : List Nat} {a : Act} {w : World}
/-- a reading operation that s waits for -/
theorem ws_rd (ho : ops[i]? = some o) (his : (i == s) = false) (hx : isX o = false) (hw : Region.waitsFor .any ops s i = true)
    (h : ∀ K : Act → Prop, (∀ a, WS R P ops Q s rest a w → K a) → if Region.wanted o (yielded ops a.tmps) then rdOp P o a (R.r w) K else K (a.put o.dst undef)) : WS R P ops Q s (i :: rest) a w := by
  have := h (fun a => wpMS R P ops Q s rest a w) (fun _ h => h.out)
  refine ⟨?_⟩
  unfold wpMS
  simp only [ho, hx, his, hw, Bool.false_eq_true, if_false, if_true]
  exact this
/-- one that yields in whatever world -/
theorem ws_pure (ho : ops[i]? = some o) (his : (i == s) = false) (hx : isX o = false)
    (h : ∀ K : Act → Prop, (∀ a, WS R P ops Q s rest a w → K a) → if Region.wanted o (yielded ops a.tmps) then rdOp P o a (fun _ => True) K else K (a.put o.dst undef)) : WS R P ops Q s (i :: rest) a w := by
  have := h (fun a => wpMS R P ops Q s rest a w) (fun _ h => h.out)
  refine ⟨?_⟩
  unfold wpMS
  simp only [ho, hx, his, Bool.false_eq_true, if_false]
  split
  · rename_i hw
    rw [if_pos hw] at this
    obtain ⟨v, hv, hn⟩ := this
    exact ⟨v, fun w' _ => hv w' trivial, hn⟩
  · rename_i hw
    rw [if_neg hw] at this
    exact this
theorem ws_ext (ho : ops[i]? = some o) (his : (i == s) = false) (hx : isX o = true)
    (h : ∀ K : Act → World → Prop, (∀ a' w', R.r w w' → WS R P ops Q s rest a' w' → K a' w') → if Region.wanted o (yielded ops a.tmps) then o.wp P a w K Q else K (a.put o.dst undef) w) : WS R P ops Q s (i :: rest) a w := by
  have := h (fun a' w' => R.r w w' ∧ wpMS R P ops Q s rest a' w') (fun _ _ h1 h2 => ⟨h1, h2.out⟩)
  refine ⟨?_⟩
  unfold wpMS
  simp only [ho, hx, his, Bool.false_eq_true, if_false, if_true]
  split
  · rename_i hw; rw [if_pos hw] at this; exact this
  · rename_i hw; rw [if_neg hw] at this; exact this.2
/-- operation s itself -/
theorem ws_at (ho : ops[s]? = some o)
    (h : ∀ K : Act → World → Prop, (∀ a' w', WMR RT.all P ops Q rest a' w' → K a' w') → if Region.wanted o (yielded ops a.tmps) then o.wp P a w K Q else K (a.put o.dst undef) w) : WS R P ops Q s (s :: rest) a w := by
  have := h (fun a' w' => wpMR RT.all P ops Q rest a' w') (fun _ _ h2 => h2.out)
  refine ⟨?_⟩
  unfold wpMS
  simp only [ho, beq_self_eq_true, if_true]
  split
  · rename_i hw; rw [if_pos hw] at this; exact this
  · rename_i hw; rw [if_neg hw] at this; exact this
theorem ws_ldX {g off : Nat} {cs : List Value} (hi' : ops[i]? = some o) (his : (i == s) = false) (hwf : Region.waitsFor .any ops s i = true) (hw : Region.wanted o (yielded ops a.tmps) = true) (ty : TypeId) (x : Operand) (ho : o.op = .load ty x)
    (hr : ∀ w', R.r w w' → At5 w' g off cs) (hx : a.eval x = .pointer (some ⟨g, off, none⟩)) (d : TypeDesc)
    (hu : P.underlying ty = some d) (hd : d.isRow = true) (hi : (P.info? ty).map (·.size) = some cs.length)
    (h : WS R P ops Q s rest (a.put o.dst (.agg cs.toArray)) w) : WS R P ops Q s (i :: rest) a w := by
  refine ws_rd hi' his (by simp [isX, isExt, ho]) hwf fun K hK => ?_
  rw [if_pos hw]
  exact rdOp_ldX ty x ho hr hx d hu hd hi (hK _ h)
end
end Go.Gr
namespace Go.Gr
open Go.RowKit Go.Sort
set_option linter.unusedVariables false
section
variable {P : Program} {G : Nat → Prop} {w0 w : World} {L : List As} {o : Oper} {a : Act} {Q : Exit → Act → World → Prop} {K : Act → World → Prop}
/-- make([]T, C) of elements of one cell -/
theorem wp_mkG (H : Sep G w0 w L) (l c : Operand) (t : TypeId) (hop : o.op = Op.makeSlice t l c)
    (e : TypeId) (i : TypeInfo) (z : Value) (bytes : Nat) (h1 : P.underlying t = some (.slice e)) (h2 : P.info? e = some i) (h3 : i.zero = some z) (h4 : i.size = 1) (h5 : i.bytes = bytes) (hzc : z.cells = #[z])
    {kl kc : IntKind} {C : Nat} (hl : a.eval l = .int kl C) (hc : a.eval c = .int kc C) (hC2 : C ≤ 1000000000) (hb : bytes ≤ 1000)
    (hK : ∀ w', w'.heap.size = w.heap.size + 1 → Ext w w' → Sep G w0 w' (As.blk w.heap.size e (List.replicate C z) :: L) → K (a.put o.dst (.slice (some ⟨w.heap.size, 0, none⟩) C C)) w') : o.wp P a w K Q := by
  have hbb : (i.bytes : Int) * (C : Int) ≤ 281474976710656 := by
    rw [h5]
    have := Int.mul_le_mul_of_nonneg_right (show (bytes : Int) ≤ 1000 by omega) (show (0 : Int) ≤ C by omega)
    omega
  have hr := run_make (P := P) w t e i z h1 h2 h3 kl kc C C (by omega) (Int.le_refl _) hbb (by omega)
  rw [h4, Nat.mul_one, made_list z hzc, Int.toNat_natCast] at hr
  unfold Oper.wp execOp
  simp only [hop, hl, hc, Sem.run_bind, hr, Result.andThen_ok, Sem.run_pure]
  exact hK _ (by simp) ((Ext.refl w).alloc _) (H.newB ((Ext.refl w).alloc _) (Blk.new w e _) (Nat.le_refl _))
theorem wpList_mkG {ops : Array Oper} {rest : List Oper} (H : Sep G w0 w L) (hgd : o.guard = none) (l c : Operand) (t : TypeId) (hop : o.op = Op.makeSlice t l c)
    (e : TypeId) (i : TypeInfo) (z : Value) (bytes : Nat) (h1 : P.underlying t = some (.slice e)) (h2 : P.info? e = some i) (h3 : i.zero = some z) (h4 : i.size = 1) (h5 : i.bytes = bytes) (hzc : z.cells = #[z])
    {kl kc : IntKind} {C : Nat} (hl : a.eval l = .int kl C) (hc : a.eval c = .int kc C) (hC2 : C ≤ 1000000000) (hb : bytes ≤ 1000)
    (hK : ∀ w', Sep G w0 w' (As.blk w.heap.size e (List.replicate C z) :: L) → wpList P ops Q rest (a.put o.dst (.slice (some ⟨w.heap.size, 0, none⟩) C C)) w') : wpList P ops Q (o :: rest) a w :=
  wpList_plain hgd fun K hk => wp_mkG H l c t hop e i z bytes h1 h2 h3 h4 h5 hzc hl hc hC2 hb fun w' _ _ H' => hk _ _ (hK w' H')
theorem Sep.rowG (L1 : List As) {L2 : List As} {g : Nat} {e : TypeId} {cs : List Value} (H : Sep G w0 w (L1 ++ As.blk g e cs :: L2)) (cs' : List Value) : Sep G w0 (w.setRow g cs'.toArray) (L1 ++ As.blk g e cs' :: L2) :=
  H.upd (A := As.blk g e cs) (B := As.blk g e cs') (Fr.of_upd ((Upd.refl g w).row _)) (fun _ h => h) ((H.blk (g := g) (e := e) (cs := cs) (by simp)).setRow cs') (fun _ h => .inl h)
/-- copy into a block -/
theorem wpList_cpG {ops : Array Oper} {rest : List Oper} (L1 : List As) {L2 : List As} {g : Nat} {t : TypeId} {cur src : List Value} (H : Sep G w0 w (L1 ++ As.blk g t cur :: L2)) (hgd : o.guard = none) (d s : Operand) (dT sT : TypeId)
    (ho : o.op = .call { callee := .builtin .copy, args := #[d, s], argTypes := #[dT, sT] }) (elem : TypeId) (hu : P.underlying dT = some (.slice elem)) (hsz : (P.info? elem).map (·.size) = some 1)
    {A : Option Addr} {off dLen dCap sLen sCap : Nat} (hd : a.eval d = .slice (some ⟨g, off, none⟩) dLen dCap) (hs : a.eval s = .slice A sLen sCap)
    (hr : Rd w A src) (hl : src.length = sLen) (n : Nat) (hn : n = Nat.min sLen dLen) (hfit : off + n ≤ cur.length) (h1 : ∀ v ∈ src, v.oneCell' = true)
    (h : ∀ w', Sep G w0 w' (L1 ++ As.blk g t (splice cur off (src.take n)) :: L2) → wpList P ops Q rest (a.put o.dst (.int .i64 n)) w') : wpList P ops Q (o :: rest) a w :=
  wpList_copyB hgd d s dT sT ho elem hu hsz hd hs (H.blk (g := g) (e := t) (cs := cur) (by simp)) hr hl n hn hfit h1 (h _ (Sep.rowG L1 H _))
end
end Go.Gr
namespace Go.Gr
open Go.RowKit Go.Sort
set_option linter.unusedVariables false
section
variable {P : Program} {w w0 : World} {G : Nat → Prop} {L1 L2 : List As}
theorem wpList_pushM {ops : Array Oper} {rest : List Oper} {o : Oper} {a : Act} {Q : Exit → Act → World → Prop} (L1 : List As) {L2 : List As} {e e' : TypeId} {k : Nat} {v : Value} {rows : List (List Value)} {r : List Value} (H : Sep G w0 w (L1 ++ As.ownM e k v rows :: L2)) (hgd : o.guard = none) (s x : Operand) (t : TypeId)
    (ho : o.op = .call { callee := .builtin .append, args := #[s, x], argTypes := #[t, t] })
    (i : TypeInfo) (z : Value) (bytes : Nat) (ht : P.underlying t = some (.slice e)) (hi : P.info? e = some i) (hz : i.zero = some z)
    (hsize : i.size = k) (hby : i.bytes = bytes) (hzs : z.cells.size = k) (hsz : 0 < k)
    (hs : a.eval s = v) (hx : a.eval x = .slice (some ⟨w.heap.size, 0, none⟩) 1 1) (hl : r.length = k)
    (h1 : ∀ u ∈ r, u.oneCell' = true) (hn : rows.length < 100000) (hb : bytes ≤ 1000)
    (h : ∀ v' w', Sep G w0 w' (L1 ++ As.ownM e k v' (rows ++ [r]) :: L2) → wpList P ops Q rest (a.put o.dst v') w') : wpList P ops Q (o :: rest) a (w.alloc (.cells r.toArray e')) :=
  wpList_apM hgd s x t ho e i z k bytes ht hi hz hsize hby hzs hsz hs ((H.ownsM (e := e) (k := k) (v := v) (rows := rows) (by simp)).ext ((Ext.refl w).alloc _)) hx hl (Blk.rd (Blk.new w e' r)) h1 hn hb
    fun v' w' h2 h3 => h v' w' ((H.ext ((Ext.refl w).alloc _)).grewM L1 h3 h2)
theorem flatten_set {k : Nat} : ∀ {rows : List (List Value)}, (∀ r ∈ rows, r.length = k) → ∀ (i j : Nat) {r : List Value} (u : Value), rows[i]? = some r → j < k → (rows.set i (r.set j u)).flatten = rows.flatten.set (i * k + j) u
  | [], _, i, j, r, u, hr, _ => by simp at hr
  | a :: rows, h, 0, j, r, u, hr, hj => by
    simp only [List.getElem?_cons_zero, Option.some.injEq] at hr
    subst hr
    have ha := h a (by simp)
    rw [List.set_cons_zero, List.flatten_cons, List.flatten_cons, Nat.zero_mul, Nat.zero_add, List.set_append_left _ _ (by rw [ha]; exact hj)]
  | a :: rows, h, i + 1, j, r, u, hr, hj => by
    rw [List.getElem?_cons_succ] at hr
    have ha := h a (by simp)
    rw [List.set_cons_succ, List.flatten_cons, List.flatten_cons, List.set_append_right _ _ (by rw [ha, Nat.add_mul]; omega), flatten_set (fun x hx => h x (by simp [hx])) i j u hr hj, ha,
      show (i + 1) * k + j - k = i * k + j by rw [Nat.add_mul]; omega]
/-- a cell of a row of the call's own is written -/
theorem Sep.setM (L1 : List As) {L2 : List As} {e : TypeId} {k : Nat} {v : Value} {rows : List (List Value)} (H : Sep G w0 w (L1 ++ As.ownM e k v rows :: L2)) {i j : Nat} {r : List Value} (hr : rows[i]? = some r) (hj : j < k) (u : Value) :
    ∃ g c, v = .slice (some ⟨g, 0, none⟩) rows.length c ∧ rows.length ≤ c ∧ w.cell? ⟨g, i * k + j, none⟩ = r[j]? ∧ w.frozen? ⟨g, i * k + j, none⟩ = false ∧ g < w.heap.size ∧ Sep G w0 (w.setCell ⟨g, i * k + j, none⟩ u) (L1 ++ As.ownM e k v (rows.set i (r.set j u)) :: L2) := by
  have hO := H.ownsM (e := e) (k := k) (v := v) (rows := rows) (by simp)
  have hil : i < rows.length := by
    rcases Nat.lt_or_ge i rows.length with h3 | h3
    · exact h3
    · rw [List.getElem?_eq_none h3] at hr; cases hr
  have hrl := hO.len r (List.mem_of_getElem? hr)
  rcases hO.row.2 with ⟨h1, h⟩ | ⟨g, cap, cur, hv, hb, hh, hc, hm, hs, ht⟩
  · omega
  · subst hv
    have hB : Blk w g e cur.toList := by
      show w.heap[g]? = some (.cells cur.toList.toArray e (0, 0))
      rw [hh, Array.toArray_toList]
    have hlt : i * k + j < rows.length * k := by
      have := Nat.mul_le_mul_right k (show i + 1 ≤ rows.length by omega)
      rw [Nat.add_mul] at this; omega
    have hci : cur.toList[i * k + j]? = r[j]? := by
      have h2 : (cur.toList.take (rows.length * k))[i * k + j]? = rows.flatten[i * k + j]? := by rw [ht]
      rw [List.getElem?_take, if_pos hlt] at h2
      rw [h2, flatten_get hO.len i j hr (List.getElem?_eq_getElem (show j < r.length by omega)), List.getElem?_eq_getElem]
    refine ⟨g, cap, rfl, hc, (hB.cell _).trans hci, hB.free _, hB.lt, ?_⟩
    refine H.upd (B := As.ownM e k (.slice (some ⟨g, 0, none⟩) rows.length cap) (rows.set i (r.set j u))) (Fr.of_upd ((Upd.refl g w).cell _ u)) (fun q hq => by rw [show q = g from hq]; rfl) ?_ (fun _ h => .inl h)
    refine ⟨⟨?_, .inr ⟨g, cap, (cur.toList.set (i * k + j) u).toArray, by simp, hb, ?_, by simpa using hc, hm, by simpa using hs, ?_⟩⟩, ?_⟩
    · rw [flatten_set hO.len i j u hr hj, List.length_set, List.length_set]; exact hO.row.1
    · exact hB.set _ u
    · rw [flatten_set hO.len i j u hr hj, List.length_set]
      simp only
      rw [List.take_set, ht]
    · intro x hx
      rcases List.mem_or_eq_of_mem_set hx with hx | rfl
      · exact hO.len x hx
      · rw [List.length_set]; exact hrl
end
end Go.Gr
namespace Go.Gr
open Go.RowKit Go.Sort
set_option linter.unusedVariables false
section
variable {P : Program} {G : Nat → Prop} {w0 w w' : World} {L L1 L2 : List As} {ops : Array Oper} {rest : List Oper} {o : Oper} {a : Act} {Q : Exit → Act → World → Prop}
theorem RdM.flat {A : Option Addr} {k : Nat} {rows : List (List Value)} (h : RdM w A k rows) (hk : 0 < k) (hl : ∀ r ∈ rows, r.length = k) : Rd w A rows.flatten := fun j u hu => by
  have hj : j < rows.length * k := by
    have := (List.getElem?_eq_some_iff.1 hu).1
    rwa [flatten_len hl] at this
  have hi : j / k < rows.length := Nat.div_lt_of_lt_mul (by rw [Nat.mul_comm]; exact hj)
  have hr : rows[j / k]? = some rows[j / k] := List.getElem?_eq_getElem hi
  have hjk : j % k < (rows[j / k]).length := by rw [hl _ (List.getElem_mem hi)]; exact Nat.mod_lt _ hk
  have hu' : (rows[j / k])[j % k]? = some (rows[j / k])[j % k] := List.getElem?_eq_getElem hjk
  have e : j / k * k + j % k = j := by rw [Nat.mul_comm]; exact Nat.div_add_mod j k
  have h2 := flatten_get hl (j / k) (j % k) hr hu'
  rw [e, hu] at h2
  obtain ⟨ad, hA, hc⟩ := h (j / k) _ hr
  have h3 := hc (j % k) _ hu'
  rw [e] at h3
  exact ⟨ad, hA, by rw [h3]; exact h2.symm⟩
theorem run_append_rowsM (t ty e : TypeId) (i : TypeInfo) (z : Value) (k bytes : Nat) (ht : P.underlying t = some (.slice e)) (hi : P.info? e = some i) (hz : i.zero = some z)
    (hsize : i.size = k) (hby : i.bytes = bytes) (hzs : z.cells.size = k) (hsz : 0 < k)
    {v : Value} {rows : List (List Value)} (hown : OwnM w e k v rows) (A : Option Addr) (c : Nat) (news : List (List Value)) (hl : ∀ r ∈ news, r.length = k) (hr : RdM w A k news)
    (h1 : ∀ r ∈ news, ∀ u ∈ r, u.oneCell' = true) (hn : rows.length + news.length ≤ 100000) (hb : bytes ≤ 1000) :
    ∃ v' w', (Builtin.append_ #[t, t] ty #[v, .slice A news.length c]).run P w = .ok v' w' ∧ OwnM w' e k v' (rows ++ news) ∧ Grew w w' v v' := by
  have hbb : (rows.length + news.length) * bytes ≤ 100000 * 1000 := Nat.mul_le_mul hn hb
  obtain ⟨v', w', hrun, h2, h3, h4⟩ := run_append_sep (P := P) (w := w) t ty e i z k bytes ht hi hz hsize hby hzs hsz v rows.length rows.flatten hown.row A news.length c news.flatten (flatten_len hl) (hr.flat hsz hl) (fun u hu => by
    obtain ⟨r, hr, hu⟩ := List.mem_flatten.1 hu
    exact h1 r hr u hu) (by unfold maxLen; omega) (by omega)
  refine ⟨v', w', hrun, ⟨?_, ?_⟩, ⟨⟨h3.os, h3.tape, h3.output, h3.size, fun k hk hn => h3.block k hk (fun e => hn e.symm)⟩, h4⟩⟩
  · rw [List.length_append, List.flatten_append]; exact h2
  · intro x hx
    rcases List.mem_append.1 hx with hx | hx
    · exact hown.len x hx
    · exact hl x hx
theorem wpList_apsM (L1 : List As) {L2 : List As} {e : TypeId} {k : Nat} {v : Value} {rows news : List (List Value)} (H : Sep G w0 w (L1 ++ As.ownM e k v rows :: L2)) (hgd : o.guard = none) (s x : Operand) (t : TypeId)
    (ho : o.op = .call { callee := .builtin .append, args := #[s, x], argTypes := #[t, t] })
    (i : TypeInfo) (z : Value) (bytes : Nat) (ht : P.underlying t = some (.slice e)) (hi : P.info? e = some i) (hz : i.zero = some z)
    (hsize : i.size = k) (hby : i.bytes = bytes) (hzs : z.cells.size = k) (hsz : 0 < k)
    (hs : a.eval s = v) {A : Option Addr} {m c : Nat} (hx : a.eval x = .slice A m c) (hm : m = news.length) (hr : RdM w A k news) (hl : ∀ r ∈ news, r.length = k)
    (h1 : ∀ r ∈ news, ∀ u ∈ r, u.oneCell' = true) (hn : rows.length + news.length ≤ 100000) (hb : bytes ≤ 1000)
    (h : ∀ v' w', Sep G w0 w' (L1 ++ As.ownM e k v' (rows ++ news) :: L2) → wpList P ops Q rest (a.put o.dst v') w') : wpList P ops Q (o :: rest) a w :=
  wpList_plain hgd fun K hK => by
    subst hm
    obtain ⟨v', w', hrun, h2, h3⟩ := run_append_rowsM (P := P) (w := w) t o.type e i z k bytes ht hi hz hsize hby hzs hsz (H.ownsM (e := e) (k := k) (v := v) (rows := rows) (by simp)) A c news hl hr h1 hn hb
    unfold Oper.wp execOp
    simp only [ho, resolve, invoke, builtin, Sem.run_bind, Sem.run_pure, Result.andThen_ok, List.map_toArray, List.map_cons, List.map_nil, hs, hx, hrun]
    exact hK _ _ (h v' w' (H.grewM L1 h3 h2))
theorem wp_apsM {K : Act → World → Prop} (L1 : List As) {L2 : List As} {e : TypeId} {k : Nat} {v : Value} {rows news : List (List Value)} (H : Sep G w0 w (L1 ++ As.ownM e k v rows :: L2)) (s x : Operand) (t : TypeId)
    (ho : o.op = .call { callee := .builtin .append, args := #[s, x], argTypes := #[t, t] })
    (i : TypeInfo) (z : Value) (bytes : Nat) (ht : P.underlying t = some (.slice e)) (hi : P.info? e = some i) (hz : i.zero = some z)
    (hsize : i.size = k) (hby : i.bytes = bytes) (hzs : z.cells.size = k) (hsz : 0 < k)
    (hs : a.eval s = v) {A : Option Addr} {m c : Nat} (hx : a.eval x = .slice A m c) (hm : m = news.length) (hr : RdM w A k news) (hl : ∀ r ∈ news, r.length = k)
    (h1 : ∀ r ∈ news, ∀ u ∈ r, u.oneCell' = true) (hn : rows.length + news.length ≤ 100000) (hb : bytes ≤ 1000)
    (h : ∀ v' w', Sep G w0 w' (L1 ++ As.ownM e k v' (rows ++ news) :: L2) → Grew w w' v v' → K (a.put o.dst v') w') : o.wp P a w K Q := by
  subst hm
  obtain ⟨v', w', hrun, h2, h3⟩ := run_append_rowsM (P := P) (w := w) t o.type e i z k bytes ht hi hz hsize hby hzs hsz (H.ownsM (e := e) (k := k) (v := v) (rows := rows) (by simp)) A c news hl hr h1 hn hb
  unfold Oper.wp execOp
  simp only [ho, resolve, invoke, builtin, Sem.run_bind, Sem.run_pure, Result.andThen_ok, List.map_toArray, List.map_cons, List.map_nil, hs, hx, hrun]
  exact h v' w' (H.grewM L1 h3 h2) h3
end
end Go.Gr
namespace Go.Gr
open Go.RowKit Go.Sort
set_option linter.unusedVariables false
theorem Sep.joinW {G : Nat → Prop} {w0 w w' : World} {L M : List As} (h : Sep G w0 w L) (k : Sep No w w' M) : Sep G w0 w' (M ++ L) := by
  have h' := h.ext k.toExt
  refine ⟨h'.fr, ?_, ?_, ?_⟩
  · intro A hA
    rcases List.mem_append.1 hA with hA | hA
    · exact k.all A hA
    · exact h'.all A hA
  · intro A hA i hi
    rcases List.mem_append.1 hA with hA | hA
    · rcases k.own A hA i hi with h1 | h1
      · exact h1.elim
      · exact .inr (Nat.le_trans h.fr.size h1)
    · exact h'.own A hA i hi
  · refine List.pairwise_append.2 ⟨k.dis, h'.dis, fun A hA B hB i hi hi' => ?_⟩
    have := B.lt (h.all B hB) i hi'
    rcases k.own A hA i hi with h1 | h1
    · exact h1.elim
    · omega
theorem Sep.rot {G : Nat → Prop} {w0 w : World} {A B C : As} {L : List As} (h : Sep G w0 w (A :: B :: C :: L)) : Sep G w0 w (B :: C :: A :: L) :=
  h.perm ((List.Perm.swap B A (C :: L)).trans (List.Perm.cons B (List.Perm.swap C A L)))
end Go.Gr
namespace Go.Gr
open Go.RowKit Go.Sort
open Go.Maps (Keyed)
set_option linter.unusedVariables false
section
variable {H : Type} {P : Program} {k : TypeId} {R : Value → Option (DataW H × List MemPlace)} {w w' w0 : World} {G : Nat → Prop} {L L1 L2 : List As}
/-- block b is a map of at most n entries that reads as D -/
def As.map (P : Program) (k : TypeId) (R : Value → Option (DataW H × List MemPlace)) (b n : Nat) (D : DataW H) : As :=
  ⟨At b, fun w => w.ownsMap P k R b n D, fun h i hi => by cases hi; exact World.ownsMap.lt h, fun h kk => by
    obtain ⟨es, clock, hb, r⟩ := h
    exact ⟨es, clock, (kk b rfl).trans hb, r⟩⟩
/-- .. that is ranged over by the iterator in block r -/
def As.rng (P : Program) (k : TypeId) (R : Value → Option (DataW H × List MemPlace)) (b r n : Nat) (D : DataW H) (left : Lit → Bool) (cnt : Nat) : As :=
  ⟨fun i => i = b ∨ i = r, fun w => w.ranges P k R b r n D left cnt, fun h i hi => by
    rcases hi with rfl | rfl
    · exact (World.ranges.owns h).lt
    · exact World.ranges.lt h, fun h kk => by
    obtain ⟨es, clock, since, seen, c0, hb, r1, r2, r3, hr, rest⟩ := h
    exact ⟨es, clock, since, seen, c0, (kk b (.inl rfl)).trans hb, r1, r2, r3, (kk r (.inr rfl)).trans hr, rest⟩⟩
theorem Fr.of_grown {b : Nat} (h : w.grownBy w' (some b)) : Fr (At b) w w' := ⟨h.os, h.tape, h.output, h.size, fun i hi hn => h.block i hi (fun e => hn (Option.some.inj e))⟩
theorem Ext.of_grown (h : w.grownBy w' none) : Ext w w' := ⟨h.os, h.tape, h.output, h.size, fun i hi => h.block i hi (by simp)⟩
theorem Sep.map {b n : Nat} {D : DataW H} (h : Sep G w0 w L) (hA : As.map P k R b n D ∈ L) : w.ownsMap P k R b n D := h.get hA
theorem Sep.newMap (h : Sep G w0 w L) (P : Program) (k : TypeId) (R : Value → Option (DataW H × List MemPlace)) : Sep G w0 (w.alloc (.map #[] 0)) (As.map P k R w.heap.size 0 (.map []) :: L) :=
  h.new (B := As.map P k R w.heap.size 0 (.map [])) ((Ext.refl w).alloc _) (World.ownsMap_made w P k R) (fun i hi => by cases hi; exact Nat.le_refl _)
theorem Sep.mapMono (L1 : List As) {L2 : List As} {b n n' : Nat} {D : DataW H} (h : Sep G w0 w (L1 ++ As.map P k R b n D :: L2)) (hn : n ≤ n') : Sep G w0 w (L1 ++ As.map P k R b n' D :: L2) :=
  h.weak L1 (B := As.map P k R b n' D) (fun h => World.ownsMap.mono h hn) (fun i hi => hi)
theorem wpList_mapS {ops : Array Oper} {rest : List Oper} {o : Oper} {a : Act} {Q : Exit → Act → World → Prop} (L1 : List As) {L2 : List As} {b n : Nat} {D : DataW H} (HS : Sep G w0 w (L1 ++ As.map P k R b n D :: L2))
    (hg : o.guard = none) (m x v : Operand) (t : TypeId) (hop : o.op = Op.mapUpdate t m x v) (e : TypeId) (K : Keyed P k) (ht : P.underlying t = some (.map k e))
    (hm : a.eval m = .map (some b)) (hn : n < maxLen) (key val : Value) (kl : Lit) (hx : a.eval x = key) (hv : a.eval v = val) (hkey : keyOf P k key = some kl)
    (d : DataW H) (ps : List MemPlace) (hval : R val = some (d, ps))
    (h : ∀ w', Sep G w0 w' (L1 ++ As.map P k R b (n + 1) (D.put kl d) :: L2) → wpList P ops Q rest (a.put o.dst undef) w') : wpList P ops Q (o :: rest) a w :=
  wpList_mapUpdate_own w hg m x v t hop k e K ht R b n D hm (HS.map (by simp)) hn key val kl hx hv hkey d ps hval fun w' h1 h2 =>
    h w' (HS.upd (B := As.map P k R b (n + 1) (D.put kl d)) (Fr.of_grown h2) (fun _ h => h) h1 (fun _ h => .inl h))
theorem wpList_rangeS {ops : Array Oper} {rest : List Oper} {o : Oper} {a : Act} {Q : Exit → Act → World → Prop} (L1 : List As) {L2 : List As} {b n : Nat} {D : DataW H} (HS : Sep G w0 w (L1 ++ As.map P k R b n D :: L2))
    (hg : o.guard = none) (m : Operand) (t : TypeId) (hop : o.op = Op.range t m) (e : TypeId) (K : Keyed P k) (ht : P.underlying t = some (.map k e)) (hm : a.eval m = .map (some b))
    (h : ∀ w', Sep G w0 w' (L1 ++ As.rng P k R b w.heap.size n D (Maps.has D) (Maps.size D) :: L2) → wpList P ops Q rest (a.put o.dst (.pointer (some ⟨w.heap.size, 0, none⟩))) w') : wpList P ops Q (o :: rest) a w :=
  wpList_range_own w hg m t hop k e K ht R b n D hm (HS.map (by simp)) fun w' h1 h2 h3 =>
    h w' (HS.upd (B := As.rng P k R b w.heap.size n D (Maps.has D) (Maps.size D)) (S := No) (Fr.of_ext (Ext.of_grown h2)) (fun _ h => h.elim) h1 (fun i hi => by
      rcases hi with rfl | rfl
      · exact .inl rfl
      · exact .inr (Nat.le_refl _)))
theorem Sep.rng {b r n cnt : Nat} {D : DataW H} {left : Lit → Bool} (h : Sep G w0 w L) (hA : As.rng P k R b r n D left cnt ∈ L) : w.ranges P k R b r n D left cnt := h.get hA
theorem wpList_nextS_ii {ops : Array Oper} {rest : List Oper} {o : Oper} {a : Act} {Q : Exit → Act → World → Prop} (L1 : List As) {L2 : List As} {e : TypeId} {b r n cnt : Nat} {D : DataW H} {left : Lit → Bool} (HS : Sep G w0 w (L1 ++ As.rng P k (plainElem P e) b r n D left cnt :: L2))
    (hg : o.guard = none) (it : Operand) (hop : o.op = Op.next it false) (qk qe : IntKind) (K : Keyed P k) (hk : P.underlying k = some (.int qk)) (he : P.underlying e = some (.int qe))
    (hit : a.eval it = .pointer (some ⟨r, 0, none⟩))
    (hDone : (∀ kl, left kl = false) → wpList P ops Q rest (a.put o.dst (.tuple #[.bool false])) w)
    (hMore : ∀ (x c : Int) (w' : World) (cnt' : Nat), (Lit.int qk x).wf = true → left (.int qk x) = true → (∀ zd, D.atKey (.int qk x) zd = .lit (.int qe c)) → Sep G w0 w' (L1 ++ As.rng P k (plainElem P e) b r n D (fun z => left z && !z.sameKey (.int qk x)) cnt' :: L2) →
      cnt' < cnt → (Instr.entry (.pointer (some ⟨r, 0, none⟩))).run P w' = .ok (.tuple #[.int qk x, .int qe c]) w' → wpList P ops Q rest (a.put o.dst (.tuple #[.bool true, .int qk x, .int qe c])) w') : wpList P ops Q (o :: rest) a w :=
  wpList_next_ranges_ii w hg it hop k e qk qe K hk he b r n D left cnt hit (HS.rng (by simp)) (fun _ h => hDone h) fun x c w' cnt' h1 h2 h3 h4 h5 h6 h7 h8 h9 =>
    hMore x c w' cnt' h1 h3 h4 (HS.upd (B := As.rng P k (plainElem P e) b r n D (fun z => left z && !z.sameKey (.int qk x)) cnt') (Fr.of_grown h7) (fun i hi => .inr hi) h5 (fun _ h => .inl h))
      h6 h9
end
end Go.Gr
namespace Go.Gr
open Go.RowKit Go.Sort
set_option linter.unusedVariables false
/-- as wpAnyH, but S holds only as long as operation s has not come up -/
def wpAnyS2 (P : Program) (ops : Array Oper) (Q : Exit → Act → World → Prop) (s : Nat) (S S2 : World → Prop) : Nat → Array Bool → Act → World → Prop
  | 0, listed, a, w => Region.ready .any ops listed = [] ∧ Q .normal a w
  | f + 1, listed, a, w =>
    (Region.ready .any ops listed = [] → Q .normal a w) ∧
    ∀ i ∈ Region.ready .any ops listed, wpOp P ops Q i (fun a' w' => ((listed.setIfInBounds i true).getD s true = false → S w') ∧ S2 w' ∧ wpAnyS2 P ops Q s S S2 f (listed.setIfInBounds i true) a' w') a w
section
variable {P : Program} {ops : Array Oper} {Q : Exit → Act → World → Prop} {s : Nat} {S S2 : World → Prop}
theorem wpAny_of_S2 : ∀ (f : Nat) (listed : Array Bool) (a : Act) (w : World), wpAnyS2 P ops Q s S S2 f listed a w → wpAny P .any ops Q f listed a w
  | 0, _, _, _, h => h
  | f + 1, _, _, _, h => ⟨h.1, fun i hi => wpOp_mono (fun a' w' h' => wpAny_of_S2 f _ a' w' h'.2.2) (h.2 i hi)⟩
theorem wpAnyS2_mono {S' S2' : World → Prop} (hs : ∀ w, S w → S' w) (hs2 : ∀ w, S2 w → S2' w) : ∀ (f : Nat) (listed : Array Bool) (a : Act) (w : World), wpAnyS2 P ops Q s S S2 f listed a w → wpAnyS2 P ops Q s S' S2' f listed a w
  | 0, _, _, _, h => h
  | f + 1, _, _, _, h => ⟨h.1, fun i hi => wpOp_mono (fun a' w' h' => ⟨fun hl => hs _ (h'.1 hl), hs2 _ h'.2.1, wpAnyS2_mono hs hs2 f _ a' w' h'.2.2⟩) (h.2 i hi)⟩
/-- behind operation s nothing is asked -/
theorem wpAnyS2_of_H : ∀ (f : Nat) (listed : Array Bool) (a : Act) (w : World), listed.getD s true = true → wpAnyH P .any ops Q S2 f listed a w → wpAnyS2 P ops Q s S S2 f listed a w
  | 0, _, _, _, _, h => h
  | f + 1, listed, a, w, hl, h => ⟨h.1, fun i hi => wpOp_mono (fun a' w' h' => ⟨fun h0 => (by rw [getD_set_true' hl] at h0; cases h0), h'.1, wpAnyS2_of_H f _ a' w' (getD_set_true' hl) h'.2⟩) (h.2 i hi)⟩
/-- an operation for which s waits, or one that yields in whatever world, may be taken first -/
theorem wpAnyS2_first {i : Nat} {oi : Oper} {v : Value} {T : World → Prop} (hi : ops[i]? = some oi) (his : i ≠ s) (hsel : ∀ (j : Nat) (o : Oper) cs b, ops[j]? = some o → o.op ≠ .select cs b)
    (hQ : ∀ c a w, Q (.panic c) (a.put oi.dst v) w → Q (.panic c) a w)
    (hT : (∀ w, S2 w → T w) ∨ (Region.waitsFor .any ops s i = true ∧ ∀ w, S w → T w)) :
    ∀ (f : Nat) (listed : Array Bool) (a : Act) (w : World),
      (∀ j oj, ops[j]? = some oj → j ≠ i → listed.getD j true = false → (∀ e ∈ oj.after, Region.binds .any e = true → e.on ≠ i) → oi.apart ops oj = true) →
      ((∀ w, S2 w → T w) ∨ listed.getD s true = false) → i ∈ Region.ready .any ops listed → YieldsIf P ops T oi v a → (listed.getD s true = false → S w) → S2 w → T w →
      wpAnyS2 P ops Q s S S2 f (listed.setIfInBounds i true) (a.put oi.dst v) w → wpAnyS2 P ops Q s S S2 (f + 1) listed a w := by
  intro f
  induction f with
  | zero =>
    intro listed a w _ hsu hr hy hS hS2 hTw H
    refine ⟨fun h => (by rw [h] at hr; cases hr), fun j hj => ?_⟩
    by_cases hji : j = i
    · subst hji; exact hy.wpOp hi hTw ⟨fun h => hS (by rwa [getD_set_ne true his] at h), hS2, H⟩
    · have := ready_mono hj hji
      rw [H.1] at this
      cases this
  | succ f ih =>
    intro listed a w hfree hsu hr hy hS hS2 hTw H
    refine ⟨fun h => (by rw [h] at hr; cases hr), fun j hj => ?_⟩
    by_cases hji : j = i
    · subst hji; exact hy.wpOp hi hTw ⟨fun h => hS (by rwa [getD_set_ne true his] at h), hS2, H⟩
    · have h1 := H.2 j (ready_mono hj hji)
      have hun := (mem_ready.1 hr).1
      obtain ⟨hjun, oj, hoj, hall⟩ := mem_ready.1 hj
      have hnot : ∀ e ∈ oj.after, Region.binds .any e = true → e.on ≠ i := fun e he hb heq => by
        have h1 := hall e he hb
        rw [heq, getD_both hun] at h1
        cases h1
      have h2 := wpOp_putIf hoj (hfree j oj hoj hji hjun hnot) (fun cs b => hsel i oi cs b hi) (fun cs b => hsel j oj cs b hoj) hQ hy h1
      have hfree' : ∀ k ok, ops[k]? = some ok → k ≠ i → (listed.setIfInBounds j true).getD k true = false →
          (∀ e ∈ ok.after, Region.binds .any e = true → e.on ≠ i) → oi.apart ops ok = true := fun k ok hk hki hun hno => by
        refine hfree k ok hk hki ?_ hno
        by_cases hjk : j = k
        · subst hjk; exact hjun
        · rw [getD_set_ne true hjk] at hun; exact hun
      have hSj : ∀ w', (((listed.setIfInBounds i true).setIfInBounds j true).getD s true = false → S w') → (listed.setIfInBounds j true).getD s true = false → S w' := fun w' h h0 => by
        refine h ?_
        rw [Array.setIfInBounds_comm _ _ (Ne.symm hji), getD_set_ne true his]
        exact h0
      have hsu' : (∀ w, S2 w → T w) ∨ (listed.setIfInBounds j true).getD s true = false := by
        rcases hsu with h | h
        · exact .inl h
        · rcases hT with hT | ⟨hw, hT⟩
          · exact .inl hT
          · refine .inr ?_
            have hjs : j ≠ s := by
              rintro rfl
              obtain ⟨os, hos, e, he, hb, hon⟩ := Region.waitsFor_spec hw
              have := hall e (by rw [hoj] at hos; cases hos; exact he) hb
              rw [hon, getD_both hun] at this
              cases this
            rw [getD_set_ne true hjs]
            exact h
      refine wpOp_mono (fun a' w' h3 => ⟨hSj w' h3.2.1, h3.2.2.1, ih (listed.setIfInBounds j true) a' w' hfree' hsu' (ready_mono hr (Ne.symm hji)) h3.1 (hSj w' h3.2.1) h3.2.2.1 ?_ ?_⟩) h2
      · rcases hsu' with hT' | h0
        · exact hT' w' h3.2.2.1
        · rcases hT with hT | ⟨hw, hT⟩
          · exact hT w' h3.2.2.1
          · exact hT w' (hSj w' h3.2.1 h0)
      · rw [Array.setIfInBounds_comm _ _ hji]
        exact h3.2.2.2
def wpMS2 (R R2 : RT) (P : Program) (ops : Array Oper) (Q : Exit → Act → World → Prop) (s : Nat) : List Nat → Act → World → Prop
  | [], a, w => False
  | i :: rest, a, w =>
    match ops[i]? with
    | none => False
    | some o =>
      if i == s then (if Region.wanted o (yielded ops a.tmps) then o.wp P a w (fun a' w' => R2.r w w' ∧ wpMR R2 P ops Q rest a' w') Q else wpMR R2 P ops Q rest (a.put o.dst undef) w)
      else if isX o then
        (if Region.wanted o (yielded ops a.tmps) then o.wp P a w (fun a' w' => R.r w w' ∧ wpMS2 R R2 P ops Q s rest a' w') Q else wpMS2 R R2 P ops Q s rest (a.put o.dst undef) w)
      else (if Region.wanted o (yielded ops a.tmps) then rdOp P o a (fun w' => if Region.waitsFor .any ops s i then R.r w w' else R2.r w w') (fun a' => wpMS2 R R2 P ops Q s rest a' w) else wpMS2 R R2 P ops Q s rest (a.put o.dst undef) w)
theorem run_monoS2 {R R2 : RT} (hRR : ∀ w w', R.r w w' → R2.r w w') (hsel : ∀ (j : Nat) (o : Oper) cs b, ops[j]? = some o → o.op ≠ .select cs b) (hQ : ∀ c a w, ¬ Q (.panic c) a w) :
    ∀ (perm : List Nat) (listed : Array Bool) (a : Act) (w : World), okS ops s listed perm = true → wpMS2 R R2 P ops Q s perm a w → wpAnyS2 P ops Q s (R.r w) (R2.r w) perm.length listed a w
  | [], listed, a, w, hok, h => h.elim
  | i :: rest, listed, a, w, hok, h => by
    unfold okS at hok
    unfold wpMS2 at h
    cases ho : ops[i]? with
    | none => rw [ho] at h; exact h.elim
    | some o =>
      simp only [ho] at hok h
      by_cases his : i = s
      · have hb : (i == s) = true := by simpa using his
        rw [if_pos hb] at hok h
        subst his
        rw [Bool.and_eq_true] at hok
        obtain ⟨hr, hok1⟩ := hok
        have hr' : Region.ready .any ops listed = [i] := by simpa using hr
        have hil : i < listed.size := by
          have hm : i ∈ Region.ready .any ops listed := by rw [hr']; simp
          have h0 := (mem_ready.1 hm).1
          rcases Nat.lt_or_ge i listed.size with h' | h'
          · exact h'
          · simp [Array.getElem?_eq_none h'] at h0
        have hset : (listed.setIfInBounds i true).getD i true = true := by simp [hil]
        refine ⟨fun h0 => (by rw [hr'] at h0; cases h0), fun k hk => ?_⟩
        obtain rfl : k = i := by rw [hr'] at hk; simpa using hk
        refine wpOp_step ho fun K' hK => ?_
        split
        · rename_i hw
          rw [if_pos hw] at h
          refine Oper.wp_mono (fun a' w' h3 => hK _ _ ⟨fun h0 => (by rw [hset] at h0; cases h0), h3.1, ?_⟩) h
          exact wpAnyS2_mono (fun x hx => hx) (fun x hx => R2.trans _ _ _ h3.1 hx) _ _ _ _ (wpAnyS2_of_H (S := R.r w) _ _ _ _ hset (run_monoR (R := R2) hsel hQ rest _ a' w' hok1 h3.2))
        · rename_i hw
          rw [if_neg hw] at h
          exact hK _ _ ⟨fun h0 => (by rw [hset] at h0; cases h0), R2.refl w, wpAnyS2_of_H _ _ _ _ hset (run_monoR (R := R2) hsel hQ rest _ _ w hok1 h)⟩
      · have hb : ¬ (i == s) = true := by simpa using his
        rw [if_neg hb] at hok h
        by_cases hx : isX o = true
        · rw [if_pos hx] at hok h
          rw [Bool.and_eq_true] at hok
          obtain ⟨hr, hok1⟩ := hok
          have hr' : Region.ready .any ops listed = [i] := by simpa using hr
          refine ⟨fun h0 => (by rw [hr'] at h0; cases h0), fun k hk => ?_⟩
          obtain rfl : k = i := by rw [hr'] at hk; simpa using hk
          refine wpOp_step ho fun K' hK => ?_
          split
          · rename_i hw
            rw [if_pos hw] at h
            refine Oper.wp_mono (fun a' w' h3 => hK _ _ ⟨fun _ => h3.1, hRR _ _ h3.1, ?_⟩) h
            exact wpAnyS2_mono (fun x hx => R.trans _ _ _ h3.1 hx) (fun x hx => R2.trans _ _ _ (hRR _ _ h3.1) hx) _ _ _ _ (run_monoS2 hRR hsel hQ rest _ a' w' hok1 h3.2)
          · rename_i hw
            rw [if_neg hw] at h
            exact hK _ _ ⟨fun _ => R.refl w, R2.refl w, run_monoS2 hRR hsel hQ rest _ _ w hok1 h⟩
        · rw [if_neg hx] at hok h
          rw [Bool.and_eq_true, Bool.and_eq_true, Bool.and_eq_true] at hok
          obtain ⟨⟨⟨hin, hsu⟩, hap⟩, hok2⟩ := hok
          have hmem : i ∈ Region.ready .any ops listed := by simpa using hin
          have hsu' : listed.getD s true = false := by simpa using hsu
          have hapart : ∀ j oj, ops[j]? = some oj → j ≠ i → listed.getD j true = false → (∀ e ∈ oj.after, Region.binds .any e = true → e.on ≠ i) → o.apart ops oj = true := by
            intro j oj hj hne hl hw
            have hjl : j < ops.size := (Array.getElem?_eq_some_iff.1 hj).1
            have h1 := List.all_eq_true.1 hap j (List.mem_range.2 hjl)
            simp only [hj, Bool.or_eq_true, beq_iff_eq] at h1
            rcases h1 with (h1 | h1) | h1 | h1
            · exact absurd h1 hne
            · rw [hl] at h1; cases h1
            · exfalso
              have : (oj.after.all fun e => !Region.binds .any e || e.on != i) = true := by
                rw [Array.all_eq_true_iff_forall_mem]
                intro e he
                by_cases hb : Region.binds .any e = true
                · have := hw e he hb; simp [this]
                · simp [hb]
              rw [this] at h1; cases h1
            · exact h1
          have hTT : (∀ w', R2.r w w' → (if Region.waitsFor .any ops s i then R.r w w' else R2.r w w')) ∨ (Region.waitsFor .any ops s i = true ∧ ∀ w', R.r w w' → (if Region.waitsFor .any ops s i then R.r w w' else R2.r w w')) := by
            by_cases hwf : Region.waitsFor .any ops s i = true
            · exact .inr ⟨hwf, fun w' h => by rw [if_pos hwf]; exact h⟩
            · exact .inl fun w' h => by rw [if_neg hwf]; exact h
          have hTw : (if Region.waitsFor .any ops s i then R.r w w else R2.r w w) := by
            split
            · exact R.refl w
            · exact R2.refl w
          split at h
          · rename_i hw
            obtain ⟨v, hv, hn⟩ := h
            exact wpAnyS2_first (T := fun w' => if Region.waitsFor .any ops s i then R.r w w' else R2.r w w') ho his hsel (fun c a w h => (hQ _ _ _ h).elim) hTT rest.length listed a w hapart (.inr hsu') hmem (.inl ⟨hw, fun w' hw' => rd_run (hv w' hw')⟩) (fun _ => R.refl w) (R2.refl w) hTw
              (run_monoS2 hRR hsel hQ rest _ _ w hok2 hn)
          · rename_i hw
            exact wpAnyS2_first (T := fun w' => if Region.waitsFor .any ops s i then R.r w w' else R2.r w w') (v := undef) ho his hsel (fun c a w h => (hQ _ _ _ h).elim) hTT rest.length listed a w hapart (.inr hsu') hmem (.inr ⟨by simpa using hw, rfl⟩) (fun _ => R.refl w) (R2.refl w) hTw
              (run_monoS2 hRR hsel hQ rest _ _ w hok2 h)
/-- the same behind a name that does not unfold -/
structure WS2 (R R2 : RT) (P : Program) (ops : Array Oper) (Q : Exit → Act → World → Prop) (s : Nat) (l : List Nat) (a : Act) (w : World) : Prop where
  out : wpMS2 R R2 P ops Q s l a w
/-- THE RULE: a region that draws its order, in which operation s may turn what others read, walked in the order 'perm'. -/
theorem wp_region_ws2 {id : Nat} {l : List Oper} {a : Act} {w : World} (R R2 : RT) (hRR : ∀ w w', R.r w w' → R2.r w w') (s : Nat) (perm : List Nat) (hm : P.follows .mixedOrders = true) (hs : (l.all fun o => !isSel o) = true) (hl : perm.length = l.toArray.size)
    (hok : okS l.toArray s (Array.replicate l.toArray.size false) perm = true) (h : WS2 R R2 P l.toArray (NoPanic Q) s perm a w.drew) : (Code.region id l.toArray true).wp P Q a w := by
  refine wp_region_noPanic (wp_region_any hm ?_)
  have hsel : ∀ (j : Nat) (o : Oper) cs b, l.toArray[j]? = some o → o.op ≠ .select cs b := by
    intro j o cs b hj he
    have hmem : o ∈ l := by
      rw [List.getElem?_toArray] at hj
      exact List.mem_of_getElem? hj
    have := List.all_eq_true.1 hs o hmem
    simp [isSel, he] at this
  have H := wpAny_of_S2 _ _ _ _ (run_monoS2 (R := R) (R2 := R2) hRR hsel (fun c a w h => h) perm _ a w.drew hok h.out)
  rw [hl] at H
  exact H
variable {R R2 : RT} {i : Nat} {o : Oper} {rest : List Nat} {a : Act} {w : World}
/-- a reading operation that s waits for -/
theorem ws2_rd (ho : ops[i]? = some o) (his : (i == s) = false) (hx : isX o = false) (hw : Region.waitsFor .any ops s i = true)
    (h : ∀ K : Act → Prop, (∀ a, WS2 R R2 P ops Q s rest a w → K a) → if Region.wanted o (yielded ops a.tmps) then rdOp P o a (R.r w) K else K (a.put o.dst undef)) : WS2 R R2 P ops Q s (i :: rest) a w := by
  have := h (fun a => wpMS2 R R2 P ops Q s rest a w) (fun _ h => h.out)
  refine ⟨?_⟩
  unfold wpMS2
  simp only [ho, hx, his, hw, Bool.false_eq_true, if_false, if_true]
  exact this
/-- one that s does not wait for -/
theorem ws2_pure (ho : ops[i]? = some o) (his : (i == s) = false) (hx : isX o = false) (hw : Region.waitsFor .any ops s i = false)
    (h : ∀ K : Act → Prop, (∀ a, WS2 R R2 P ops Q s rest a w → K a) → if Region.wanted o (yielded ops a.tmps) then rdOp P o a (R2.r w) K else K (a.put o.dst undef)) : WS2 R R2 P ops Q s (i :: rest) a w := by
  have := h (fun a => wpMS2 R R2 P ops Q s rest a w) (fun _ h => h.out)
  refine ⟨?_⟩
  unfold wpMS2
  simp only [ho, hx, his, hw, Bool.false_eq_true, if_false]
  exact this
theorem ws2_ld1 (hi : ops[i]? = some o) (his : (i == s) = false) (hwf : Region.waitsFor .any ops s i = true) (hw : Region.wanted o (yielded ops a.tmps) = true) (ty : TypeId) (x : Operand) (ho : o.op = .load ty x) {ad : Addr} {v : Value} (hx : a.eval x = .pointer (some ad)) (hc : ∀ w', R.r w w' → w'.cell? ad = some v) (d : TypeDesc)
    (hu : P.underlying ty = some d) (hd : (match d with | .struct _ | .array _ _ => false | _ => true) = true) (h : WS2 R R2 P ops Q s rest (a.put o.dst v) w) : WS2 R R2 P ops Q s (i :: rest) a w := by
  refine ws2_rd hi his (by simp [isX, isExt, ho]) hwf fun K hK => ?_
  rw [if_pos hw]
  exact rdOp_ld1 ty x ho hx hc d hu hd (hK _ h)
theorem ws2_ld1p (hi : ops[i]? = some o) (his : (i == s) = false) (hwf : Region.waitsFor .any ops s i = false) (hw : Region.wanted o (yielded ops a.tmps) = true) (ty : TypeId) (x : Operand) (ho : o.op = .load ty x) {ad : Addr} {v : Value} (hx : a.eval x = .pointer (some ad)) (hc : ∀ w', R2.r w w' → w'.cell? ad = some v) (d : TypeDesc)
    (hu : P.underlying ty = some d) (hd : (match d with | .struct _ | .array _ _ => false | _ => true) = true) (h : WS2 R R2 P ops Q s rest (a.put o.dst v) w) : WS2 R R2 P ops Q s (i :: rest) a w := by
  refine ws2_pure hi his (by simp [isX, isExt, ho]) hwf fun K hK => ?_
  rw [if_pos hw]
  exact rdOp_ld1 ty x ho hx hc d hu hd (hK _ h)
theorem ws2_ext (ho : ops[i]? = some o) (his : (i == s) = false) (hx : isX o = true)
    (h : ∀ K : Act → World → Prop, (∀ a' w', R.r w w' → WS2 R R2 P ops Q s rest a' w' → K a' w') → if Region.wanted o (yielded ops a.tmps) then o.wp P a w K Q else K (a.put o.dst undef) w) : WS2 R R2 P ops Q s (i :: rest) a w := by
  have := h (fun a' w' => R.r w w' ∧ wpMS2 R R2 P ops Q s rest a' w') (fun _ _ h1 h2 => ⟨h1, h2.out⟩)
  refine ⟨?_⟩
  unfold wpMS2
  simp only [ho, hx, his, Bool.false_eq_true, if_false, if_true]
  split
  · rename_i hw; rw [if_pos hw] at this; exact this
  · rename_i hw; rw [if_neg hw] at this; exact this.2
/-- operation s itself -/
theorem ws2_at (ho : ops[s]? = some o)
    (h : ∀ K : Act → World → Prop, (∀ a' w', R2.r w w' → WMR R2 P ops Q rest a' w' → K a' w') → if Region.wanted o (yielded ops a.tmps) then o.wp P a w K Q else K (a.put o.dst undef) w) : WS2 R R2 P ops Q s (s :: rest) a w := by
  have := h (fun a' w' => R2.r w w' ∧ wpMR R2 P ops Q rest a' w') (fun _ _ h1 h2 => ⟨h1, h2.out⟩)
  refine ⟨?_⟩
  unfold wpMS2
  simp only [ho, beq_self_eq_true, if_true]
  split
  · rename_i hw; rw [if_pos hw] at this; exact this
  · rename_i hw; rw [if_neg hw] at this; exact this.2
theorem ws2_ldX {g off : Nat} {cs : List Value} (hi' : ops[i]? = some o) (his : (i == s) = false) (hwf : Region.waitsFor .any ops s i = true) (hw : Region.wanted o (yielded ops a.tmps) = true) (ty : TypeId) (x : Operand) (ho : o.op = .load ty x)
    (hr : ∀ w', R.r w w' → At5 w' g off cs) (hx : a.eval x = .pointer (some ⟨g, off, none⟩)) (d : TypeDesc)
    (hu : P.underlying ty = some d) (hd : d.isRow = true) (hi : (P.info? ty).map (·.size) = some cs.length)
    (h : WS2 R R2 P ops Q s rest (a.put o.dst (.agg cs.toArray)) w) : WS2 R R2 P ops Q s (i :: rest) a w := by
  refine ws2_rd hi' his (by simp [isX, isExt, ho]) hwf fun K hK => ?_
  rw [if_pos hw]
  exact rdOp_ldX ty x ho hr hx d hu hd hi (hK _ h)
end
end Go.Gr
namespace Go.Gr
open Go.RowKit Go.Sort
set_option linter.unusedVariables false
/-- those that have come up, the last one first -/
def doneA (ops : Array Oper) : List Nat → Array Bool
  | [] => Array.replicate ops.size false
  | i :: done => (doneA ops done).setIfInBounds i true
/-- a reading operation that may come first -/
def rdFirst (ops : Array Oper) (done : List Nat) (i : Nat) : Bool :=
  (match ops[i]? with
  | none => false
  | some o => (Region.ready .any ops (doneA ops done)).contains i &&
    (List.range ops.size).all fun j => j == i || (doneA ops done).getD j true || (match ops[j]? with
      | some oj => !(oj.after.all fun e => !Region.binds .any e || e.on != i) || o.apart ops oj
      | none => true))
structure WB (R : RT) (P : Program) (ops : Array Oper) (Q : Exit → Act → World → Prop) (n : Nat) (done : List Nat) (a : Act) (w : World) : Prop where
  out : wpAnyH P .any ops Q (R.r w) n (doneA ops done) a w
structure WBI (R : RT) (P : Program) (ops : Array Oper) (Q : Exit → Act → World → Prop) (n : Nat) (done : List Nat) (i : Nat) (a : Act) (w : World) : Prop where
  out : wpOp P ops Q i (fun a' w' => R.r w w' ∧ wpAnyH P .any ops Q (R.r w) n (doneA ops (i :: done)) a' w') a w
section
variable {P : Program} {ops : Array Oper} {Q : Exit → Act → World → Prop} {R : RT} {n i : Nat} {done : List Nat} {o : Oper} {a : Act} {w : World}
theorem wb_rd (ho : ops[i]? = some o) (hx : isX o = false) (hs : (ops.toList.all fun o => !isSel o) = true) (hok : rdFirst ops done i = true)
    (h : ∀ K : Act → Prop, (∀ a, WB R P ops (NoPanic Q) n (i :: done) a w → K a) → if Region.wanted o (yielded ops a.tmps) then rdOp P o a (R.r w) K else K (a.put o.dst undef)) : WB R P ops (NoPanic Q) (n + 1) done a w := by
  have hsel : ∀ (j : Nat) (o : Oper) cs b, ops[j]? = some o → o.op ≠ .select cs b := by
    intro j o cs b hj he
    have hmem : o ∈ ops.toList := by
      rw [← Array.getElem?_toList] at hj
      exact List.mem_of_getElem? hj
    have := List.all_eq_true.1 hs o hmem
    simp [isSel, he] at this
  unfold rdFirst at hok
  rw [ho] at hok
  simp only [Bool.and_eq_true] at hok
  obtain ⟨hin, hap⟩ := hok
  have hmem : i ∈ Region.ready .any ops (doneA ops done) := by simpa using hin
  have hapart : ∀ j oj, ops[j]? = some oj → j ≠ i → (doneA ops done).getD j true = false → (∀ e ∈ oj.after, Region.binds .any e = true → e.on ≠ i) → o.apart ops oj = true := by
    intro j oj hj hne hl hw
    have hjl : j < ops.size := (Array.getElem?_eq_some_iff.1 hj).1
    have h1 := List.all_eq_true.1 hap j (List.mem_range.2 hjl)
    simp only [hj, Bool.or_eq_true, beq_iff_eq] at h1
    rcases h1 with (h1 | h1) | h1 | h1
    · exact absurd h1 hne
    · rw [hl] at h1; cases h1
    · exfalso
      have : (oj.after.all fun e => !Region.binds .any e || e.on != i) = true := by
        rw [Array.all_eq_true_iff_forall_mem]
        intro e he
        by_cases hb : Region.binds .any e = true
        · have := hw e he hb; simp [this]
        · simp [hb]
      rw [this] at h1; cases h1
    · exact h1
  have h2 := h (fun a => wpAnyH P .any ops (NoPanic Q) (R.r w) n (doneA ops (i :: done)) a w) (fun _ h => h.out)
  refine ⟨?_⟩
  split at h2
  · rename_i hw
    obtain ⟨v, hv, hn⟩ := h2
    exact wpAnyH_first ho hsel (fun c a w h => h) n (doneA ops done) a w hapart hmem (.inl ⟨hw, fun w' hw' => rd_run (hv w' hw')⟩) (R.refl w) hn
  · rename_i hw
    exact wpAnyH_first (v := undef) ho hsel (fun c a w h => h) n (doneA ops done) a w hapart hmem (.inr ⟨by simpa using hw, rfl⟩) (R.refl w) h2
/-- each of those that may come -/
theorem wb_all (l : List Nat) (hr : (Region.ready .any ops (doneA ops done) == l && !l.isEmpty) = true) (h : ∀ i ∈ l, WBI R P ops (NoPanic Q) n done i a w) : WB R P ops (NoPanic Q) (n + 1) done a w := by
  rw [Bool.and_eq_true] at hr
  have hr1 : Region.ready .any ops (doneA ops done) = l := by simpa using hr.1
  refine ⟨wpAnyH_all hr1 (fun e => ?_) fun k hk => (h k hk).out⟩
  rw [e] at hr
  simp at hr
theorem wb_1 (i : Nat) (hr : (Region.ready .any ops (doneA ops done) == [i]) = true) (h : WBI R P ops (NoPanic Q) n done i a w) : WB R P ops (NoPanic Q) (n + 1) done a w :=
  wb_all [i] (by rw [hr]; rfl) fun k hk => by rw [List.mem_singleton] at hk; subst hk; exact h
theorem wb_2 (i j : Nat) (hr : (Region.ready .any ops (doneA ops done) == [i, j]) = true) (h : WBI R P ops (NoPanic Q) n done i a w) (h2 : WBI R P ops (NoPanic Q) n done j a w) : WB R P ops (NoPanic Q) (n + 1) done a w :=
  wb_all [i, j] (by rw [hr]; rfl) fun k hk => by
    rcases List.mem_cons.1 hk with rfl | hk
    · exact h
    · rw [List.mem_singleton] at hk; subst hk; exact h2
theorem wb_3 (i j k : Nat) (hr : (Region.ready .any ops (doneA ops done) == [i, j, k]) = true) (h : WBI R P ops (NoPanic Q) n done i a w) (h2 : WBI R P ops (NoPanic Q) n done j a w) (h3 : WBI R P ops (NoPanic Q) n done k a w) : WB R P ops (NoPanic Q) (n + 1) done a w :=
  wb_all [i, j, k] (by rw [hr]; rfl) fun m hm => by
    rcases List.mem_cons.1 hm with rfl | hm
    · exact h
    · rcases List.mem_cons.1 hm with rfl | hm
      · exact h2
      · rw [List.mem_singleton] at hm; subst hm; exact h3
theorem wbi (ho : ops[i]? = some o)
    (h : ∀ K : Act → World → Prop, (∀ a' w', R.r w w' → WB R P ops (NoPanic Q) n (i :: done) a' w' → K a' w') → if Region.wanted o (yielded ops a.tmps) then o.wp P a w K (NoPanic Q) else K (a.put o.dst undef) w) : WBI R P ops (NoPanic Q) n done i a w := by
  have h2 := h (fun a' w' => R.r w w' ∧ wpAnyH P .any ops (NoPanic Q) (R.r w) n (doneA ops (i :: done)) a' w') (fun a' w' h3 h4 => ⟨h3, wpAnyH_mono (fun x hx => R.trans _ _ _ h3 hx) _ _ _ _ h4.out⟩)
  refine ⟨wpOp_step ho fun K' hK => ?_⟩
  split
  · rename_i hw
    rw [if_pos hw] at h2
    exact Oper.wp_mono hK h2
  · rename_i hw
    rw [if_neg hw] at h2
    exact hK _ _ h2
theorem wb_nil (hr : (Region.ready .any ops (doneA ops done)).isEmpty = true) (h : Q .normal a w) : WB R P ops (NoPanic Q) 0 done a w := ⟨⟨by simpa using hr, NoPanic.normal h⟩⟩
/-- THE RULE -/
theorem wp_region_wb {id : Nat} {l : List Oper} {a : Act} {w : World} (R : RT) (hm : P.follows .mixedOrders = true)
    (h : WB R P l.toArray (NoPanic Q) l.length [] a w.drew) : (Code.region id l.toArray true).wp P Q a w := by
  refine wp_region_noPanic (wp_region_held (S := R.r w.drew) hm ?_)
  have := h.out
  simpa [doneA] using this
end
end Go.Gr
namespace Go.Gr
open Go.RowKit Go.Sort
set_option linter.unusedVariables false
set_option linter.unusedSimpArgs false
def SegP (w : World) (e : TypeId) (v : Value) (xs : List Value) : Prop :=
  (v = .slice none 0 0 ∧ xs = []) ∨ ∃ g off cap cur, v = .slice (some ⟨g, off, none⟩) xs.length cap ∧ Blk w g e cur ∧ xs.length ≤ cap ∧ off + cap ≤ cur.length ∧ (cur.drop off).take xs.length = xs
/-- such a row -/
def As.seg (e : TypeId) (v : Value) (xs : List Value) : As := ⟨fun k => v.ownBlock = some k, fun w => SegP w e v xs,
  fun {w} h k hk => by
    rcases h with ⟨rfl, _⟩ | ⟨g, off, cap, cur, rfl, hB, _⟩
    · simp [Value.ownBlock] at hk
    · have : g = k := by simpa [Value.ownBlock] using hk
      subst this
      exact hB.lt,
  fun {w w'} h k => by
    rcases h with h | ⟨g, off, cap, cur, rfl, hB, r⟩
    · exact .inl h
    · exact .inr ⟨g, off, cap, cur, rfl, (k g (by simp [Value.ownBlock])).trans hB, r⟩⟩
theorem SegP.of_own {B : Nat} {w : World} {e : TypeId} {v : Value} {xs : List Value} (h : Own B w e v xs) : SegP w e v xs := by
  obtain ⟨_, ⟨hv, hx⟩ | ⟨g, cap, cur, hv, _, hh, hc, _, hs, ht⟩⟩ := h
  · exact .inl ⟨hv, List.length_eq_zero_iff.1 hx⟩
  · refine .inr ⟨g, 0, cap, cur.toList, hv, ?_, hc, by simpa using Nat.le_of_eq hs.symm, by simpa using ht⟩
    show w.heap[g]? = some (.cells cur.toList.toArray e (0, 0))
    rw [hh, Array.toArray_toList]
theorem SegP.form {w : World} {e : TypeId} {v : Value} {xs : List Value} (h : SegP w e v xs) : ∃ A c, v = .slice A xs.length c ∧ Rd w A xs ∧ xs.length ≤ c := by
  rcases h with ⟨rfl, rfl⟩ | ⟨g, off, cap, cur, rfl, hB, hc, hf, ht⟩
  · exact ⟨none, 0, rfl, fun j u hu => by simp at hu, Nat.le_refl _⟩
  · refine ⟨_, cap, rfl, fun j u hu => ⟨_, rfl, ?_⟩, hc⟩
    have hadd : (⟨g, off, none⟩ : Addr).add j = ⟨g, off + j, none⟩ := by simp [Addr.add]
    rw [hadd, hB.cell, ← List.getElem?_drop]
    have hj : j < xs.length := (List.getElem?_eq_some_iff.1 hu).1
    rw [← ht, List.getElem?_take, if_pos hj] at hu
    exact hu
section
variable {P : Program} {w w0 : World} {G : Nat → Prop} {L1 L2 : List As}
theorem Sep.toSeg (L1 : List As) {L2 : List As} {e : TypeId} {v : Value} {xs : List Value} (H : Sep G w0 w (L1 ++ As.own e v xs :: L2)) : Sep G w0 w (L1 ++ As.seg e v xs :: L2) :=
  H.weak L1 (B := As.seg e v xs) (fun h => SegP.of_own h) (fun i hi => hi)
theorem Sep.segs {e : TypeId} {v : Value} {xs : List Value} {L : List As} (H : Sep G w0 w L) (hA : As.seg e v xs ∈ L) : SegP w e v xs := H.get hA
/-- without its first element -/
theorem Sep.segTail (L1 : List As) {L2 : List As} {e : TypeId} {v : Value} {x : Value} {t : List Value} (H : Sep G w0 w (L1 ++ As.seg e v (x :: t) :: L2)) :
    ∃ g off cap, v = .slice (some ⟨g, off, none⟩) (t.length + 1) cap ∧ t.length + 1 ≤ cap ∧ w.cell? ⟨g, off, none⟩ = some x ∧
      (cap ≠ 1 → Sep G w0 w (L1 ++ As.seg e (.slice (some ⟨g, off + 1, none⟩) t.length (cap - 1)) t :: L2)) ∧ (cap = 1 → t = [] ∧ Sep G w0 w (L1 ++ As.seg e (.slice (some ⟨g, off, none⟩) 0 0) [] :: L2)) := by
  rcases H.segs (e := e) (v := v) (xs := x :: t) (by simp) with ⟨_, h⟩ | ⟨g, off, cap, cur, rfl, hB, hc, hf, ht⟩
  · cases h
  · simp only [List.length_cons] at hc ht
    have hd : cur.drop off = x :: (cur.drop (off + 1)) := by
      have ho : off < cur.length := by omega
      have h1 := List.drop_eq_getElem_cons ho
      rw [h1, List.take_succ_cons] at ht
      rw [h1, (List.cons.inj ht).1]
    have ht2 : (cur.drop (off + 1)).take t.length = t := by
      rw [hd, List.take_succ_cons] at ht
      exact (List.cons.inj ht).2
    refine ⟨g, off, cap, rfl, hc, ?_, fun _ => ?_, fun h1 => ?_⟩
    · rw [hB.cell, show cur[off]? = (cur.drop off)[0]? by rw [List.getElem?_drop]; rfl, hd]; rfl
    · exact H.weak L1 (B := As.seg e (.slice (some ⟨g, off + 1, none⟩) t.length (cap - 1)) t) (fun _ => .inr ⟨g, off + 1, cap - 1, cur, rfl, hB, by omega, by omega, ht2⟩) (fun i hi => by simpa [As.seg, Value.ownBlock] using hi)
    · have h0 : t = [] := by
        rcases t with _ | ⟨y, r⟩
        · rfl
        · simp only [List.length_cons] at hc; omega
      exact ⟨h0, H.weak L1 (B := As.seg e (.slice (some ⟨g, off, none⟩) 0 0) []) (fun _ => .inr ⟨g, off, 0, cur, rfl, hB, Nat.le_refl _, by omega, by simp⟩) (fun i hi => by simpa [As.seg, Value.ownBlock] using hi)⟩
theorem wpList_pushSeg {ops : Array Oper} {rest : List Oper} {o : Oper} {a : Act} {Q : Exit → Act → World → Prop} (L1 : List As) {L2 : List As} {e e' : TypeId} {v u : Value} {xs : List Value} (H : Sep G w0 w (L1 ++ As.seg e v xs :: L2)) (hgd : o.guard = none) (s x : Operand) (t : TypeId)
    (ho : o.op = .call { callee := .builtin .append, args := #[s, x], argTypes := #[t, t] })
    (i : TypeInfo) (z : Value) (bytes : Nat) (ht : P.underlying t = some (.slice e)) (hi : P.info? e = some i) (hz : i.zero = some z)
    (hsize : i.size = 1) (hby : i.bytes = bytes) (hzs : z.cells.size = 1)
    (hs : a.eval s = v) (hx : a.eval x = .slice (some ⟨w.heap.size, 0, none⟩) 1 1)
    (h1 : u.oneCell' = true) (hlen : xs.length < 1000000000) (hb : bytes ≤ 1000)
    (h : ∀ v' w', Sep G w0 w' (L1 ++ As.seg e v' (xs ++ [u]) :: L2) → wpList P ops Q rest (a.put o.dst v') w') : wpList P ops Q (o :: rest) a (w.alloc (.cells #[u] e')) := by
  have H1 := H.ext ((Ext.refl w).alloc (.cells #[u] e'))
  rcases H.segs (e := e) (v := v) (xs := xs) (by simp) with ⟨rfl, rfl⟩ | ⟨g, off, cap, cur, rfl, hB, hc, hf, ht'⟩
  · have K : Sep G w0 w (L1 ++ As.own e (.slice none 0 0) [] :: L2) := H.weak L1 (B := As.own e (.slice none 0 0) []) (fun _ => Own.nil 0 w e) (fun i hi => by simp [As.own, Value.ownBlock] at hi)
    exact wpList_pushS L1 K hgd s x t ho i z bytes ht hi hz hsize hby hzs hs hx h1 (by simp) hb (fun v' w' H' => h v' w' (Sep.toSeg L1 H'))
  · have hB1 := hB.alloc (.cells #[u] e')
    have hbb : (xs.length + 1) * bytes ≤ 1000000000 * 1000 := Nat.mul_le_mul (by omega) hb
    refine wpList_append_arg (w.alloc (.cells #[u] e')) hgd s x t ho e i z 1 bytes ht hi hz hsize hby hzs (by decide) g off xs.length cap xs hs (by simp) (fun j u' hj => ?_) ⟨w.heap.size, 0, none⟩ 1 1 [u] hx (by simp) (fun j u' hj => ?_) (by simp [h1]) (fun hr j hj => ?_) (by unfold maxLen; omega) (by omega) (fun hr => ?_) (fun hr v' w' r1 r2 => ?_)
    · have hjl : j < xs.length := (List.getElem?_eq_some_iff.1 hj).1
      rw [hB1.cell, ← List.getElem?_drop]
      rw [← ht', List.getElem?_take, if_pos hjl] at hj
      exact hj
    · obtain ⟨ad, e1, hc1⟩ := Rd.one w u e' j u' hj
      cases e1
      exact hc1
    · obtain rfl : j = 0 := by simpa using hj
      refine ⟨?_, hB1.free _⟩
      rw [hB1.cell, List.getElem?_eq_getElem (by omega)]
      rfl
    · refine h _ _ ?_
      have e2 : (w.alloc (.cells #[u] e')).setCells g (off + xs.length * 1) [u] = (w.alloc (.cells #[u] e')).setCell ⟨g, off + xs.length, none⟩ u := by simp [World.setCells]
      rw [e2]
      refine H1.upd (B := As.seg e (.slice (some ⟨g, off, none⟩) (xs.length + 1) cap) (xs ++ [u])) (Fr.of_upd ((Upd.refl g _).cell (off + xs.length) u)) (fun k hk => by cases hk; simp [As.seg, Value.ownBlock]) ?_ (fun k hk => .inl (by simpa [As.seg, Value.ownBlock] using hk))
      refine .inr ⟨g, off, cap, cur.set (off + xs.length) u, by simp, hB1.set _ _, by simp; omega, by simpa using hf, ?_⟩
      apply List.ext_getElem?
      intro j
      rw [List.getElem?_take, List.getElem?_drop]
      simp only [List.length_append, List.length_singleton]
      by_cases hj : j < xs.length
      · rw [if_pos (by omega), List.getElem?_set_ne (by omega), List.getElem?_append_left hj]
        have : xs[j]? = ((cur.drop off).take xs.length)[j]? := by rw [ht']
        rw [this, List.getElem?_take, if_pos hj, List.getElem?_drop]
      · by_cases hj2 : j = xs.length
        · subst hj2
          rw [if_pos (by omega), List.getElem?_set_self (by omega)]
          simp
        · rw [if_neg (by omega), List.getElem?_eq_none (by simp; omega)]
    · refine h _ _ (H1.upd (B := As.seg e v' (xs ++ [u])) (S := No) ⟨r2.os, r2.tape, r2.output, r2.size, fun k hk _ => r2.block k hk (by simp)⟩ (fun _ h => h.elim) (SegP.of_own (B := (w.alloc (.cells #[u] e')).heap.size) (by unfold Own; rw [List.length_append]; exact r1)) (fun k hk => .inr (World.ownsRow.lt r1 k hk).1))
end
end Go.Gr
