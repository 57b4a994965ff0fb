/- General: a region that draws its order in which one allocation floats: it may come at any place ahead of its own. -/
import Derived.Test.YtkhinagagncblaaDoorRowM
namespace Go.Gr
open Go.RowKit Go.Sort
set_option linter.unusedVariables false
/-- as okAllX; but operation j may come ahead of each operation that is more than reading -/
def okF (ops : Array Oper) (j : Nat) : Array Bool → List Nat → Bool
  | _, [] => false
  | listed, i :: rest =>
    match ops[i]? with
    | none => false
    | some o =>
      if i == j then okAllX ops listed (i :: rest)
      else if isX o then (Region.ready .any ops listed == [i, j] || Region.ready .any ops listed == [j, i]) && rest.contains j && okF ops j (listed.setIfInBounds i true) rest && okAllX ops (listed.setIfInBounds j true) (i :: rest.erase j)
      else (Region.ready .any ops listed).contains i &&
        ((List.range ops.size).all fun j => j == i || listed.getD j true || (match ops[j]? with
          | some oj => !(oj.after.all fun e => !Region.binds .any e || e.on != i) || o.apart ops oj
          | none => true)) && okF ops j (listed.setIfInBounds i true) rest
def wpF (R : RT) (P : Program) (ops : Array Oper) (Q : Exit → Act → World → Prop) (j : Nat) : List Nat → Act → World → Prop
  | [], a, w => False
  | i :: rest, a, w =>
    match ops[i]? with
    | none => False
    | some o =>
      if i == j then wpMR R P ops Q (i :: rest) a w
      else if isX o then
        (if Region.wanted o (yielded ops a.tmps) then o.wp P a w (fun a' w' => R.r w w' ∧ wpF R P ops Q j rest a' w') Q else wpF R P ops Q j rest (a.put o.dst undef) w) ∧ wpMR R P ops Q (j :: i :: rest.erase j) a w
      else (if Region.wanted o (yielded ops a.tmps) then rdOp P o a (R.r w) (fun a' => wpF R P ops Q j rest a' w) else wpF R P ops Q j rest (a.put o.dst undef) w)
section
variable {P : Program} {ops : Array Oper} {Q : Exit → Act → World → Prop} {R : RT}
theorem run_monoF {j : Nat} {oj : Oper} (hoj : ops[j]? = some oj) (hxj : isX oj = true) (hsel : ∀ (j : Nat) (o : Oper) cs b, ops[j]? = some o → o.op ≠ .select cs b) (hQ : ∀ c a w, ¬ Q (.panic c) a w) :
    ∀ (perm : List Nat) (listed : Array Bool) (a : Act) (w : World), okF ops j listed perm = true → wpF R P ops Q j perm a w → wpAnyH P .any ops Q (R.r w) perm.length listed a w
  | [], listed, a, w, hok, h => h.elim
  | i :: rest, listed, a, w, hok, h => by
    unfold okF at hok
    unfold wpF at h
    cases ho : ops[i]? with
    | none => rw [ho] at h; exact h.elim
    | some o =>
      simp only [ho] at hok h
      by_cases hij : i = j
      · have hb : (i == j) = true := by simpa using hij
        rw [if_pos hb] at hok h
        exact run_monoR hsel hQ _ _ _ _ hok h
      · have hb : ¬ (i == j) = true := by simpa using hij
        rw [if_neg hb] at hok h
        by_cases hx : isX o = true
        · rw [if_pos hx] at hok h
          rw [Bool.and_eq_true, Bool.and_eq_true, Bool.and_eq_true] at hok
          obtain ⟨⟨⟨hr, hc⟩, hok1⟩, hok2⟩ := hok
          obtain ⟨h1, h2⟩ := h
          have hmem : j ∈ rest := by simpa using hc
          have hlen : (i :: rest.erase j).length = rest.length := by
            rw [List.length_cons, List.length_erase_of_mem hmem]
            have := List.length_pos_of_mem hmem
            omega
          have hi : wpOp P ops Q i (fun a' w' => R.r w w' ∧ wpAnyH P .any ops Q (R.r w) rest.length (listed.setIfInBounds i true) a' w') a w := by
            refine wpOp_step ho fun K' hK => ?_
            split
            · rename_i hw
              rw [if_pos hw] at h1
              have hm : ∀ a' w', (R.r w w' ∧ wpF R P ops Q j rest a' w') → K' a' w' := fun a' w' ⟨h3, h4⟩ =>
                hK _ _ ⟨h3, wpAnyH_mono (fun x hx => R.trans _ _ _ h3 hx) _ _ _ _ (run_monoF hoj hxj hsel hQ rest _ a' w' hok1 h4)⟩
              exact Oper.wp_mono hm h1
            · rename_i hw
              rw [if_neg hw] at h1
              exact hK _ _ ⟨R.refl w, run_monoF hoj hxj hsel hQ rest _ _ w hok1 h1⟩
          have hj : wpOp P ops Q j (fun a' w' => R.r w w' ∧ wpAnyH P .any ops Q (R.r w) rest.length (listed.setIfInBounds j true) a' w') a w := by
            unfold wpMR at h2
            simp only [hoj, hxj, if_true] at h2
            refine wpOp_step hoj fun K' hK => ?_
            split
            · rename_i hw
              rw [if_pos hw] at h2
              have hm : ∀ a' w', (R.r w w' ∧ wpMR R P ops Q (i :: rest.erase j) a' w') → K' a' w' := fun a' w' ⟨h3, h4⟩ =>
                hK _ _ ⟨h3, wpAnyH_mono (fun x hx => R.trans _ _ _ h3 hx) _ _ _ _ (by have := run_monoR hsel hQ _ _ a' w' hok2 h4; rwa [hlen] at this)⟩
              exact Oper.wp_mono hm h2
            · rename_i hw
              rw [if_neg hw] at h2
              exact hK _ _ ⟨R.refl w, by have := run_monoR hsel hQ _ _ _ w hok2 h2; rwa [hlen] at this⟩
          rw [Bool.or_eq_true] at hr
          rcases hr with hr | hr
          · have hr' : Region.ready .any ops listed = [i, j] := by simpa using hr
            refine wpAnyH_all hr' (by simp) fun k hk => ?_
            rcases (by simpa using hk : k = i ∨ k = j) with rfl | rfl
            · exact hi
            · exact hj
          · have hr' : Region.ready .any ops listed = [j, i] := by simpa using hr
            refine wpAnyH_all hr' (by simp) fun k hk => ?_
            rcases (by simpa using hk : k = j ∨ k = i) with rfl | rfl
            · exact hj
            · exact hi
        · rw [if_neg hx] at hok h
          rw [Bool.and_eq_true, Bool.and_eq_true] at hok
          obtain ⟨⟨hin, hap⟩, hok2⟩ := hok
          have hmem : i ∈ Region.ready .any ops listed := by simpa using hin
          have hapart : ∀ j oj, ops[j]? = some oj → j ≠ i → listed.getD j true = false → (∀ e ∈ oj.after, Region.binds .any e = true → e.on ≠ i) → o.apart ops oj = true := by
            intro j oj hj hne hl hw
            have hjl : j < ops.size := (Array.getElem?_eq_some_iff.1 hj).1
            have h1 := List.all_eq_true.1 hap j (List.mem_range.2 hjl)
            simp only [hj, Bool.or_eq_true, beq_iff_eq] at h1
            rcases h1 with (h1 | h1) | h1 | h1
            · exact absurd h1 hne
            · rw [hl] at h1; cases h1
            · exfalso
              have : (oj.after.all fun e => !Region.binds .any e || e.on != i) = true := by
                rw [Array.all_eq_true_iff_forall_mem]
                intro e he
                by_cases hb : Region.binds .any e = true
                · have := hw e he hb; simp [this]
                · simp [hb]
              rw [this] at h1; cases h1
            · exact h1
          split at h
          · rename_i hw
            obtain ⟨v, hv, hn⟩ := h
            refine wpAnyH_first ho hsel (fun c a w h => (hQ _ _ _ h).elim) rest.length listed a w hapart hmem (.inl ⟨hw, fun w' hw' => rd_run (hv w' hw')⟩) (R.refl w) ?_
            exact run_monoF hoj hxj hsel hQ rest _ _ w hok2 hn
          · rename_i hw
            refine wpAnyH_first (v := undef) ho hsel (fun c a w h => (hQ _ _ _ h).elim) rest.length listed a w hapart hmem (.inr ⟨by simpa using hw, rfl⟩) (R.refl w) ?_
            exact run_monoF hoj hxj hsel hQ rest _ _ w hok2 h
/-- the same behind a name that does not unfold -/
structure WF (R : RT) (P : Program) (ops : Array Oper) (Q : Exit → Act → World → Prop) (j : Nat) (l : List Nat) (a : Act) (w : World) : Prop where
  out : wpF R P ops Q j l a w
/-- THE RULE: a region that draws its order, in which operation j floats, walked in the order 'perm'. -/
theorem wp_region_wf {id : Nat} {l : List Oper} {a : Act} {w : World} (R : RT) (j : Nat) (perm : List Nat) (hm : P.follows .mixedOrders = true) (hs : (l.all fun o => !isSel o) = true) (hl : perm.length = l.toArray.size)
    (hok : okF l.toArray j (Array.replicate l.toArray.size false) perm = true) (hj : (match l[j]? with | some o => isX o | none => false) = true) (h : WF R P l.toArray (NoPanic Q) j perm a w.drew) : (Code.region id l.toArray true).wp P Q a w := by
  refine wp_region_noPanic (wp_region_held (S := R.r w.drew) hm ?_)
  rw [← hl] at *
  cases hoj : l[j]? with
  | none => rw [hoj] at hj; cases hj
  | some oj =>
    rw [hoj] at hj
    refine run_monoF (j := j) (oj := oj) (by rw [List.getElem?_toArray]; exact hoj) hj ?_ (fun c a w h => h) perm _ a _ hok h.out
    intro j o cs b hj he
    have hmem : o ∈ l := by
      rw [List.getElem?_toArray] at hj
      exact List.mem_of_getElem? hj
    have := List.all_eq_true.1 hs o hmem
    simp [isSel, he] at this
variable {j : Nat} {i : Nat} {o : Oper} {rest : List Nat} {a : Act} {w : World}
theorem wf_rd (ho : ops[i]? = some o) (hij : (i == j) = false) (hx : isX o = false)
    (h : ∀ K : Act → Prop, (∀ a, WF R P ops Q j rest a w → K a) → if Region.wanted o (yielded ops a.tmps) then rdOp P o a (R.r w) K else K (a.put o.dst undef)) : WF R P ops Q j (i :: rest) a w := by
  have := h (fun a => wpF R P ops Q j rest a w) (fun _ h => h.out)
  refine ⟨?_⟩
  unfold wpF
  simp only [ho, hx, hij, Bool.false_eq_true, if_false]
  exact this
/-- an operation that is more than reading: ahead of the floating one, and behind it -/
theorem wf_ext (ho : ops[i]? = some o) (hij : (i == j) = false) (hx : isX o = true)
    (h : ∀ K : Act → World → Prop, (∀ a' w', R.r w w' → WF R P ops Q j rest a' w' → K a' w') → if Region.wanted o (yielded ops a.tmps) then o.wp P a w K Q else K (a.put o.dst undef) w)
    (h2 : WMR R P ops Q (j :: i :: rest.erase j) a w) : WF R P ops Q j (i :: rest) a w := by
  have := h (fun a' w' => R.r w w' ∧ wpF R P ops Q j rest a' w') (fun _ _ h1 h2 => ⟨h1, h2.out⟩)
  refine ⟨?_⟩
  unfold wpF
  simp only [ho, hx, hij, Bool.false_eq_true, if_false, if_true]
  refine ⟨?_, h2.out⟩
  split
  · rename_i hw; rw [if_pos hw] at this; exact this
  · rename_i hw; rw [if_neg hw] at this; exact this.2
/-- the floating one at its own place -/
theorem wf_at (ho : ops[j]? = some o) (h : WMR R P ops Q (j :: rest) a w) : WF R P ops Q j (j :: rest) a w := by
  refine ⟨?_⟩
  unfold wpF
  simp only [ho, beq_self_eq_true, if_true]
  exact h.out
theorem wf_ldX {g off : Nat} {cs : List Value} (hi' : ops[i]? = some o) (hij : (i == j) = false) (hw : Region.wanted o (yielded ops a.tmps) = true) (ty : TypeId) (x : Operand) (ho : o.op = .load ty x)
    (hr : ∀ w', R.r w w' → At5 w' g off cs) (hx : a.eval x = .pointer (some ⟨g, off, none⟩)) (d : TypeDesc)
    (hu : P.underlying ty = some d) (hd : d.isRow = true) (hi : (P.info? ty).map (·.size) = some cs.length)
    (h : WF R P ops Q j rest (a.put o.dst (.agg cs.toArray)) w) : WF R P ops Q j (i :: rest) a w := by
  refine wf_rd hi' hij (by simp [isX, isExt, ho]) fun K hK => ?_
  rw [if_pos hw]
  exact rdOp_ldX ty x ho hr hx d hu hd hi (hK _ h)
theorem wmr_ldX {g off : Nat} {cs : List Value} (hi' : ops[i]? = some o) (hw : Region.wanted o (yielded ops a.tmps) = true) (ty : TypeId) (x : Operand) (ho : o.op = .load ty x)
    (hr : ∀ w', R.r w w' → At5 w' g off cs) (hx : a.eval x = .pointer (some ⟨g, off, none⟩)) (d : TypeDesc)
    (hu : P.underlying ty = some d) (hd : d.isRow = true) (hi : (P.info? ty).map (·.size) = some cs.length)
    (h : WMR R P ops Q rest (a.put o.dst (.agg cs.toArray)) w) : WMR R P ops Q (i :: rest) a w := by
  refine wmr_rd hi' (by simp [isX, isExt, ho]) fun K hK => ?_
  rw [if_pos hw]
  exact rdOp_ldX ty x ho hr hx d hu hd hi (hK _ h)
end
section
variable {P : Program} {G : Nat → Prop} {w0 w : World} {L L1 L2 : List As} {o : Oper} {a : Act} {Q : Exit → Act → World → Prop} {K : Act → World → Prop}
/-- a whole array or struct into a block -/
theorem wp_stS (L1 : List As) {L2 : List As} {g : Nat} {t : TypeId} {old cs : List Value} (H : Sep G w0 w (L1 ++ As.blk g t old :: L2)) (ty : TypeId) (x y : Operand) (ho : o.op = .store ty x y)
    (hx : a.eval x = .pointer (some ⟨g, 0, none⟩)) (hy : a.eval y = .agg cs.toArray)
    (hi : (P.info? ty).map (·.size) = some cs.length) (hl : old.length = cs.length) (h1 : ∀ v ∈ cs, v.oneCell' = true)
    (h : ∀ w', Sep G w0 w' (L1 ++ As.blk g t cs :: L2) → Upd g w w' → K (a.put o.dst undef) w') : o.wp P a w K Q := by
  have hB := H.blk (g := g) (e := t) (cs := old) (by simp)
  have hu := (Upd.refl g w).row cs.toArray
  exact wp_store_row ty x y ho g cs.toArray hx hy t old.toArray hB (by simpa using hi) (by simpa using hl) (Array.all_eq_true_iff_forall_mem.2 (fun v hv => h1 v (by simpa using hv)))
    (h _ (H.upd (B := As.blk g t cs) (Fr.of_upd hu) (fun _ h => h) (hB.setRow cs) (fun _ h => .inl h)) hu)
/-- a new variable -/
theorem wp_alS (H : Sep G w0 w L) (ty : TypeId) (ho : o.op = .alloc ty) (cs : List Value) (hz : (P.info? ty).map (fun i => i.zero.map (·.cells)) = some (some cs.toArray))
    (h : ∀ w', w'.heap.size = w.heap.size + 1 → Ext w w' → Sep G w0 w' (As.blk w.heap.size ty cs :: L) → K (a.put o.dst (.pointer (some ⟨w.heap.size, 0, none⟩))) w') : o.wp P a w K Q := by
  unfold Oper.wp execOp
  cases hq : P.info? ty with
  | none => simp [hq] at hz
  | some ii =>
    cases hq2 : ii.zero with
    | none => simp [hq, hq2] at hz
    | some z =>
      have hzc : z.cells = cs.toArray := by simpa [hq, hq2] using hz
      have hr : (zeroValue ty).run P w = .ok z w := by simp [zeroValue, typeInfo, hq, hq2]
      simp only [ho, Instr.alloc, Sem.run_bind, hr, Result.andThen_ok, newVar, newRow, hzc]
      exact h _ (by simp) ((Ext.refl w).alloc (.cells cs.toArray ty)) (H.newB ((Ext.refl w).alloc (.cells cs.toArray ty)) (Blk.new w ty cs) (Nat.le_refl _))
end
theorem Upd.up {g : Nat} {w w' : World} (h : Upd g w w') {B : Nat} (hB : B ≤ g) : (RT.fr fun k => B ≤ k).r w w' := (Fr.of_upd h).mono fun k hk => by cases hk; exact hB
/-- only blocks from B on may turn -/
def RT.up (B : Nat) : RT := RT.fr fun k => B ≤ k
theorem At5.fr {S : Nat → Prop} {w w' : World} {g off : Nat} {cs : List Value} (h : At5 w g off cs) (k : Fr S w w') (hS : ¬ S g) : At5 w' g off cs := fun j v hv => k.cell (h j v hv) hS
theorem Blk.at5 {w : World} {g : Nat} {e : TypeId} {cs : List Value} (h : Blk w g e cs) : At5 w g 0 cs := fun j v hv => by rw [Nat.zero_add]; exact (h.cell j).trans hv
theorem Blk.at5m {w : World} {g : Nat} {e : TypeId} {whole cs : List Value} (h : Blk w g e whole) (o : Nat) (hm : ∀ j v, cs[j]? = some v → whole[o + j]? = some v) : At5 w g o cs := h.mid o hm
theorem Ext.up {w w' : World} (h : Ext w w') (B : Nat) : (RT.up B).r w w' := (Fr.of_ext h).mono fun _ h => h.elim
end Go.Gr
