/- General: a region that draws its order in which one operation (a store, mostly) may turn what others read: it waits for them. -/
import Derived.Test.YtkhinagagncblaaDoorMonoF
namespace Go.Gr
open Go.RowKit Go.Sort
set_option linter.unusedVariables false
/-- as wpAnyH, but S holds only as long as operation s has not come up -/
def wpAnyS (P : Program) (ops : Array Oper) (Q : Exit → Act → World → Prop) (s : Nat) (S : World → Prop) : Nat → Array Bool → Act → World → Prop
  | 0, listed, a, w => Region.ready .any ops listed = [] ∧ Q .normal a w
  | f + 1, listed, a, w =>
    (Region.ready .any ops listed = [] → Q .normal a w) ∧
    ∀ i ∈ Region.ready .any ops listed, wpOp P ops Q i (fun a' w' => ((listed.setIfInBounds i true).getD s true = false → S w') ∧ wpAnyS P ops Q s S f (listed.setIfInBounds i true) a' w') a w
section
variable {P : Program} {ops : Array Oper} {Q : Exit → Act → World → Prop} {s : Nat} {S : World → Prop}
theorem wpAny_of_S : ∀ (f : Nat) (listed : Array Bool) (a : Act) (w : World), wpAnyS P ops Q s S f listed a w → wpAny P .any ops Q f listed a w
  | 0, _, _, _, h => h
  | f + 1, _, _, _, h => ⟨h.1, fun i hi => wpOp_mono (fun a' w' h' => wpAny_of_S f _ a' w' h'.2) (h.2 i hi)⟩
theorem wpAnyS_mono {S' : World → Prop} (hs : ∀ w, S w → S' w) : ∀ (f : Nat) (listed : Array Bool) (a : Act) (w : World), wpAnyS P ops Q s S f listed a w → wpAnyS P ops Q s S' f listed a w
  | 0, _, _, _, h => h
  | f + 1, _, _, _, h => ⟨h.1, fun i hi => wpOp_mono (fun a' w' h' => ⟨fun hl => hs _ (h'.1 hl), wpAnyS_mono hs f _ a' w' h'.2⟩) (h.2 i hi)⟩
theorem getD_set_true' {l : Array Bool} {i j : Nat} (h : l.getD j true = true) : (l.setIfInBounds i true).getD j true = true := by
  by_cases hij : i = j
  · subst hij
    rcases Nat.lt_or_ge i l.size with h' | h'
    · simp [h']
    · simp
  · rw [getD_set_ne true hij]; exact h
/-- behind operation s nothing is asked -/
theorem wpAnyS_of_H : ∀ (f : Nat) (listed : Array Bool) (a : Act) (w : World), listed.getD s true = true → wpAnyH P .any ops Q (fun _ => True) f listed a w → wpAnyS P ops Q s S f listed a w
  | 0, _, _, _, _, h => h
  | f + 1, listed, a, w, hl, h => ⟨h.1, fun i hi => wpOp_mono (fun a' w' h' => ⟨fun h0 => (by rw [getD_set_true' hl] at h0; cases h0), wpAnyS_of_H f _ a' w' (getD_set_true' hl) h'.2⟩) (h.2 i hi)⟩
/-- an operation for which s waits, or one that yields in whatever world, may be taken first -/
theorem wpAnyS_first {i : Nat} {oi : Oper} {v : Value} {T : World → Prop} (hi : ops[i]? = some oi) (his : i ≠ s) (hsel : ∀ (j : Nat) (o : Oper) cs b, ops[j]? = some o → o.op ≠ .select cs b)
    (hQ : ∀ c a w, Q (.panic c) (a.put oi.dst v) w → Q (.panic c) a w)
    (hT : (∀ w, T w) ∨ (Region.waitsFor .any ops s i = true ∧ ∀ w, S w → T w)) :
    ∀ (f : Nat) (listed : Array Bool) (a : Act) (w : World),
      (∀ j oj, ops[j]? = some oj → j ≠ i → listed.getD j true = false → (∀ e ∈ oj.after, Region.binds .any e = true → e.on ≠ i) → oi.apart ops oj = true) →
      ((∀ w, T w) ∨ listed.getD s true = false) → i ∈ Region.ready .any ops listed → YieldsIf P ops T oi v a → (listed.getD s true = false → S w) → T w →
      wpAnyS P ops Q s S f (listed.setIfInBounds i true) (a.put oi.dst v) w → wpAnyS P ops Q s S (f + 1) listed a w := by
  intro f
  induction f with
  | zero =>
    intro listed a w _ hsu hr hy hS hTw H
    refine ⟨fun h => (by rw [h] at hr; cases hr), fun j hj => ?_⟩
    by_cases hji : j = i
    · subst hji; exact hy.wpOp hi hTw ⟨fun h => hS (by rwa [getD_set_ne true his] at h), H⟩
    · have := ready_mono hj hji
      rw [H.1] at this
      cases this
  | succ f ih =>
    intro listed a w hfree hsu hr hy hS hTw H
    refine ⟨fun h => (by rw [h] at hr; cases hr), fun j hj => ?_⟩
    by_cases hji : j = i
    · subst hji; exact hy.wpOp hi hTw ⟨fun h => hS (by rwa [getD_set_ne true his] at h), H⟩
    · have h1 := H.2 j (ready_mono hj hji)
      have hun := (mem_ready.1 hr).1
      obtain ⟨hjun, oj, hoj, hall⟩ := mem_ready.1 hj
      have hnot : ∀ e ∈ oj.after, Region.binds .any e = true → e.on ≠ i := fun e he hb heq => by
        have h1 := hall e he hb
        rw [heq, getD_both hun] at h1
        cases h1
      have h2 := wpOp_putIf hoj (hfree j oj hoj hji hjun hnot) (fun cs b => hsel i oi cs b hi) (fun cs b => hsel j oj cs b hoj) hQ hy h1
      have hfree' : ∀ k ok, ops[k]? = some ok → k ≠ i → (listed.setIfInBounds j true).getD k true = false →
          (∀ e ∈ ok.after, Region.binds .any e = true → e.on ≠ i) → oi.apart ops ok = true := fun k ok hk hki hun hno => by
        refine hfree k ok hk hki ?_ hno
        by_cases hjk : j = k
        · subst hjk; exact hjun
        · rw [getD_set_ne true hjk] at hun; exact hun
      have hSj : ∀ w', (((listed.setIfInBounds i true).setIfInBounds j true).getD s true = false → S w') → (listed.setIfInBounds j true).getD s true = false → S w' := fun w' h h0 => by
        refine h ?_
        rw [Array.setIfInBounds_comm _ _ (Ne.symm hji), getD_set_ne true his]
        exact h0
      have hsu' : (∀ w, T w) ∨ (listed.setIfInBounds j true).getD s true = false := by
        rcases hsu with h | h
        · exact .inl h
        · rcases hT with hT | ⟨hw, hT⟩
          · exact .inl hT
          · refine .inr ?_
            have hjs : j ≠ s := by
              rintro rfl
              obtain ⟨os, hos, e, he, hb, hon⟩ := Region.waitsFor_spec hw
              have := hall e (by rw [hoj] at hos; cases hos; exact he) hb
              rw [hon, getD_both hun] at this
              cases this
            rw [getD_set_ne true hjs]
            exact h
      refine wpOp_mono (fun a' w' h3 => ⟨hSj w' h3.2.1, ih (listed.setIfInBounds j true) a' w' hfree' hsu' (ready_mono hr (Ne.symm hji)) h3.1 (hSj w' h3.2.1) ?_ ?_⟩) h2
      · rcases hsu' with hT' | h0
        · exact hT' w'
        · rcases hT with hT | ⟨hw, hT⟩
          · exact hT w'
          · exact hT w' (hSj w' h3.2.1 h0)
      · rw [Array.setIfInBounds_comm _ _ hji]
        exact h3.2.2
/-- the operations ahead of s in this order: each reading one as early as its edges allow, those that are more in one line; then s; then as okAllX -/
def okS (ops : Array Oper) (s : Nat) : Array Bool → List Nat → Bool
  | _, [] => false
  | listed, i :: rest =>
    match ops[i]? with
    | none => false
    | some o =>
      if i == s then Region.ready .any ops listed == [s] && okAllX ops (listed.setIfInBounds s true) rest
      else if isX o then Region.ready .any ops listed == [i] && okS ops s (listed.setIfInBounds i true) rest
      else (Region.ready .any ops listed).contains i && !(listed.getD s true) &&
        ((List.range ops.size).all fun j => j == i || listed.getD j true || (match ops[j]? with
          | some oj => !(oj.after.all fun e => !Region.binds .any e || e.on != i) || o.apart ops oj
          | none => true)) && okS ops s (listed.setIfInBounds i true) rest
def RT.all : RT := ⟨fun _ _ => True, fun _ => trivial, fun _ _ _ _ _ => trivial⟩
def wpMS (R : RT) (P : Program) (ops : Array Oper) (Q : Exit → Act → World → Prop) (s : Nat) : List Nat → Act → World → Prop
  | [], a, w => False
  | i :: rest, a, w =>
    match ops[i]? with
    | none => False
    | some o =>
      if i == s then (if Region.wanted o (yielded ops a.tmps) then o.wp P a w (fun a' w' => wpMR RT.all P ops Q rest a' w') Q else wpMR RT.all P ops Q rest (a.put o.dst undef) w)
      else if isX o then
        (if Region.wanted o (yielded ops a.tmps) then o.wp P a w (fun a' w' => R.r w w' ∧ wpMS R P ops Q s rest a' w') Q else wpMS R P ops Q s rest (a.put o.dst undef) w)
      else (if Region.wanted o (yielded ops a.tmps) then rdOp P o a (fun w' => if Region.waitsFor .any ops s i then R.r w w' else True) (fun a' => wpMS R P ops Q s rest a' w) else wpMS R P ops Q s rest (a.put o.dst undef) w)
theorem run_monoS {R : RT} (hsel : ∀ (j : Nat) (o : Oper) cs b, ops[j]? = some o → o.op ≠ .select cs b) (hQ : ∀ c a w, ¬ Q (.panic c) a w) :
    ∀ (perm : List Nat) (listed : Array Bool) (a : Act) (w : World), okS ops s listed perm = true → wpMS R P ops Q s perm a w → wpAnyS P ops Q s (R.r w) perm.length listed a w
  | [], listed, a, w, hok, h => h.elim
  | i :: rest, listed, a, w, hok, h => by
    unfold okS at hok
    unfold wpMS at h
    cases ho : ops[i]? with
    | none => rw [ho] at h; exact h.elim
    | some o =>
      simp only [ho] at hok h
      by_cases his : i = s
      · have hb : (i == s) = true := by simpa using his
        rw [if_pos hb] at hok h
        subst his
        rw [Bool.and_eq_true] at hok
        obtain ⟨hr, hok1⟩ := hok
        have hr' : Region.ready .any ops listed = [i] := by simpa using hr
        have hil : i < listed.size := by
          have hm : i ∈ Region.ready .any ops listed := by rw [hr']; simp
          have h0 := (mem_ready.1 hm).1
          rcases Nat.lt_or_ge i listed.size with h' | h'
          · exact h'
          · simp [Array.getElem?_eq_none h'] at h0
        have hset : (listed.setIfInBounds i true).getD i true = true := by simp [hil]
        refine ⟨fun h0 => (by rw [hr'] at h0; cases h0), fun k hk => ?_⟩
        obtain rfl : k = i := by rw [hr'] at hk; simpa using hk
        refine wpOp_step ho fun K' hK => ?_
        split
        · rename_i hw
          rw [if_pos hw] at h
          refine Oper.wp_mono (fun a' w' h3 => hK _ _ ⟨fun h0 => (by rw [hset] at h0; cases h0), ?_⟩) h
          exact wpAnyS_of_H _ _ _ _ hset (run_monoR (R := RT.all) hsel hQ rest _ a' w' hok1 h3)
        · rename_i hw
          rw [if_neg hw] at h
          exact hK _ _ ⟨fun h0 => (by rw [hset] at h0; cases h0), wpAnyS_of_H _ _ _ _ hset (run_monoR (R := RT.all) hsel hQ rest _ _ w hok1 h)⟩
      · have hb : ¬ (i == s) = true := by simpa using his
        rw [if_neg hb] at hok h
        by_cases hx : isX o = true
        · rw [if_pos hx] at hok h
          rw [Bool.and_eq_true] at hok
          obtain ⟨hr, hok1⟩ := hok
          have hr' : Region.ready .any ops listed = [i] := by simpa using hr
          refine ⟨fun h0 => (by rw [hr'] at h0; cases h0), fun k hk => ?_⟩
          obtain rfl : k = i := by rw [hr'] at hk; simpa using hk
          refine wpOp_step ho fun K' hK => ?_
          split
          · rename_i hw
            rw [if_pos hw] at h
            refine Oper.wp_mono (fun a' w' h3 => hK _ _ ⟨fun _ => h3.1, ?_⟩) h
            exact wpAnyS_mono (fun x hx => R.trans _ _ _ h3.1 hx) _ _ _ _ (run_monoS hsel hQ rest _ a' w' hok1 h3.2)
          · rename_i hw
            rw [if_neg hw] at h
            exact hK _ _ ⟨fun _ => R.refl w, run_monoS hsel hQ rest _ _ w hok1 h⟩
        · rw [if_neg hx] at hok h
          rw [Bool.and_eq_true, Bool.and_eq_true, Bool.and_eq_true] at hok
          obtain ⟨⟨⟨hin, hsu⟩, hap⟩, hok2⟩ := hok
          have hmem : i ∈ Region.ready .any ops listed := by simpa using hin
          have hsu' : listed.getD s true = false := by simpa using hsu
          have hapart : ∀ j oj, ops[j]? = some oj → j ≠ i → listed.getD j true = false → (∀ e ∈ oj.after, Region.binds .any e = true → e.on ≠ i) → o.apart ops oj = true := by
            intro j oj hj hne hl hw
            have hjl : j < ops.size := (Array.getElem?_eq_some_iff.1 hj).1
            have h1 := List.all_eq_true.1 hap j (List.mem_range.2 hjl)
            simp only [hj, Bool.or_eq_true, beq_iff_eq] at h1
            rcases h1 with (h1 | h1) | h1 | h1
            · exact absurd h1 hne
            · rw [hl] at h1; cases h1
            · exfalso
              have : (oj.after.all fun e => !Region.binds .any e || e.on != i) = true := by
                rw [Array.all_eq_true_iff_forall_mem]
                intro e he
                by_cases hb : Region.binds .any e = true
                · have := hw e he hb; simp [this]
                · simp [hb]
              rw [this] at h1; cases h1
            · exact h1
          have hTT : (∀ w', (if Region.waitsFor .any ops s i then R.r w w' else True)) ∨ (Region.waitsFor .any ops s i = true ∧ ∀ w', R.r w w' → (if Region.waitsFor .any ops s i then R.r w w' else True)) := by
            by_cases hwf : Region.waitsFor .any ops s i = true
            · exact .inr ⟨hwf, fun w' h => by rw [if_pos hwf]; exact h⟩
            · exact .inl fun w' => by rw [if_neg hwf]; trivial
          have hTw : (if Region.waitsFor .any ops s i then R.r w w else True) := by
            split
            · exact R.refl w
            · trivial
          split at h
          · rename_i hw
            obtain ⟨v, hv, hn⟩ := h
            exact wpAnyS_first (T := fun w' => if Region.waitsFor .any ops s i then R.r w w' else True) ho his hsel (fun c a w h => (hQ _ _ _ h).elim) hTT rest.length listed a w hapart (.inr hsu') hmem (.inl ⟨hw, fun w' hw' => rd_run (hv w' hw')⟩) (fun _ => R.refl w) hTw
              (run_monoS hsel hQ rest _ _ w hok2 hn)
          · rename_i hw
            exact wpAnyS_first (T := fun w' => if Region.waitsFor .any ops s i then R.r w w' else True) (v := undef) ho his hsel (fun c a w h => (hQ _ _ _ h).elim) hTT rest.length listed a w hapart (.inr hsu') hmem (.inr ⟨by simpa using hw, rfl⟩) (fun _ => R.refl w) hTw
              (run_monoS hsel hQ rest _ _ w hok2 h)
/-- the same behind a name that does not unfold -/
structure WS (R : RT) (P : Program) (ops : Array Oper) (Q : Exit → Act → World → Prop) (s : Nat) (l : List Nat) (a : Act) (w : World) : Prop where
  out : wpMS R P ops Q s l a w
/-- THE RULE: a region that draws its order, in which operation s may turn what others read, walked in the order 'perm'. -/
theorem wp_region_ws {id : Nat} {l : List Oper} {a : Act} {w : World} (R : RT) (s : Nat) (perm : List Nat) (hm : P.follows .mixedOrders = true) (hs : (l.all fun o => !isSel o) = true) (hl : perm.length = l.toArray.size)
    (hok : okS l.toArray s (Array.replicate l.toArray.size false) perm = true) (h : WS R P l.toArray (NoPanic Q) s perm a w.drew) : (Code.region id l.toArray true).wp P Q a w := by
  refine wp_region_noPanic (wp_region_any hm ?_)
  have hsel : ∀ (j : Nat) (o : Oper) cs b, l.toArray[j]? = some o → o.op ≠ .select cs b := by
    intro j o cs b hj he
    have hmem : o ∈ l := by
      rw [List.getElem?_toArray] at hj
      exact List.mem_of_getElem? hj
    have := List.all_eq_true.1 hs o hmem
    simp [isSel, he] at this
  have H := wpAny_of_S _ _ _ _ (run_monoS (R := R) hsel (fun c a w h => h) perm _ a w.drew hok h.out)
  rw [hl] at H
  exact H
variable {R : RT} {i : Nat} {o : Oper} {rest : List Nat} {a : Act} {w : World}
/-- a reading operation that s waits for -/
theorem ws_rd (ho : ops[i]? = some o) (his : (i == s) = false) (hx : isX o = false) (hw : Region.waitsFor .any ops s i = true)
    (h : ∀ K : Act → Prop, (∀ a, WS R P ops Q s rest a w → K a) → if Region.wanted o (yielded ops a.tmps) then rdOp P o a (R.r w) K else K (a.put o.dst undef)) : WS R P ops Q s (i :: rest) a w := by
  have := h (fun a => wpMS R P ops Q s rest a w) (fun _ h => h.out)
  refine ⟨?_⟩
  unfold wpMS
  simp only [ho, hx, his, hw, Bool.false_eq_true, if_false, if_true]
  exact this
/-- one that yields in whatever world -/
theorem ws_pure (ho : ops[i]? = some o) (his : (i == s) = false) (hx : isX o = false)
    (h : ∀ K : Act → Prop, (∀ a, WS R P ops Q s rest a w → K a) → if Region.wanted o (yielded ops a.tmps) then rdOp P o a (fun _ => True) K else K (a.put o.dst undef)) : WS R P ops Q s (i :: rest) a w := by
  have := h (fun a => wpMS R P ops Q s rest a w) (fun _ h => h.out)
  refine ⟨?_⟩
  unfold wpMS
  simp only [ho, hx, his, Bool.false_eq_true, if_false]
  split
  · rename_i hw
    rw [if_pos hw] at this
    obtain ⟨v, hv, hn⟩ := this
    exact ⟨v, fun w' _ => hv w' trivial, hn⟩
  · rename_i hw
    rw [if_neg hw] at this
    exact this
theorem ws_ext (ho : ops[i]? = some o) (his : (i == s) = false) (hx : isX o = true)
    (h : ∀ K : Act → World → Prop, (∀ a' w', R.r w w' → WS R P ops Q s rest a' w' → K a' w') → if Region.wanted o (yielded ops a.tmps) then o.wp P a w K Q else K (a.put o.dst undef) w) : WS R P ops Q s (i :: rest) a w := by
  have := h (fun a' w' => R.r w w' ∧ wpMS R P ops Q s rest a' w') (fun _ _ h1 h2 => ⟨h1, h2.out⟩)
  refine ⟨?_⟩
  unfold wpMS
  simp only [ho, hx, his, Bool.false_eq_true, if_false, if_true]
  split
  · rename_i hw; rw [if_pos hw] at this; exact this
  · rename_i hw; rw [if_neg hw] at this; exact this.2
/-- operation s itself -/
theorem ws_at (ho : ops[s]? = some o)
    (h : ∀ K : Act → World → Prop, (∀ a' w', WMR RT.all P ops Q rest a' w' → K a' w') → if Region.wanted o (yielded ops a.tmps) then o.wp P a w K Q else K (a.put o.dst undef) w) : WS R P ops Q s (s :: rest) a w := by
  have := h (fun a' w' => wpMR RT.all P ops Q rest a' w') (fun _ _ h2 => h2.out)
  refine ⟨?_⟩
  unfold wpMS
  simp only [ho, beq_self_eq_true, if_true]
  split
  · rename_i hw; rw [if_pos hw] at this; exact this
  · rename_i hw; rw [if_neg hw] at this; exact this
theorem ws_ldX {g off : Nat} {cs : List Value} (hi' : ops[i]? = some o) (his : (i == s) = false) (hwf : Region.waitsFor .any ops s i = true) (hw : Region.wanted o (yielded ops a.tmps) = true) (ty : TypeId) (x : Operand) (ho : o.op = .load ty x)
    (hr : ∀ w', R.r w w' → At5 w' g off cs) (hx : a.eval x = .pointer (some ⟨g, off, none⟩)) (d : TypeDesc)
    (hu : P.underlying ty = some d) (hd : d.isRow = true) (hi : (P.info? ty).map (·.size) = some cs.length)
    (h : WS R P ops Q s rest (a.put o.dst (.agg cs.toArray)) w) : WS R P ops Q s (i :: rest) a w := by
  refine ws_rd hi' his (by simp [isX, isExt, ho]) hwf fun K hK => ?_
  rw [if_pos hw]
  exact rdOp_ldX ty x ho hr hx d hu hd hi (hK _ h)
end
end Go.Gr
