/- Seats side by side: all runs taken one after the other; the pieces one after the other; plain. -/
import Derived.Test.YtkhinagagncblaaDoorCB
namespace Go.Proofs.YtkhinagagncblaaDoor
open Go.RowKit Go.Gr Go.Ad
set_option linter.unusedVariables false
set_option linter.unusedSimpArgs false
/-- what is free when runs were taken -/
def takeR (f : List Bool) (l : List Run) : List Bool := l.foldl (fun f r => off f r.first r.many) f
theorem takeR_step {f : List Bool} {l : List Run} {i : Nat} {r : Run} (h : l[i]? = some r) : takeR f (l.take (i + 1)) = off (takeR f (l.take i)) r.first r.many := by
  unfold takeR
  rw [take_next1 h, List.foldl_append]; rfl
theorem takeR_all {v : Vn} {f : List Bool} {s : Int} (hfl : f.length = sumS v.secs) : ∀ i, i ≤ (runsOf v f s).length → (takeR f ((runsOf v f s).take i)).length = f.length ∧ runsOf v (takeR f ((runsOf v f s).take i)) s = (runsOf v f s).drop i := by
  intro i
  induction i with
  | zero => intro _; exact ⟨rfl, rfl⟩
  | succ i ih =>
    intro hi
    obtain ⟨h1, h2⟩ := ih (by omega)
    obtain ⟨r, hr⟩ : ∃ r, (runsOf v f s)[i]? = some r := ⟨_, List.getElem?_eq_getElem (by omega)⟩
    have h0 : (runsOf v (takeR f ((runsOf v f s).take i)) s)[0]? = some r := by rw [h2, List.getElem?_drop]; simpa using hr
    have hw := runs_whole (h1.trans hfl) h0
    obtain ⟨g1, _⟩ := runs_off (h1.trans hfl) (List.mem_of_getElem? h0)
    rw [takeR_step hr]
    refine ⟨by rw [off_len g1]; exact h1, ?_⟩
    rw [hw, h2, List.eraseIdx_zero, List.tail_drop]
theorem run_in {v : Vn} {f : List Bool} {s : Int} {x : Run} (hx : x ∈ runsOf v f s) : inRun v f s x.first x.many := ⟨x, hx, Nat.le_refl _, Nat.le_refl _⟩
theorem run_64 {v : Vn} {f : List Bool} {s : Int} (hq : qE v f.length s = 0) {x : Run} (hx : x ∈ runsOf v f s) : 1 ≤ x.many ∧ x.many ≤ 64 := by
  have h0 := runsOf_pos v f s x hx
  obtain ⟨hok, hz, _, hfl, j, rfl, hj⟩ := qE_zero hq
  obtain ⟨sc, hs⟩ : ∃ sc, v.secs[j]? = some sc := ⟨_, List.getElem?_eq_getElem hj⟩
  rw [runsOf_at hs] at hx
  obtain ⟨q, m, h1, h2, h3, h4⟩ := sec_row sc.rowsN 0 (fst0 v.secs j) (sec_fits hfl hs) hx
  have hm : m ∈ sc.rowsN := List.mem_of_getElem? h1
  unfold Sc.rowsN at hm
  obtain ⟨z, hz1, rfl⟩ := List.mem_map.1 hm
  have := (hok.sec sc (List.mem_of_getElem? hs)).row z hz1
  omega
theorem row_of : ∀ (ns : List Nat) (t : Nat), t < ns.sum → ∃ q m, ns[q]? = some m ∧ (ns.take q).sum ≤ t ∧ t < (ns.take q).sum + m
  | [], t, h => by simp at h
  | n :: ns, t, h => by
    rw [List.sum_cons] at h
    by_cases h1 : t < n
    · exact ⟨0, n, rfl, by simp, by simpa using h1⟩
    · obtain ⟨q, m, h2, h3, h4⟩ := row_of ns (t - n) (by omega)
      exact ⟨q + 1, m, by simpa using h2, by simp; omega, by simp; omega⟩
/-- without runs, nothing is free in a section -/
theorem no_free {v : Vn} {f : List Bool} {j : Nat} {sc : Sc} (hs : v.secs[j]? = some sc) (hfl : f.length = sumS v.secs) (h : runsOf v f (j : Int) = []) {t : Nat} (ht : t < sc.rowsN.sum) : f[fst0 v.secs j + t]? = some false := by
  have hf := sec_fits hfl hs
  obtain ⟨b, hb⟩ : ∃ b, f[fst0 v.secs j + t]? = some b := ⟨_, List.getElem?_eq_getElem (by omega)⟩
  cases b
  · exact hb
  · exfalso
    obtain ⟨q, m, h2, h3, h4⟩ := row_of _ t ht
    rw [runsOf_at hs] at h
    obtain ⟨x, hx, _⟩ := sec_find 1 (by omega) (fst0 v.secs j + t) (fun i hi => by
      obtain rfl : i = 0 := by omega
      exact hb) sc.rowsN 0 (fst0 v.secs j) q m h2 (by omega) (by omega)
    rw [h] at hx
    cases hx
/-- pieces one after the other -/
inductive PO (v : Vn) (s : Int) : List Bool → List Run → Nat → List Run → Prop
  | last {f : List Bool} {l : List Run} {m : Nat} {x : Run} (hx : inRun v f s x.first x.many) (hE : plE v (x.first : Nat) = 0) (hr : (plX v (x.first : Nat)).row = x.row) (hm : x.many = m) (h1 : 1 ≤ m) : PO v s f l m [x]
  | more {f : List Bool} {l : List Run} {m : Nat} {r : Run} {ps : List Run} (hl : l[lg l l.length]? = some r) (hx : inRun v f s r.first r.many) (hE : plE v (r.first : Nat) = 0) (hr : (plX v (r.first : Nat)).row = r.row) (h0 : 1 ≤ r.many) (hlt : r.many < m)
      (h : PO v s (off f r.first r.many) (l.eraseIdx (lg l l.length)) (m - r.many) ps) : PO v s f l m (r :: ps)
theorem pcs_po {v : Vn} {s : Int} : ∀ (k : Nat) (f : List Bool), qE v f.length s = 0 → (runsOf v f s).length = k → ∀ m, 1 ≤ m → m ≤ sumM (runsOf v f s) → PO v s f (runsOf v f s) m (pcs (runsOf v f s) m) ∧ (pcs (runsOf v f s) m).length ≤ k
  | k, f, hq, hk, m, h1, hm => by
    have hfl := (qE_zero hq).2.2.2.1
    cases hb : bestL (chs (runsOf v f s) m) with
    | some x =>
      rw [pcs_some hb]
      obtain ⟨g1, g2, _⟩ := chs_mem (bestL_mem hb)
      obtain ⟨a1, a2, _⟩ := run_row hq g1 (k := x.2.1) (by omega)
      refine ⟨.last ⟨x.1, g1, by simp, by simp only; omega⟩ a1 a2 rfl h1, ?_⟩
      have := List.length_pos_of_mem g1
      simp; omega
    | none =>
      have hpos : 0 < (runsOf v f s).length := by
        rcases Nat.eq_zero_or_pos (runsOf v f s).length with h0 | h0
        · rw [List.eq_nil_of_length_eq_zero h0] at hm
          simp [sumM] at hm; omega
        · exact h0
      obtain ⟨r, hr⟩ : ∃ r, (runsOf v f s)[lg (runsOf v f s) (runsOf v f s).length]? = some r := ⟨_, List.getElem?_eq_getElem (lg_lt _ _ hpos)⟩
      have hmem := List.mem_of_getElem? hr
      have hlt := no_choice hb h1 r hmem
      have h0 := runsOf_pos v f s r hmem
      obtain ⟨a1, a2, _⟩ := run_row hq hmem (k := 0) h0
      rw [Nat.add_zero] at a1 a2
      have hw := runs_whole hfl hr
      obtain ⟨g1, _⟩ := runs_off hfl hmem
      have hq' : qE v (off f r.first r.many).length s = 0 := by rw [off_len g1]; exact hq
      have hse := sumM_erase hr
      have hlen : (runsOf v (off f r.first r.many) s).length = k - 1 := by
        rw [hw, List.length_eraseIdx, if_pos (lg_lt _ _ hpos)]; omega
      obtain ⟨p1, p2⟩ := pcs_po (k - 1) (off f r.first r.many) hq' hlen (m - r.many) (by omega) (by rw [hw]; omega)
      rw [pcs_none hb hr]
      rw [hw] at p1 p2
      refine ⟨.more hr (run_in hmem) a1 a2 h0 hlt p1, ?_⟩
      rw [List.length_cons]; omega
termination_by k => k
theorem PO.ne {v : Vn} {s : Int} {f : List Bool} {l : List Run} {m : Nat} (h : PO v s f l m []) : False := by cases h
theorem PO.pos {v : Vn} {s : Int} {f : List Bool} {l : List Run} {m : Nat} {ps : List Run} (h : PO v s f l m ps) : 1 ≤ m := by
  cases h with
  | last _ _ _ _ h1 => exact h1
  | more _ _ _ _ h0 h1 _ => omega
/-- the pieces' seats together -/
theorem PO.many {v : Vn} {s : Int} {f : List Bool} {l : List Run} {m : Nat} {x : Run} {ps : List Run} (h : PO v s f l m (x :: ps)) : inRun v f s x.first x.many ∧ plE v (x.first : Nat) = 0 ∧ (plX v (x.first : Nat)).row = x.row ∧ 1 ≤ x.many ∧ x.many ≤ m ∧ ((ps = [] ∧ x.many = m) ∨ (l[lg l l.length]? = some x ∧ x.many < m ∧ PO v s (off f x.first x.many) (l.eraseIdx (lg l l.length)) (m - x.many) ps)) := by
  cases h with
  | last h1 h2 h3 h4 h5 => exact ⟨h1, h2, h3, by omega, by omega, .inl ⟨rfl, h4⟩⟩
  | more h1 h2 h3 h4 h5 h6 h7 => exact ⟨h2, h3, h4, h5, by omega, .inr ⟨h1, h6, h7⟩⟩
theorem lg_max (l : List Run) : ∀ (i j : Nat), j < i → mny l j ≤ mny l (lg l i)
  | 0, j, h => by omega
  | i + 1, j, h => by
    unfold lg
    by_cases hj : j = i
    · subst hj
      split <;> omega
    · have := lg_max l i j (by omega)
      split <;> omega
def mv (l : List Run) : List Nat := l.map Run.many
theorem mv_get {l : List Run} {i : Nat} {r : Run} (h : l[i]? = some r) : (mv l)[i]? = some r.many := by simp [mv, h]
theorem perm_idx {α : Type} {l : List α} {i : Nat} {x : α} (h : l[i]? = some x) : l.Perm (x :: l.eraseIdx i) := by
  have hi := (List.getElem?_eq_some_iff.1 h).1
  have hs : l = l.take i ++ x :: l.drop (i + 1) := by
    rw [List.getElem?_eq_getElem hi] at h
    conv => lhs; rw [← List.take_append_drop i l, List.drop_eq_getElem_cons hi, Option.some.inj h]
  rw [List.eraseIdx_eq_take_drop_succ]
  conv => lhs; rw [hs]
  exact List.perm_middle
theorem perm_set {α : Type} {l : List α} {i : Nat} (hi : i < l.length) (y : α) : (l.set i y).Perm (y :: l.eraseIdx i) := by
  have h := perm_idx (l := l.set i y) (i := i) (x := y) (by rw [List.getElem?_set, if_pos rfl, if_pos hi])
  rwa [List.eraseIdx_set_eq] at h
/-- the longest run of those that are left, and of those of which some have no seats any more -/
theorem most_at {Z E : List Run} {k : Nat} (hp : (mv Z).Perm (mv E ++ List.replicate k 0)) {r z : Run} (hr : E[lg E E.length]? = some r) (hz : Z[lg Z Z.length]? = some z) : z.many = r.many := by
  have h1 : r.many ∈ mv Z := hp.mem_iff.2 (List.mem_append_left _ (List.mem_of_getElem? (mv_get hr)))
  have h2 : z.many ∈ mv E ++ List.replicate k 0 := hp.mem_iff.1 (List.mem_of_getElem? (mv_get hz))
  have h3 : r.many ≤ z.many := by
    obtain ⟨x, hx, e⟩ := List.mem_map.1 h1
    obtain ⟨j, hj⟩ := List.getElem?_of_mem hx
    have := lg_max Z Z.length j (List.getElem?_eq_some_iff.1 hj).1
    rw [mny_at hj, mny_at hz] at this
    omega
  have h4 : z.many ≤ r.many := by
    rcases List.mem_append.1 h2 with h2 | h2
    · obtain ⟨x, hx, e⟩ := List.mem_map.1 h2
      obtain ⟨j, hj⟩ := List.getElem?_of_mem hx
      have := lg_max E E.length j (List.getElem?_eq_some_iff.1 hj).1
      rw [mny_at hj, mny_at hr] at this
      omega
    · have := (List.mem_replicate.1 h2).2
      omega
  omega
theorem most_next {Z E : List Run} {k i p : Nat} (hp : (mv Z).Perm (mv E ++ List.replicate k 0)) {r z : Run} (hr : E[p]? = some r) (hz : Z[i]? = some z) (he : z.many = r.many) : (mv (Z.set i ⟨z.row, z.first, 0⟩)).Perm (mv (E.eraseIdx p) ++ List.replicate (k + 1) 0) := by
  have hi := (List.getElem?_eq_some_iff.1 hz).1
  have e1 : mv (Z.set i ⟨z.row, z.first, 0⟩) = (mv Z).set i 0 := by simp [mv, List.map_set]
  have e2 : mv (E.eraseIdx p) = (mv E).eraseIdx p := by
    unfold mv
    rw [List.eraseIdx_eq_take_drop_succ, List.eraseIdx_eq_take_drop_succ]
    simp [List.map_take, List.map_drop]
  have h1 := perm_idx (mv_get hz)
  have h2 := perm_idx (mv_get hr)
  rw [he] at h1
  have h3 : (r.many :: (mv Z).eraseIdx i).Perm (r.many :: ((mv E).eraseIdx p ++ List.replicate k 0)) := h1.symm.trans (hp.trans (h2.append_right _))
  have h4 := (List.perm_cons r.many).1 h3
  rw [e1, e2, List.replicate_succ]
  exact (perm_set (by simpa [mv] using hi) 0).trans ((h4.cons 0).trans List.perm_middle.symm)
theorem lg_step {l : List Run} {i : Nat} {y r : Run} (hy : l[lg l i]? = some y) (hr : l[i]? = some r) : lg l (i + 1) = if y.many < r.many then i else lg l i := by rw [lg, mny_at hr, mny_at hy]
end Go.Proofs.YtkhinagagncblaaDoor
