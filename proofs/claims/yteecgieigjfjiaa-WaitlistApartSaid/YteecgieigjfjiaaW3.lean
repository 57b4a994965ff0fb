/- Lists of waiters, in plain lists: places. -/
import Derived.Test.YteecgieigjfjiaaW1
namespace Go.Wl
set_option linter.unusedVariables false
set_option linter.unusedSimpArgs false
theorem idxOf_first : ∀ (l : List Int) (o : Int) (i : Nat), l[i]? = some o → (∀ j, j < i → l[j]? ≠ some o) → l.idxOf o = i
  | [], o, i, h, _ => by simp at h
  | x :: l, o, 0, h, _ => by
    simp only [List.getElem?_cons_zero, Option.some.injEq] at h
    subst h; simp
  | x :: l, o, i + 1, h, hb => by
    have hx : x ≠ o := fun e => hb 0 (by omega) (by simp [e])
    rw [List.idxOf_cons]
    have : (x == o) = false := by simpa using hx
    rw [this]
    simp only [cond_false]
    rw [idxOf_first l o i (by simpa using h) (fun j hj => by simpa using hb (j + 1) (by omega))]
theorem mem_of_get {l : List Int} {o : Int} {i : Nat} (h : l[i]? = some o) : o ∈ l := List.mem_of_getElem? h
theorem not_mem_all {l : List Int} {o : Int} (h : ∀ j, j < l.length → l[j]? ≠ some o) : o ∉ l := by
  intro hm
  obtain ⟨j, hj, e⟩ := List.getElem_of_mem hm
  exact h j hj (by rw [List.getElem?_eq_getElem hj, e])
theorem idxOf_lt {l : List Int} {o : Int} (h : o ∈ l) : l.idxOf o < l.length := List.idxOf_lt_length_iff.2 h
theorem get_idxOf {l : List Int} {o : Int} (h : o ∈ l) : l[l.idxOf o]? = some o := by
  rw [List.getElem?_eq_getElem (idxOf_lt h)]; simp
theorem nodup_get {l : List Int} (h : l.Nodup) {i j : Nat} {o : Int} (hi : l[i]? = some o) (hj : l[j]? = some o) : i = j := by
  obtain ⟨h1, e1⟩ := List.getElem?_eq_some_iff.1 hi
  obtain ⟨h2, e2⟩ := List.getElem?_eq_some_iff.1 hj
  have hn := List.pairwise_iff_getElem.1 h
  rcases Nat.lt_trichotomy i j with hlt | rfl | hlt
  · exact absurd (e1.trans e2.symm) (hn i j h1 h2 hlt)
  · rfl
  · exact absurd (e2.trans e1.symm) (hn j i h2 h1 hlt)
theorem idxOf_nodup {l : List Int} (h : l.Nodup) {i : Nat} {o : Int} (hi : l[i]? = some o) : l.idxOf o = i := nodup_get h (get_idxOf (mem_of_get hi)) hi
/-- who stays does not come later -/
theorem idxOf_erase {l : List Int} (h : l.Nodup) {i : Nat} {o : Int} (ho : o ∈ l.eraseIdx i) : (l.eraseIdx i).idxOf o ≤ l.idxOf o := by
  have hn : (l.eraseIdx i).Nodup := h.sublist (List.eraseIdx_sublist _ _)
  have hg := get_idxOf ho
  rw [List.getElem?_eraseIdx] at hg
  split at hg
  · rw [idxOf_nodup h hg]; exact Nat.le_refl _
  · rw [idxOf_nodup h hg]; omega
theorem idxOf_tail {l : List Int} (h : l.Nodup) {o : Int} (ho : o ∈ l.tail) : l.tail.idxOf o ≤ l.idxOf o := by
  rw [← List.eraseIdx_zero] at ho ⊢
  exact idxOf_erase h ho
theorem idxOf_app {l : List Int} {o x : Int} (ho : o ∈ l) : (l ++ [x]).idxOf o = l.idxOf o := by
  rw [List.idxOf_append, if_pos ho]
theorem erase_first {l : List Int} {o : Int} (h : o ∈ l) : l.eraseIdx (l.idxOf o) = l.take (l.idxOf o) ++ l.drop (l.idxOf o + 1) := List.eraseIdx_eq_take_drop_succ _ _
end Go.Wl
