/- Texts put together: N0 N3. -/
import Derived.Test.YtamlngdjbmndlaaDoorI10
namespace Go.Proofs.YtamlngdjbmndlaaDoor
open Go.RowKit Go.Gr
set_option linter.unusedVariables false
set_option linter.unusedSimpArgs false
/-- the ticket of a blob that opens -/
def opn (key b : List Int) : Option Tk := if opTE key b = 0 then some (opTV key b) else none
def opns (key : List Int) (bs : List (List Int)) : List (Option Tk) := bs.map (opn key)
theorem opns_len (key : List Int) (bs : List (List Int)) : (opns key bs).length = bs.length := by simp [opns]
theorem opns_get {key : List Int} {bs : List (List Int)} {i : Nat} {b : List Int} (h : bs[i]? = some b) : (opns key bs)[i]? = some (opn key b) := by simp [opns, h]
/-- t is issued behind u -/
def later (t u : Tk) : Prop := u.2.2.2 < t.2.2.2 ∨ (t.2.2.2 = u.2.2.2 ∧ (u.2.2.1 < t.2.2.1 ∨ (t.2.2.1 = u.2.2.1 ∧ u.2.1 < t.2.1)))
def alike (t u : Tk) : Prop := t.2.2.2 = u.2.2.2 ∧ t.2.2.1 = u.2.2.1 ∧ t.2.1 = u.2.1
theorem cmpT_cases {t u : Tk} (h : t.1 = u.1) : (later t u ∧ cmpT t u = 1) ∨ (later u t ∧ cmpT t u = -1) ∨ (alike t u ∧ cmpT t u = 0) := by
  unfold cmpT later alike
  rw [if_neg (by simpa using h)]
  rcases ordI_cases t.2.2.2 u.2.2.2 with ⟨h1, e1⟩ | ⟨h1, e1⟩ | ⟨h1, e1⟩
  · rw [if_pos (by omega), e1]; exact .inr (.inl ⟨by omega, rfl⟩)
  · rw [if_pos (by omega), e1]; exact .inl ⟨by omega, rfl⟩
  rw [if_neg (by omega)]
  rcases ordI_cases t.2.2.1 u.2.2.1 with ⟨h2, e2⟩ | ⟨h2, e2⟩ | ⟨h2, e2⟩
  · rw [if_pos (by omega), e2]; exact .inr (.inl ⟨by omega, rfl⟩)
  · rw [if_pos (by omega), e2]; exact .inl ⟨by omega, rfl⟩
  rw [if_neg (by omega)]
  rcases ordI_cases t.2.1 u.2.1 with ⟨h3, e3⟩ | ⟨h3, e3⟩ | ⟨h3, e3⟩
  · rw [e3]; exact .inr (.inl ⟨by omega, rfl⟩)
  · rw [e3]; exact .inl ⟨by omega, rfl⟩
  · rw [e3]; exact .inr (.inr ⟨by omega, rfl⟩)
/-- t at place j stands ahead of u at place k -/
def Beats (t : Tk) (j : Nat) (u : Tk) (k : Nat) : Prop := 0 < cmpT t u ∨ (cmpT t u = 0 ∧ j ≤ k)
/-- place j holds the newest of its seat -/
def win (l : List (Option Tk)) (j : Nat) : Prop := ∃ t, l[j]? = some (some t) ∧ ∀ k u, l[k]? = some (some u) → u.1 = t.1 → Beats t j u k
/-- the places of the newest -/
noncomputable def newL (l : List (Option Tk)) : List Nat := (List.range l.length).filter fun j => @decide (win l j) (Classical.propDecidable _)
theorem newL_mem {l : List (Option Tk)} {j : Nat} : j ∈ newL l ↔ win l j := by
  unfold newL
  rw [List.mem_filter, List.mem_range, @decide_eq_true_iff _ (Classical.propDecidable _)]
  refine ⟨fun h => h.2, fun h => ⟨?_, h⟩⟩
  obtain ⟨t, ht, _⟩ := h
  exact (List.getElem?_eq_some_iff.1 ht).1
theorem newL_sorted (l : List (Option Tk)) : (newL l).Pairwise (· < ·) := List.Pairwise.filter _ List.pairwise_lt_range
/-- what is known of the best behind i blobs -/
def Inv (f : Int → Option Nat) (l : List (Option Tk)) (i : Nat) : Prop :=
  (∀ s, f s = none → ∀ k u, k < i → l[k]? = some (some u) → u.1 ≠ s) ∧
  (∀ s j, f s = some j → j < i ∧ ∃ t, l[j]? = some (some t) ∧ t.1 = s ∧ ∀ k u, k < i → l[k]? = some (some u) → u.1 = s → Beats t j u k)
def upd (f : Int → Option Nat) (s : Int) (i : Nat) : Int → Option Nat := fun x => if x = s then some i else f x
theorem inv_zero (l : List (Option Tk)) : Inv (fun _ => none) l 0 := ⟨fun s _ k u hk => by omega, fun s j h => by cases h⟩
theorem inv_skip {f : Int → Option Nat} {l : List (Option Tk)} {i : Nat} (h : Inv f l i) (hl : l[i]? = some none) : Inv f l (i + 1) := by
  refine ⟨fun s hs k u hk hu => ?_, fun s j hs => ?_⟩
  · rcases Nat.lt_or_ge k i with h1 | h1
    · exact h.1 s hs k u h1 hu
    · obtain rfl : k = i := by omega
      rw [hl] at hu; cases hu
  · obtain ⟨h1, t, h2, h3, h4⟩ := h.2 s j hs
    refine ⟨by omega, t, h2, h3, fun k u hk hu hus => ?_⟩
    rcases Nat.lt_or_ge k i with h5 | h5
    · exact h4 k u h5 hu hus
    · obtain rfl : k = i := by omega
      rw [hl] at hu; cases hu
theorem inv_first {f : Int → Option Nat} {l : List (Option Tk)} {i : Nat} {t : Tk} (h : Inv f l i) (hl : l[i]? = some (some t)) (hf : f t.1 = none) : Inv (upd f t.1 i) l (i + 1) := by
  refine ⟨fun s hs k u hk hu => ?_, fun s j hs => ?_⟩
  · unfold upd at hs
    split at hs
    · cases hs
    · rename_i hne
      rcases Nat.lt_or_ge k i with h1 | h1
      · exact h.1 s hs k u h1 hu
      · obtain rfl : k = i := by omega
        rw [hl] at hu; cases hu
        exact fun e => hne e.symm
  · unfold upd at hs
    split at hs
    · rename_i he
      cases hs
      refine ⟨by omega, t, hl, he.symm, fun k u hk hu hus => ?_⟩
      rcases Nat.lt_or_ge k i with h1 | h1
      · exact absurd (hus.trans he) (h.1 t.1 hf k u h1 hu)
      · obtain rfl : k = i := by omega
        rw [hl] at hu; cases hu
        rcases cmpT_cases (t := t) (u := t) rfl with ⟨a, _⟩ | ⟨a, _⟩ | ⟨_, a⟩
        · unfold later at a; omega
        · unfold later at a; omega
        · exact .inr ⟨a, Nat.le_refl _⟩
    · rename_i hne
      obtain ⟨h1, t', h2, h3, h4⟩ := h.2 s j hs
      refine ⟨by omega, t', h2, h3, fun k u hk hu hus => ?_⟩
      rcases Nat.lt_or_ge k i with h5 | h5
      · exact h4 k u h5 hu hus
      · obtain rfl : k = i := by omega
        rw [hl] at hu; cases hu
        exact absurd hus.symm hne
theorem inv_keep {f : Int → Option Nat} {l : List (Option Tk)} {i j : Nat} {t u : Tk} (h : Inv f l i) (hl : l[i]? = some (some t)) (hf : f t.1 = some j) (hj : l[j]? = some (some u)) (hc : ¬ 0 < cmpT t u) : Inv f l (i + 1) := by
  refine ⟨fun s hs k v hk hv => ?_, fun s m hs => ?_⟩
  · rcases Nat.lt_or_ge k i with h1 | h1
    · exact h.1 s hs k v h1 hv
    · obtain rfl : k = i := by omega
      rw [hl] at hv; cases hv
      intro e
      rw [e, hs] at hf; cases hf
  · obtain ⟨h1, t', h2, h3, h4⟩ := h.2 s m hs
    refine ⟨by omega, t', h2, h3, fun k v hk hv hvs => ?_⟩
    rcases Nat.lt_or_ge k i with h5 | h5
    · exact h4 k v h5 hv hvs
    · obtain rfl : k = i := by omega
      rw [hl] at hv; cases hv
      rw [hvs, hs] at hf
      cases hf
      rw [h2] at hj; cases hj
      have e1 : t.1 = u.1 := hvs.trans h3.symm
      rcases cmpT_cases e1 with ⟨a, b⟩ | ⟨a, b⟩ | ⟨a, b⟩
      · omega
      · rcases cmpT_cases e1.symm with ⟨a', b'⟩ | ⟨a', b'⟩ | ⟨a', b'⟩
        · exact .inl (by omega)
        · unfold later at a a'; omega
        · unfold later at a; unfold alike at a'; omega
      · rcases cmpT_cases e1.symm with ⟨a', b'⟩ | ⟨a', b'⟩ | ⟨a', b'⟩
        · exact .inl (by omega)
        · unfold alike at a; unfold later at a'; omega
        · exact .inr ⟨b', by omega⟩
theorem inv_turn {f : Int → Option Nat} {l : List (Option Tk)} {i j : Nat} {t u : Tk} (h : Inv f l i) (hl : l[i]? = some (some t)) (hf : f t.1 = some j) (hj : l[j]? = some (some u)) (hc : 0 < cmpT t u) : Inv (upd f t.1 i) l (i + 1) := by
  refine ⟨fun s hs k v hk hv => ?_, fun s m hs => ?_⟩
  · unfold upd at hs
    split at hs
    · cases hs
    · rename_i hne
      rcases Nat.lt_or_ge k i with h1 | h1
      · exact h.1 s hs k v h1 hv
      · obtain rfl : k = i := by omega
        rw [hl] at hv; cases hv
        exact fun e => hne e.symm
  · unfold upd at hs
    split at hs
    · rename_i he
      cases hs
      refine ⟨by omega, t, hl, he.symm, fun k v hk hv hvs => ?_⟩
      rcases Nat.lt_or_ge k i with h1 | h1
      · obtain ⟨_, t', h2, h3, h4⟩ := h.2 _ j hf
        rw [h2] at hj; cases hj
        have hb := h4 k v h1 hv (hvs.trans he)
        have e1 : t.1 = u.1 := h3.symm
        have e2 : u.1 = v.1 := h3.trans (hvs.trans he).symm
        have e3 : t.1 = v.1 := e1.trans e2
        rcases cmpT_cases e1 with ⟨a, b⟩ | ⟨a, b⟩ | ⟨a, b⟩ <;> try (exfalso; omega)
        rcases cmpT_cases e3 with ⟨a', b'⟩ | ⟨a', b'⟩ | ⟨a', b'⟩
        · exact .inl (by omega)
        · exfalso
          rcases cmpT_cases e2 with ⟨c, d⟩ | ⟨c, d⟩ | ⟨c, d⟩
          · unfold later at a a' c; omega
          · rcases hb with hb | hb <;> omega
          · unfold later at a a'; unfold alike at c; omega
        · exfalso
          rcases cmpT_cases e2 with ⟨c, d⟩ | ⟨c, d⟩ | ⟨c, d⟩
          · unfold later at a c; unfold alike at a'; omega
          · rcases hb with hb | hb <;> omega
          · unfold later at a; unfold alike at a' c; omega
      · obtain rfl : k = i := by omega
        rw [hl] at hv; cases hv
        rcases cmpT_cases (t := t) (u := t) rfl with ⟨a, _⟩ | ⟨a, _⟩ | ⟨_, a⟩
        · unfold later at a; omega
        · unfold later at a; omega
        · exact .inr ⟨a, Nat.le_refl _⟩
    · rename_i hne
      obtain ⟨h1, t', h2, h3, h4⟩ := h.2 s m hs
      refine ⟨by omega, t', h2, h3, fun k v hk hv hvs => ?_⟩
      rcases Nat.lt_or_ge k i with h5 | h5
      · exact h4 k v h5 hv hvs
      · obtain rfl : k = i := by omega
        rw [hl] at hv; cases hv
        exact absurd hvs.symm hne
theorem inv_end {f : Int → Option Nat} {l : List (Option Tk)} (h : Inv f l l.length) (j : Nat) : win l j ↔ ∃ s, f s = some j := by
  have hlt : ∀ {k : Nat} {u : Option Tk}, l[k]? = some u → k < l.length := fun h => (List.getElem?_eq_some_iff.1 h).1
  constructor
  · rintro ⟨t, ht, hw⟩
    refine ⟨t.1, ?_⟩
    rcases hf : f t.1 with _ | m
    · exact absurd rfl (h.1 t.1 hf j t (hlt ht) ht)
    · obtain ⟨_, t', h2, h3, h4⟩ := h.2 _ m hf
      have a := hw m t' h2 h3
      have b := h4 j t (hlt ht) ht rfl
      have c : j = m := by
        rcases cmpT_cases (t := t) (u := t') h3.symm with ⟨x, y⟩ | ⟨x, y⟩ | ⟨x, y⟩
        · rcases cmpT_cases (t := t') (u := t) h3 with ⟨x', y'⟩ | ⟨x', y'⟩ | ⟨x', y'⟩
          · unfold later at x x'; omega
          · rcases b with b | b <;> omega
          · unfold later at x; unfold alike at x'; omega
        · rcases a with a | a <;> omega
        · rcases cmpT_cases (t := t') (u := t) h3 with ⟨x', y'⟩ | ⟨x', y'⟩ | ⟨x', y'⟩
          · unfold later at x'; unfold alike at x; omega
          · rcases b with b | b <;> omega
          · rcases a with a | a
            · omega
            · rcases b with b | b
              · omega
              · omega
      rw [c]
  · rintro ⟨s, hs⟩
    obtain ⟨h1, t, h2, h3, h4⟩ := h.2 s j hs
    exact ⟨t, h2, fun k u hu hus => h4 k u (hlt hu) hu (hus.trans h3)⟩
theorem inv_inj {f : Int → Option Nat} {l : List (Option Tk)} {i : Nat} (h : Inv f l i) {s s' : Int} {j : Nat} (h1 : f s = some j) (h2 : f s' = some j) : s = s' := by
  obtain ⟨_, t, a, b, _⟩ := h.2 s j h1
  obtain ⟨_, t', a', b', _⟩ := h.2 s' j h2
  rw [a] at a'; cases a'
  exact b.symm.trans b'
/-- two lists that rise and hold the same are one -/
theorem sorted_one : ∀ {a b : List Nat}, a.Pairwise (· < ·) → b.Pairwise (· < ·) → (∀ x, x ∈ a ↔ x ∈ b) → a = b
  | [], [], _, _, _ => rfl
  | [], y :: b, _, _, h => absurd ((h y).2 (by simp)) (by simp)
  | x :: a, [], _, _, h => absurd ((h x).1 (by simp)) (by simp)
  | x :: a, y :: b, ha, hb, h => by
    obtain ⟨a1, a2⟩ := List.pairwise_cons.1 ha
    obtain ⟨b1, b2⟩ := List.pairwise_cons.1 hb
    have hxy : x = y := by
      rcases List.mem_cons.1 ((h x).1 (by simp)) with e | e
      · exact e
      · rcases List.mem_cons.1 ((h y).2 (by simp)) with e' | e'
        · exact e'.symm
        · have := a1 y e'; have := b1 x e; omega
    subst hxy
    rw [sorted_one a2 b2 (fun z => ?_)]
    constructor
    · intro hz
      rcases List.mem_cons.1 ((h z).1 (by simp [hz])) with e | e
      · have := a1 z hz; omega
      · exact e
    · intro hz
      rcases List.mem_cons.1 ((h z).2 (by simp [hz])) with e | e
      · have := b1 z hz; omega
      · exact e
/-- the numbers of a list, sorted -/
theorem sort_newL {vs : List Nat} {l : List (Option Tk)} (hd : vs.Nodup) (hm : ∀ j, j ∈ vs ↔ win l j) : (vs.map (fun n : Nat => (n : Int))).mergeSort (fun a b => decide (a ≤ b)) = (newL l).map (fun n : Nat => (n : Int)) := by
  have hp : (vs.mergeSort (fun a b => decide (a ≤ b))).Perm vs := List.mergeSort_perm _ _
  have hs : (vs.mergeSort (fun a b => decide (a ≤ b))).Pairwise (fun a b => (decide (a ≤ b)) = true) := List.pairwise_mergeSort (fun a b c h1 h2 => by simp at *; omega) (fun a b => by simp; omega) vs
  have hlt : (vs.mergeSort (fun a b => decide (a ≤ b))).Pairwise (· < ·) := by
    have hn : (vs.mergeSort (fun a b => decide (a ≤ b))).Nodup := hp.nodup_iff.2 hd
    exact List.Pairwise.imp₂ (fun a b h1 h2 => by have := of_decide_eq_true h1; have h2 : a ≠ b := h2; omega) hs hn
  have e : vs.mergeSort (fun a b => decide (a ≤ b)) = newL l := sorted_one hlt (newL_sorted l) (fun x => by rw [hp.mem_iff, hm, newL_mem])
  rw [← e, List.map_mergeSort]
  intro a _ b _
  simp
end Go.Proofs.YtamlngdjbmndlaaDoor
namespace Go.Proofs.YtamlngdjbmndlaaDoor
open Go.RowKit Go.Gr
set_option linter.unusedVariables false
set_option linter.unusedSimpArgs false
/-- those of the first i that open, with their places -/
def opsTo (l : List (Option Tk)) (i : Nat) : List (Tk × Nat) := (List.range i).filterMap fun k => match l[k]? with
  | some (some t) => some (t, k)
  | _ => none
theorem opsTo_zero (l : List (Option Tk)) : opsTo l 0 = [] := rfl
theorem opsTo_none {l : List (Option Tk)} {i : Nat} (h : l[i]? = some none) : opsTo l (i + 1) = opsTo l i := by
  unfold opsTo
  rw [List.range_succ, List.filterMap_append]
  simp [h]
theorem opsTo_some {l : List (Option Tk)} {i : Nat} {t : Tk} (h : l[i]? = some (some t)) : opsTo l (i + 1) = opsTo l i ++ [(t, i)] := by
  unfold opsTo
  rw [List.range_succ, List.filterMap_append]
  simp [h]
theorem opsTo_mem {l : List (Option Tk)} {i : Nat} {p : Tk × Nat} : p ∈ opsTo l i ↔ p.2 < i ∧ l[p.2]? = some (some p.1) := by
  unfold opsTo
  rw [List.mem_filterMap]
  constructor
  · rintro ⟨k, hk, h⟩
    rw [List.mem_range] at hk
    split at h
    · rename_i t ht
      cases h
      exact ⟨hk, ht⟩
    · cases h
  · rintro ⟨h1, h2⟩
    refine ⟨p.2, List.mem_range.2 h1, ?_⟩
    rw [h2]
theorem opsTo_len (l : List (Option Tk)) (i : Nat) : (opsTo l i).length ≤ i := by
  have := List.length_filterMap_le (fun k => match l[k]? with
    | some (some t) => some (t, k)
    | _ => none) (List.range i)
  rw [List.length_range] at this
  exact this
theorem opsTo_sorted (l : List (Option Tk)) : ∀ i, (opsTo l i).Pairwise fun a b => a.2 < b.2
  | 0 => List.Pairwise.nil
  | i + 1 => by
    rcases h : l[i]? with _ | (_ | t)
    · have : opsTo l (i + 1) = opsTo l i := by
        unfold opsTo
        rw [List.range_succ, List.filterMap_append]
        simp [h]
      rw [this]; exact opsTo_sorted l i
    · rw [opsTo_none h]; exact opsTo_sorted l i
    · rw [opsTo_some h, List.pairwise_append]
      refine ⟨opsTo_sorted l i, by simp, fun a ha b hb => ?_⟩
      rw [List.mem_singleton] at hb
      subst hb
      exact (opsTo_mem.1 ha).1
/-- p is not the newest, for q stands against it -/
def loB (p q : Tk × Nat) : Bool := decide (p.1.1 = q.1.1) && (decide (cmpT p.1 q.1 < 0) || (decide (cmpT p.1 q.1 = 0) && decide (q.2 < p.2)))
def nwB (Q : List (Tk × Nat)) (p : Tk × Nat) : Bool := Q.all fun q => !loB p q
theorem nwB_nil (p : Tk × Nat) : nwB [] p = true := rfl
theorem nwB_step {P : List (Tk × Nat)} {i : Nat} {q : Tk × Nat} (h : P[i]? = some q) (p : Tk × Nat) : nwB (P.take (i + 1)) p = (nwB (P.take i) p && !loB p q) := by
  unfold nwB
  rw [List.take_add_one, h]
  simp
/-- the newest among the first k -/
def outTo (P : List (Tk × Nat)) (k : Nat) : List Nat := ((P.take k).filter (nwB P)).map (·.2)
theorem outTo_zero (P : List (Tk × Nat)) : outTo P 0 = [] := rfl
theorem outTo_yes {P : List (Tk × Nat)} {k : Nat} {p : Tk × Nat} (h : P[k]? = some p) (hn : nwB P p = true) : outTo P (k + 1) = outTo P k ++ [p.2] := by
  unfold outTo
  rw [List.take_add_one, h]
  simp [hn]
theorem outTo_no {P : List (Tk × Nat)} {k : Nat} {p : Tk × Nat} (h : P[k]? = some p) (hn : nwB P p = false) : outTo P (k + 1) = outTo P k := by
  unfold outTo
  rw [List.take_add_one, h]
  simp [hn]
theorem outTo_len (P : List (Tk × Nat)) (k : Nat) : (outTo P k).length ≤ k := by
  unfold outTo
  rw [List.length_map]
  exact Nat.le_trans (List.length_filter_le _ _) (by rw [List.length_take]; omega)
theorem sorted_at {P : List (Tk × Nat)} (h : P.Pairwise fun a b => a.2 < b.2) {i k : Nat} {p q : Tk × Nat} (hk : P[k]? = some p) (hi : P[i]? = some q) : i < k ↔ q.2 < p.2 := by
  rw [List.pairwise_iff_getElem] at h
  obtain ⟨hk1, rfl⟩ := List.getElem?_eq_some_iff.1 hk
  obtain ⟨hi1, rfl⟩ := List.getElem?_eq_some_iff.1 hi
  constructor
  · intro hlt; exact h i k hi1 hk1 hlt
  · intro hlt
    rcases Nat.lt_trichotomy i k with e | e | e
    · exact e
    · subst e; omega
    · have := h k i hk1 hi1 e; omega
theorem outTo_end (l : List (Option Tk)) : outTo (opsTo l l.length) (opsTo l l.length).length = newL l := by
  have hs := opsTo_sorted l l.length
  refine sorted_one ?_ (newL_sorted l) (fun x => ?_)
  · unfold outTo
    rw [List.take_length, List.pairwise_map]
    exact hs.filter _
  · rw [newL_mem]
    unfold outTo
    rw [List.take_length, List.mem_map]
    constructor
    · rintro ⟨p, hp, rfl⟩
      obtain ⟨hp1, hp2⟩ := List.mem_filter.1 hp
      obtain ⟨h1, h2⟩ := opsTo_mem.1 hp1
      refine ⟨p.1, h2, fun k u hu hus => ?_⟩
      have hq : (u, k) ∈ opsTo l l.length := opsTo_mem.2 ⟨(List.getElem?_eq_some_iff.1 hu).1, hu⟩
      have := List.all_eq_true.1 hp2 _ hq
      unfold loB at this
      simp only [hus.symm, decide_true, Bool.true_and, Bool.not_eq_true', Bool.or_eq_false_iff, Bool.and_eq_false_iff, decide_eq_false_iff_not] at this
      unfold Beats
      omega
    · rintro ⟨t, ht, hw⟩
      have hp : (t, x) ∈ opsTo l l.length := opsTo_mem.2 ⟨(List.getElem?_eq_some_iff.1 ht).1, ht⟩
      refine ⟨(t, x), List.mem_filter.2 ⟨hp, ?_⟩, rfl⟩
      unfold nwB
      rw [List.all_eq_true]
      intro q hq
      obtain ⟨h1, h2⟩ := opsTo_mem.1 hq
      unfold loB
      by_cases he : t.1 = q.1.1
      · have := hw q.2 q.1 h2 he.symm
        unfold Beats at this
        simp only [he, decide_true, Bool.true_and, Bool.not_eq_true', Bool.or_eq_false_iff, Bool.and_eq_false_iff, decide_eq_false_iff_not]
        omega
      · simp [he]
end Go.Proofs.YtamlngdjbmndlaaDoor
