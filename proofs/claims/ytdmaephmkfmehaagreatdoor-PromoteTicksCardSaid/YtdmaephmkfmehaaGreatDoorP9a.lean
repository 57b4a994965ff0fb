/- Promote: holds that end: the plain part of the law PromoteTicks. -/
import Derived.Test.YtdmaephmkfmehaaGreatDoorP7
namespace Go.Pm
set_option linter.unusedVariables false
open Go.Wl Go.Ad Go.Gr Go.Hp Go.Proofs.YtdmaephmkfmehaaGreatDoor
theorem endE_zero {v : Vn} {rows : List (List Int)} {held : List Ho} {now : Int} (h : endE v rows held now = 0) : opE v rows now = 0 ∧ HoldOk (sumS v.secs : Nat) held := by
  have h0 : opE v rows now = 0 := by
    by_cases e : opE v rows now = 0
    · exact e
    · rw [endE_open e] at h; exact absurd h e
  rw [endE_go h0] at h
  exact ⟨h0, ldE_zero h⟩
theorem due_sub {now : Int} {held out : List Ho} (h : IsDue now held out) : ∀ x ∈ out, x ∈ held := fun x hx => ((isDue_mem h x).1 hx).1
theorem due_nodup {now : Int} {held out : List Ho} (h : IsDue now held out) (hn : (held.map Ho.s).Nodup) : (out.map Ho.s).Nodup := by
  obtain ⟨rest, hp, -⟩ := h
  have h1 := (hp.map Ho.s).nodup_iff.2 hn
  rw [List.map_append] at h1
  exact (List.nodup_append.1 h1).1
theorem just_ends {v : Vn} {rows : List (List Int)} {held out : List Ho} {now : Int} (h : endE v rows held now = 0) (ho : IsDue now held out) : JustP v (addT now v.ttl) rows (out.map Ho.s) (offO v (addT now v.ttl) (loadS (qs v) rows) (out.map Ho.s)) := by
  obtain ⟨h1, h2⟩ := endE_zero h
  obtain ⟨h3, h4, h5⟩ := opE_zero h1
  refine just_p h3 h4 (fun x hx => ?_) (due_nodup ho h2.nd)
  obtain ⟨y, hy, rfl⟩ := List.mem_map.1 hx
  exact (plE_iff h3 y.s).2 (h2.s0 y (due_sub ho y hy))
theorem endA_good {v : Vn} {rows : List (List Int)} {held out : List Ho} {now : Int} (h : endE v rows held now = 0) : endA (endE v rows held now) v rows now out = ⟨out, (offO v (addT now v.ttl) (loadS (qs v) rows) (out.map Ho.s)).gr, rowsS (offO v (addT now v.ttl) (loadS (qs v) rows) (out.map Ho.s)).S, (offO v (addT now v.ttl) (loadS (qs v) rows) (out.map Ho.s)).fr⟩ := by unfold endA; rw [if_pos h]
/-- how many of the first ones have ended -/
def ended (now : Int) (l : List Ho) : Nat := (l.filter fun x => decide (x.d ≤ now)).length
theorem ended_due {now : Int} {held out : List Ho} (h : IsDue now held out) : ended now held = out.length := by
  obtain ⟨rest, hp, h1, h2, -⟩ := h
  unfold ended
  rw [← (hp.filter _).length_eq, List.filter_append, List.filter_eq_self.2 (fun x hx => by simpa using h1 x hx), List.filter_eq_nil_iff.2 (fun x hx => by have := h2 x hx; simp; omega), List.append_nil]
theorem ended_le (now : Int) (l : List Ho) : ended now l ≤ l.length := List.length_filter_le _ _
theorem ended_next {now : Int} {l : List Ho} {i : Nat} {x : Ho} (hx : l[i]? = some x) : ended now (l.take (i + 1)) = if x.d ≤ now then ended now (l.take i) + 1 else ended now (l.take i) := by
  unfold ended
  rw [List.take_add_one, hx, List.filter_append, List.length_append]
  by_cases h : x.d ≤ now
  · rw [if_pos h]; simp [h]
  · rw [if_neg h]; simp [h]
/-- two that stand next to each other -/
theorem due_next {now : Int} {held out : List Ho} (h : IsDue now held out) {i : Nat} {a b : Ho} (ha : out[i]? = some a) (hb : out[i + 1]? = some b) : hoLt a b := by
  obtain ⟨rest, -, -, -, hs⟩ := h
  obtain ⟨hi, rfl⟩ := List.getElem?_eq_some_iff.1 ha
  obtain ⟨hj, rfl⟩ := List.getElem?_eq_some_iff.1 hb
  exact List.pairwise_iff_getElem.1 hs i (i + 1) hi hj (Nat.lt_succ_self i)
theorem step_dl {v : Vn} {dl : Int} {R : Rs} (x : Int) (h : ∀ g ∈ R.gr, g.dl = dl) : ∀ g ∈ (stepO v dl R x).gr, g.dl = dl := by
  unfold stepO
  split
  · intro g hg
    rcases List.mem_append.1 hg with h1 | h1
    · exact h g h1
    · rw [List.mem_singleton] at h1; subst h1; rfl
  · exact h
theorem off_dl (v : Vn) (dl : Int) (S : St) (l : List Int) : ∀ g ∈ (offO v dl S l).gr, g.dl = dl := by
  have : ∀ (l : List Int) (R : Rs), (∀ g ∈ R.gr, g.dl = dl) → ∀ g ∈ (l.foldl (stepO v dl) R).gr, g.dl = dl := by
    intro l
    induction l with
    | nil => intro R h; exact h
    | cons x l ih => intro R h; exact ih _ (step_dl x h)
  exact this l ⟨[], S, []⟩ (fun g hg => by cases hg)
end Go.Pm
