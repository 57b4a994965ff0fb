/- General: a slice whose elements are flat, of however many cells. -/
import Derived.Test.YtkhinagagncblaaDoorFlat
import Derived.Test.YtkhinagagncblaaDoorBase
namespace Go.Gr
open Go.RowKit
set_option linter.unusedVariables false
section
variable {P : Program} {w w' : World}
/-- the slice that begins at A holds these rows of k cells each -/
def RdM (w : World) (A : Option Addr) (k : Nat) (rows : List (List Value)) : Prop :=
  ∀ (i : Nat) r, rows[i]? = some r → ∃ ad, A = some ad ∧ ∀ (j : Nat) u, r[j]? = some u → w.cell? (ad.add (i * k + j)) = some u
theorem RdM.ext {A : Option Addr} {k : Nat} {rows : List (List Value)} (h : RdM w A k rows) (x : Ext w w') : RdM w' A k rows := fun i r hr => by
  obtain ⟨ad, e, hc⟩ := h i r hr
  refine ⟨ad, e, fun j u hu => ?_⟩
  have := hc j u hu
  exact (Below.cell x (cell_lt this)).trans this
theorem RdM.at_ {A : Option Addr} {k : Nat} {rows : List (List Value)} (h : RdM w A k rows) (hne : ∀ r ∈ rows, 0 < r.length) {i : Nat} {r : List Value} (hr : rows[i]? = some r) :
    ∃ b off, A = some ⟨b, off, none⟩ ∧ ∀ (j : Nat) u, r[j]? = some u → w.cell? ⟨b, off + i * k + j, none⟩ = some u := by
  obtain ⟨⟨b, off, spot⟩, rfl, hc⟩ := h i r hr
  have hs : spot = none := by
    have hi : i < rows.length := by
      rcases Nat.lt_or_ge i rows.length with h3 | h3
      · exact h3
      · rw [List.getElem?_eq_none h3] at hr; cases hr
    have h0 : rows[0]? = some rows[0] := List.getElem?_eq_getElem (by omega)
    obtain ⟨ad', e, hc'⟩ := h 0 _ h0
    cases e
    have h1 := hc' 0 _ (List.getElem?_eq_getElem (hne _ (List.getElem_mem _)))
    have h2 := World.cell?_spot h1
    simpa [Addr.add] using h2
  subst hs
  refine ⟨b, off, rfl, fun j u hu => ?_⟩
  have := hc j u hu
  rw [Go.WideShapes.add_plain, ← Nat.add_assoc] at this
  exact this
theorem lvs_pos {L : List Lf} {rows : List (List Value)} (h : ∀ r ∈ rows, Lvs P w L r) (h0 : 0 < L.length) : ∀ r ∈ rows, 0 < r.length := fun r hr => by rw [(h r hr).len]; exact h0
theorem slice_lvs {e : TypeId} {v : Value} {L : List Lf} (n : Nat) (hf : flat P n e = some L) (hc : P.cellsOf e = L.length) (h : LfOk P w (.slice e) v) :
    ∃ (A : Option Addr) (rows : List (List Value)) (c : Nat), v = .slice A rows.length c ∧ RdM w A L.length rows ∧ (∀ r ∈ rows, Lvs P w L r) ∧ rows.length ≤ c ∧ c ≤ maxLen := by
  rcases h with rfl | ⟨a, len, cap, rfl, hl, hm, hi⟩
  · exact ⟨none, [], 0, rfl, fun i r h => by simp at h, fun x h => (by cases h), Nat.le_refl _, Nat.zero_le _⟩
  · have key : ∀ i, i < len → ∃ cs : List Value, Lvs P w L cs ∧ ∀ (j : Nat) u, cs[j]? = some u → w.cell? (a.add (i * L.length + j)) = some u := fun i hlt => by
      obtain ⟨cs, h1, h2, h3⟩ := hi i hlt
      rw [hc] at h1 h3
      refine ⟨cs, flat_ok n e L hf cs h2, fun j u hu => ?_⟩
      have hj : j < L.length := by
        rcases Nat.lt_or_ge j L.length with h | h
        · exact h
        · rw [List.getElem?_eq_none (by omega)] at hu; cases hu
      exact (h3 j hj).trans hu
    have hex : ∃ f : Nat → List Value, ∀ i, i < len → Lvs P w L (f i) ∧ ∀ (j : Nat) u, (f i)[j]? = some u → w.cell? (a.add (i * L.length + j)) = some u :=
      ⟨fun i => if h : i < len then (key i h).choose else [], fun i h => by simp only [dif_pos h]; exact (key i h).choose_spec⟩
    obtain ⟨f, hf'⟩ := hex
    refine ⟨some a, (List.range len).map f, cap, by simp, fun i r hr => ?_, fun r hr => ?_, by simpa using hl, hm⟩
    · rw [List.getElem?_map] at hr
      rcases Nat.lt_or_ge i len with hj | hj
      · rw [List.getElem?_range hj] at hr
        simp only [Option.map_some, Option.some.injEq] at hr
        subst hr
        exact ⟨a, rfl, (hf' i hj).2⟩
      · rw [List.getElem?_eq_none (by simpa using hj)] at hr; cases hr
    · obtain ⟨i, hi', rfl⟩ := List.mem_map.1 hr
      exact (hf' i (by simpa using hi')).1
/-- elements of one cell -/
theorem slice_lf {e : TypeId} {v : Value} {l : Lf} (n : Nat) (hf : flat P n e = some [l]) (hc : P.cellsOf e = 1) (h : LfOk P w (.slice e) v) :
    ∃ (A : Option Addr) (xs : List Value) (c : Nat), v = .slice A xs.length c ∧ Rd w A xs ∧ (∀ x ∈ xs, LfOk P w l x) ∧ xs.length ≤ c ∧ c ≤ maxLen := by
  obtain ⟨A, rows, c, rfl, h1, h2, h3, h4⟩ := slice_lvs n hf (by simpa using hc) h
  have hone : ∀ r ∈ rows, ∃ x, r = [x] ∧ LfOk P w l x := fun r hr => by
    obtain ⟨x, U, rfl, hx, hU⟩ := (h2 r hr).cons
    exact ⟨x, by rw [Lvs.nil_ hU], hx⟩
  refine ⟨A, rows.map fun r => r.headD undef, c, by simp, fun j u hu => ?_, fun x hx => ?_, by simpa using h3, h4⟩
  · rw [List.getElem?_map] at hu
    cases hr : rows[j]? with
    | none => rw [hr] at hu; cases hu
    | some r =>
      rw [hr] at hu
      obtain ⟨x, rfl, _⟩ := hone r (List.mem_of_getElem? hr)
      obtain ⟨ad, e, hc'⟩ := h1 j _ hr
      refine ⟨ad, e, ?_⟩
      have := hc' 0 x rfl
      simp at hu
      subst hu
      simpa using this
  · obtain ⟨r, hr, rfl⟩ := List.mem_map.1 hx
    obtain ⟨x, rfl, hx2⟩ := hone r hr
    exact hx2
theorem LfOk.ext {l : Lf} {v : Value} {e : TypeId} (A : Option Addr) (xs : List Value) (h : Rd w A xs) (k : Ext w w') : Rd w' A xs := h.ext k
end
end Go.Gr
