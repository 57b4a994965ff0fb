/- Seats side by side: the arguments of the laws. -/
import Derived.Test.YtkhinagagncblaaDoorC2
import Derived.Test.YtkhinagagncblaaDoorC3
import Derived.Test.YtkhinagagncblaaDoorFlat
namespace Go.Proofs.YtkhinagagncblaaDoor
open Go.RowKit Go.Gr Go.Ad
set_option linter.unusedVariables false
set_option linter.unusedSimpArgs false
theorem exists_list {α β : Type} {p : α → β → Prop} : ∀ (rows : List β), (∀ r ∈ rows, ∃ x, p x r) → ∃ l : List α, l.length = rows.length ∧ ∀ i (h1 : i < l.length) (h2 : i < rows.length), p l[i] rows[i]
  | [], _ => ⟨[], rfl, fun i h1 => by simp at h1⟩
  | r :: rows, h => by
    obtain ⟨x, hx⟩ := h r (by simp)
    obtain ⟨l, hl, hp⟩ := exists_list rows (fun r hr => h r (by simp [hr]))
    refine ⟨x :: l, by simp [hl], fun i h1 h2 => ?_⟩
    cases i with
    | zero => exact hx
    | succ i => exact hp i (by simpa using h1) (by simpa using h2)
theorem ints_arg {w : World} {v : Value} (h : LfOk Tryd.prog w (.slice 3) v) : ∃ A l c, v = .slice A l.length c ∧ Rd w A (i64s l) ∧ l.length ≤ c ∧ c ≤ maxLen := by
  obtain ⟨A, l, c, rfl, h1, h2, h3, h4⟩ := slice_ints Tryd.underlying3 (by kernel_rfl) h
  exact ⟨A, l, c, rfl, h1, h3, h4⟩
theorem bools_arg {w : World} {v : Value} (h : LfOk Tryd.prog w (.slice 4) v) : ∃ F f d, v = .slice F f.length d ∧ Rd w F (bls f) ∧ f.length ≤ d ∧ d ≤ maxLen := by
  obtain ⟨A, xs, c, rfl, hr, hx, hc, hm⟩ := slice_lf (l := .bool) 8 (by kernel_rfl) (by kernel_rfl) h
  obtain ⟨f, hl, hp⟩ := exists_list (p := fun (b : Bool) x => x = .bool b) xs (fun x hxs => by
    obtain ⟨b, rfl⟩ := hx x hxs
    exact ⟨b, rfl⟩)
  have e : bls f = xs := by
    show List.map Value.bool f = xs
    apply List.ext_getElem (by simp [hl])
    intro i h1 h2
    rw [List.getElem_map]
    exact (hp i (by simpa using h1) h2).symm
  exact ⟨A, f, c, by rw [hl], by rw [e]; exact hr, by omega, hm⟩
theorem secs_arg {w : World} {v : Value} (h : LfOk Tryd.prog w (.slice 78) v) : ∃ A l c, v = .slice A l.length c ∧ Secs w A l ∧ (∀ s ∈ l, ScW s) ∧ l.length ≤ c ∧ c ≤ maxLen := by
  obtain ⟨A, rows, c, rfl, hr, hL, hc, hm⟩ := slice_lvs (L := [.str, .slice 3, .int .i64]) 8 (by kernel_rfl) (by kernel_rfl) h
  obtain ⟨l, hl, hp⟩ := exists_list (p := fun (s : Sc) r => ∃ R d, r = scC s R d ∧ Rd w R (i64s s.rows) ∧ s.rows.length ≤ d ∧ ScW s) rows (fun r hr => by
    obtain ⟨x, U, rfl, hx, hU⟩ := (hL r hr).cons
    obtain ⟨y, U, rfl, hy, hU⟩ := hU.cons
    obtain ⟨z, U, rfl, hz, hU⟩ := hU.cons
    obtain rfl := Lvs.nil_ hU
    obtain ⟨nm, rfl, hnm⟩ := hx
    obtain ⟨n, rfl, _⟩ := hz
    obtain ⟨R, rw', d, rfl, h1, h2, h3⟩ := ints_arg hy
    exact ⟨⟨nm, rw', n⟩, R, d, rfl, h1, h2, ⟨hnm, by show rw'.length ≤ maxLen; omega⟩⟩)
  refine ⟨A, l, c, by rw [hl], fun i s hs => ?_, fun s hs => ?_, by omega, hm⟩
  · obtain ⟨hi, rfl⟩ := List.getElem?_eq_some_iff.1 hs
    obtain ⟨R, d, e, h1, h2, _⟩ := hp i hi (by omega)
    have hri : rows[i]? = some (scC l[i] R d) := by rw [List.getElem?_eq_getElem (by omega), e]
    obtain ⟨b, off, hA, h5⟩ := hr.at5 (fun r hr => by rw [(hL r hr).len]; decide) hri
    exact ⟨b, off, R, d, hA, h5, h1, h2⟩
  · obtain ⟨i, hi, rfl⟩ := List.getElem_of_mem hs
    obtain ⟨R, d, _, _, _, h3⟩ := hp i hi (by omega)
    exact h3
theorem agg_of {cs : Array Value} {l : List Value} (h : cs.toList = l) : Value.agg cs = .agg l.toArray := by rw [← h, Array.toArray_toList]
/-- a venue that came in -/
theorem venue_arg {w : World} {v : Value} (h : ∃ cs, v = .agg cs ∧ Lvs Tryd.prog w [.int .i64, .int .i64, .int .i64, .slice 78] cs.toList) : ∃ (V : Vn) (A : Option Addr) (c : Nat), v = .agg #[.int .i64 V.sh, .int .i64 V.ttl, .int .i64 V.ses, .slice A V.secs.length c] ∧ Secs w A V.secs ∧ V.secs.length ≤ c ∧ VnW V := by
  obtain ⟨cs, rfl, h⟩ := h
  obtain ⟨_, _, e1, ⟨a, rfl, _⟩, g1⟩ := h.cons
  obtain ⟨_, _, rfl, ⟨b, rfl, _⟩, g2⟩ := g1.cons
  obtain ⟨_, _, rfl, ⟨c, rfl, _⟩, g3⟩ := g2.cons
  obtain ⟨_, _, rfl, h4, g4⟩ := g3.cons
  obtain rfl := Lvs.nil_ g4
  obtain ⟨A, l, cc, rfl, h1, h2, h3, h5⟩ := secs_arg h4
  exact ⟨⟨a, b, c, l⟩, A, cc, agg_of e1, h1, h3, ⟨by show l.length ≤ maxLen; omega, h2⟩⟩
theorem ask_arg {w : World} {v : Value} (h : ∃ cs, v = .agg cs ∧ Lvs Tryd.prog w [.int .i64, .int .i64] cs.toList) : ∃ s n : Int, v = .agg #[.int .i64 s, .int .i64 n] := by
  obtain ⟨cs, rfl, h⟩ := h
  obtain ⟨_, _, e1, ⟨a, rfl, _⟩, g1⟩ := h.cons
  obtain ⟨_, _, rfl, ⟨b, rfl, _⟩, g2⟩ := g1.cons
  obtain rfl := Lvs.nil_ g2
  exact ⟨a, b, agg_of e1⟩
end Go.Proofs.YtkhinagagncblaaDoor
