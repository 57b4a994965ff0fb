/- Seats: the arguments of the laws, opened. -/
import Derived.Test.YtcmpkpldihnklaaS1
import Derived.Test.YtcmpkpldihnklaaAw
namespace Go.Proofs.Ytcmpkpldihnklaa
open Go.RowKit Go.Gr Go.Seat
set_option linter.unusedVariables false
set_option linter.unusedSimpArgs false
theorem seatL {w : World} {cs : List Value} (h0 : Lvs Try.prog w [.int .i64, .int .u32, .int .i64, .int .u64, .int .u64] cs) : ∃ s : Se, cs = sc s ∧ s.ok := by
  obtain ⟨_, _, rfl, ⟨a, rfl, ha⟩, h1⟩ := h0.cons
  obtain ⟨_, _, rfl, ⟨b, rfl, hb⟩, h2⟩ := h1.cons
  obtain ⟨_, _, rfl, ⟨c, rfl, hc⟩, h3⟩ := h2.cons
  obtain ⟨_, _, rfl, ⟨d, rfl, hd⟩, h4⟩ := h3.cons
  obtain ⟨_, _, rfl, ⟨e, rfl, he⟩, h5⟩ := h4.cons
  obtain rfl := h5.nil_
  have hd' := wf_u64 hd
  have he' := wf_u64 he
  exact ⟨⟨a, b, c, d, e⟩, rfl, ⟨wf_i64 ha, wf_u32 hb, wf_i64 hc, by unfold most; dsimp only; omega, by unfold most; dsimp only; omega⟩⟩
theorem callL {w : World} {cs : List Value} (h0 : Lvs Try.prog w [.int .u8, .int .u32, .int .u32, .int .i64, .bool, .int .u8, .int .u32, .int .u32, .int .u64, .int .u64] cs) : ∃ x : Ca, cs = xc x ∧ x.ok := by
  obtain ⟨_, _, rfl, ⟨a, rfl, ha⟩, h1⟩ := h0.cons
  obtain ⟨_, _, rfl, ⟨b, rfl, hb⟩, h2⟩ := h1.cons
  obtain ⟨_, _, rfl, ⟨c, rfl, hc⟩, h3⟩ := h2.cons
  obtain ⟨_, _, rfl, ⟨d, rfl, hd⟩, h4⟩ := h3.cons
  obtain ⟨_, _, rfl, ⟨e, rfl⟩, h5⟩ := h4.cons
  obtain ⟨_, _, rfl, ⟨f, rfl, hf⟩, h6⟩ := h5.cons
  obtain ⟨_, _, rfl, ⟨t1, rfl, ht1⟩, h7⟩ := h6.cons
  obtain ⟨_, _, rfl, ⟨t2, rfl, ht2⟩, h8⟩ := h7.cons
  obtain ⟨_, _, rfl, ⟨t3, rfl, ht3⟩, h9⟩ := h8.cons
  obtain ⟨_, _, rfl, ⟨t4, rfl, ht4⟩, h10⟩ := h9.cons
  obtain rfl := h10.nil_
  have h3' := wf_u64 ht3
  have h4' := wf_u64 ht4
  exact ⟨⟨a, b, c, d, e, f, ⟨t1, t2, t3, t4⟩⟩, rfl, ⟨wf_u8 ha, wf_u32 hb, wf_u32 hc, wf_i64 hd, wf_u8 hf, ⟨wf_u32 ht1, wf_u32 ht2, by unfold most; dsimp only; omega, by unfold most; dsimp only; omega⟩⟩⟩
theorem seatA {w : World} {v : Value} (h : ∃ cs, v = .agg cs ∧ Lvs Try.prog w [.int .i64, .int .u32, .int .i64, .int .u64, .int .u64] cs.toList) : ∃ s : Se, v = sv s ∧ s.ok := by
  obtain ⟨⟨cs⟩, rfl, hL⟩ := h
  obtain ⟨s, hs, ho⟩ := seatL hL
  exact ⟨s, by simp only at hs; rw [hs], ho⟩
theorem callA {w : World} {v : Value} (h : ∃ cs, v = .agg cs ∧ Lvs Try.prog w [.int .u8, .int .u32, .int .u32, .int .i64, .bool, .int .u8, .int .u32, .int .u32, .int .u64, .int .u64] cs.toList) : ∃ x : Ca, v = xv x ∧ x.ok := by
  obtain ⟨⟨cs⟩, rfl, hL⟩ := h
  obtain ⟨s, hs, ho⟩ := callL hL
  exact ⟨s, by simp only at hs; rw [hs], ho⟩
theorem exists_list {α β : Type} {p : α → β → Prop} : ∀ (rows : List β), (∀ r ∈ rows, ∃ x, p x r) → ∃ l : List α, l.length = rows.length ∧ ∀ i (h1 : i < l.length) (h2 : i < rows.length), p l[i] rows[i]
  | [], _ => ⟨[], rfl, fun i h1 => by simp at h1⟩
  | r :: rows, h => by
    obtain ⟨x, hx⟩ := h r (by simp)
    obtain ⟨l, hl, hp⟩ := exists_list rows (fun r hr => h r (by simp [hr]))
    refine ⟨x :: l, by simp [hl], fun i h1 h2 => ?_⟩
    cases i with
    | zero => exact hx
    | succ i => exact hp i (by simpa using h1) (by simpa using h2)
theorem callsA {w : World} {v : Value} (h : LfOk Try.prog w (.slice 38) v) : ∃ (A : Option Addr) (l : List Ca) (c : Nat), v = .slice A l.length c ∧ RdM w A 10 (l.map xc) ∧ (∀ x ∈ l, x.ok) ∧ l.length ≤ c ∧ c ≤ maxLen := by
  obtain ⟨A, rows, c, rfl, hr, hL, hc, hm⟩ := slice_lvs (L := [.int .u8, .int .u32, .int .u32, .int .i64, .bool, .int .u8, .int .u32, .int .u32, .int .u64, .int .u64]) 8 (by kernel_rfl) (by kernel_rfl) h
  obtain ⟨l, hl, hp⟩ := exists_list (p := fun x r => r = xc x ∧ x.ok) rows (fun r hr => callL (hL r hr))
  have e : l.map xc = rows := by
    apply List.ext_getElem (by simp [hl])
    intro i h1 h2
    rw [List.getElem_map]
    exact ((hp i (by simpa using h1) h2).1).symm
  refine ⟨A, l, c, by rw [hl], by rw [e]; exact hr, fun x hx => ?_, by omega, hm⟩
  obtain ⟨i, hi, rfl⟩ := List.getElem_of_mem hx
  exact (hp i hi (by omega)).2
end Go.Proofs.Ytcmpkpldihnklaa
